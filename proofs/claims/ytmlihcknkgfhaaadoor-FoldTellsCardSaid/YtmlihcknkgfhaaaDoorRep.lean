/- What ReplaceAll answers where blanks are replaced by nothing: its contract, in a world whose variable MaxLen holds some number. Condition: texts of at most four thousand million bytes. -/
import Derived.Test.YtmlihcknkgfhaaaDoorShelf
import Derived.Test.YtmlihcknkgfhaaaDoorRpl
import Derived.Test.YtmlihcknkgfhaaaDoorWWords
import Derived.Test.YtmlihcknkgfhaaaDoorWLast
import Derived.Test.YtmlihcknkgfhaaaDoorWMore
import Derived.Below
import Derived.Laws.Rows
import Derived.Lib.Hide
namespace Go.Proofs.YtmlihcknkgfhaaaDoor.H
open Go.RowKit Go.Lib Go.Proofs.YtmlihcknkgfhaaaDoorW.PrintWords Go.Proofs.YtmlihcknkgfhaaaDoorW.PrintLast Go.Proofs.YtmlihcknkgfhaaaDoorW.PrintMore
set_option linter.unusedVariables false
set_option linter.unusedSimpArgs false
/-- The variable MaxLen holds some number. -/
def MX (w : World) : Prop := ∃ m, w.cell? ⟨0, 0, none⟩ = some (.int .i64 m)
theorem MX.below {w w' : World} (h : MX w) (b : Below w.heap.size w w') : MX w' := by
  obtain ⟨m, hm⟩ := h
  refine ⟨m, ?_⟩
  have h0 : 0 < w.heap.size := block_lt_of_cell (a := ⟨0, 0, none⟩) hm
  rw [b.cell (p := ⟨0, 0, none⟩) h0]
  exact hm
def strings_ReplaceAll.f (s old new : ByteArray) : Option ByteArray := if s.size < 4294967281 ∧ old = ⟨#[32]⟩ ∧ new = ⟨#[]⟩ then some ⟨(tight s.data.toList).toArray⟩ else none
theorem strings_ReplaceAll.calls (a0 a1 a2 r : ByteArray) (w : World) (h : strings_ReplaceAll.f a0 a1 a2 = some r) (HM : MX w) :
    Calls Tryd.prog 21 #[.string a0, .string a1, .string a2] w fun e w' => e = .returned (.string r) ∧ Below w.heap.size w w' := by
  unfold strings_ReplaceAll.f at h
  split at h
  case isFalse => cases h
  rename_i hs
  obtain ⟨hs, rfl, rfl⟩ := hs
  obtain rfl := Option.some.inj h
  obtain ⟨m, hm⟩ := HM
  refine (Tryd.strings_ReplaceAll a0 ⟨#[32]⟩ ⟨#[]⟩ m w hs hm (by decide) ?_).mono ?_
  · have e : (⟨#[]⟩ : ByteArray).size = 0 := rfl
    rw [e]
    omega
  · rintro e w' ⟨rfl, hb⟩
    refine ⟨?_, hb⟩
    rw [← replaceAll_tight]
end Go.Proofs.YtmlihcknkgfhaaaDoor.H
