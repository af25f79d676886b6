/- Put, Filter and Hex in the printer's form. -/
import Derived.Test.YtmhjplbloeamiaaDoorPut
namespace Go.Proofs.YtmhjplbloeamiaaDoor.H
open Go.RowKit Go.Proofs.YtmhjplbloeamiaaDoor.M Go.Proofs.YtmhjplbloeamiaaDoorW.PrintWords Go.Proofs.YtmhjplbloeamiaaDoorW.PrintLast Go.Proofs.YtmhjplbloeamiaaDoorW.PrintMore
set_option linter.unusedVariables false
def escape_Put.f (a0 : ByteArray) : Option ByteArray := if a0.size ≤ 1000000000 then some (mk (puts a0.data.toList)) else none
theorem escape_Put.calls (a0 : ByteArray) (r : ByteArray) (w : World) (h : escape_Put.f a0 = some r) :
    Calls Tryd.prog 4 #[.string a0] w fun e w' => e = .returned (.string r) ∧ Below w.heap.size w w' := by
  unfold escape_Put.f at h
  split at h
  case isFalse => cases h
  rename_i hs
  obtain rfl := Option.some.inj h
  have := put_walk a0.data.toList w hs
  rw [mk_data] at this
  exact this
def escape_Filter.f (a0 : ByteArray) : Option ByteArray := if a0.size ≤ 1000000000 then some (mk (fils a0.data.toList)) else none
theorem escape_Filter.calls (a0 : ByteArray) (r : ByteArray) (w : World) (h : escape_Filter.f a0 = some r) :
    Calls Tryd.prog 7 #[.string a0] w fun e w' => e = .returned (.string r) ∧ Below w.heap.size w w' := by
  unfold escape_Filter.f at h
  split at h
  case isFalse => cases h
  rename_i hs
  obtain rfl := Option.some.inj h
  have := fil_walk a0.data.toList w hs
  rw [mk_data] at this
  exact this
def escape_Hex.f (a0 : ByteArray) : Option ByteArray := if a0.size ≤ 1000000000 then some (mk (hexs a0.data.toList)) else none
theorem escape_Hex.calls (a0 : ByteArray) (r : ByteArray) (w : World) (h : escape_Hex.f a0 = some r) :
    Calls Tryd.prog 9 #[.string a0] w fun e w' => e = .returned (.string r) ∧ Below w.heap.size w w' := by
  unfold escape_Hex.f at h
  split at h
  case isFalse => cases h
  rename_i hs
  obtain rfl := Option.some.inj h
  have := hex_walk a0.data.toList w hs
  rw [mk_data] at this
  exact this
end Go.Proofs.YtmhjplbloeamiaaDoor.H
