/- What prepared answers: its contract in the printer's form. Condition: texts of at most four thousand million bytes. -/
import Derived.Test.YtmlihcknkgfhaaaDoorPrp
namespace Go.Proofs.YtmlihcknkgfhaaaDoor.H
open Go.RowKit Go.Proofs.YtmlihcknkgfhaaaDoor.M Go.Proofs.YtmlihcknkgfhaaaDoor.PFold Go.Proofs.YtmlihcknkgfhaaaDoorW.PrintWords Go.Proofs.YtmlihcknkgfhaaaDoorW.PrintLast Go.Proofs.YtmlihcknkgfhaaaDoorW.PrintMore
set_option linter.unusedVariables false
set_option linter.unusedSimpArgs false
set_option maxHeartbeats 1000000 in
theorem prepared_none (l : Bs) (ends letters : Bool) (w : World) (hr : right l = none) (hl : l.length ≤ 4000000000) :
    Calls Tryd.prog 22 #[.string (mk l), .bool ends, .bool letters] w fun e w' => e = .returned (.string (mk l)) ∧ Below w.heap.size w w' := by
  have HL := Lib.hid hl
  have HR := Lib.hid (show (right l).isSome = false by rw [hr]; rfl)
  clear hr hl
  generalize hSl : mk l = SL
  have HSL := Lib.hid hSl
  clear hSl
  go_enter Tryd.func22, Tryd.ntmps22
  go_wp2_with (go_at_call 11; rw [← HSL.out]; refine (right_calls l _ HL.out).mono ?_; rintro e w1 ⟨rfl, ⟨n0, rfl⟩⟩; rw [HR.out]; rw [HSL.out])
  go_ret
  exact ⟨rfl, pw_below_drewN (Below.refl _ _) _⟩
def fold_prepared.f (a0 : ByteArray) (a1 a2 : Bool) : Option ByteArray := if a0.size ≤ 4000000000 then some (mk (prepared a0.data.toList a1 a2)) else none
theorem fold_prepared.calls (a0 : ByteArray) (a1 : Bool) (a2 : Bool) (r : ByteArray) (w : World) (h : fold_prepared.f a0 a1 a2 = some r) :
    Calls Tryd.prog 22 #[.string a0, .bool a1, .bool a2] w fun e w' => e = .returned (.string r) ∧ Below w.heap.size w w' := by
  unfold fold_prepared.f at h
  split at h
  case isFalse => cases h
  rename_i hs
  obtain rfl := Option.some.inj h
  have hl : a0.data.toList.length ≤ 4000000000 := by rw [data_length]; exact hs
  unfold prepared
  cases hr : right a0.data.toList with
  | none =>
    have := prepared_none a0.data.toList a1 a2 w hr hl
    rw [M.mk_data] at this
    simp only
    rw [M.mk_data]
    exact this
  | some cs =>
    have := prepared_walk a0.data.toList cs a1 a2 w hr hl
    rw [M.mk_data] at this
    exact this
end Go.Proofs.YtmlihcknkgfhaaaDoor.H
