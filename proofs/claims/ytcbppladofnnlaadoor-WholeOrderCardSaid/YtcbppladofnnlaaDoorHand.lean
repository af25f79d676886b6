/- strings.TrimLeft at the cutset of one zero: a contract. No condition. -/
import Derived.Test.YtcbppladofnnlaaDoorLAx1
import Derived.WalkLawsBesides
import Derived.WalkSpells
import Derived.Lib.Hide
namespace Go.Proofs.YtcbppladofnnlaaDoor.H
open Go.RowKit Go.Proofs.YtcbppladofnnlaaDoorW.PrintWords Go.Proofs.YtcbppladofnnlaaDoorW.PrintLast Go.Proofs.YtcbppladofnnlaaDoorW.PrintMore Go.Proofs.YtcbppladofnnlaaDoor.LA
set_option linter.unusedVariables false
set_option linter.unusedSimpArgs false
def strings_TrimLeft.f (k : Nat) (a0 : ByteArray) (a1 : ByteArray) : Option ByteArray := if a1 = (⟨#[48]⟩ : ByteArray) then strings_trimLeftByte.f k a0 48 else none
theorem strings_TrimLeft.mono : ∀ a0 a1 k, LeO (strings_TrimLeft.f k a0 a1) (strings_TrimLeft.f (k + 1) a0 a1) := by
  intro a0 a1 k
  unfold strings_TrimLeft.f
  exact LeO.ite (strings_trimLeftByte.mono _ _ _) (LeO.none _)
set_option maxRecDepth 100000 in
set_option maxHeartbeats 2000000 in
theorem strings_TrimLeft.calls (k : Nat) (a0 : ByteArray) (a1 : ByteArray) (r : ByteArray) (w : World) (h : strings_TrimLeft.f k a0 a1 = some r) :
    Calls Tryd.prog 25 #[.string a0, .string a1] w fun e w' => e = .returned (.string r) ∧ Drawn0 w w' := by
  unfold strings_TrimLeft.f at h
  split at h
  case isFalse => cases h
  rename_i h1
  subst h1
  by_cases h0 : a0.size = 0
  · have he : a0.toList.isEmpty = true := by
      rw [List.isEmpty_iff]
      apply List.eq_nil_of_length_eq_zero
      rw [ByteArray.toList_eq, data_length, h0]
    have hr : r = a0 := by
      unfold strings_trimLeftByte.f at h
      cases k with
      | zero => cases h
      | succ k =>
        rw [strings_trimLeftByte.l0, if_neg (by omega)] at h
        exact (Option.some.inj h).symm
    subst hr
    clear h h0
    go_enter Tryd.func25, Tryd.ntmps25
    go_wp2
    go_ret
    exact ⟨rfl, Drawn0.refl _⟩
  · have he : a0.toList.isEmpty = false := by
      rw [List.isEmpty_eq_false_iff]
      intro e
      have := congrArg List.length e
      rw [ByteArray.toList_eq, data_length] at this
      exact h0 this
    have H := Lib.hid h
    clear h h0
    go_enter Tryd.func25, Tryd.ntmps25
    go_wp2_with (go_at_call 27; refine (strings_trimLeftByte.calls k a0 48 r _ H.out).mono ?_; rintro e w1 ⟨rfl, hd⟩)
    go_ret
    exact ⟨rfl, hd⟩
end Go.Proofs.YtcbppladofnnlaaDoor.H
