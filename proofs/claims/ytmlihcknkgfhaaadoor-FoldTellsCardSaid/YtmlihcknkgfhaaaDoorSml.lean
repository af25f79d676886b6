/- What small and prepared answer: contracts. Condition: texts of at most four thousand million bytes. -/
import Derived.Test.YtmlihcknkgfhaaaDoorCnt
import Derived.Test.YtmlihcknkgfhaaaDoorShelf
import Derived.Laws.Runes
import Derived.Lib.Hide
import Derived.WalkLawsBesides
import Derived.WalkSpells
namespace Go.Proofs.YtmlihcknkgfhaaaDoor.H
open Go.RowKit Go.Proofs.YtmlihcknkgfhaaaDoor.M Go.Proofs.YtmlihcknkgfhaaaDoor.PFold Go.Proofs.YtmlihcknkgfhaaaDoorW.PrintWords Go.Proofs.YtmlihcknkgfhaaaDoorW.PrintLast Go.Proofs.YtmlihcknkgfhaaaDoorW.PrintMore
set_option linter.unusedVariables false
set_option linter.unusedSimpArgs false
theorem encode_eq {c : Nat} (h : valid c = true) : Utf8.encode (c : Int) = mk (enc c) := by
  have hv := valid_iff.1 h
  have h1 : Utf8.valid (c : Int) = true := by
    unfold Utf8.valid
    simp
    omega
  unfold Utf8.encode enc mk b8
  simp only [h1, if_true, Int.toNat_natCast]
  by_cases a : c < 128
  · rw [if_pos a, if_pos a]
  · rw [if_neg a, if_neg a]
    by_cases b : c < 2048
    · rw [if_pos b, if_pos b]
    · rw [if_neg b, if_neg b]
      by_cases d : c < 65536
      · rw [if_pos d, if_pos d]
      · rw [if_neg d, if_neg d]
set_option maxHeartbeats 1000000 in
theorem small_a (c : Nat) (own : ByteArray) (w : World) (h : 65 ≤ c ∧ c ≤ 90) :
    Calls Tryd.prog 29 #[.int .i32 (c : Int), .string own] w fun e w' => e = .returned (.string (mk (enc (c + 32)))) ∧ w = w' := by
  have t0 : decide ((65 : Int) ≤ (c : Int)) = true := by simp; omega
  have t1 : decide ((c : Int) ≤ 90) = true := by simp; omega
  go_enter Tryd.func29, Tryd.ntmps29
  go_wp2
  go_ret
  exact ⟨by rw [← encode_eq (valid_iff.2 (by omega))]; rfl, rfl⟩
set_option maxHeartbeats 1000000 in
theorem small_b (c : Nat) (own : ByteArray) (w : World) (h : 192 ≤ c ∧ c ≤ 222 ∧ c ≠ 215) :
    Calls Tryd.prog 29 #[.int .i32 (c : Int), .string own] w fun e w' => e = .returned (.string (mk (enc (c + 32)))) ∧ w = w' := by
  have t0 : decide ((65 : Int) ≤ (c : Int)) = true := by simp; omega
  have t1 : decide ((c : Int) ≤ 90) = false := by simp; omega
  have t2 : decide ((192 : Int) ≤ (c : Int)) = true := by simp; omega
  have t3 : decide ((c : Int) ≤ 222) = true := by simp; omega
  have t4 : ((c : Int) != 215) = true := by simp; omega
  go_enter Tryd.func29, Tryd.ntmps29
  go_wp2
  go_ret
  exact ⟨by rw [← encode_eq (valid_iff.2 (by omega))]; rfl, rfl⟩
set_option maxHeartbeats 1000000 in
theorem small_c (c : Nat) (own : ByteArray) (w : World) (h : c < 65) :
    Calls Tryd.prog 29 #[.int .i32 (c : Int), .string own] w fun e w' => e = .returned (.string (own)) ∧ w = w' := by
  have t0 : decide ((65 : Int) ≤ (c : Int)) = false := by simp; omega
  have t1 : decide ((192 : Int) ≤ (c : Int)) = false := by simp; omega
  go_enter Tryd.func29, Tryd.ntmps29
  go_wp2
  go_ret
  exact ⟨rfl, rfl⟩
set_option maxHeartbeats 1000000 in
theorem small_d (c : Nat) (own : ByteArray) (w : World) (h : 90 < c ∧ c < 192) :
    Calls Tryd.prog 29 #[.int .i32 (c : Int), .string own] w fun e w' => e = .returned (.string (own)) ∧ w = w' := by
  have t0 : decide ((65 : Int) ≤ (c : Int)) = true := by simp; omega
  have t1 : decide ((c : Int) ≤ 90) = false := by simp; omega
  have t2 : decide ((192 : Int) ≤ (c : Int)) = false := by simp; omega
  go_enter Tryd.func29, Tryd.ntmps29
  go_wp2
  go_ret
  exact ⟨rfl, rfl⟩
set_option maxHeartbeats 1000000 in
theorem small_e (c : Nat) (own : ByteArray) (w : World) (h : c = 215) :
    Calls Tryd.prog 29 #[.int .i32 (c : Int), .string own] w fun e w' => e = .returned (.string (own)) ∧ w = w' := by
  have t0 : decide ((65 : Int) ≤ (c : Int)) = true := by simp; omega
  have t1 : decide ((c : Int) ≤ 90) = false := by simp; omega
  have t2 : decide ((192 : Int) ≤ (c : Int)) = true := by simp; omega
  have t3 : decide ((c : Int) ≤ 222) = true := by simp; omega
  have t4 : ((c : Int) != 215) = false := by simp; omega
  go_enter Tryd.func29, Tryd.ntmps29
  go_wp2
  go_ret
  exact ⟨rfl, rfl⟩
set_option maxHeartbeats 1000000 in
theorem small_f (c : Nat) (own : ByteArray) (w : World) (h : 222 < c) :
    Calls Tryd.prog 29 #[.int .i32 (c : Int), .string own] w fun e w' => e = .returned (.string (own)) ∧ w = w' := by
  have t0 : decide ((65 : Int) ≤ (c : Int)) = true := by simp; omega
  have t1 : decide ((c : Int) ≤ 90) = false := by simp; omega
  have t2 : decide ((192 : Int) ≤ (c : Int)) = true := by simp; omega
  have t3 : decide ((c : Int) ≤ 222) = false := by simp; omega
  go_enter Tryd.func29, Tryd.ntmps29
  go_wp2
  go_ret
  exact ⟨rfl, rfl⟩
theorem small_calls (c : Nat) (own : ByteArray) (w : World) :
    Calls Tryd.prog 29 #[.int .i32 (c : Int), .string own] w fun e w' => e = .returned (.string (if big c = true then mk (enc (c + 32)) else own)) ∧ w = w' := by
  by_cases hb : big c = true
  · rw [if_pos hb]
    rcases big_iff.1 hb with h1 | h1
    · exact small_a c own w h1
    · exact small_b c own w h1
  · rw [if_neg hb]
    have hn : ¬ ((65 ≤ c ∧ c ≤ 90) ∨ (192 ≤ c ∧ c ≤ 222 ∧ c ≠ 215)) := fun e => hb (big_iff.2 e)
    rcases (by omega : c < 65 ∨ (90 < c ∧ c < 192) ∨ c = 215 ∨ 222 < c) with h | h | h | h
    · exact small_c c own w h
    · exact small_d c own w h
    · exact small_e c own w h
    · exact small_f c own w h
end Go.Proofs.YtmlihcknkgfhaaaDoor.H
