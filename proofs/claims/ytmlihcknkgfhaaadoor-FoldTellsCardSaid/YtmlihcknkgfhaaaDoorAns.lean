/- What Fold, Piece and Exact answer of texts that are characters alone. Plain Lean. -/
import Derived.Test.YtmlihcknkgfhaaaDoorHand
namespace Go.Proofs.YtmlihcknkgfhaaaDoor.M
set_option linter.unusedVariables false
set_option linter.unusedSimpArgs false
open Go.RowKit Go.Proofs.YtmlihcknkgfhaaaDoor.H Go.Proofs.YtmlihcknkgfhaaaDoorW.PrintWords Go.Proofs.YtmlihcknkgfhaaaDoorW.PrintLast
theorem go_len2 (e l : Bool) : ∀ (s : List Nat) (b ne : Bool), (E (go e l s b ne)).length ≤ (E s).length + (if b then 1 else 0)
  | [], b, ne => by cases b <;> cases e <;> simp [go, E, enc]
  | c :: s, b, ne => by
    have hp := enc_pos c
    rw [E, List.length_append]
    rcases kind_cases c with h | h | h
    · rw [go_blank h]
      have := go_len2 e l s true ne
      simp only [if_true] at this
      split <;> omega
    · rw [go_not h]
      have := go_len2 e l s b ne
      omega
    · rw [go_other h, E_append, List.length_append]
      have := go_len2 e l s false true
      have hx : (enc (if l = true then sm c else c)).length = (enc c).length := by cases l <;> simp [sm_len]
      simp only [E, List.length_append, hx, Bool.false_eq_true, if_false] at this ⊢
      have h32 : (E (if (b && (e || ne)) = true then [32] else [])).length ≤ if b = true then 1 else 0 := by
        cases b <;> cases ne <;> cases e <;> simp [E, enc]
      omega
theorem prep_len (e l : Bool) (s : List Nat) : (E (prep e l s)).length ≤ (E s).length := by
  have := go_len2 e l s false false
  simpa [prep] using this
theorem prepared_E {cs : List Nat} (h : vs cs = true) (e l : Bool) : prepared (E cs) e l = E (prep e l cs) := by
  unfold prepared
  rw [right_E h]
theorem prep_vs {cs : List Nat} (h : vs cs = true) (e l : Bool) : vs (prep e l cs) = true := go_valid e l cs false false h
theorem prep_f {l : Bs} (h : l.length ≤ 4000000000) (e t : Bool) : fold_prepared.f (mk l) e t = some (mk (prepared l e t)) := by
  unfold fold_prepared.f
  rw [if_pos (by rw [mk_size]; exact h)]
  rfl
theorem cnt_E {cs : List Nat} (h : vs cs = true) : cnt (E cs) = (cs.length : Int) := by unfold cnt; rw [right_E h]
theorem cnt_none {l : Bs} (h : right l = none) : cnt l = -1 := by unfold cnt; rw [h]
end Go.Proofs.YtmlihcknkgfhaaaDoor.M
