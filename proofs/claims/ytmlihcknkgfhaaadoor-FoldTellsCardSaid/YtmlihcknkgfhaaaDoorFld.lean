/- Folding again, folding exact texts and pieces; blanks at the ends; lengths. Plain Lean, no program. -/
import Derived.Test.YtmlihcknkgfhaaaDoorUtf
namespace Go.Proofs.YtmlihcknkgfhaaaDoor.M
set_option linter.unusedVariables false
set_option linter.unusedSimpArgs false
section
variable {c : Nat} {e l : Bool}
theorem go_not (h : kind c = 1) (z : List Nat) (x y : Bool) : go e l (c :: z) x y = go e l z x y := by simp [go, h]
theorem go_blank (h : kind c = 0) (z : List Nat) (x y : Bool) : go e l (c :: z) x y = go e l z true y := by simp [go, h]
theorem go_other (h : kind c = 2) (z : List Nat) (x y : Bool) : go e l (c :: z) x y = (if x && (e || y) then [32] else []) ++ (if l then sm c else c) :: go e l z false true := by simp [go, h]
theorem sm_if (l : Bool) (c : Nat) : sm (if l then sm c else c) = sm c := by cases l <;> simp [sm_sm]
theorem kind_if (h : kind c = 2) (l : Bool) : kind (if l then sm c else c) = 2 := by cases l <;> simp [sm_kind, h]
end
theorem fold_self (l : Bool) : ∀ (s : List Nat) (b ne : Bool), go false true (go false l s b ne) false ne = go false true s b ne
  | [], b, ne => by simp [go]
  | c :: s, b, ne => by
    rcases kind_cases c with h | h | h
    · rw [go_blank h, go_blank h, fold_self]
    · rw [go_not h, go_not h, fold_self]
    · rw [go_other h, go_other h]
      by_cases hb : (b && ne) = true
      · have h2 : b = true ∧ ne = true := by simpa using hb
        obtain ⟨rfl, rfl⟩ := h2
        simp only [Bool.false_or, Bool.and_self, if_true, List.singleton_append]
        rw [go_blank k32, go_other (kind_if h l), fold_self, sm_if]
        rfl
      · have hb2 : (b && ne) = false := by simpa using hb
        simp only [Bool.false_or, hb2, Bool.false_eq_true, if_false, List.nil_append, if_true]
        rw [go_other (kind_if h l), fold_self]
        simp only [Bool.false_and, Bool.false_eq_true, if_false, List.nil_append, if_true, sm_if]
theorem fold_piece : ∀ (s : List Nat) (b b0 ne ne0 : Bool), go false true (go true true s b ne0) b0 ne = go false true s (b || b0) ne
  | [], b, b0, ne, ne0 => by cases b <;> simp [go, k32]
  | c :: s, b, b0, ne, ne0 => by
    rcases kind_cases c with h | h | h
    · rw [go_blank h, go_blank h, fold_piece, Bool.true_or]
    · rw [go_not h, go_not h, fold_piece]
    · rw [go_other h, go_other h]
      simp only [Bool.true_or, Bool.and_true, if_true, Bool.false_or]
      cases b
      · simp only [Bool.false_eq_true, if_false, List.nil_append, Bool.false_or]
        rw [go_other (sm_kind h), fold_piece]
        simp [sm_sm]
      · simp only [if_true, List.singleton_append, Bool.true_or]
        rw [go_blank k32, go_other (sm_kind h), fold_piece]
        simp [sm_sm]
theorem go_none (e l : Bool) : ∀ (y : List Nat) (b ne : Bool), (∀ c ∈ y, kind c ≠ 2) → go false l y b ne = []
  | [], b, ne, _ => by simp [go]
  | c :: y, b, ne, h => by
    have hy : ∀ d ∈ y, kind d ≠ 2 := fun d hd => h d (by simp [hd])
    rcases kind_cases c with hc | hc | hc
    · rw [go_blank hc]; exact go_none e l y _ _ hy
    · rw [go_not hc]; exact go_none e l y _ _ hy
    · exact absurd hc (h c (by simp))
theorem go_tail (l : Bool) (y : List Nat) (hy : ∀ c ∈ y, kind c ≠ 2) : ∀ (s : List Nat) (b ne : Bool), go false l (s ++ y) b ne = go false l s b ne
  | [], b, ne => by rw [List.nil_append, go_none true l y b ne hy]; simp [go]
  | c :: s, b, ne => by
    rw [List.cons_append]
    rcases kind_cases c with h | h | h
    · rw [go_blank h, go_blank h, go_tail l y hy]
    · rw [go_not h, go_not h, go_tail l y hy]
    · rw [go_other h, go_other h, go_tail l y hy]
theorem go_lead (l : Bool) : ∀ (s : List Nat), go false l s true false = go false l s false false
  | [] => by simp [go]
  | c :: s => by
    rcases kind_cases c with h | h | h
    · rw [go_blank h, go_blank h]
    · rw [go_not h, go_not h, go_lead l s]
    · rw [go_other h, go_other h]
      simp
theorem around (s : List Nat) : prep false true ([32, 9] ++ s ++ [1, 160]) = prep false true s := by
  unfold prep
  rw [go_tail true [1, 160] (by decide)]
  rw [show [32, 9] ++ s = 32 :: 9 :: s from rfl, go_blank k32, go_blank (show kind 9 = 0 from rfl), go_lead]
theorem go_len : ∀ (s : List Nat) (b ne : Bool), (E (go false true s b ne)).length ≤ (E s).length + (if b then 1 else 0)
  | [], b, ne => by simp [go, E]
  | c :: s, b, ne => by
    have hp := enc_pos c
    rw [E, List.length_append]
    rcases kind_cases c with h | h | h
    · rw [go_blank h]
      have := go_len s true ne
      simp only [if_true] at this
      split <;> omega
    · rw [go_not h]
      have := go_len s b ne
      omega
    · rw [go_other h, E_append, List.length_append]
      have := go_len s false true
      simp only [if_true, E, List.length_append, sm_len, Bool.false_eq_true, if_false] at this ⊢
      have h32 : (E (if (b && (false || ne)) = true then [32] else [])).length ≤ if b = true then 1 else 0 := by
        cases b <;> cases ne <;> simp [E, enc]
      omega
end Go.Proofs.YtmlihcknkgfhaaaDoor.M
