/- What ReplaceAll tells where blanks are replaced by nothing. Plain Lean. -/
import Derived.Lib.Replace
import Derived.Lib.SplitLaws
import Derived.Lib.IndexBytes
import Derived.Lib.IndexLaws
import Derived.Lib.CountLaws
namespace Go.Proofs.YtmlihcknkgfhaaaDoor.H
open Go.Lib
set_option linter.unusedVariables false
set_option linter.unusedSimpArgs false
/-- A text without its blanks. -/
def tight (l : List UInt8) : List UInt8 := l.filter fun c => c != 32
theorem tight_free {l : List UInt8} (h : ∀ k : Nat, l[k]? ≠ some 32) : tight l = l := by
  unfold tight
  rw [List.filter_eq_self]
  intro a ha
  obtain ⟨k, hk⟩ := List.getElem?_of_mem ha
  rw [bne_iff_ne]
  rintro rfl
  exact h k hk
theorem replaceK_tight : ∀ (k : Nat) (s : List UInt8), count s [32] ≤ k → replaceK [32] [] k s = tight s
  | 0, s, h => by
    have h0 : s.count 32 = 0 := by rw [← count_one]; omega
    rw [replaceK]
    refine (tight_free fun k hk => ?_).symm
    have := List.count_pos_iff.2 (List.mem_of_getElem? hk)
    omega
  | k + 1, s, h => by
    by_cases hm : index s [32] = -1
    · rw [replaceK, if_pos (by simpa using hm)]
      rw [index_one] at hm
      exact (tight_free (indexByte_none hm)).symm
    · have hge := index_ge s [32]
      obtain ⟨i, hi⟩ : ∃ i : Nat, index s [32] = i := ⟨(index s [32]).toNat, by omega⟩
      rw [replaceK_hit _ _ _ _ _ hi]
      have hc := count_hit (by simp) hi
      have ih := replaceK_tight k (s.drop (i + 1)) (by simp only [List.length_singleton] at hc; omega)
      rw [List.length_singleton, ih, List.append_nil]
      rw [index_one] at hi
      obtain ⟨h1, h2⟩ := indexByte_some hi
      have hlt := (List.getElem?_eq_some_iff.1 h1).1
      have e : s = s.take i ++ 32 :: s.drop (i + 1) := by
        conv => lhs; rw [← List.take_append_drop i s, List.drop_eq_getElem_cons hlt, (List.getElem?_eq_some_iff.1 h1).2]
      have e2 : tight (s.take i) = s.take i := tight_free fun k hk => by
        rw [List.getElem?_take] at hk
        split at hk
        · exact h2 k (by assumption) hk
        · cases hk
      conv => rhs; rw [e]
      unfold tight at e2 ⊢
      rw [List.filter_append, e2, List.filter_cons_of_neg (by decide)]
theorem replaceAll_tight (s : List UInt8) : replaceAll s [32] [] = tight s := by
  unfold replaceAll replace replaceNum
  rw [if_neg (by decide), if_pos (Or.inl (by decide))]
  exact replaceK_tight _ s (Nat.le_refl _)
theorem tight_append (a b : List UInt8) : tight (a ++ b) = tight a ++ tight b := List.filter_append ..
theorem tight_tight (a : List UInt8) : tight (tight a) = tight a := by unfold tight; rw [List.filter_filter]; simp
end Go.Proofs.YtmlihcknkgfhaaaDoor.H
