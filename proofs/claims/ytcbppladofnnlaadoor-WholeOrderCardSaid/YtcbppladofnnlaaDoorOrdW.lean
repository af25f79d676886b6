/- What Compare, Plain and Digits answer, as contracts on texts; the law WholeOrder. Condition: texts of at most four thousand million bytes. -/
import Derived.Test.YtcbppladofnnlaaDoorTxt2
import Derived.Lib.Hide
import Derived.WalkLawsBesides
import Derived.WalkSpells
namespace Go.Proofs.YtcbppladofnnlaaDoor.O
open Go.RowKit Go.Proofs.YtcbppladofnnlaaDoor.H Go.Proofs.YtcbppladofnnlaaDoor.M Go.Proofs.YtcbppladofnnlaaDoor.LA Go.Proofs.YtcbppladofnnlaaDoor.LWholeTexts Go.Proofs.YtcbppladofnnlaaDoorW.PrintWords Go.Proofs.YtcbppladofnnlaaDoorW.PrintLast Go.Proofs.YtcbppladofnnlaaDoorW.PrintMore
set_option linter.unusedVariables false
set_option linter.unusedSimpArgs false
def L (s : ByteArray) : Bs := s.data.toList
theorem L_mk (s : ByteArray) : mk (L s) = s := M.mk_data s
theorem L_len {s : ByteArray} {n : Nat} (h : s.size ≤ n) : (L s).length ≤ n := by unfold L; rw [data_length]; exact h
theorem cmp_calls (a b : ByteArray) (w : World) (ha : a.size ≤ 4000000000) (hb : b.size ≤ 4000000000) :
    Calls Tryd.prog 8 #[.string a, .string b] w fun e w' => e = .returned (.int .i64 (cmp (L a) (L b))) ∧ Below w.heap.size w w' := by
  obtain ⟨k, hk⟩ := (compare_f (L a) (L b) (L_len ha) (L_len hb)).rounds
  rw [L_mk, L_mk] at hk
  exact whole_Compare.calls k a b _ w hk
theorem plain_calls (a : ByteArray) (w : World) (ha : a.size ≤ 4000000000) :
    Calls Tryd.prog 9 #[.string a] w fun e w' => e = .returned (.string (mk (plain (L a)))) ∧ Below w.heap.size w w' := by
  obtain ⟨k, hk⟩ := (plain_f (L a) (L_len ha)).rounds
  rw [L_mk] at hk
  exact whole_Plain.calls k a _ w hk
theorem digits_calls (x : Int) (w : World) (h0 : -9223372036854775808 ≤ x) (h1 : x ≤ 9223372036854775807) :
    Calls Tryd.prog 7 #[.int .i64 x] w fun e w' => e = .returned (.string (mk (text x))) ∧ Below w.heap.size w w' := by
  obtain ⟨k, hk⟩ := (digits_f x h0 h1).rounds
  exact whole_Digits.calls k x _ w hk
end Go.Proofs.YtcbppladofnnlaaDoor.O
