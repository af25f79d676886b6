/- Digits, ReadDigits, Valid, Plain and Compare answer as the reference does. Conditions: those of the statement. -/
import Derived.Test.YtcbppladofnnlaaDoorTxt4
namespace Go.Proofs.YtcbppladofnnlaaDoor.Pure
set_option linter.unusedVariables false
set_option linter.unusedSimpArgs false
open Go.RowKit Go.Proofs.YtcbppladofnnlaaDoor.M Go.Proofs.YtcbppladofnnlaaDoor.LA Go.Proofs.YtcbppladofnnlaaDoor.LWholeTexts Go.Proofs.YtcbppladofnnlaaDoorW.PrintWords Go.Proofs.YtcbppladofnnlaaDoorW.PrintLast
theorem text70 : text (-70) = [45, 55, 48] := by
  unfold text
  rw [if_pos (by decide), show (-70 : Int).natAbs = 70 from rfl, dec, if_neg (by decide), dec, if_pos (by decide)]
  rfl
theorem WholeTexts : peeragelaw02_WholeTexts.Pure := by
  intro x a b hx ha hb
  have hx0 : -9223372036854775808 ≤ x ∧ x ≤ 9223372036854775807 := by
    simp [Lit.wf, IntKind.min, IntKind.max, IntKind.signed, IntKind.bits] at hx
    omega
  refine Ev.rounds (g := fun k => peeragelaw02_WholeTexts.f k x a b) ?_
  unfold peeragelaw02_WholeTexts.f
  by_cases h : (wrap64 ((a.size : Int) + (b.size : Int))) > 600
  · exact Ev.congr (f := fun _ => some true) (fun k => by rw [if_pos h]) (Ev.now _)
  · have h2 : wrap64 ((a.size : Int) + (b.size : Int)) = (a.size : Int) + (b.size : Int) := w64 (by omega) (by omega)
    rw [h2] at h
    rw [← M.mk_data a, ← M.mk_data b]
    have la : a.data.toList.length ≤ 4000000000 := by rw [data_length]; omega
    have lb : b.data.toList.length ≤ 4000000000 := by rw [data_length]; omega
    have e1 : ¬ (wrap64 (((M.mk a.data.toList).size : Int) + ((M.mk b.data.toList).size : Int))) > 600 := by rw [M.mk_data, M.mk_data, h2]; exact h
    simp only [e1, if_false]
    generalize a.data.toList = l at *
    generalize b.data.toList = m at *
    refine Ev.bind (readDigits_f l la) (Ev.bind (rreadDigits_f l) (Ev.bind (digits_f x hx0.1 hx0.2) (Ev.bind (rdigits_f x hx0.1 hx0.2) ?_)))
    simp only [if_true, beq_self_eq_true]
    refine Ev.bind (valid_f l la) (Ev.bind (rvalid_f l la) ?_)
    simp only [if_true, beq_self_eq_true]
    refine Ev.bind (plain_f l la) (Ev.bind (rplain_f l la) ?_)
    simp only [if_true]
    refine Ev.bind (compare_f l m la lb) (Ev.bind (rcompare_f l m la lb) ?_)
    simp only [if_true]
    refine Ev.bind (digits_f (-70) (by omega) (by omega)) ?_
    refine Ev.congr (f := fun _ => some true) (fun k => ?_) (Ev.now _)
    rw [mk_toList, text70]
    rfl
end Go.Proofs.YtcbppladofnnlaaDoor.Pure
