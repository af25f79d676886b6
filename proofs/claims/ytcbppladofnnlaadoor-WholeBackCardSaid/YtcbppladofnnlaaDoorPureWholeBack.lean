/- A number that was put is read back; its digits are valid and plain. Conditions: those of the statement. -/
import Derived.Test.YtcbppladofnnlaaDoorTxt2
import Derived.Test.YtcbppladofnnlaaDoorNum
import Derived.Test.YtcbppladofnnlaaDoorLWholeBackx1
namespace Go.Proofs.YtcbppladofnnlaaDoor.Pure
set_option linter.unusedVariables false
set_option linter.unusedSimpArgs false
open Go.RowKit Go.Proofs.YtcbppladofnnlaaDoor.H Go.Proofs.YtcbppladofnnlaaDoor.M Go.Proofs.YtcbppladofnnlaaDoor.LA Go.Proofs.YtcbppladofnnlaaDoor.LWholeTexts Go.Proofs.YtcbppladofnnlaaDoor.LWholeBack Go.Proofs.YtcbppladofnnlaaDoorW.PrintWords Go.Proofs.YtcbppladofnnlaaDoorW.PrintLast
theorem rdg_text (x : Int) : rdg (text x) = if 0 ≤ x ∧ x < 1000000000000000000 then (x, true) else (0, false) := by
  by_cases h : x < 0
  · rw [if_neg (by omega)]
    unfold rdg text
    rw [if_pos h]
    have : isd (45 :: dec x.natAbs) = false := by
      cases e : isd (45 :: dec x.natAbs) with
      | false => rfl
      | true =>
        rw [isd_cons] at e
        have : (45 : UInt8).toNat = 45 := rfl
        omega
    rw [this]
    rfl
  · unfold rdg text
    rw [if_neg h, dec_isd, dec_val]
    have hne : (dec x.natAbs).isEmpty = false := by
      rw [List.isEmpty_eq_false_iff]
      exact dec_ne _
    rw [hne]
    by_cases h2 : x < 1000000000000000000
    · have hl := dec_len 17 x.natAbs (by omega)
      have h48 : (decide (1 < (dec x.natAbs).length) && (dec x.natAbs).head? == some 48) = false := by
        by_cases h0 : x.natAbs = 0
        · rw [h0, dec_zero]
          rfl
        · have := dec_nz h0
          cases e : dec x.natAbs with
          | nil => exact absurd e (dec_ne _)
          | cons c l =>
            have := dec_head h0 e
            rw [List.head?_cons]
            have : (some c == some 48) = false := by simpa using this
            rw [this, Bool.and_false]
      rw [h48, decide_eq_true (by omega : (dec x.natAbs).length ≤ 18), if_pos (show (true && !false && true && !false) = true from rfl), if_pos (by omega)]
      congr 1
      omega
    · have hl := dec_long 18 x.natAbs (by omega)
      rw [decide_eq_false (by omega : ¬ (dec x.natAbs).length ≤ 18), if_neg (by simp), if_neg (by omega)]
theorem okb_pre (a : Int) {l : List Int} (h : okb l = true) : okb ([a / 128 * 255 % 256] ++ l) = true := by
  unfold okb at *
  rw [List.singleton_append, List.all_cons, h, Bool.and_true]
  simp
  omega
theorem plain0 : plain [45, 48] = [48] := rfl
theorem WholeBack : peeragelaw02_WholeBack.Pure := by
  intro x hx
  have hx0 : -9223372036854775808 ≤ x ∧ x ≤ 9223372036854775807 := by
    simp [Lit.wf, IntKind.min, IntKind.max, IntKind.signed, IntKind.bits] at hx
    omega
  refine Ev.rounds (g := fun k => peeragelaw02_WholeBack.f k x) ?_
  unfold peeragelaw02_WholeBack.f whole_Put.f whole_Read.f
  obtain ⟨h1, h2, h3⟩ := rdw_norm x hx0.1 hx0.2
  have hb := norm_okb (full x) (full_okb x)
  have hn := norm_ne (full x) (full_ne x)
  generalize norm (full x) = l at *
  simp only [Option.bind_some]
  rw [if_pos (show okb l = true ∧ l.length ≤ 1000000 from ⟨hb, by omega⟩), h1]
  simp only [Option.bind_some]
  have c1 : ¬ ((l.length : Int) < 1) := by omega
  have c2 : ¬ ((l.length : Int) > 8) := by omega
  have c3 : 0 < (l.length : Int) := by omega
  have c4 : [rd l 0 / 128 * 255 % 256].length + l.length < 140737488355328 := by simp; omega
  have c5 : okb ([rd l 0 / 128 * 255 % 256] ++ l) = true ∧ ([rd l 0 / 128 * 255 % 256] ++ l).length ≤ 1000000 := ⟨okb_pre _ hb, by simp; omega⟩
  have c6 := rdw_more hb hn
  simp only [if_true, c1, c2, c3, c4, if_false, c5, and_self, Option.bind_some, c6]
  obtain ⟨hok, _⟩ := text_facts x
  have hlen : (text x).length ≤ 4000000000 := by
    have := dec_le (m := x.natAbs) (by omega)
    unfold text
    split <;> simp <;> omega
  have tail : Ev (fun k => (whole_Valid.f k (mk (text x))).bind fun t151 => (if t151 = true then ((whole_Plain.f k (mk (text x))).bind fun t152 => (if t152.toList = (mk (text x)).toList then ((whole_Plain.f k (⟨#[45, 48]⟩ : ByteArray)).bind fun t153 => (some (t153.toList == ([48] : List UInt8)))) else (some false))) else (some false))) true := by
    refine Ev.bind (valid_f _ hlen) ?_
    rw [hok]
    simp only [if_true]
    refine Ev.bind (plain_f _ hlen) ?_
    rw [plain_text]
    simp only [if_true]
    refine Ev.bind (show Ev (fun k => whole_Plain.f k (⟨#[45, 48]⟩ : ByteArray)) (mk (plain [45, 48])) from plain_f [45, 48] (by simp)) ?_
    rw [plain0, mk_toList]
    exact Ev.now _
  refine Ev.bind (digits_f x hx0.1 hx0.2) (Ev.bind (readDigits_f _ hlen) ?_)
  rw [rdg_text]
  by_cases h0 : 0 ≤ x
  · by_cases h18 : x < 1000000000000000000
    · rw [if_pos ⟨h0, h18⟩]
      refine Ev.congr (fun k => ?_) tail
      rw [if_pos (by omega), if_pos h18, if_pos rfl, if_pos rfl]
    · rw [if_neg (by omega)]
      refine Ev.congr (fun k => ?_) tail
      rw [if_pos (by omega), if_neg h18, if_neg (by simp)]
  · rw [if_neg (by omega)]
    refine Ev.congr (fun k => ?_) tail
    rw [if_neg (by omega), if_neg (by simp)]
end Go.Proofs.YtcbppladofnnlaaDoor.Pure
