/- The plain law of EscapeJoins: texts behind one another in a filter, and as digits. Plain Lean. -/
import Derived.Test.YtmhjplbloeamiaaLEscapeJoinsx1
import Derived.Test.YtmhjplbloeamiaaUnf
import Derived.Test.YtmhjplbloeamiaaHnd
namespace Go.Proofs.Ytmhjplbloeamiaa.Pure
open Go.RowKit Go.Proofs.Ytmhjplbloeamiaa.M Go.Proofs.Ytmhjplbloeamiaa.H Go.Proofs.Ytmhjplbloeamiaa.PEsc Go.Proofs.Ytmhjplbloeamiaa.LEscapeJoins Go.Proofs.YtmhjplbloeamiaaW.PrintWords Go.Proofs.YtmhjplbloeamiaaW.PrintLast Go.Proofs.YtmhjplbloeamiaaW.PrintMore
set_option linter.unusedVariables false
set_option linter.unusedSimpArgs false
theorem star : escape_Filter.f (⟨#[42]⟩ : ByteArray) = some (mk [92, 50, 97]) := by decide +kernel
theorem put_f (l : Bs) (hl : l.length ≤ 600) : escape_Filter.f (mk l) = some (mk (fils l)) ∧ escape_Hex.f (mk l) = some (mk (hexs l)) := by
  have hs : (mk l).size = l.length := mk_size l
  have hs2 : (mk l).size ≤ 1000000000 := by omega
  refine ⟨?_, ?_⟩
  · unfold escape_Filter.f; rw [if_pos hs2]; rfl
  · unfold escape_Hex.f; rw [if_pos hs2]; rfl
theorem lens (l : Bs) : (fils l).length ≤ 3 * l.length ∧ (hexs l).length ≤ 3 * l.length :=
  ⟨pre_len (fun i c => by unfold gfil; (repeat' split) <;> simp [two_len]) _, pre_len (fun i c => by simp [two_len]) _⟩
theorem star_end : ((some (mk [92, 50, 97])).bind fun t145 : ByteArray => (some (t145.toList == ([92, 50, 97] : List UInt8)))) = some true := by
  rw [Option.bind_some, mk_toList]
  rfl
set_option maxHeartbeats 1000000 in
theorem core (a b : Bs) (hl : a.length + b.length ≤ 600) : Ev (fun k => peeragelaw10_EscapeJoins.f k (mk a) (mk b)) true := by
  obtain ⟨fa, ha⟩ := put_f a (by omega)
  obtain ⟨fb, hb⟩ := put_f b (by omega)
  obtain ⟨fab, hab⟩ := put_f (a ++ b) (by rw [List.length_append]; exact hl)
  obtain ⟨la, la2⟩ := lens a
  obtain ⟨lb, lb2⟩ := lens b
  have hw : wrap64 (((mk a).size : Int) + ((mk b).size : Int)) = ((a.length + b.length : Nat) : Int) := by rw [mk_size, mk_size, w64 (by omega) (by omega)]; omega
  have g1 : ¬ ((a.length + b.length : Nat) : Int) > 600 := by omega
  have g2 : (mk a).size + (mk b).size ≤ 9223372036854775807 := by rw [mk_size, mk_size]; omega
  have g3 : (mk (hexs a)).size + (mk (hexs b)).size ≤ 9223372036854775807 := by rw [mk_size, mk_size]; omega
  have g4 : (mk (fils a)).size + (mk (fils b)).size ≤ 9223372036854775807 := by rw [mk_size, mk_size]; omega
  have g5 : (mk (hexs (a ++ b))).toList = (mk (hexs a) ++ mk (hexs b)).toList := by rw [hexs_append, mk_append]
  have hun : Ev (fun k => escape_Unfilter.f k (mk (fils a ++ fils b))) (mk (a ++ b), true) :=
    unfilter_f ((un_fils a).append (un_fils b)) (by rw [List.length_append]; omega) (by rw [List.length_append]; omega)
  have hra := right_f a (by omega)
  have hrb := right_f b (by omega)
  unfold peeragelaw10_EscapeJoins.f
  simp only [hw, if_neg g1, if_pos g2, mk_append, hab, ha, hb, fa, fb, fab, Option.bind_some]
  rw [mk_append] at g5
  simp only [if_pos g3, if_pos g5, if_pos g4]
  refine Ev.bind hun ?_
  simp only [if_true]
  refine Ev.bind hra ?_
  cases ra : (right a).isSome with
  | false =>
    simp only [Bool.false_eq_true, if_false, star, star_end]
    exact Ev.now _
  | true =>
    simp only [if_true]
    refine Ev.bind hrb ?_
    cases rb : (right b).isSome with
    | false =>
      simp only [Bool.false_eq_true, if_false, star, star_end]
      exact Ev.now _
    | true =>
      have e : fils (a ++ b) = fils a ++ fils b := fils_append ra rb
      simp only [if_true, e, star, star_end]
      exact Ev.now _
theorem EscapeJoins : peeragelaw10_EscapeJoins.Pure := by
  intro s t hs ht
  have key : Ev (fun k => peeragelaw10_EscapeJoins.f k s t) true := by
    by_cases c : s.size + t.size ≤ 600
    · have := core s.data.toList t.data.toList c
      rw [mk_data, mk_data] at this
      exact this
    · have g : wrap64 ((s.size : Int) + (t.size : Int)) > 600 := by rw [w64 (by omega) (by omega)]; omega
      unfold peeragelaw10_EscapeJoins.f
      simp only [if_pos g]
      exact Ev.now _
  exact key.rounds
end Go.Proofs.Ytmhjplbloeamiaa.Pure
