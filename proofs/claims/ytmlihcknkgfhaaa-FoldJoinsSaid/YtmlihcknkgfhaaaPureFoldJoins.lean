/- Piece of texts joined is Piece of their pieces joined. Conditions: those of the statement. -/
import Derived.Test.YtmlihcknkgfhaaaAns
import Derived.Test.YtmlihcknkgfhaaaLFoldJoinsx1
namespace Go.Proofs.Ytmlihcknkgfhaaa.Pure
set_option linter.unusedVariables false
set_option linter.unusedSimpArgs false
open Go.RowKit Go.Proofs.Ytmlihcknkgfhaaa.M Go.Proofs.Ytmlihcknkgfhaaa.H Go.Proofs.Ytmlihcknkgfhaaa.PFoldJoins Go.Proofs.Ytmlihcknkgfhaaa.LFoldJoins Go.Proofs.YtmlihcknkgfhaaaW.PrintWords Go.Proofs.YtmlihcknkgfhaaaW.PrintLast
theorem piece_f {l : Bs} (h : l.length ≤ 4000000000) : fold_Piece.f (mk l) = some (mk (prepared l true true)) := by
  unfold fold_Piece.f
  rw [prep_f h]
  rfl
theorem c1 : fold_Piece.f (⟨#[32, 65]⟩ : ByteArray) = some (mk [32, 97]) := by
  rw [show (⟨#[32, 65]⟩ : ByteArray) = mk [32, 65] from rfl, piece_f (by simp), show prepared [32, 65] true true = [32, 97] from by decide]
theorem c2 : fold_Piece.f (⟨#[97, 32]⟩ : ByteArray) = some (mk [97, 32]) := by
  rw [show (⟨#[97, 32]⟩ : ByteArray) = mk [97, 32] from rfl, piece_f (by simp), show prepared [97, 32] true true = [97, 32] from by decide]
theorem FoldJoins : peeragelaw05_FoldJoins.Pure := by
  intro a b ha hb
  refine Ev.rounds (g := fun k => peeragelaw05_FoldJoins.f k a b) ?_
  unfold peeragelaw05_FoldJoins.f
  have e1 : ((mk [32, 97]).toList == ([32, 97] : List UInt8)) = true := by rw [mk_toList]; rfl
  have e2 : ((mk [97, 32]).toList == ([97, 32] : List UInt8)) = true := by rw [mk_toList]; rfl
  simp only [c1, c2, Option.bind_some, e1, e2]
  have hw : wrap64 ((a.size : Int) + (b.size : Int)) = (a.size : Int) + (b.size : Int) := w64 (by omega) (by omega)
  by_cases h : (a.size : Int) + (b.size : Int) > 600
  · exact Ev.congr (f := fun _ => some true) (fun k => by rw [if_pos (by rw [hw]; exact h)]) (Ev.now _)
  · have hn : ¬ wrap64 ((a.size : Int) + (b.size : Int)) > 600 := by rw [hw]; exact h
    simp only [hn, if_false]
    have la : a.data.toList.length + b.data.toList.length ≤ 600 := by rw [data_length, data_length]; omega
    rw [← M.mk_data a, ← M.mk_data b]
    generalize a.data.toList = l at *
    generalize b.data.toList = m at *
    refine Ev.bind (right_f l (by omega)) ?_
    cases hl : right l with
    | none => exact Ev.now _
    | some cs =>
      obtain ⟨v1, E1⟩ := right_some hl
      simp only [Option.isSome_some, if_true]
      refine Ev.bind (right_f m (by omega)) ?_
      cases hm : right m with
      | none => exact Ev.now _
      | some ds =>
        obtain ⟨v2, E2⟩ := right_some hm
        subst E1 E2
        have p1 := prep_len true true cs
        have p2 := prep_len true true ds
        have hv := vs_append.2 ⟨v1, v2⟩
        have f0 : fold_Piece.f (mk (E cs ++ E ds)) = some (mk (E (prep true true (cs ++ ds)))) := by rw [piece_f (by rw [List.length_append]; omega), ← E_append, prepared_E hv]
        have f1 : fold_Piece.f (mk (E cs)) = some (mk (E (prep true true cs))) := by rw [piece_f (by omega), prepared_E v1]
        have f2 : fold_Piece.f (mk (E ds)) = some (mk (E (prep true true ds))) := by rw [piece_f (by omega), prepared_E v2]
        have f3 : fold_Piece.f (mk (E (prep true true cs) ++ E (prep true true ds))) = some (mk (E (prep true true (cs ++ ds)))) := by
          rw [piece_f (by rw [List.length_append]; omega), ← E_append, prepared_E (vs_append.2 ⟨prep_vs v1 _ _, prep_vs v2 _ _⟩), ← joins]
        have s1 : (mk (E cs)).size + (mk (E ds)).size ≤ 9223372036854775807 := by rw [mk_size, mk_size]; omega
        have s2 : (mk (E (prep true true cs))).size + (mk (E (prep true true ds))).size ≤ 9223372036854775807 := by rw [mk_size, mk_size]; omega
        simp only [Option.isSome_some, if_true, s1, mk_append, f0, f1, f2, Option.bind_some, s2, f3]
        have n1 := E_len cs
        have n2 := E_len ds
        refine Ev.bind (count_f _ (by rw [List.length_append]; omega)) (Ev.bind (count_f _ (by omega)) (Ev.bind (count_f _ (by omega)) ?_))
        rw [← E_append, cnt_E hv, cnt_E v1, cnt_E v2, List.length_append]
        refine Ev.congr (fun k => ?_) (Ev.now true)
        rw [if_pos (by rw [w64 (by omega) (by omega)]; omega)]
end Go.Proofs.Ytmlihcknkgfhaaa.Pure
