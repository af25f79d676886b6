/- The plain law of FoldTells: what the program and the reference tell of any strings is the same. Plain Lean over the printed functions. -/
import Derived.Test.YtmlihcknkgfhaaaDoorLFoldTellsx1
import Derived.Test.YtmlihcknkgfhaaaDoorRPr
import Derived.Test.YtmlihcknkgfhaaaDoorRFn
namespace Go.Proofs.YtmlihcknkgfhaaaDoor.Pure
open Go.RowKit Go.Proofs.YtmlihcknkgfhaaaDoor.M Go.Proofs.YtmlihcknkgfhaaaDoor.H Go.Proofs.YtmlihcknkgfhaaaDoor.PFold Go.Proofs.YtmlihcknkgfhaaaDoor.LFoldNumbers Go.Proofs.YtmlihcknkgfhaaaDoor.LFoldTells Go.Proofs.YtmlihcknkgfhaaaDoorW.PrintWords Go.Proofs.YtmlihcknkgfhaaaDoorW.PrintLast Go.Proofs.YtmlihcknkgfhaaaDoorW.PrintMore
set_option linter.unusedVariables false
set_option linter.unusedSimpArgs false
theorem fold_ff (l : Bs) (h : l.length ≤ 100000) : fold_Fold.f (mk l) = some (mk (prepared l false true)) := by
  unfold fold_Fold.f
  rw [prep_f (by omega), Option.bind_some]
theorem piece_ff (l : Bs) (h : l.length ≤ 100000) : fold_Piece.f (mk l) = some (mk (prepared l true true)) := by
  unfold fold_Piece.f
  rw [prep_f (by omega), Option.bind_some]
theorem exact_ff (l : Bs) (h : l.length ≤ 100000) : fold_Exact.f (mk l) = some (mk (prepared l false false)) := by
  unfold fold_Exact.f
  rw [prep_f (by omega), Option.bind_some]
theorem rfold_ff (l : Bs) (h : l.length ≤ 100000) : Ev (fun k => peerageref05_Fold.f k (mk l)) (mk (prepared l false true)) :=
  Ev.bind (rprepared_f l false true h) (Ev.now _)
theorem rpiece_ff (l : Bs) (h : l.length ≤ 100000) : Ev (fun k => peerageref05_Piece.f k (mk l)) (mk (prepared l true true)) :=
  Ev.bind (rprepared_f l true true h) (Ev.now _)
theorem rexact_ff (l : Bs) (h : l.length ≤ 100000) : Ev (fun k => peerageref05_Exact.f k (mk l)) (mk (prepared l false false)) :=
  Ev.bind (rprepared_f l false false h) (Ev.now _)
theorem foo : fold_Fold.f (⟨#[32, 70, 111, 111, 32, 32, 66, 97, 114, 32]⟩ : ByteArray) = some (mk [102, 111, 111, 32, 98, 97, 114]) := by
  show fold_Fold.f (mk [32, 70, 111, 111, 32, 32, 66, 97, 114, 32]) = _
  rw [fold_ff _ (by simp)]
  congr 1
theorem right_cnt (l : Bs) : ((right l).isSome == decide (cnt l ≥ 0)) = true := by
  unfold cnt
  cases right l with
  | none => rfl
  | some cs =>
    simp only [Option.isSome_some]
    rw [decide_eq_true (by omega)]
    rfl
theorem core (l t : Bs) (n : Int) (h : l.length + t.length ≤ 600) (hn : n ≤ 9223372036854775807) : Ev (fun k => peeragelaw05_FoldTells.f k (mk l) (mk t) n) true := by
  have hw : wrap64 (((mk l).size : Int) + ((mk t).size : Int)) = ((l.length + t.length : Nat) : Int) := by rw [mk_size, mk_size, w64 (by omega) (by omega)]; omega
  have hg : ¬ ((l.length + t.length : Nat) : Int) > 600 := by omega
  have hl : l.length ≤ 100000 := by omega
  have hfind : fold_Find.f (mk l) (mk t) n = some (found (mk l) (mk t) n) := by
    unfold fold_Find.f
    rw [if_pos (by rw [mk_size]; omega)]
  have u1 := next_f l
  have u2 := R.next_f l
  have u3 : Ev (fun k => fold_Numeric.f k (mk l)) (mk (N.num l).1, (N.num l).2) := N.numeric_f l (by omega)
  have u4 : Ev (fun k => peerageref05_Numeric.f k (mk l)) (mk (N.num l).1, (N.num l).2) := N.rnumeric_f l hl
  have u5 := count_f l (by omega)
  have u6 := R.count_f l (by omega)
  have u7 := right_f l (by omega)
  have u8 := rfold_ff l hl
  have u9 := rpiece_ff l hl
  have u10 := rexact_ff l hl
  have u11 : Ev (fun k => peerageref05_Find.f k (mk l) (mk t) n) (found (mk l) (mk t) n) := N.rfind_f l t n h hn
  have hr := right_cnt l
  have hb : ((N.num l).2 == (N.num l).2) = true := by simp
  have hfin : (some ((mk [102, 111, 111, 32, 98, 97, 114]).toList == ([102, 111, 111, 32, 98, 97, 114] : List UInt8))) = some true := by rw [mk_toList]; rfl
  unfold peeragelaw05_FoldTells.f
  rw [hw, fold_ff l hl, piece_ff l hl, exact_ff l hl, hfind, foo]
  refine Ev.congr (fun k => if_neg hg) ?_
  refine Ev.bind u1 (Ev.bind u2 (Ev.bind u3 (Ev.bind u4 ?_)))
  refine Ev.congr (fun k => by rw [if_pos rfl, if_pos rfl]) ?_
  refine Ev.bind u5 (Ev.bind u6 ?_)
  refine Ev.congr (fun k => if_pos rfl) ?_
  refine Ev.bind u7 (Ev.bind u6 ?_)
  refine Ev.congr (fun k => if_pos hr) ?_
  refine Ev.bind (Ev.now _) (Ev.bind u8 ?_)
  refine Ev.congr (fun k => if_pos rfl) ?_
  refine Ev.bind (Ev.now _) (Ev.bind u9 ?_)
  refine Ev.congr (fun k => if_pos rfl) ?_
  refine Ev.bind (Ev.now _) (Ev.bind u10 ?_)
  refine Ev.congr (fun k => by rw [if_pos rfl, if_pos rfl, if_pos hb]) ?_
  refine Ev.bind (Ev.now _) (Ev.bind u11 ?_)
  refine Ev.congr (fun k => if_pos rfl) ?_
  refine Ev.bind (Ev.now _) ?_
  exact Ev.congr (fun k => hfin) (Ev.now true)
theorem FoldTells : peeragelaw05_FoldTells.Pure := by
  intro a0 a1 a2 h0 h1 h2
  obtain ⟨l, rfl⟩ : ∃ l, a0 = mk l := ⟨a0.data.toList, (mk_data a0).symm⟩
  obtain ⟨t, rfl⟩ : ∃ t, a1 = mk t := ⟨a1.data.toList, (mk_data a1).symm⟩
  rw [mk_size] at h0 h1
  have hn : a2 ≤ 9223372036854775807 := by simp [Lit.wf, IntKind.min, IntKind.max, IntKind.signed, IntKind.bits] at h2; omega
  have key : Ev (fun k => peeragelaw05_FoldTells.f k (mk l) (mk t) a2) true := by
    by_cases h : l.length + t.length ≤ 600
    · exact core l t a2 h hn
    · have hw : wrap64 (((mk l).size : Int) + ((mk t).size : Int)) = ((l.length + t.length : Nat) : Int) := by rw [mk_size, mk_size, w64 (by omega) (by omega)]; omega
      have hg : ((l.length + t.length : Nat) : Int) > 600 := by omega
      refine Ev.congr (fun k => ?_) (Ev.now true)
      unfold peeragelaw05_FoldTells.f
      rw [hw, if_pos hg]
  exact key.rounds
theorem FoldTells_walk (a0 : ByteArray) (a1 : ByteArray) (a2 : Int) (w : World) (w0 : a0.size ≤ 140737488351232) (w1 : a1.size ≤ 140737488351232) (w2 : (Lit.int .i64 a2).wf = true) (HM : MX w) :
    Calls Tryd.prog 3 #[.string a0, .string a1, .int .i64 a2] w fun e w' => e = .returned (.bool true) ∧ Below w.heap.size w w' := by
  obtain ⟨k, h⟩ := FoldTells a0 a1 a2 w0 w1 w2
  exact peeragelaw05_FoldTells.calls k a0 a1 a2 w ⟨HM⟩ h
end Go.Proofs.YtmlihcknkgfhaaaDoor.Pure
