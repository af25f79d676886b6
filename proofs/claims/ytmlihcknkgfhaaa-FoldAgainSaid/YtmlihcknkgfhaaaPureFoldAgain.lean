/- What is folded is folded as itself, with blanks and ignored characters at the ends alike; the exact text's fold, and a piece's, is the fold. Conditions: those of the statement. -/
import Derived.Test.YtmlihcknkgfhaaaAns
import Derived.Test.YtmlihcknkgfhaaaLFoldAgainx1
namespace Go.Proofs.Ytmlihcknkgfhaaa.Pure
set_option linter.unusedVariables false
set_option linter.unusedSimpArgs false
open Go.RowKit Go.Proofs.Ytmlihcknkgfhaaa.M Go.Proofs.Ytmlihcknkgfhaaa.H Go.Proofs.Ytmlihcknkgfhaaa.PFoldJoins Go.Proofs.Ytmlihcknkgfhaaa.LFoldAgain Go.Proofs.YtmlihcknkgfhaaaW.PrintWords Go.Proofs.YtmlihcknkgfhaaaW.PrintLast
theorem fold_f {l : Bs} (h : l.length ≤ 4000000000) : fold_Fold.f (mk l) = some (mk (prepared l false true)) := by
  unfold fold_Fold.f
  rw [prep_f h]
  rfl
theorem piece_f2 {l : Bs} (h : l.length ≤ 4000000000) : fold_Piece.f (mk l) = some (mk (prepared l true true)) := by
  unfold fold_Piece.f
  rw [prep_f h]
  rfl
theorem exact_f {l : Bs} (h : l.length ≤ 4000000000) : fold_Exact.f (mk l) = some (mk (prepared l false false)) := by
  unfold fold_Exact.f
  rw [prep_f h]
  rfl
theorem a1 : fold_Fold.f (⟨#[195, 132]⟩ : ByteArray) = some (mk [195, 164]) := by
  rw [show (⟨#[195, 132]⟩ : ByteArray) = mk [195, 132] from rfl, fold_f (by simp), show prepared [195, 132] false true = [195, 164] from by decide]
theorem a2 : fold_Fold.f (⟨#[65]⟩ : ByteArray) = some (mk [97]) := by
  rw [show (⟨#[65]⟩ : ByteArray) = mk [65] from rfl, fold_f (by simp), show prepared [65] false true = [97] from by decide]
theorem pad (l : Bs) : ((⟨#[32, 9]⟩ : ByteArray) ++ mk l) ++ (⟨#[1, 194, 160]⟩ : ByteArray) = mk ([32, 9] ++ l ++ [1, 194, 160]) := by
  rw [show (⟨#[32, 9]⟩ : ByteArray) = mk [32, 9] from rfl, show (⟨#[1, 194, 160]⟩ : ByteArray) = mk [1, 194, 160] from rfl, mk_append, mk_append]
theorem padE (cs : List Nat) : [32, 9] ++ E cs ++ [1, 194, 160] = E ([32, 9] ++ cs ++ [1, 160]) := by
  rw [E_append, E_append]
  rfl
theorem key (l : Bs) (hl : l.length ≤ 600) : Ev (fun k => (fold_Fold.f (mk l)).bind fun t122 => ((fold_Right.f k (mk l)).bind fun t123 => (if t123 = true then ((fold_Fold.f t122).bind fun t124 => (if t124.toList = t122.toList then (if 2 + (mk l).size ≤ 9223372036854775807 then (if ((⟨#[32, 9]⟩ : ByteArray) ++ mk l).size + 3 ≤ 9223372036854775807 then ((fold_Fold.f (((⟨#[32, 9]⟩ : ByteArray) ++ mk l) ++ (⟨#[1, 194, 160]⟩ : ByteArray))).bind fun t125 => (if t125.toList = t122.toList then ((fold_Exact.f (mk l)).bind fun t126 => ((fold_Fold.f t126).bind fun t127 => (if t127.toList = t122.toList then ((fold_Piece.f (mk l)).bind fun t128 => ((fold_Fold.f t128).bind fun t129 => (if t129.toList = t122.toList then ((fold_Right.f k t122).bind fun t130 => (if t130 = true then (if (t122.size : Int) ≤ ((mk l).size : Int) then ((fold_Fold.f (⟨#[195, 132]⟩ : ByteArray)).bind fun t131 => (some (t131.toList == ([195, 164] : List UInt8)))) else (some false)) else (some false))) else (some false)))) else (some false)))) else (some false))) else (none)) else (none)) else (some false))) else (if t122.toList = (mk l).toList then ((fold_Count.f k (mk l)).bind fun t132 => (if t132 = (-1) then ((fold_Fold.f (⟨#[65]⟩ : ByteArray)).bind fun t133 => (some (t133.toList == ([97] : List UInt8)))) else (some false))) else (some false))))) true := by
  have e1 : ((mk [195, 164]).toList == ([195, 164] : List UInt8)) = true := by rw [mk_toList]; rfl
  have e2 : ((mk [97]).toList == ([97] : List UInt8)) = true := by rw [mk_toList]; rfl
  simp only [a1, a2, Option.bind_some, e1, e2]
  cases hr : right l with
  | none =>
    have f0 : fold_Fold.f (mk l) = some (mk l) := by
      rw [fold_f (by omega)]
      unfold prepared
      rw [hr]
    simp only [f0, Option.bind_some]
    refine Ev.bind (right_f l (by omega)) ?_
    rw [hr]
    simp only [Option.isSome_none, Bool.false_eq_true, if_false, if_true]
    refine Ev.bind (count_f l (by omega)) ?_
    rw [cnt_none hr]
    exact Ev.congr (fun k => by rw [if_pos rfl]) (Ev.now true)
  | some cs =>
    obtain ⟨v, rfl⟩ := right_some hr
    have p1 := prep_len false true cs
    have p2 := prep_len false false cs
    have p3 := prep_len true true cs
    have vF := prep_vs v false true
    have f0 : fold_Fold.f (mk (E cs)) = some (mk (E (prep false true cs))) := by rw [fold_f (by omega), prepared_E v]
    have f1 : fold_Fold.f (mk (E (prep false true cs))) = some (mk (E (prep false true cs))) := by
      rw [fold_f (by omega), prepared_E vF]
      unfold prep
      rw [fold_self]
    have f2 : fold_Fold.f (((⟨#[32, 9]⟩ : ByteArray) ++ mk (E cs)) ++ (⟨#[1, 194, 160]⟩ : ByteArray)) = some (mk (E (prep false true cs))) := by
      rw [pad, fold_f (by simp; omega), padE, prepared_E (vs_append.2 ⟨vs_append.2 ⟨rfl, v⟩, rfl⟩), around]
    have f3 : fold_Exact.f (mk (E cs)) = some (mk (E (prep false false cs))) := by rw [exact_f (by omega), prepared_E v]
    have f4 : fold_Fold.f (mk (E (prep false false cs))) = some (mk (E (prep false true cs))) := by
      rw [fold_f (by omega), prepared_E (prep_vs v _ _)]
      unfold prep
      rw [fold_self]
    have f5 : fold_Piece.f (mk (E cs)) = some (mk (E (prep true true cs))) := by rw [piece_f2 (by omega), prepared_E v]
    have f6 : fold_Fold.f (mk (E (prep true true cs))) = some (mk (E (prep false true cs))) := by
      rw [fold_f (by omega), prepared_E (prep_vs v _ _)]
      unfold prep
      rw [fold_piece]
      rfl
    have s1 : 2 + (mk (E cs)).size ≤ 9223372036854775807 := by rw [mk_size]; omega
    have s2 : ((⟨#[32, 9]⟩ : ByteArray) ++ mk (E cs)).size + 3 ≤ 9223372036854775807 := by
      rw [show (⟨#[32, 9]⟩ : ByteArray) = mk [32, 9] from rfl, mk_append, mk_size, List.length_append, List.length_cons, List.length_cons, List.length_nil]
      omega
    have s3 : ((mk (E (prep false true cs))).size : Int) ≤ ((mk (E cs)).size : Int) := by rw [mk_size, mk_size]; omega
    simp only [f0, Option.bind_some]
    refine Ev.bind (right_f _ (by omega)) ?_
    rw [right_E v]
    simp only [Option.isSome_some, if_true, f1, f2, f3, f4, f5, f6, Option.bind_some, s1, s2]
    refine Ev.bind (right_f _ (by omega)) ?_
    rw [right_E vF]
    simp only [Option.isSome_some, if_true, s3]
    exact Ev.now _
theorem FoldAgain : peeragelaw05_FoldAgain.Pure := by
  intro a ha
  refine Ev.rounds (g := fun k => peeragelaw05_FoldAgain.f k a) ?_
  unfold peeragelaw05_FoldAgain.f
  by_cases h : (a.size : Int) > 600
  · have e : a.extract 0 600 = mk (a.data.toList.take 600) := by
      conv => lhs; rw [← M.mk_data a]
      rw [mk_extract]
      simp
    refine Ev.congr (fun k => ?_) (key (a.data.toList.take 600) (by simp; omega))
    rw [if_pos h, if_pos (by omega), if_pos (by omega), e]
  · refine Ev.congr (fun k => ?_) (key a.data.toList (by rw [data_length]; omega))
    rw [if_neg h, M.mk_data]
end Go.Proofs.Ytmlihcknkgfhaaa.Pure
