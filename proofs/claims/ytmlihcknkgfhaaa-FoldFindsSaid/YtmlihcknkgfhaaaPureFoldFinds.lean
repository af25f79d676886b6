/- The plain law of FoldFinds: what Find answers is the first place from the start on. Plain Lean. -/
import Derived.Test.YtmlihcknkgfhaaaLFoldFindsx1
import Derived.Lib.IndexMore
import Derived.Lib.IndexLaws
namespace Go.Proofs.Ytmlihcknkgfhaaa.Pure
open Go.RowKit Go.Lib Go.Proofs.Ytmlihcknkgfhaaa.H Go.Proofs.Ytmlihcknkgfhaaa.LFoldFinds Go.Proofs.YtmlihcknkgfhaaaW.PrintWords Go.Proofs.YtmlihcknkgfhaaaW.PrintLast Go.Proofs.YtmlihcknkgfhaaaW.PrintMore
set_option linter.unusedVariables false
set_option linter.unusedSimpArgs false
theorem ab : fold_Find.f (⟨#[97, 98]⟩ : ByteArray) (⟨#[98]⟩ : ByteArray) 0 = some 1 := by decide +kernel
theorem piece (s t : ByteArray) (i : Nat) (h : i + t.size ≤ s.size) : ((s.extract i (i + t.size)).toList = t.toList) ↔ occAt s.data.toList t.data.toList i = true := by
  rw [occAt_iff_take _ _ _ (by simpa using h)]
  have : (s.extract i (i + t.size)).toList = (s.data.toList.drop i).take t.size := by
    rw [ByteArray.toList_eq, ByteArray.data_extract, Array.toList_extract, List.extract_eq_take_drop]
    congr 1
    omega
  rw [this, ByteArray.toList_eq]
  rw [beq_iff_eq]
  exact Iff.rfl
theorem w64 {n : Int} (h0 : -9223372036854775808 ≤ n) (h1 : n ≤ 9223372036854775807) : wrap64 n = n := by unfold wrap64; omega
theorem round (s t : ByteArray) (k : Nat) (hs : s.size + t.size ≤ 600) (hk : k ≤ s.size) : ∀ (q x : Nat), k ≤ x + q → (∀ j, x ≤ j → j < k → occAt s.data.toList t.data.toList j = false) →
    peeragelaw05_FoldFinds.l0 (q + 1) s t (k : Int) (x : Int) = some true := by
  intro q
  induction q with
  | zero =>
    intro x hx hn
    unfold peeragelaw05_FoldFinds.l0
    rw [if_neg (by omega), ab]
    rfl
  | succ q ih =>
    intro x hx hn
    unfold peeragelaw05_FoldFinds.l0
    by_cases c : (x : Int) < (k : Int)
    · rw [if_pos c]
      have e1 : wrap64 ((x : Int) + (t.size : Int)) = ((x + t.size : Nat) : Int) := by rw [w64 (by omega) (by omega)]; omega
      have e2 : wrap64 ((x : Int) + 1) = ((x + 1 : Nat) : Int) := by rw [w64 (by omega) (by omega)]; omega
      rw [e1, e2]
      have next := ih (x + 1) (by omega) (fun j h1 h2 => hn j (by omega) h2)
      by_cases c2 : ((x + t.size : Nat) : Int) ≤ (s.size : Int)
      · rw [if_pos c2, if_pos (by omega), if_pos (by omega), if_neg, next]
        simp only [Int.toNat_natCast]
        rw [piece s t x (by omega), hn x (Nat.le_refl _) (by omega)]
        simp
      · rw [if_neg c2, next]
    · rw [if_neg c, ab]
      rfl
theorem occ_drop (l m : List UInt8) (b j : Nat) : occAt (l.drop b) m j = occAt l m (b + j) := by
  unfold occAt
  rw [List.drop_drop]
theorem FoldFinds : peeragelaw05_FoldFinds.Pure := by
  intro s t n h1 h2 hw
  have hn : -9223372036854775808 ≤ n ∧ n ≤ 9223372036854775807 := by
    simp [Lit.wf, IntKind.min, IntKind.max, IntKind.signed, IntKind.bits] at hw
    omega
  unfold peeragelaw05_FoldFinds.f
  rw [w64 (by omega) (by omega)]
  by_cases c : ((s.size : Int) + (t.size : Int)) > 600
  · simp only [if_pos c]
    exact ⟨0, trivial⟩
  simp only [if_neg c]
  have hs : s.size + t.size ≤ 600 := by omega
  have hf : fold_Find.f s t n = some (found s t n) := by unfold fold_Find.f; rw [if_pos (by omega)]
  rw [hf]
  simp only [Option.bind_some, ab]
  have hb0 : 0 ≤ mx n 0 ∧ n ≤ mx n 0 := by unfold mx; split <;> omega
  have hbn : (n < 0 ∧ mx n 0 = 0) ∨ mx n 0 = n := by unfold mx; split <;> omega
  obtain ⟨b, hb⟩ : ∃ b : Nat, mx n 0 = b := ⟨(mx n 0).toNat, by omega⟩
  unfold found
  rw [hb] at hb0 hbn ⊢
  by_cases c1 : (s.size : Int) < (b : Int)
  · rw [if_pos c1]
    refine ⟨0, ?_⟩
    rw [if_pos (by omega), if_pos rfl, if_neg (by omega), if_pos (by omega)]
    rfl
  rw [if_neg c1]
  simp only [Int.toNat_natCast]
  have hlen : s.data.toList.length = s.size := rfl
  have htlen : t.data.toList.length = t.size := rfl
  rcases index_spec (s.data.toList.drop b) t.data.toList with ⟨he, hno⟩ | ⟨i, he, hi, ho, hno⟩
  · rw [he]
    refine ⟨0, ?_⟩
    rw [if_pos (by omega : (-1 : Int) < 0), if_pos (by omega), if_pos rfl]
    by_cases c2 : n < 0
    · rw [if_pos c2]; rfl
    · rw [if_neg c2]
      by_cases c3 : n > (s.size : Int)
      · rw [if_pos c3]; rfl
      · rw [if_neg c3]
        have : (t.size : Int) > 0 := by
          rcases Nat.eq_zero_or_pos t.size with hz | hz
          · have : t.data.toList = [] := List.eq_nil_of_length_eq_zero (by rw [htlen]; exact hz)
            rw [this, index_empty] at he
            omega
          · omega
        rw [if_pos this]; rfl
  · have room := index_room (s.data.toList.drop b) t.data.toList (by rw [he]; omega)
    rw [he, htlen, List.length_drop, hlen] at room
    rw [List.length_drop, hlen] at hi
    rw [he]
    have ek : (if ((i : Nat) : Int) < 0 then (-1 : Int) else (b : Int) + (i : Int)) = ((b + i : Nat) : Int) := by rw [if_neg (by omega)]; omega
    rw [ek]
    clear ek
    have e1 : wrap64 (((b + i : Nat) : Int) + (t.size : Int)) = ((b + i + t.size : Nat) : Int) := by rw [w64 (by omega) (by omega)]; omega
    rw [e1]
    clear e1 hw
    refine ⟨b + i + 1, ?_⟩
    have g1 : ¬ ((b + i : Nat) : Int) < 0 := by omega
    have g2 : ¬ ((b + i : Nat) : Int) < n := by omega
    have g3 : ¬ ((b + i + t.size : Nat) : Int) > (s.size : Int) := by omega
    have g4 : (0 : Int) ≤ ((b + i : Nat) : Int) := by omega
    have g5 : ((b + i : Nat) : Int) ≤ ((b + i + t.size : Nat) : Int) := by omega
    have g6 : ((b + i + t.size : Nat) : Int) ≤ (s.size : Int) := by omega
    rw [if_neg g1, if_neg g2, if_neg g3, if_pos g4, if_pos g5, if_pos g6, if_pos]
    · exact round s t (b + i) hs (by omega) (b + i) b (by omega) (fun j h3 h4 => by
        have := hno (j - b) (by omega)
        rw [occ_drop] at this
        rw [show b + (j - b) = j by omega] at this
        exact this)
    · simp only [Int.toNat_natCast]
      rw [piece s t (b + i) (by omega), ← occ_drop]
      exact ho
theorem FoldFinds_walk (a0 : ByteArray) (a1 : ByteArray) (a2 : Int) (w : World) (w0 : a0.size ≤ 140737488351232) (w1 : a1.size ≤ 140737488351232) (w2 : (Lit.int .i64 a2).wf = true) (HM : MX w) :
    Calls Try.prog 3 #[.string a0, .string a1, .int .i64 a2] w fun e w' => e = .returned (.bool true) ∧ Below w.heap.size w w' := by
  obtain ⟨k, h⟩ := FoldFinds a0 a1 a2 w0 w1 w2
  refine (peeragelaw05_FoldFinds.calls k a0 a1 a2 true w ⟨HM⟩ h).mono ?_
  rintro e w' ⟨rfl, hd⟩
  exact ⟨rfl, hd⟩
end Go.Proofs.Ytmlihcknkgfhaaa.Pure
