/- So many elements, one within another: plain laws. -/
import Derived.Test.YtkhghgmonjebnaaPlainA
namespace Go.Proofs.Ytkhghgmonjebnaa.B
open Go.RowKit Go.Proofs.YtkhghgmonjebnaaW.PrintWords Go.Proofs.YtkhghgmonjebnaaW.PrintLast Go.Proofs.YtkhghgmonjebnaaW.PrintMore
open Go.Proofs.Ytkhghgmonjebnaa.H Go.Proofs.Ytkhghgmonjebnaa.K
set_option linter.unusedVariables false
set_option linter.unusedSimpArgs false

def chain : Nat → S27
  | 0 => ⟨⟨0, false, 4⟩, [], []⟩
  | k + 1 => ⟨⟨0, true, 16⟩, [], [chain k]⟩
theorem chain_right : ∀ k, rightE (chain k) = true
  | 0 => by decide
  | k + 1 => by
    have h := chain_right k
    have h1 : right 0 16 = true := by decide
    simp [chain, rightE, rightL, h, h1]
theorem chain_deep : ∀ k, deepE (chain k) = k + 1
  | 0 => rfl
  | k + 1 => by
    have h := chain_deep k
    simp [chain, deepE, deepL, h]
theorem chain_fit : ∀ k, fitE (chain k)
  | 0 => by simp [chain, fitE, fitL, okb]
  | k + 1 => by
    have h := chain_fit k
    simp [chain, fitE, fitL, okb, h]
theorem chain_thin : ∀ k, thinE (chain k)
  | 0 => by simp [chain, thinE, thinL]
  | k + 1 => by
    have h := chain_thin k
    simp [chain, thinE, thinL, h]
theorem enc_zero : encE (chain 0) = [4, 0] := by decide +kernel
theorem enc_succ (k : Nat) : encE (chain (k + 1)) = putLen [48] ((encE (chain k)).length : Int) ++ encE (chain k) := by
  have h : put [] 0 true 16 = [48] := by decide
  simp only [chain]
  rw [encE_eq, putLen_app]
  simp only [headE, encL, List.append_nil, List.nil_append, h]
theorem chain_len : ∀ k, 2 ≤ (encE (chain k)).length ∧ (encE (chain k)).length ≤ 2 + 15 * k
  | 0 => by rw [enc_zero]; decide
  | k + 1 => by
    have h := chain_len k
    have h1 : put [] 0 true 16 = [48] := by decide
    have h2 := head_len 0 16 ((encE (chain k)).length : Int) true
    rw [h1] at h2
    rw [enc_succ, List.length_append]
    omega
theorem chain_cont (k : Nat) (hk : k ≤ 100) : (begin6 (encE (chain (k + 1)))).2 = 0 ∧ (begin6 (encE (chain (k + 1)))).1.2.2.2.2 = ((encE (chain (k + 1))).length : Int) ∧ (begin6 (encE (chain (k + 1)))).1.2.1 = true ∧ cont (encE (chain (k + 1))) = encE (chain k) := by
  have h1 := chain_len (k + 1)
  have e : encE (chain (k + 1)) = headE ⟨0, true, 16⟩ (encE (chain k)).length ++ (encE (chain k) ++ []) := by
    simp only [chain]
    rw [encE_eq]
    simp only [encL, List.append_nil, List.nil_append]
  rw [e] at h1 ⊢
  simp only [List.length_append] at h1
  have hb := begin_head (t := ⟨0, true, 16⟩) (n := (encE (chain k)).length) (by decide) (by omega) (encE (chain k) ++ [])
  have hc := cont_head (t := ⟨0, true, 16⟩) (n := (encE (chain k)).length) (c := encE (chain k)) (behind := []) (by decide) (by omega) rfl
  rw [hb, hc]
  refine ⟨rfl, ?_, rfl, rfl⟩
  simp only [List.length_append, List.append_nil]
  omega
/-- Too deep. -/
theorem chain_bad : ∀ (k f d : Nat), 24 < d + k + 1 → d < 24 → k ≤ 100 → (encE (chain k)).length ≤ f → elemF f d (encE (chain k)) = .error 15
  | 0, _, _, h, h1, _, _ => by omega
  | k + 1, f, d, h, h1, hk, hf => by
    obtain ⟨c1, c2, c3, c4⟩ := chain_cont k (by omega)
    have hl := chain_len k
    have hl1 : (encE (chain k)).length < (encE (chain (k + 1))).length := by
      rw [enc_succ, List.length_append]
      have : 1 ≤ (putLen [48] ((encE (chain k)).length : Int)).length := by rw [putLen_app]; simp
      omega
    unfold elemF
    rw [c3, if_pos rfl, c4]
    have hk2 : kidsF f (d + 1) (encE (chain k)) = .error 15 := by
      cases f with
      | zero => omega
      | succ g =>
        by_cases hd : 24 ≤ d + 1
        · exact kidsF_deep g (d + 1) _ (by omega) hd
        · have ih := chain_bad k g (d + 1) (by omega) (by omega) (by omega) (by omega)
          have hb : ¬ ((begin6 (encE (chain k))).2 ≠ 0 ∨ ((encE (chain k)).length : Int) < (begin6 (encE (chain k))).1.2.2.2.2) := by
            cases k with
            | zero => rw [enc_zero]; decide +kernel
            | succ j =>
              obtain ⟨b1, b2, _, _⟩ := chain_cont j (by omega)
              rintro (h3 | h3)
              · exact h3 b1
              · omega
          exact kidsF_bad (by omega) hd hb ih
    rw [hk2]
theorem chain_parse_bad (k : Nat) (hk : 24 < k + 1) (hk2 : k ≤ 100) : parseF (encE (chain k)) = .error 15 := by
  obtain ⟨j, rfl⟩ : ∃ j, k = j + 1 := ⟨k - 1, by omega⟩
  obtain ⟨c1, c2, c3, c4⟩ := chain_cont j (by omega)
  unfold parseF
  rw [if_neg (by rw [c1]; simp), if_neg (by rw [c2]; omega), chain_bad (j + 1) _ 0 (by omega) (by omega) hk2 (by omega)]
theorem chain_parse (k : Nat) (hk : k + 1 ≤ 24) : parseF (encE (chain k)) = .ok (chain k, ((encE (chain k)).length : Int)) := by
  have hl := chain_len k
  have h := parse_back (x := chain k) (behind := []) (chain_right k) (by omega) (by rw [chain_deep]; omega)
  rwa [List.append_nil] at h
theorem chain_put (k : Nat) (hk : k ≤ 100) : putR (chain k) = if 24 < k + 1 then ([], 15) else (encE (chain k), 0) := by
  have hl := chain_len k
  rw [putR_eq, if_neg (by rw [chain_right]; simp), chain_deep]
  split
  · rfl
  · rw [if_neg (by omega)]
theorem and63 (n : Int) : bits .and .i64 n 63 = n % 64 := by
  have h1 : BitVec.ofInt 64 n &&& BitVec.ofInt 64 63 = BitVec.ofNat 64 ((BitVec.ofInt 64 n).toNat % 64) := by
    apply BitVec.eq_of_toNat_eq
    rw [BitVec.toNat_and, BitVec.toNat_ofNat]
    have : (BitVec.ofInt 64 63).toNat = 2 ^ 6 - 1 := by decide
    rw [this, Nat.and_two_pow_sub_one_eq_mod]
    omega
  show IntKind.i64.wrap ((BitVec.ofInt 64 n &&& BitVec.ofInt 64 63).toNat : Int) = _
  rw [h1, BitVec.toNat_ofNat, BitVec.toNat_ofInt, IntKind.wrap_i64]
  omega
end Go.Proofs.Ytkhghgmonjebnaa.B
