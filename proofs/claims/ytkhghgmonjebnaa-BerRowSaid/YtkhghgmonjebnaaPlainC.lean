/- Any beginning of what is put has not ended; what is not too great: plain laws. -/
import Derived.Test.YtkhghgmonjebnaaPlainB
import Derived.Test.YtkhghgmonjebnaaOwnW
namespace Go.Proofs.Ytkhghgmonjebnaa.B
open Go.RowKit Go.Proofs.YtkhghgmonjebnaaW.PrintWords Go.Proofs.YtkhghgmonjebnaaW.PrintLast Go.Proofs.YtkhghgmonjebnaaW.PrintMore
open Go.Proofs.Ytkhghgmonjebnaa.H Go.Proofs.Ytkhghgmonjebnaa.K
set_option linter.unusedVariables false
set_option linter.unusedSimpArgs false

theorem seven_take {n : Int} (h0 : 31 ≤ n) : ∀ (m j i : Nat) (acc : Int), j ≤ m → i + m ≤ 3 → (i = 0 → 1 ≤ n / 2 ^ (7 * m) ∧ n / 2 ^ (7 * m) < 128) →
    seven acc i ((grp7 n m).take j) = (0, 0, 10) := by
  intro m
  induction m with
  | zero =>
    intro j i acc hj hi _
    obtain rfl : j = 0 := by omega
    rw [List.take_zero]
    simp only [seven]
    rw [if_neg (by omega)]
  | succ m ih =>
    intro j i acc hj hi hf
    cases j with
    | zero =>
      rw [List.take_zero]
      simp only [seven]
      rw [if_neg (by omega)]
    | succ j =>
      simp only [grp7, List.take_succ_cons, seven]
      have hq : 0 ≤ n / 2 ^ (7 * (m + 1)) % 128 ∧ n / 2 ^ (7 * (m + 1)) % 128 < 128 := by omega
      rw [if_neg (by omega), if_neg (by omega)]
      exact ih j (i + 1) _ (by omega) (by omega) (by omega)
theorem read_take {cl nn : Int} {md : Bool} (h : right cl nn = true) (j : Nat) (hj : j < (put [] cl md nn).length) : (read5 ((put [] cl md nn).take j)).2.2.2.2 = 10 := by
  obtain ⟨a0, a1, a2, a3⟩ := right_iff h
  unfold put at hj ⊢
  rw [if_pos h] at hj ⊢
  by_cases hn : nn < 31
  · rw [if_pos hn] at hj ⊢
    simp at hj
    subst hj
    simp [read5]
  · rw [if_neg hn] at hj ⊢
    have hl := grp7_length nn (m7 nn)
    simp only [List.nil_append, List.cons_append, List.length_cons, hl] at hj ⊢
    cases j with
    | zero => simp [read5]
    | succ j =>
      simp only [List.take_succ_cons]
      unfold read5
      rw [if_neg (by simp), rd_cons]
      simp only [List.drop_succ_cons, List.drop_zero]
      rw [seven_take (by omega) (m7 nn) j 0 0 (by omega) (by have := m7_most nn; omega) (fun _ => m7_first (by omega) (by omega))]
      rcases mdi md with ⟨e, rfl⟩ | ⟨e, rfl⟩
      all_goals
        rw [e, if_neg (by omega)]
        simp
theorem len_take {n : Int} (h0 : 0 ≤ n) (h1 : n < 2147483648) (j : Nat) (hj : j < (putLen [] n).length) : (len3 ((putLen [] n).take j)).2.2 = 10 := by
  unfold putLen at hj ⊢
  rw [if_neg (by omega)] at hj ⊢
  by_cases hn : n < 128
  · rw [if_pos hn] at hj ⊢
    simp at hj
    subst hj
    simp [len3]
  · rw [if_neg hn] at hj ⊢
    have hm := m8_small h1
    have hl := grp8_len n (m8 n)
    simp only [List.nil_append, List.cons_append, List.length_cons, hl] at hj ⊢
    cases j with
    | zero => simp [len3]
    | succ j =>
      simp only [List.take_succ_cons]
      unfold len3
      rw [if_neg (by simp), rd_cons, if_neg (by omega), if_neg (by omega), if_neg (by omega), if_pos (by simp [hl]; omega)]
/-- Any beginning of an element's bytes has not ended. -/
theorem cut_end {x : S27} (hr : rightE x = true) (hl : (encE x).length ≤ 16384) (j : Nat) (hj : j < (encE x).length) : parseF ((encE x).take j) = .error 10 := by
  obtain ⟨t, b, k⟩ := x
  obtain ⟨h1, _, _, _⟩ := right_mk hr
  rw [encE_eq] at hl hj ⊢
  have hjl : ((headE t (b ++ encL k).length ++ (b ++ encL k)).take j).length = j := by rw [List.length_take]; omega
  rw [List.length_append] at hl hj
  have hh : (headE t (b ++ encL k).length).length = (put [] t.f0 t.f1 t.f2).length + (putLen [] ((b ++ encL k).length : Int)).length := by unfold headE; rw [List.length_append]
  by_cases ha : (headE t (b ++ encL k).length).length ≤ j
  · have e : (headE t (b ++ encL k).length ++ (b ++ encL k)).take j = headE t (b ++ encL k).length ++ (b ++ encL k).take (j - (headE t (b ++ encL k).length).length) := by
      rw [List.take_append, List.take_of_length_le ha]
    have hb := begin_head h1 hl ((b ++ encL k).take (j - (headE t (b ++ encL k).length).length))
    unfold parseF
    rw [hjl, e, hb]
    simp only []
    rw [if_neg (by simp), if_pos (by omega)]
  · have hb : (begin6 ((headE t (b ++ encL k).length ++ (b ++ encL k)).take j)).2 = 10 := by
      have e : (headE t (b ++ encL k).length ++ (b ++ encL k)).take j = (put [] t.f0 t.f1 t.f2 ++ putLen [] ((b ++ encL k).length : Int)).take j := by
        rw [List.take_append_of_le_length (by omega)]
        rfl
      rw [e]
      by_cases hp : j < (put [] t.f0 t.f1 t.f2).length
      · rw [List.take_append_of_le_length (by omega)]
        have := read_take (md := t.f1) h1 j hp
        unfold begin6
        rw [if_pos (by rw [this]; decide)]
        exact this
      · rw [List.take_append, List.take_of_length_le (by omega)]
        have h2 := read_put (md := t.f1) h1 ((putLen [] ((b ++ encL k).length : Int)).take (j - (put [] t.f0 t.f1 t.f2).length))
        have h3 := len_take (n := ((b ++ encL k).length : Int)) (by omega) (by omega) (j - (put [] t.f0 t.f1 t.f2).length) (by omega)
        unfold begin6
        rw [h2]
        simp only [Int.toNat_natCast, List.drop_left]
        rw [if_neg (by simp), if_pos (by rw [h3]; decide)]
        exact h3
    unfold parseF
    rw [if_pos (by rw [hb]; decide), hb]

theorem own_thin (x : S27) : ∀ d, d ≤ 61 → (ownR x d).2 < 30000 → thinE x ∧ d + deepE x ≤ 61 := by
  refine ind (P := fun x => ∀ d, d ≤ 61 → (ownR x d).2 < 30000 → thinE x ∧ d + deepE x ≤ 61) ?_ x
  intro t b k ih d hd h
  simp only [ownR] at h
  split at h
  · simp only [] at h; omega
  · rename_i hd60
    have hL : ∀ (k : List S27), (∀ x ∈ k, ∀ d, d ≤ 61 → (ownR x d).2 < 30000 → thinE x ∧ d + deepE x ≤ 61) → ∀ ks n, 1 ≤ n → (ownL k d ks n).2 < 30000 → n ≤ (ownL k d ks n).2 ∧ thinL k ∧ (k = [] ∨ d + 1 + deepL k ≤ 61) := by
      intro k
      induction k with
      | nil => intro _ ks n _ h; simp only [ownL]; exact ⟨Int.le_refl _, trivial, by simp⟩
      | cons x k ih2 =>
        intro h ks n h1 h2
        simp only [ownL] at h2 ⊢
        have hx := own_bound x (d + 1) (by omega)
        split at h2
        · rename_i hn
          rw [if_pos hn]
          obtain ⟨q1, q2, q3⟩ := ih2 (fun y hy => h y (by simp [hy])) _ _ (by omega) h2
          obtain ⟨r1, r2⟩ := h x (by simp) (d + 1) (by omega) (by omega)
          refine ⟨by omega, ⟨r1, q2⟩, .inr ?_⟩
          simp only [deepL]
          rcases q3 with rfl | q3
          · simp only [deepL]; omega
          · omega
        · simp only [] at h2; omega
    obtain ⟨q1, q2, q3⟩ := hL k ih [] _ (by omega) h
    refine ⟨⟨by omega, q2⟩, ?_⟩
    simp only [deepE]
    rcases q3 with rfl | q3
    · simp only [deepL]; omega
    · omega
end Go.Proofs.Ytkhghgmonjebnaa.B
