/- What is parsed of any bytes is right, and is put in at most as many: plain laws. Condition: bytes. -/
import Derived.Test.YtkhghgmonjebnaaPlainA
namespace Go.Proofs.Ytkhghgmonjebnaa.B
open Go.RowKit Go.Proofs.YtkhghgmonjebnaaW.PrintWords Go.Proofs.YtkhghgmonjebnaaW.PrintLast Go.Proofs.YtkhghgmonjebnaaW.PrintMore
open Go.Proofs.Ytkhghgmonjebnaa.H Go.Proofs.Ytkhghgmonjebnaa.K
set_option linter.unusedVariables false
set_option linter.unusedSimpArgs false

theorem seven_val (l : List Int) : ∀ (acc : Int) (i : Nat), okb l = true → i ≤ 4 → 0 ≤ acc → acc < 128 ^ i → (seven acc i l).2.2 = 0 →
    ∃ m : Nat, (seven acc i l).2.1 = m ∧ i < m ∧ m ≤ 4 ∧ 0 ≤ (seven acc i l).1 ∧ (seven acc i l).1 < 128 ^ m := by
  induction l with
  | nil => intro acc i _ _ _ _ h; simp only [seven] at h; split at h <;> cases h
  | cons c l ih =>
    intro acc i hb hi h0 h1 h
    simp only [seven] at h ⊢
    have hc := okb_mem hb (x := c) (by simp)
    split
    · rename_i h2
      rw [if_pos h2] at h
      cases h
    · rename_i h2
      rw [if_neg h2] at h
      have hp : (128 : Int) ^ (i + 1) = 128 ^ i * 128 := Int.pow_succ ..
      generalize hP : (128 : Int) ^ i = P at *
      split
      · exact ⟨i + 1, by simp, by omega, by omega, by simp only []; omega, by rw [hp]; simp only []; omega⟩
      · rename_i h3
        rw [if_neg h3] at h
        exact (ih (acc * 128 + c % 128) (i + 1) (okb_sub hb fun x hx => by simp [hx]) (by omega) (by omega) (by rw [hp]; omega) h).imp fun m hm => ⟨hm.1, by omega, hm.2.2⟩
theorem m7_le {n : Int} {m : Nat} (hm : 1 ≤ m) (hm4 : m ≤ 4) (h : n < 128 ^ m) : m7 n + 1 ≤ m := by
  rcases (by omega : m = 1 ∨ m = 2 ∨ m = 3 ∨ m = 4) with rfl | rfl | rfl | rfl
  all_goals
    simp only [Int.reducePow] at h
    unfold m7
    repeat' split
    all_goals omega
theorem min_tag {l : List Int} (hb : okb l = true) (h : (read5 l).2.2.2.2 = 0) : right (read5 l).1 (read5 l).2.2.1 = true ∧ ((put [] (read5 l).1 (read5 l).2.1 (read5 l).2.2.1).length : Int) ≤ (read5 l).2.2.2.1 := by
  have hr := okb_at hb 0
  unfold read5 at h ⊢
  split
  · rename_i h0
    rw [if_pos h0] at h
    cases h
  · rename_i h0
    rw [if_neg h0] at h
    split
    · rename_i h1
      have hright : right (rd l 0 / 64) (rd l 0 % 32) = true := by simp [right]; omega
      refine ⟨hright, ?_⟩
      unfold put
      rw [if_pos hright, if_pos h1]
      simp
    · rename_i h1
      rw [if_neg h1] at h
      split
      · rename_i h2
        obtain ⟨m, e, q0, q1, q2, q3⟩ := seven_val (l.drop 1) 0 0 (okb_drop hb 1) (by omega) (by omega) (by decide) h2
        generalize seven 0 0 (l.drop 1) = sv at *
        have h4 : (128 : Int) ^ m ≤ 268435456 := by
          rcases (by omega : m = 1 ∨ m = 2 ∨ m = 3 ∨ m = 4) with rfl | rfl | rfl | rfl <;> decide
        have hright : right (rd l 0 / 64) sv.1 = true := by simp [right]; omega
        refine ⟨hright, ?_⟩
        have h7 := m7_le (by omega) q1 q3
        show ((put [] (rd l 0 / 64) _ sv.1).length : Int) ≤ 1 + sv.2.1
        rw [e]
        unfold put
        rw [if_pos hright]
        split
        · simp; omega
        · simp [grp7_length]; omega
      · rename_i h2
        rw [if_neg h2] at h
        exact absurd h h2
theorem m8_le {n : Int} {k : Nat} (hk : 1 ≤ k) (hk4 : k ≤ 4) (h : n < 256 ^ k) : m8 n + 1 ≤ k := by
  rcases (by omega : k = 1 ∨ k = 2 ∨ k = 3 ∨ k = 4) with rfl | rfl | rfl | rfl
  all_goals
    simp only [Int.reducePow] at h
    unfold m8
    repeat' split
    all_goals omega
theorem min_len {l : List Int} (hb : okb l = true) (h : (len3 l).2.2 = 0) (n : Int) (h0 : 0 ≤ n) (h1 : n ≤ (len3 l).1) : ((putLen [] n).length : Int) ≤ (len3 l).2.1 := by
  have hr := okb_at hb 0
  have hs : n < 128 → (putLen [] n).length = 1 := fun hn => by
    unfold putLen
    rw [if_neg (by omega), if_pos hn]
    rfl
  unfold len3 at h h1 ⊢
  split
  · rename_i a0
    rw [if_pos a0] at h
    cases h
  · rename_i a0
    rw [if_neg a0] at h h1
    split
    · rename_i a1
      rw [if_pos a1] at h1
      simp only [] at h1
      rw [hs (by omega)]
      simp
    · rename_i a1
      rw [if_neg a1] at h h1
      split
      · rename_i a2
        rw [if_pos a2] at h
        cases h
      · rename_i a2
        rw [if_neg a2] at h h1
        split
        · rename_i a3
          rw [if_pos a3] at h
          cases h
        · rename_i a3
          rw [if_neg a3] at h h1
          split
          · rename_i a4
            rw [if_pos a4] at h
            cases h
          · rename_i a4
            rw [if_neg a4] at h h1
            split
            · rename_i a5
              rw [if_pos a5] at h
              cases h
            · rename_i a5
              rw [if_neg a5] at h1
              have hbg := big_range (okb_drop (okb_take hb (1 + (rd l 0 - 128)).toNat) 1)
              have hly : ((l.take (1 + (rd l 0 - 128)).toNat).drop 1).length = (rd l 0 - 128).toNat := by
                rw [List.length_drop, List.length_take]
                omega
              rw [hly] at hbg
              show ((putLen [] n).length : Int) ≤ 1 + (rd l 0 - 128)
              have h1' : n ≤ big ((l.take (1 + (rd l 0 - 128)).toNat).drop 1) := h1
              generalize big ((l.take (1 + (rd l 0 - 128)).toNat).drop 1) = g at *
              by_cases hn : n < 128
              · rw [hs hn]; omega
              · have hm := m8_le (n := n) (k := (rd l 0 - 128).toNat) (by omega) (by omega) (by omega)
                unfold putLen
                rw [if_neg (by omega), if_neg hn]
                simp [grp8_len]
                omega

/-- A beginning that is read needs no fewer bytes than one that is put. -/
theorem min_head {l : List Int} (hb : okb l = true) (h : (begin6 l).2 = 0) : right (begin6 l).1.1 (begin6 l).1.2.2.1 = true ∧ ∀ n : Nat, (begin6 l).1.2.2.2.1 + n ≤ (begin6 l).1.2.2.2.2 → ((headE ⟨(begin6 l).1.1, (begin6 l).1.2.1, (begin6 l).1.2.2.1⟩ n).length : Int) ≤ (begin6 l).1.2.2.2.1 := by
  unfold begin6 at h ⊢
  split
  · rename_i h1
    rw [if_pos h1] at h
    exact absurd h h1
  · rename_i h1
    rw [if_neg h1] at h
    have h1 : (read5 l).2.2.2.2 = 0 := by simpa using h1
    have ht := min_tag hb h1
    split
    · rename_i h2
      rw [if_pos h2] at h
      exact absurd h h2
    · rename_i h2
      rw [if_neg h2] at h
      have h2 : (len3 (l.drop (read5 l).2.2.2.1.toNat)).2.2 = 0 := by simpa using h2
      split
      · rename_i h3
        rw [if_pos h3] at h
        cases h
      · refine ⟨ht.1, fun n hn => ?_⟩
        simp only [] at hn ⊢
        have hl := min_len (okb_drop hb _) h2 (n : Int) (by omega) (by omega)
        unfold headE
        rw [List.length_append]
        simp only []
        have := ht.2
        omega

/-- What is known of an element that was parsed. -/
structure Good (x : S27) (n d : Nat) : Prop where
  right : rightE x = true
  few : (encE x).length ≤ n
  deep : d + deepE x ≤ 24
  fit : fitE x
  thin : thinE x
theorem good_mk {l : List Int} {d : Nat} {ks : List S27} (hb : okb l = true) (h : (begin6 l).2 = 0) (ha : (begin6 l).1.2.2.2.2 ≤ l.length) (hd : d < 24)
    (hk : (begin6 l).1.2.1 = false → ks = []) (k1 : rightL ks = true) (k2 : (encL ks).length ≤ (cont l).length) (k3 : ks = [] ∨ d + 1 + deepL ks ≤ 24) (k4 : fitL ks) (k5 : thinL ks) (k6 : ks.length ≤ (cont l).length) : Good (mkE l ks) (begin6 l).1.2.2.2.2.toNat d := by
  obtain ⟨a0, a1, a2, a3⟩ := begin_ok hb h
  obtain ⟨b0, b1⟩ := min_head hb h
  have hcl := cont_len l
  have hlen : ((if (begin6 l).1.2.1 then [] else cont l) ++ encL ks).length ≤ (cont l).length := by
    cases hm : (begin6 l).1.2.1
    · rw [hk hm]; simp [encL]
    · simpa using k2
  have hbl : (if (begin6 l).1.2.1 then [] else cont l).length ≤ (cont l).length := by split <;> simp
  refine ⟨?_, ?_, ?_, ?_, ?_⟩
  · simp only [mkE, rightE, b0, k1, Bool.and_true, Bool.true_and, Bool.and_eq_true, Bool.or_eq_true, Bool.not_eq_true']
    refine ⟨?_, ?_⟩
    · cases hm : (begin6 l).1.2.1
      · rw [hk hm]; simp
      · simp
    · cases hm : (begin6 l).1.2.1 <;> simp
  · unfold mkE
    rw [encE_eq, List.length_append]
    have := b1 _ (show (begin6 l).1.2.2.2.1 + ((((if (begin6 l).1.2.1 then [] else cont l) ++ encL ks).length : Nat) : Int) ≤ (begin6 l).1.2.2.2.2 by omega)
    omega
  · simp only [mkE, deepE]
    rcases k3 with rfl | k3
    · simp [deepL]; omega
    · omega
  · simp only [mkE, fitE]
    refine ⟨?_, by omega, by omega, k4⟩
    split
    · rfl
    · exact cont_ok hb
  · simp only [mkE, thinE]
    exact ⟨by omega, k5⟩
theorem good_kids : ∀ (f d : Nat) (l : List Int) (ks : List S27), okb l = true → l.length ≤ 1000000000 → kidsF f d l = .ok ks → rightL ks = true ∧ (encL ks).length ≤ l.length ∧ (ks = [] ∨ d + deepL ks ≤ 24) ∧ fitL ks ∧ thinL ks ∧ ks.length ≤ l.length := by
  intro f
  induction f with
  | zero => intro d l ks _ _ h; simp [kidsF] at h
  | succ f ih =>
    intro d l ks hb hl h
    rw [kidsF] at h
    split at h
    · injection h with h
      subst h
      simp [rightL, encL, fitL, thinL]
    · split at h
      · cases h
      · split at h
        · cases h
        · rename_i h0 h1 h2
          have h3 : (begin6 l).2 = 0 := by
            by_cases h4 : (begin6 l).2 = 0
            · exact h4
            · exact absurd (Or.inl h4) h2
          have h5 : (begin6 l).1.2.2.2.2 ≤ l.length := by
            by_cases h4 : (begin6 l).1.2.2.2.2 ≤ l.length
            · exact h4
            · exact absurd (Or.inr (by omega)) h2
          obtain ⟨a0, a1, a2, a3⟩ := begin_ok hb h3
          have hcl := cont_len l
          split at h
          · cases h
          · rename_i k1 hk1
            split at h
            · cases h
            · rename_i r hr
              injection h with h
              subst h
              obtain ⟨r1, r2, r3, r4, r5, r6⟩ := ih _ _ _ (okb_drop hb _) (by rw [List.length_drop]; omega) hr
              rw [List.length_drop] at r2 r6
              have hg : Good (mkE l k1) (begin6 l).1.2.2.2.2.toNat d := by
                split at hk1
                · rename_i hm
                  obtain ⟨q1, q2, q3, q4, q5, q6⟩ := ih _ _ _ (cont_ok hb) (by omega) hk1
                  exact good_mk hb h3 h5 (by omega) (fun hf => by rw [hm] at hf; cases hf) q1 q2 q3 q4 q5 q6
                · injection hk1 with hk1
                  subst hk1
                  exact good_mk hb h3 h5 (by omega) (fun _ => rfl) rfl (by simp [encL]) (.inl rfl) (by simp [fitL]) (by simp [thinL]) (by simp)
              refine ⟨?_, ?_, ?_, ?_, ?_, ?_⟩
              · simp only [rightL, hg.right, r1, Bool.and_self]
              · simp only [encL, List.length_append]
                have := hg.few
                omega
              · refine .inr ?_
                simp only [deepL]
                have := hg.deep
                rcases r3 with rfl | r3
                · simp [deepL]; omega
                · omega
              · simp only [fitL]; exact ⟨hg.fit, r4⟩
              · simp only [thinL]; exact ⟨hg.thin, r5⟩
              · simp only [List.length_cons]; omega
theorem good_parse {l : List Int} {x : S27} {n : Int} (hb : okb l = true) (hl : l.length ≤ 1000000000) (h : parseF l = .ok (x, n)) : Good x n.toNat 0 ∧ 0 ≤ n ∧ n ≤ l.length ∧ n ≤ 16384 := by
  unfold parseF at h
  split at h
  · cases h
  · rename_i h1
    have h1 : (begin6 l).2 = 0 := by simpa using h1
    obtain ⟨a0, a1, a2, a3⟩ := begin_ok hb h1
    split at h
    · cases h
    · rename_i h2
      split at h
      · cases h
      · rename_i y hy
        injection h with h
        injection h with hx hn
        subst hx hn
        refine ⟨?_, by omega, by omega, by omega⟩
        unfold elemF at hy
        split at hy
        · cases hy
        · rename_i k1 hk1
          injection hy with hy
          subst hy
          split at hk1
          · rename_i hm
            obtain ⟨q1, q2, q3, q4, q5, q6⟩ := good_kids _ _ _ _ (cont_ok hb) (by rw [cont_len]; omega) hk1
            exact good_mk hb h1 (by omega) (by omega) (fun hf => by rw [hm] at hf; cases hf) q1 q2 q3 q4 q5 q6
          · injection hk1 with hk1
            subst hk1
            exact good_mk hb h1 (by omega) (by omega) (fun _ => rfl) rfl (by simp [encL]) (.inl rfl) (by simp [fitL]) (by simp [thinL]) (by simp)
end Go.Proofs.Ytkhghgmonjebnaa.B
