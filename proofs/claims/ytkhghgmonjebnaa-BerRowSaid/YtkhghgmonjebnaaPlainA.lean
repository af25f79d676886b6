/- What is put is parsed: plain laws. Condition: the element is right. -/
import Derived.Test.YtkhghgmonjebnaaParseW
import Derived.Test.YtkhghgmonjebnaaBackP
namespace Go.Proofs.Ytkhghgmonjebnaa.B
open Go.RowKit Go.Proofs.YtkhghgmonjebnaaW.PrintWords Go.Proofs.YtkhghgmonjebnaaW.PrintLast Go.Proofs.YtkhghgmonjebnaaW.PrintMore
open Go.Proofs.Ytkhghgmonjebnaa.H Go.Proofs.Ytkhghgmonjebnaa.K
set_option linter.unusedVariables false
set_option linter.unusedSimpArgs false

theorem putLen_app (l : List Int) {n : Int} : putLen l n = l ++ putLen [] n := by
  unfold putLen
  repeat' split
  all_goals simp
/-- What stands ahead of an element's content. -/
def headE (t : S23) (n : Nat) : List Int := put [] t.f0 t.f1 t.f2 ++ putLen [] (n : Int)
theorem encE_eq (t : S23) (b : List Int) (k : List S27) : encE ⟨t, b, k⟩ = headE t (b ++ encL k).length ++ (b ++ encL k) := by simp [encE, headE]
theorem layE_eq (t : S23) (b : List Int) (k : List S27) (s : Int) : layE ⟨t, b, k⟩ s = (headE t (layL k b s).1.length ++ (layL k b s).1, max (layL k b s).2 ((headE t (layL k b s).1.length ++ (layL k b s).1).length : Int)) := by
  simp only [layE, headE]
  rw [putLen_app]

theorem lay_mono (x : S27) : ∀ s, s ≤ (layE x s).2 ∨ 16384 < (layE x s).2 := by
  refine ind (P := fun x => ∀ s, s ≤ (layE x s).2 ∨ 16384 < (layE x s).2) ?_ x
  intro t b k ih s
  have hL : ∀ (k : List S27), (∀ x ∈ k, ∀ s, s ≤ (layE x s).2 ∨ 16384 < (layE x s).2) → ∀ inn s, s ≤ (layL k inn s).2 ∨ 16384 < (layL k inn s).2 := by
    intro k
    induction k with
    | nil => intro _ inn s; simp [layL]
    | cons x k ih2 =>
      intro h inn s
      rw [layL]
      have h1 := h x (by simp) s
      split
      · rename_i hb
        have := ih2 (fun y hy => h y (by simp [hy])) [] ((inn ++ (layE x s).1).length : Int)
        omega
      · have := ih2 (fun y hy => h y (by simp [hy])) (inn ++ (layE x s).1) (layE x s).2
        omega
  have := hL k ih b s
  rw [layE_eq]
  simp only []
  omega
theorem layL_mono (k : List S27) : ∀ inn s, 16384 < s → 16384 < (layL k inn s).2 := by
  induction k with
  | nil => intro inn s h; simpa [layL] using h
  | cons x k ih =>
    intro inn s h
    rw [layL]
    have := lay_mono x s
    split
    · exact ih _ _ (by omega)
    · exact ih _ _ (by omega)
/-- Either the bytes are right, or the putter knows that they are too many. -/
theorem lay_enc (x : S27) : ∀ s, 16384 < (layE x s).2 ∨ (layE x s).1 = encE x := by
  refine ind (P := fun x => ∀ s, 16384 < (layE x s).2 ∨ (layE x s).1 = encE x) ?_ x
  intro t b k ih s
  have hL : ∀ (k : List S27), (∀ x ∈ k, ∀ s, 16384 < (layE x s).2 ∨ (layE x s).1 = encE x) → ∀ inn s, 16384 < (layL k inn s).2 ∨ (layL k inn s).1 = inn ++ encL k := by
    intro k
    induction k with
    | nil => intro _ inn s; simp [layL, encL]
    | cons x k ih2 =>
      intro h inn s
      rw [layL]
      split
      · rename_i hb
        exact .inl (layL_mono k _ _ (by omega))
      · rcases h x (by simp) s with h1 | h1
        · exact .inl (layL_mono k _ _ h1)
        · rcases ih2 (fun y hy => h y (by simp [hy])) (inn ++ (layE x s).1) (layE x s).2 with h2 | h2
          · exact .inl h2
          · refine .inr ?_
            rw [h2, h1, encL, List.append_assoc]
  rw [layE_eq, encE_eq]
  simp only []
  rcases hL k ih b s with h | h
  · exact .inl (by omega)
  · rw [h]
    exact .inr rfl
theorem lay_len (x : S27) (s : Int) : ((layE x s).1.length : Int) ≤ (layE x s).2 := by
  obtain ⟨t, b, k⟩ := x
  rw [layE_eq]
  simp only []
  omega
/-- Few bytes: the putter meets no more. -/
theorem lay_few (x : S27) : (encE x).length ≤ 16384 → ∀ s, s ≤ 16384 → (layE x s).2 ≤ 16384 := by
  refine ind (P := fun x => (encE x).length ≤ 16384 → ∀ s, s ≤ 16384 → (layE x s).2 ≤ 16384) ?_ x
  intro t b k ih hl s hs
  rw [encE_eq] at hl
  simp only [List.length_append] at hl
  have hL : ∀ (k : List S27), (∀ x ∈ k, (encE x).length ≤ 16384 → ∀ s, s ≤ 16384 → (layE x s).2 ≤ 16384) → ∀ (inn : List Int) s, s ≤ 16384 → inn.length + (encL k).length ≤ 16384 → (layL k inn s).2 ≤ 16384 ∧ (layL k inn s).1 = inn ++ encL k := by
    intro k
    induction k with
    | nil => intro _ inn s hs _; simp [layL, encL]; exact hs
    | cons x k ih2 =>
      intro h inn s hs hn
      rw [encL, List.length_append] at hn
      have h1 := h x (by simp) (by omega) s hs
      have h2 : (layE x s).1 = encE x := by
        rcases lay_enc x s with h3 | h3
        · omega
        · exact h3
      rw [layL, h2, if_neg (by rw [List.length_append]; omega)]
      have := ih2 (fun y hy => h y (by simp [hy])) (inn ++ encE x) (layE x s).2 h1 (by rw [List.length_append]; omega)
      rw [encL, ← List.append_assoc]
      exact this
  obtain ⟨h1, h2⟩ := hL k ih b s hs (by omega)
  rw [layE_eq]
  simp only []
  rw [h2]
  simp only [List.length_append]
  omega
/-- What Put answers. -/
theorem putR_eq (x : S27) : putR x = if rightE x = false then ([], 2) else if 24 < deepE x then ([], 15) else if 16384 < (encE x).length then ([], 3) else (encE x, 0) := by
  unfold putR
  split
  · rfl
  · split
    · rfl
    · by_cases h : 16384 < (encE x).length
      · rw [if_pos h, if_pos]
        rcases lay_enc x 0 with h1 | h1
        · exact h1
        · have := lay_len x 0
          rw [h1] at this
          omega
      · have h1 := lay_few x (by omega) 0 (by omega)
        rw [if_neg h, if_neg (by omega)]
        rcases lay_enc x 0 with h2 | h2
        · omega
        · rw [h2]

theorem okb_app {a b : List Int} (h : okb a = true) (k : okb b = true) : okb (a ++ b) = true := by
  unfold okb at *
  rw [List.all_append, h, k]; rfl
theorem okb_nil : okb [] = true := rfl
theorem head_okb {t : S23} {n : Nat} (hn : n < 2147483648) : okb (headE t n) = true := okb_app (put_okb [] okb_nil) (putLen_okb (by omega))
theorem enc_okb (x : S27) : fitE x → (encE x).length < 2147483648 → okb (encE x) = true := by
  refine ind (P := fun x => fitE x → (encE x).length < 2147483648 → okb (encE x) = true) ?_ x
  intro t b k ih hf hl
  simp only [fitE] at hf
  rw [encE_eq] at hl ⊢
  simp only [List.length_append] at hl
  have hL : ∀ (k : List S27), (∀ x ∈ k, fitE x → (encE x).length < 2147483648 → okb (encE x) = true) → fitL k → (encL k).length < 2147483648 → okb (encL k) = true := by
    intro k
    induction k with
    | nil => intro _ _ _; rfl
    | cons x k ih2 =>
      intro h hf hl
      simp only [fitL] at hf
      rw [encL, List.length_append] at hl
      rw [encL]
      exact okb_app (h x (by simp) hf.1 (by omega)) (ih2 (fun y hy => h y (by simp [hy])) hf.2 (by omega))
  exact okb_app (head_okb (by simp; omega)) (okb_app hf.1 (hL k ih hf.2.2.2 (by omega)))

/-- The beginning of what is put. -/
theorem begin_head {t : S23} {n : Nat} (hr : right t.f0 t.f2 = true) (hn : (headE t n).length + n ≤ 16384) (behind : List Int) :
    begin6 (headE t n ++ behind) = ((t.f0, t.f1, t.f2, ((headE t n).length : Int), ((headE t n).length : Int) + n), 0) := by
  have h1 : read5 (headE t n ++ behind) = (t.f0, t.f1, t.f2, ((put [] t.f0 t.f1 t.f2).length : Int), 0) := by
    unfold headE
    rw [List.append_assoc]
    exact read_put hr _
  have h2 : (headE t n ++ behind).drop (put [] t.f0 t.f1 t.f2).length = putLen [] (n : Int) ++ behind := by
    unfold headE
    rw [List.append_assoc, List.drop_left]
  have h3 := len_put (n := (n : Int)) (by omega) (by omega) behind
  have hh : ((headE t n).length : Int) = ((put [] t.f0 t.f1 t.f2).length : Int) + ((putLen [] (n : Int)).length : Int) := by
    unfold headE
    rw [List.length_append]
    omega
  unfold begin6
  rw [h1]
  simp only [Int.toNat_natCast]
  rw [h2, h3]
  simp only []
  rw [if_neg (by simp), if_neg (by simp), if_neg (by omega), hh]
theorem head_pos (t : S23) (n : Nat) (hr : right t.f0 t.f2 = true) : 2 ≤ (headE t n).length := by
  have h1 : 1 ≤ (put [] t.f0 t.f1 t.f2).length := by
    unfold put
    rw [if_pos hr]
    split
    · simp
    · first | (simp; done) | (simp; omega)
  have h2 : 1 ≤ (putLen [] (n : Int)).length := by
    unfold putLen
    rw [if_neg (by omega)]
    split
    · simp
    · first | (simp; done) | (simp; omega)
  unfold headE
  rw [List.length_append]
  omega
theorem cont_head {t : S23} {n : Nat} {c behind : List Int} (hr : right t.f0 t.f2 = true) (hn : (headE t n).length + n ≤ 16384) (hc : c.length = n) : cont (headE t n ++ (c ++ behind)) = c := by
  unfold cont
  rw [begin_head hr hn]
  simp only []
  rw [show (((headE t n).length : Int) + n).toNat = (headE t n).length + n by omega, Int.toNat_natCast, List.drop_take, List.drop_left]
  rw [show (headE t n).length + n - (headE t n).length = n by omega, ← hc, List.take_left]

theorem right_mk {t : S23} {b : List Int} {k : List S27} (h : rightE ⟨t, b, k⟩ = true) : right t.f0 t.f2 = true ∧ (t.f1 = false → k = []) ∧ (t.f1 = true → b = []) ∧ rightL k = true := by
  simp only [rightE, Bool.and_eq_true, Bool.or_eq_true, Bool.not_eq_true'] at h
  obtain ⟨⟨⟨h1, h2⟩, h3⟩, h4⟩ := h
  refine ⟨h1, fun hm => ?_, fun hm => ?_, h4⟩
  · rcases h2 with h2 | h2
    · rw [hm] at h2; cases h2
    · exact List.isEmpty_iff.1 h2
  · rcases h3 with h3 | h3
    · rw [hm] at h3; cases h3
    · exact List.isEmpty_iff.1 h3

/-- An element that is put is parsed as it was. -/
theorem back (x : S27) : ∀ (f d : Nat) (behind : List Int), rightE x = true → (encE x).length ≤ 16384 → d + deepE x ≤ 24 → (encE x).length ≤ f → (begin6 (encE x ++ behind)).2 = 0 ∧ (begin6 (encE x ++ behind)).1.2.2.2.2 = ((encE x).length : Int) ∧ elemF f d (encE x ++ behind) = .ok x := by
  refine ind (P := fun x => ∀ (f d : Nat) (behind : List Int), rightE x = true → (encE x).length ≤ 16384 → d + deepE x ≤ 24 → (encE x).length ≤ f → (begin6 (encE x ++ behind)).2 = 0 ∧ (begin6 (encE x ++ behind)).1.2.2.2.2 = ((encE x).length : Int) ∧ elemF f d (encE x ++ behind) = .ok x) ?_ x
  intro t b k ih f d behind hr hl hd hf
  obtain ⟨h1, h2, h3, h4⟩ := right_mk hr
  rw [encE_eq] at hl hf ⊢
  simp only [List.length_append] at hl hf
  have hn : (headE t (b ++ encL k).length).length + (b ++ encL k).length ≤ 16384 := by simp only [List.length_append]; omega
  have hp := head_pos t (b ++ encL k).length h1
  have hb := begin_head h1 hn ((b ++ encL k) ++ behind)
  have hc := cont_head (c := b ++ encL k) (behind := behind) h1 hn rfl
  rw [List.append_assoc]
  refine ⟨by rw [hb], by rw [hb]; simp only [List.length_append]; omega, ?_⟩
  unfold elemF mkE
  rw [hb, hc]
  simp only []
  simp only [deepE] at hd
  cases hm : t.f1
  · rw [h2 hm]
    simp only [Bool.false_eq_true, if_false, encL, List.append_nil]
    obtain ⟨t0, t1, t2⟩ := t
    simp only [] at hm
    subst hm
    rfl
  · have hb0 := h3 hm
    subst hb0
    simp only [if_true, List.nil_append]
    simp only [List.nil_append, List.length_nil, Nat.zero_add] at hp hf hl
    have hL : ∀ (k : List S27), (∀ x ∈ k, ∀ (f d : Nat) (behind : List Int), rightE x = true → (encE x).length ≤ 16384 → d + deepE x ≤ 24 → (encE x).length ≤ f → (begin6 (encE x ++ behind)).2 = 0 ∧ (begin6 (encE x ++ behind)).1.2.2.2.2 = ((encE x).length : Int) ∧ elemF f d (encE x ++ behind) = .ok x) →
        rightL k = true → (encL k).length ≤ 16384 → ∀ (f d : Nat), d + deepL k ≤ 24 → (encL k).length < f → kidsF f d (encL k) = .ok k := by
      intro k
      induction k with
      | nil =>
        intro _ _ _ f d _ hf
        cases f with
        | zero => omega
        | succ f => exact kidsF_nil f d _ rfl
      | cons x k ih2 =>
        intro h hr hl f d hd hf
        simp only [rightL, Bool.and_eq_true] at hr
        simp only [encL, List.length_append] at hl hf
        simp only [deepL] at hd
        cases f with
        | zero => omega
        | succ f =>
          have hpos : 2 ≤ (encE x).length := by
            obtain ⟨t, b, k'⟩ := x
            rw [encE_eq, List.length_append]
            have := head_pos t (b ++ encL k').length (right_mk hr.1).1
            omega
          have hdx := deepE_pos x
          obtain ⟨e1, e2, e3⟩ := h x (by simp) f d (encL k) hr.1 (by omega) (by omega) (by omega)
          have hs := kidsF_step (f := f) (d := d) (l := encE x ++ encL k) (by rw [List.length_append]; omega) (by omega) (by rintro (g | g); exact g e1; rw [e2, List.length_append] at g; omega) e3 []
          rw [e2, Int.toNat_natCast, List.drop_left, ih2 (fun y hy => h y (by simp [hy])) hr.2 (by omega) f d (by omega) (by omega)] at hs
          rw [encL]
          cases hk : kidsF (f + 1) d (encE x ++ encL k) with
          | error e => rw [hk] at hs; simp [joinF] at hs
          | ok r => rw [hk] at hs; simpa [joinF] using hs
    rw [hL k ih h4 (by omega) f (d + 1) (by omega) (by omega)]
    obtain ⟨t0, t1, t2⟩ := t
    simp only [] at hm
    subst hm
    rfl
theorem same_refl (x : S27) : sameE x x = true := by
  refine ind (P := fun x => sameE x x = true) ?_ x
  intro t b k ih
  have hL : ∀ k : List S27, (∀ x ∈ k, sameE x x = true) → sameL k k = true := by
    intro k
    induction k with
    | nil => intro _; rfl
    | cons x k ih2 => intro h; simp only [sameL, h x (by simp), ih2 (fun y hy => h y (by simp [hy])), Bool.and_self]
  simp [sameE, hL k ih]
theorem parse_back {x : S27} {behind : List Int} (hr : rightE x = true) (hl : (encE x).length ≤ 16384) (hd : deepE x ≤ 24) : parseF (encE x ++ behind) = .ok (x, ((encE x).length : Int)) := by
  obtain ⟨e1, e2, e3⟩ := back x ((encE x ++ behind).length + 1) 0 behind hr hl (by omega) (by simp; omega)
  unfold parseF
  rw [if_neg (by rw [e1]; simp), e2, if_neg (by simp; omega), e3]
end Go.Proofs.Ytkhghgmonjebnaa.B
