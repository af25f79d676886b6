/- What was put is read back, and its beginnings are not: over lists of bytes. -/
import Derived.Test.YtkhghgmonjebnaaHand
import Derived.Test.YtkhghgmonjebnaaHand2
namespace Go.Proofs.Ytkhghgmonjebnaa.H
open Go.RowKit Go.Proofs.YtkhghgmonjebnaaW.PrintWords Go.Proofs.YtkhghgmonjebnaaW.PrintLast Go.Proofs.YtkhghgmonjebnaaW.PrintMore
set_option linter.unusedVariables false
set_option linter.unusedSimpArgs false

theorem p7 (m : Nat) : (2 : Int) ^ (7 * (m + 1)) = 2 ^ (7 * m) * 128 := by
  rw [show 7 * (m + 1) = 7 * m + 7 by omega, Int.pow_add]; rfl
theorem p8 (m : Nat) : (2 : Int) ^ (8 * (m + 1)) = 2 ^ (8 * m) * 256 := by
  rw [show 8 * (m + 1) = 8 * m + 8 by omega, Int.pow_add]; rfl
theorem split_mod (n D b : Int) (hD : 0 < D) (hb : 0 < b) : n % (D * b) = (n / D % b) * D + n % D := by
  have h1 := Int.mul_ediv_add_emod n D
  have h2 := Int.mul_ediv_add_emod (n / D) b
  have h3 : n = D * b * (n / D / b) + ((n / D % b) * D + n % D) := by
    calc n = D * (n / D) + n % D := h1.symm
      _ = D * (b * (n / D / b) + n / D % b) + n % D := by rw [h2]
      _ = _ := by rw [Int.mul_add, Int.mul_assoc, Int.mul_comm D (n / D % b), Int.add_assoc]
  have hr0 : 0 ≤ (n / D % b) * D + n % D := Int.add_nonneg (Int.mul_nonneg (Int.emod_nonneg _ (by omega)) (by omega)) (Int.emod_nonneg _ (by omega))
  have hr1 : (n / D % b) * D + n % D < D * b := by
    have a1 : n / D % b ≤ b - 1 := by have := Int.emod_lt_of_pos (n / D) hb; omega
    have a2 : n % D < D := Int.emod_lt_of_pos n hD
    have a3 : (n / D % b) * D ≤ (b - 1) * D := Int.mul_le_mul_of_nonneg_right a1 (by omega)
    rw [Int.sub_mul, Int.one_mul, Int.mul_comm b D] at a3
    omega
  conv => lhs; rw [h3]
  rw [Int.mul_add_emod_self_left, Int.emod_eq_of_lt hr0 hr1]

theorem seven_grp {n : Int} (h0 : 31 ≤ n) (behind : List Int) : ∀ (m i : Nat) (acc : Int), i + m ≤ 3 → (i = 0 → 1 ≤ n / 2 ^ (7 * m) ∧ n / 2 ^ (7 * m) < 128) →
    seven acc i (grp7 n m ++ behind) = (acc * 2 ^ (7 * (m + 1)) + n % 2 ^ (7 * (m + 1)), (i : Int) + m + 1, 0) := by
  intro m
  induction m with
  | zero =>
    intro i acc hi hf
    simp only [grp7, List.cons_append, List.nil_append, seven]
    have e : n / 2 ^ (7 * 0) = n := by show n / 1 = n; exact Int.ediv_one n
    rw [e] at hf ⊢
    rw [if_neg (by omega), if_pos (by omega)]
    have e2 : (2 : Int) ^ (7 * (0 + 1)) = 128 := rfl
    rw [e2]
    simp
  | succ m ih =>
    intro i acc hi hf
    simp only [grp7, List.cons_append, seven]
    have hq : 0 ≤ n / 2 ^ (7 * (m + 1)) % 128 ∧ n / 2 ^ (7 * (m + 1)) % 128 < 128 := by omega
    rw [if_neg (by omega), if_neg (by omega), ih (i + 1) _ (by omega) (by omega)]
    have e : (n / 2 ^ (7 * (m + 1)) % 128 + 128) % 128 = n / 2 ^ (7 * (m + 1)) % 128 := by omega
    rw [e, p7 (m + 1), split_mod n (2 ^ (7 * (m + 1))) 128 (Int.pow_pos (by decide)) (by decide)]
    generalize n / 2 ^ (7 * (m + 1)) % 128 = q at *
    generalize (2 : Int) ^ (7 * (m + 1)) = D at *
    simp only [Prod.mk.injEq, and_true]
    refine ⟨?_, by omega⟩
    rw [Int.add_mul, Int.mul_assoc, Int.mul_comm 128 D, Int.add_assoc]

theorem seven_cut {n : Int} (h0 : 31 ≤ n) : ∀ (m i : Nat) (acc : Int), i + m ≤ 3 → (i = 0 → 1 ≤ n / 2 ^ (7 * m) ∧ n / 2 ^ (7 * m) < 128) →
    seven acc i ((grp7 n m).take m) = (0, 0, 10) := by
  intro m
  induction m with
  | zero =>
    intro i acc hi _
    rw [List.take_zero]
    simp only [seven]
    rw [if_neg (by omega)]
  | succ m ih =>
    intro i acc hi hf
    simp only [grp7, List.take_succ_cons, seven]
    have hq : 0 ≤ n / 2 ^ (7 * (m + 1)) % 128 ∧ n / 2 ^ (7 * (m + 1)) % 128 < 128 := by omega
    rw [if_neg (by omega), if_neg (by omega)]
    exact ih (i + 1) _ (by omega) (by omega)

theorem grp7_length (n : Int) (m : Nat) : (grp7 n m).length = m + 1 := by
  induction m with
  | zero => rfl
  | succ m ih => simp [grp7, ih]
theorem m7_first {n : Int} (h0 : 31 ≤ n) (h1 : n < 268435456) : 1 ≤ n / 2 ^ (7 * m7 n) ∧ n / 2 ^ (7 * m7 n) < 128 := by
  refine ⟨?_, m7_top h1⟩
  unfold m7
  repeat' split
  all_goals simp only [Nat.mul_zero, Nat.mul_one, Nat.reduceMul, Int.reducePow]; omega
theorem m7_whole {n : Int} (h0 : 0 ≤ n) (h1 : n < 268435456) : n % 2 ^ (7 * (m7 n + 1)) = n := by
  have h := m7_top h1
  have hp : (0 : Int) < 2 ^ (7 * m7 n) := Int.pow_pos (by decide)
  refine Int.emod_eq_of_lt h0 ?_
  rw [p7]
  generalize (2 : Int) ^ (7 * m7 n) = D at *
  have := Int.lt_ediv_add_one_mul_self n hp
  have h2 : (n / D + 1) * D ≤ 128 * D := Int.mul_le_mul_of_nonneg_right (by omega) (by omega)
  rw [Int.mul_comm D 128]
  omega

theorem rd_cons (x : Int) (l : List Int) : rd (x :: l) 0 = x := by simp [rd]

theorem right_iff {cl nn : Int} (h : right cl nn = true) : 0 ≤ cl ∧ cl ≤ 3 ∧ 0 ≤ nn ∧ nn ≤ 268435455 := by
  simp [right] at h; omega
theorem mdi (md : Bool) : (if md then (32 : Int) else 0) = 0 ∧ md = false ∨ (if md then (32 : Int) else 0) = 32 ∧ md = true := by cases md <;> simp

theorem read_put {cl nn : Int} {md : Bool} (h : right cl nn = true) (behind : List Int) : read5 (put [] cl md nn ++ behind) = (cl, md, nn, ((put [] cl md nn).length : Int), 0) := by
  obtain ⟨a0, a1, a2, a3⟩ := right_iff h
  unfold put
  rw [if_pos h]
  by_cases hn : nn < 31
  · rw [if_pos hn]
    simp only [List.nil_append, List.cons_append]
    unfold read5
    rw [if_neg (by simp)]
    rw [rd_cons]
    rcases mdi md with ⟨e, rfl⟩ | ⟨e, rfl⟩
    all_goals
      rw [e, if_pos (by omega)]
      simp
      omega
  · rw [if_neg hn]
    simp only [List.nil_append, List.cons_append, List.append_assoc]
    unfold read5
    rw [if_neg (by simp), rd_cons]
    simp only [List.drop_succ_cons, List.drop_zero]
    rw [seven_grp (by omega) behind (m7 nn) 0 0 (by have := m7_most nn; omega) (fun _ => m7_first (by omega) (by omega)), m7_whole a2 (by omega)]
    simp only [if_true]
    have hl := grp7_length nn (m7 nn)
    rcases mdi md with ⟨e, rfl⟩ | ⟨e, rfl⟩
    all_goals
      rw [e, if_neg (by omega)]
      simp [hl]
      omega

theorem read_cut {cl nn : Int} {md : Bool} (h : right cl nn = true) : (read5 ((put [] cl md nn).take ((put [] cl md nn).length - 1))).2.2.2.2 = 10 := by
  obtain ⟨a0, a1, a2, a3⟩ := right_iff h
  unfold put
  rw [if_pos h]
  by_cases hn : nn < 31
  · rw [if_pos hn]
    simp [read5]
  · rw [if_neg hn]
    have hl := grp7_length nn (m7 nn)
    simp only [List.nil_append, List.cons_append, List.length_cons, hl, Nat.add_sub_cancel, List.take_succ_cons]
    unfold read5
    rw [if_neg (by simp), rd_cons]
    simp only [List.drop_succ_cons, List.drop_zero]
    rw [seven_cut (by omega) (m7 nn) 0 0 (by have := m7_most nn; omega) (fun _ => m7_first (by omega) (by omega))]
    rcases mdi md with ⟨e, rfl⟩ | ⟨e, rfl⟩
    all_goals
      rw [e, if_neg (by omega)]
      simp
theorem put_okb {cl nn : Int} {md : Bool} (l : List Int) (hl : okb l = true) : okb (put l cl md nn) = true := by
  have hg : ∀ m, okb (grp7 nn m) = true := by
    intro m
    induction m with
    | zero => simp only [grp7, okb, List.all_cons, List.all_nil, Bool.and_true, Bool.and_eq_true, decide_eq_true_eq]; omega
    | succ m ih => simp only [grp7, okb, List.all_cons, Bool.and_eq_true, decide_eq_true_eq] at ih ⊢; exact ⟨by omega, ih⟩
  unfold put
  by_cases h : right cl nn = true
  · rw [if_pos h]
    obtain ⟨a0, a1, a2, a3⟩ := right_iff h
    have hk : ∀ a b : List Int, okb a = true → okb b = true → okb (a ++ b) = true := by
      intro a b ha hb
      unfold okb at *
      rw [List.all_append, ha, hb]; rfl
    have h1 : ∀ x : Int, 0 ≤ x → x ≤ 255 → okb [x] = true := by intro x h0 h1; simp [okb, h0, h1]
    split
    · refine hk _ _ hl (h1 _ ?_ ?_) <;> rcases mdi md with ⟨e, _⟩ | ⟨e, _⟩ <;> rw [e] <;> omega
    · refine hk _ _ (hk _ _ hl (h1 _ ?_ ?_)) (hg _) <;> rcases mdi md with ⟨e, _⟩ | ⟨e, _⟩ <;> rw [e] <;> omega
  · rw [if_neg h]; exact hl

theorem big_grp (n : Int) : ∀ (m : Nat) (a : Int), (grp8 n m).foldl (fun n c => n * 256 + c) a = a * 2 ^ (8 * (m + 1)) + n % 2 ^ (8 * (m + 1)) := by
  intro m
  induction m with
  | zero =>
    intro a
    have e : n / 2 ^ (8 * 0) = n := by show n / 1 = n; exact Int.ediv_one n
    simp only [grp8, List.foldl_cons, List.foldl_nil, e]
    rfl
  | succ m ih =>
    intro a
    simp only [grp8, List.foldl_cons]
    rw [ih, p8 (m + 1), split_mod n (2 ^ (8 * (m + 1))) 256 (Int.pow_pos (by decide)) (by decide)]
    generalize n / 2 ^ (8 * (m + 1)) % 256 = q at *
    generalize (2 : Int) ^ (8 * (m + 1)) = D at *
    rw [Int.add_mul, Int.mul_assoc, Int.mul_comm 256 D, Int.add_assoc]
theorem m8_whole {n : Int} (h0 : 0 ≤ n) (h1 : n < 9223372036854775808) : n % 2 ^ (8 * (m8 n + 1)) = n := by
  have h := m8_top h1
  have hp : (0 : Int) < 2 ^ (8 * m8 n) := Int.pow_pos (by decide)
  refine Int.emod_eq_of_lt h0 ?_
  rw [p8]
  generalize (2 : Int) ^ (8 * m8 n) = D at *
  have := Int.lt_ediv_add_one_mul_self n hp
  have h2 : (n / D + 1) * D ≤ 256 * D := Int.mul_le_mul_of_nonneg_right (by omega) (by omega)
  rw [Int.mul_comm D 256]
  omega
theorem big_whole {n : Int} (h0 : 0 ≤ n) (h1 : n < 9223372036854775808) : big (grp8 n (m8 n)) = n := by
  unfold big
  rw [big_grp, m8_whole h0 h1]
  simp
theorem m8_small {n : Int} (h1 : n < 2147483648) : m8 n ≤ 3 := by
  unfold m8
  repeat' split
  all_goals omega

theorem len_put {n : Int} (h0 : 0 ≤ n) (h1 : n < 2147483648) (behind : List Int) : len3 (putLen [] n ++ behind) = (n, ((putLen [] n).length : Int), 0) := by
  unfold putLen
  rw [if_neg (by omega)]
  by_cases hn : n < 128
  · rw [if_pos hn]
    simp only [List.nil_append, List.cons_append]
    unfold len3
    rw [if_neg (by simp), rd_cons, if_pos hn]
    rfl
  · rw [if_neg hn]
    have hm := m8_small h1
    have hl := grp8_len n (m8 n)
    have hbig := big_whole h0 (by omega : n < 9223372036854775808)
    simp only [List.nil_append, List.cons_append]
    unfold len3
    rw [if_neg (by simp), rd_cons, if_neg (by omega), if_neg (by omega), if_neg (by omega), if_neg (by simp [hl]; omega)]
    have hy : (((128 + ((m8 n : Int) + 1)) :: (grp8 n (m8 n) ++ behind)).take (1 + (128 + ((m8 n : Int) + 1) - 128)).toNat).drop 1 = grp8 n (m8 n) := by
      rw [show (1 + (128 + ((m8 n : Int) + 1) - 128)).toNat = (m8 n + 1) + 1 by omega, List.take_succ_cons]
      simp only [List.drop_succ_cons, List.drop_zero]
      rw [List.take_append_of_le_length (by omega), List.take_of_length_le (by omega)]
    rw [hy, hbig, if_neg (by omega)]
    simp [hl]
    omega
theorem len_cut {n : Int} (h0 : 0 ≤ n) (h1 : n < 2147483648) : (len3 ((putLen [] n).take ((putLen [] n).length - 1))).2.2 = 10 := by
  unfold putLen
  rw [if_neg (by omega)]
  by_cases hn : n < 128
  · rw [if_pos hn]
    simp [len3]
  · rw [if_neg hn]
    have hm := m8_small h1
    have hl := grp8_len n (m8 n)
    simp only [List.nil_append, List.cons_append, List.length_cons, hl, Nat.add_sub_cancel, List.take_succ_cons]
    unfold len3
    rw [if_neg (by simp), rd_cons, if_neg (by omega), if_neg (by omega), if_neg (by omega), if_pos (by simp [hl]; omega)]
theorem putLen_okb {n : Int} (h1 : n < 2147483648) : okb (putLen [] n) = true := by
  have hg : ∀ m, okb (grp8 n m) = true := by
    intro m
    induction m with
    | zero => simp only [grp8, okb, List.all_cons, List.all_nil, Bool.and_true, Bool.and_eq_true, decide_eq_true_eq]; omega
    | succ m ih => simp only [grp8, okb, List.all_cons, Bool.and_eq_true, decide_eq_true_eq] at ih ⊢; exact ⟨by omega, ih⟩
  have hm := m8_small h1
  unfold putLen
  split
  · rfl
  · split
    · simp [okb]; omega
    · have := hg (m8 n)
      simp only [okb, List.nil_append, List.cons_append, List.all_cons, Bool.and_eq_true, decide_eq_true_eq] at this ⊢
      exact ⟨by omega, this⟩
end Go.Proofs.Ytkhghgmonjebnaa.H
