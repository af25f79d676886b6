/- The document's Put and PutLen put the same bytes as 'put' and 'putLen'. Condition: not too many bytes ahead. -/
import Derived.Test.YtalbgdjclfahjaaHand2
import Derived.Test.YtalbgdjclfahjaaPTagPutsx1
namespace Go.Proofs.Ytalbgdjclfahjaa.Pure
open Go.RowKit Go.Proofs.Ytalbgdjclfahjaa.H Go.Proofs.YtalbgdjclfahjaaW.PrintWords Go.Proofs.YtalbgdjclfahjaaW.PrintLast
open Go.Proofs.Ytalbgdjclfahjaa.PTagPuts
set_option linter.unusedVariables false

theorem w64_ {n : Int} (h0 : -9223372036854775808 ≤ n) (h1 : n ≤ 9223372036854775807) : wrap64 n = n := by unfold wrap64; omega

theorem pow7 (m : Nat) : (2 : Int) ^ (7 * (m + 1)) = 2 ^ (7 * m) * 128 := by
  rw [show 7 * (m + 1) = 7 * m + 7 by omega, Int.pow_add]; rfl
theorem pow7_le {m : Nat} (h : m ≤ 3) : 1 ≤ (2 : Int) ^ (7 * m) ∧ (2 : Int) ^ (7 * m) ≤ 2097152 := by
  rcases (by omega : m = 0 ∨ m = 1 ∨ m = 2 ∨ m = 3) with rfl | rfl | rfl | rfl <;> decide

theorem put_l1 {n : Int} (h0 : 0 ≤ n) (h1 : n < 268435456) : ∀ (m : Nat) (xs : List Int), m ≤ 3 → xs.length + m < 140737488355000 →
    peerageref01_Put.l1 (m + 1) n xs (2 ^ (7 * m)) = some (xs ++ grp7 n m) := by
  intro m
  induction m with
  | zero =>
    intro xs _ hl
    rw [peerageref01_Put.l1, if_neg (by decide), if_pos (by omega)]
    simp only [grp7]
    have e : Int.tmod n 128 = n % 128 := Int.tmod_eq_emod_of_nonneg h0
    rw [e]
    have : n / 2 ^ (7 * 0) = n := by show n / 1 = n; exact Int.ediv_one n
    rw [this]
    congr 3
    omega
  | succ m ih =>
    intro xs hm hl
    have hD := pow7 m
    have hD2 := pow7_le (m := m) (by omega)
    rw [peerageref01_Put.l1, if_pos (by rw [hD]; omega), if_neg (by rw [hD]; omega), if_pos (by omega)]
    have e1 : Int.tdiv n (2 ^ (7 * (m + 1))) = n / 2 ^ (7 * (m + 1)) := Int.tdiv_eq_ediv_of_nonneg h0
    have hq0 : 0 ≤ n / 2 ^ (7 * (m + 1)) := Int.ediv_nonneg h0 (by rw [hD]; omega)
    have hq1 : n / 2 ^ (7 * (m + 1)) ≤ n := Int.ediv_le_self _ h0
    rw [e1, w64_ (n := n / _) (by omega) (by omega)]
    have e2 : Int.tmod (n / 2 ^ (7 * (m + 1))) 128 = n / 2 ^ (7 * (m + 1)) % 128 := Int.tmod_eq_emod_of_nonneg hq0
    have e3 : Int.tdiv (2 ^ (7 * (m + 1))) 128 = 2 ^ (7 * m) := by
      rw [hD, Int.tdiv_eq_ediv_of_nonneg (by omega)]; omega
    have hb : 0 ≤ n / 2 ^ (7 * (m + 1)) % 128 ∧ n / 2 ^ (7 * (m + 1)) % 128 < 128 := by omega
    generalize hq : n / 2 ^ (7 * (m + 1)) % 128 = q at *
    rw [e2, e3, w64_ (n := (2 : Int) ^ (7 * m)) (by omega) (by omega), w64_ (n := q + 128) (by omega) (by omega), ih _ (by omega) (by simp; omega)]
    simp only [grp7]
    rw [List.append_assoc, hq]
    congr 2
    simp only [List.singleton_append, List.cons.injEq, and_true]
    omega

theorem put_l0 {n : Int} (h0 : 0 ≤ n) (h1 : n < 268435456) (m : Nat) (hm : m ≤ 3) (ht : n / 2 ^ (7 * m) < 128) (hlow : ∀ j, j < m → 128 ≤ n / 2 ^ (7 * j)) (xs : List Int) (hl : xs.length + 3 < 140737488355000) : ∀ (d j : Nat), j + d = m →
    peerageref01_Put.l0 (m + 1 + d + 1) n xs (2 ^ (7 * j)) = some (xs ++ grp7 n m) := by
  intro d
  induction d with
  | zero =>
    intro j hj
    obtain rfl : j = m := by omega
    have hD2 := pow7_le (m := j) hm
    have e1 : Int.tdiv n (2 ^ (7 * j)) = n / 2 ^ (7 * j) := Int.tdiv_eq_ediv_of_nonneg h0
    have hq0 : 0 ≤ n / 2 ^ (7 * j) := Int.ediv_nonneg h0 (by omega)
    rw [show j + 1 + 0 + 1 = (j + 1) + 1 by omega, peerageref01_Put.l0, if_neg (by omega), e1, w64_ (by omega) (by omega), if_neg (by omega)]
    exact put_l1 h0 h1 j xs hm (by omega)
  | succ d ih =>
    intro j hj
    have hD2 := pow7_le (m := j) (by omega)
    have hD := pow7 j
    have e1 : Int.tdiv n (2 ^ (7 * j)) = n / 2 ^ (7 * j) := Int.tdiv_eq_ediv_of_nonneg h0
    have hq1 : n / 2 ^ (7 * j) ≤ n := Int.ediv_le_self _ h0
    have hq := hlow j (by omega)
    rw [show m + 1 + (d + 1) + 1 = (m + 1 + d + 1) + 1 by omega, peerageref01_Put.l0, if_neg (by omega), e1, w64_ (by omega) (by omega), if_pos (by omega), ← hD, w64_ (by rw [hD]; omega) (by rw [hD]; omega)]
    exact ih (j + 1) (by omega)

theorem put_f {l : List Int} {cl nn : Int} {md : Bool} (hl : l.length < 140737488350000) : peerageref01_Put.f 10 l cl md nn = some (put l cl md nn) := by
  unfold peerageref01_Put.f
  simp only [Option.bind_some, List.nil_append, List.length_nil, Nat.zero_add]
  rw [if_pos (by omega)]
  have hr : peerageref01_Right.f cl nn = some (right cl nn) := by
    unfold peerageref01_Right.f right
    by_cases a1 : 0 ≤ cl <;> by_cases a2 : cl ≤ 3 <;> by_cases a3 : 0 ≤ nn <;> simp [a1, a2, a3]
  rw [hr]
  simp only [Option.bind_some]
  unfold put
  by_cases h : right cl nn = true
  · rw [if_pos h, if_pos h]
    simp [right] at h
    have hj : ∀ F : Int, 0 ≤ F → F ≤ 224 → F % 32 = 0 → peerageref01_Put.j0 10 nn l F = some (if nn < 31 then l ++ [F + nn] else l ++ [F + 31] ++ grp7 nn (m7 nn)) := by
      intro F f0 f1 f2
      rw [peerageref01_Put.j0]
      by_cases hn : nn < 31
      · rw [if_pos hn, if_pos (by omega), if_pos hn, w64_ (by omega) (by omega)]
        congr 3
        omega
      · rw [if_neg hn, if_pos (by omega), if_neg hn, w64_ (by omega) (by omega)]
        have e : (F + 31) % 256 = F + 31 := by omega
        rw [e]
        have hz := put_l0 (n := nn) (by omega) (by omega) (m7 nn) (m7_most _) (m7_top (by omega)) m7_low (l ++ [F + 31]) (by simp; omega) (m7 nn) 0 (by omega)
        have hm := m7_most nn
        exact at_rounds (g := fun k => peerageref01_Put.l0 k nn (l ++ [F + 31]) 1) (fun k => (peerageref01_Put.mono_l k).2.1 _ _ _) (by omega) hz
    cases md
    · rw [if_neg (by decide), w64_ (by omega) (by omega), hj _ (by omega) (by omega) (by omega)]
      simp
    · rw [if_pos rfl, w64_ (n := cl * 64) (by omega) (by omega), w64_ (by omega) (by omega), hj _ (by omega) (by omega) (by omega)]
      simp
  · rw [if_neg h, if_neg h]

theorem grp8_snoc (n : Int) : ∀ m : Nat, grp8 n (m + 1) = grp8 (n / 256) m ++ [n % 256] := by
  intro m
  induction m with
  | zero =>
    simp only [grp8]
    have e1 : n / 2 ^ (8 * (0 + 1)) = n / 256 / 2 ^ (8 * 0) := by
      show n / 256 = n / 256 / 1
      rw [Int.ediv_one]
    have e2 : n / 2 ^ (8 * 0) = n := by show n / 1 = n; rw [Int.ediv_one]
    rw [e1, e2]
    rfl
  | succ m ih =>
    rw [grp8, ih]
    rw [show grp8 (n / 256) (m + 1) = n / 256 / 2 ^ (8 * (m + 1)) % 256 :: grp8 (n / 256) m from rfl]
    have e : n / 2 ^ (8 * (m + 1 + 1)) = n / 256 / 2 ^ (8 * (m + 1)) := by
      rw [Int.ediv_ediv_of_nonneg (by decide), show 8 * (m + 1 + 1) = 8 + 8 * (m + 1) by omega, Int.pow_add]; rfl
    rw [e]
    rfl

theorem putLen_l0 (x5 : List Int) (hl : x5.length < 140737488350100) : ∀ (m : Nat) (n : Int) (x6 : List Int), m ≤ 7 → x6.length + m ≤ 8 → 1 ≤ n → n < 9223372036854775808 → n / 2 ^ (8 * m) < 256 → (∀ j, j < m → 256 ≤ n / 2 ^ (8 * j)) →
    peerageref01_PutLen.l0 (m + 2) n x5 x6 = some (x5 ++ [128 + ((m + 1 + x6.length : Nat) : Int)] ++ grp8 n m ++ x6) := by
  intro m
  induction m with
  | zero =>
    intro n x6 _ hx h0 h1 ht _
    have e2 : n / 2 ^ (8 * 0) = n := by show n / 1 = n; rw [Int.ediv_one]
    rw [e2] at ht
    have e3 : Int.tmod n 256 = n % 256 := Int.tmod_eq_emod_of_nonneg (by omega)
    have e4 : Int.tdiv n 256 = n / 256 := Int.tdiv_eq_ediv_of_nonneg (by omega)
    rw [show 0 + 2 = (0 + 1) + 1 by omega, peerageref01_PutLen.l0, if_pos (by omega)]
    simp only [Option.bind_some]
    rw [if_pos (by simp; omega), e3, e4, w64_ (by omega) (by omega), show n / 256 = 0 by omega]
    rw [peerageref01_PutLen.l0, if_neg (by omega), if_pos (by omega)]
    simp only [Option.bind_some]
    rw [if_pos (by simp; omega)]
    simp only [grp8, e2]
    have e5 : n % 256 % 256 = n % 256 := by omega
    rw [e5, w64_ (by simp; omega) (by simp; omega)]
    simp
    omega
  | succ m ih =>
    intro n x6 hm hx h0 h1 ht hlow
    have e3 : Int.tmod n 256 = n % 256 := Int.tmod_eq_emod_of_nonneg (by omega)
    have e4 : Int.tdiv n 256 = n / 256 := Int.tdiv_eq_ediv_of_nonneg (by omega)
    have hsh : ∀ j : Nat, n / 256 / 2 ^ (8 * j) = n / 2 ^ (8 * (j + 1)) := by
      intro j
      rw [Int.ediv_ediv_of_nonneg (by decide), show 8 * (j + 1) = 8 + 8 * j by omega, Int.pow_add]; rfl
    rw [show m + 1 + 2 = (m + 2) + 1 by omega, peerageref01_PutLen.l0, if_pos (by omega)]
    simp only [Option.bind_some]
    have hn256 : 256 ≤ n := by
      have := hlow 0 (by omega)
      rw [show (2 : Int) ^ (8 * 0) = 1 from rfl, Int.ediv_one] at this
      exact this
    rw [if_pos (by simp; omega), e3, e4, w64_ (by omega) (by omega), ih (n / 256) _ (by omega) (by simp; omega) (by omega) (by omega) (by rw [hsh]; exact ht) (fun j hj => by rw [hsh]; exact hlow (j + 1) (by omega))]
    rw [grp8_snoc]
    have e5 : n % 256 % 256 = n % 256 := by omega
    rw [e5]
    simp
    omega

theorem putLen_f {l : List Int} {n : Int} (hl : l.length < 140737488350000) (hn : n < 9223372036854775808) : peerageref01_PutLen.f 10 l n = some (putLen l n) := by
  unfold peerageref01_PutLen.f putLen
  simp only [Option.bind_some, List.nil_append, List.length_nil, Nat.zero_add]
  rw [if_pos (by omega)]
  by_cases h0 : n < 0
  · rw [if_pos h0, if_pos h0]
  rw [if_neg h0, if_neg h0]
  by_cases h1 : n < 128
  · rw [if_pos h1, if_pos h1, if_pos (by omega)]
    congr 3
    omega
  rw [if_neg h1, if_neg h1]
  have hz := putLen_l0 l (by omega) (m8 n) n [] (m8_most _) (by have := m8_most n; simp; omega) (by omega) hn (m8_top hn) m8_low
  have hm := m8_most n
  have := at_rounds (g := fun k => peerageref01_PutLen.l0 k n l []) (fun k => (peerageref01_PutLen.mono_l k) _ _ _) (k' := 10) (by omega) hz
  rw [this]
  simp
end Go.Proofs.Ytalbgdjclfahjaa.Pure
