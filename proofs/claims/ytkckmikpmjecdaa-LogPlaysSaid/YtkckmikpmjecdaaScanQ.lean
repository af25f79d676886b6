/- What Scan tells of consecutive frames, in plain Lean. -/
import Derived.Test.YtkckmikpmjecdaaScanP
import Derived.Test.YtkckmikpmjecdaaTurnQ
namespace Go.Proofs.Ytkckmikpmjecdaa.H
open Go.RowKit Go.Proofs.YtkckmikpmjecdaaW.PrintWords Go.Proofs.YtkckmikpmjecdaaW.PrintLast Go.Proofs.YtkckmikpmjecdaaW.PrintMore
set_option linter.unusedVariables false
theorem hdr_length (n : Int) : (hdr n).length = 4 := rfl
theorem sealed_take4 (l t : List Int) : (sealed l ++ t).take 4 = hdr l.length := by
  unfold sealed
  rw [List.append_assoc, List.append_assoc, List.take_append_of_le_length (by simp [hdr])]
  rfl
theorem opened_sealed {l : List Int} (h : okb l = true) (hl : l.length ≤ 65536) (t : List Int) : opened (sealed l ++ t) = (l, 8 + (l.length : Int), 0) := by
  have hlen := sealed_length l
  obtain ⟨p1, p2⟩ := sealed_parts l
  have hm := more_range 0 (hdr l.length ++ l)
  unfold opened
  rw [if_neg (by rw [List.length_append]; omega), sealed_take4, big_hdr hl, if_neg (by omega), if_neg (by rw [List.length_append]; omega), Int.toNat_natCast]
  have e1 : (sealed l ++ t).take (8 + l.length) = sealed l := by
    rw [List.take_append_of_le_length (by omega), List.take_of_length_le (by omega)]
  have e2 : (sealed l ++ t).take (4 + l.length) = hdr l.length ++ l := by
    rw [List.take_append_of_le_length (by omega), Nat.add_comm, p1]
  rw [e1, e2, Nat.add_comm 4 l.length, p2, if_neg (by rw [les_tail (by omega) (by omega)]; simp)]
  rfl
theorem opened_part {l : List Int} (h : okb l = true) (hl : l.length ≤ 65536) {n : Nat} (hn : n < l.length + 8) : opened ((sealed l).take n) = ([], 0, 10) := by
  have hlen := sealed_length l
  unfold opened
  by_cases h4 : n < 4
  · rw [if_pos (by rw [List.length_take]; omega)]
  · rw [if_neg (by rw [List.length_take]; omega), List.take_take, Nat.min_eq_left (by omega)]
    have e := sealed_take4 l []
    rw [List.append_nil] at e
    rw [e, big_hdr hl, if_neg (by omega), if_pos (by rw [List.length_take]; omega)]
/-- Frames, one after the other. -/
def flat (rows : List (List Int)) : List Int := rows.flatMap sealed
theorem flat_nil : flat [] = [] := rfl
theorem flat_cons (r : List Int) (rows : List (List Int)) : flat (r :: rows) = sealed r ++ flat rows := rfl
theorem flat_append (a b : List (List Int)) : flat (a ++ b) = flat a ++ flat b := by simp [flat]
theorem flat_snoc (a : List (List Int)) (r : List Int) : flat (a ++ [r]) = flat a ++ sealed r := by simp [flat]
theorem flat_okb : ∀ {rows : List (List Int)}, (∀ r ∈ rows, okb r = true) → okb (flat rows) = true
  | [], _ => rfl
  | r :: rows, h => by
    rw [flat_cons]
    exact okb_app (sealed_okb (h r (by simp))) (flat_okb fun x hx => h x (by simp [hx]))
theorem flat_le {m : Nat} : ∀ {rows : List (List Int)}, (∀ r ∈ rows, r.length ≤ m) → (flat rows).length ≤ (m + 8) * rows.length
  | [], _ => by simp [flat]
  | r :: rows, h => by
    have ih := flat_le (rows := rows) fun x hx => h x (by simp [hx])
    have := h r (by simp)
    rw [flat_cons, List.length_append, sealed_length, List.length_cons, Nat.mul_succ]
    omega
theorem flat_ge : ∀ (rows : List (List Int)), 8 * rows.length ≤ (flat rows).length
  | [] => by simp [flat]
  | r :: rows => by
    have ih := flat_ge rows
    rw [flat_cons, List.length_append, sealed_length, List.length_cons]
    omega
theorem scanl_flat (t : List Int) (ht : t ≠ [] → (opened t).2.2 ≠ 0) : ∀ (rows : List (List Int)) (pre : List Int) (acc : List (List Int)) (k : Nat), (∀ r ∈ rows, okb r = true ∧ r.length ≤ 65536) → rows.length < k →
    scanl k (pre ++ (flat rows ++ t)) acc pre.length = (acc ++ rows, pre.length + (flat rows).length, if t = [] then 0 else (opened t).2.2)
  | [], pre, acc, k + 1, _, _ => by
    unfold scanl
    rw [flat_nil, List.nil_append, List.drop_left, List.length_append, List.append_nil]
    by_cases h : t = []
    · subst h
      rw [if_neg (by simp), if_pos rfl]
      rfl
    · have : 0 < t.length := List.length_pos_iff.2 h
      rw [if_pos (by omega), if_neg (ht h), if_neg h]
      rfl
  | r :: rows, pre, acc, k + 1, h, hk => by
    have h1 := h r (by simp)
    have hlen := sealed_length r
    unfold scanl
    have e0 : pre ++ (flat (r :: rows) ++ t) = (pre ++ sealed r) ++ (flat rows ++ t) := by rw [flat_cons]; simp [List.append_assoc]
    have e1 : (pre ++ (flat (r :: rows) ++ t)).drop pre.length = sealed r ++ (flat rows ++ t) := by rw [List.drop_left, flat_cons, List.append_assoc]
    rw [e1, opened_sealed h1.1 h1.2, if_pos (by rw [e0]; simp only [List.length_append]; omega)]
    simp only [if_true]
    have e2 : pre.length + (8 + (r.length : Int)).toNat = (pre ++ sealed r).length := by rw [List.length_append, hlen]; omega
    rw [e2, e0, scanl_flat t ht rows (pre ++ sealed r) (acc ++ [r]) k (fun x hx => h x (by simp [hx])) (by simp at hk; omega)]
    rw [flat_cons, List.length_append, List.length_append, List.append_assoc]
    simp only [List.singleton_append, Prod.mk.injEq, true_and, and_true]
    omega
theorem scan_flat {rows : List (List Int)} {t : List Int} (h : ∀ r ∈ rows, okb r = true ∧ r.length ≤ 65536) (ht : t ≠ [] → (opened t).2.2 ≠ 0) : scan (flat rows ++ t) = (rows, (flat rows).length, if t = [] then 0 else (opened t).2.2) := by
  have hg := flat_ge rows
  have := scanl_flat t ht rows [] [] ((flat rows ++ t).length + 1) h (by rw [List.length_append]; omega)
  rw [List.nil_append, List.nil_append] at this
  unfold scan
  rw [show (([] : List Int).length) = 0 from rfl, Nat.zero_add] at this
  exact this
theorem opened_big (t : List Int) : opened ([255, 255, 255, 255] ++ t) = ([], 0, 3) := by
  unfold opened
  have e : (([255, 255, 255, 255] : List Int) ++ t).take 4 = [255, 255, 255, 255] := rfl
  rw [if_neg (by simp), e, if_pos (by decide)]
end Go.Proofs.Ytkckmikpmjecdaa.H
