/- Scan of a part of consecutive frames, in plain Lean. -/
import Derived.Test.YtkckmikpmjecdaaScanQ
namespace Go.Proofs.Ytkckmikpmjecdaa.H
open Go.RowKit Go.Proofs.YtkckmikpmjecdaaW.PrintWords Go.Proofs.YtkckmikpmjecdaaW.PrintLast Go.Proofs.YtkckmikpmjecdaaW.PrintMore
set_option linter.unusedVariables false
/-- Where the k-th frame begins. -/
def fl (rows : List (List Int)) (k : Nat) : Nat := (flat (rows.take k)).length
/-- Where frames end. -/
def ends (rows : List (List Int)) (i : Nat) : List Int := (List.range (i + 1)).map fun j => (fl rows j : Int)
theorem ends_zero (rows : List (List Int)) : ends rows 0 = [0] := by simp [ends, fl, flat]
theorem ends_succ (rows : List (List Int)) (i : Nat) : ends rows (i + 1) = ends rows i ++ [(fl rows (i + 1) : Int)] := by
  unfold ends
  rw [List.range_succ, List.map_append]
  rfl
theorem ends_length (rows : List (List Int)) (i : Nat) : (ends rows i).length = i + 1 := by simp [ends]
theorem ends_rd (rows : List (List Int)) {i k : Nat} (h : k ≤ i) : rd (ends rows i) (k : Int) = (fl rows k : Int) := by
  have hg : (List.range (i + 1))[k]? = some k := List.getElem?_range (by omega)
  simp [rd, ends, hg]
theorem fl_succ {rows : List (List Int)} {i : Nat} (h : i < rows.length) : fl rows (i + 1) = fl rows i + ((rows.getD i []).length + 8) := by
  unfold fl
  rw [List.take_succ_eq_append_getElem h, flat_snoc, List.length_append, sealed_length, List.getD_eq_getElem?_getD, List.getElem?_eq_getElem h, Option.getD_some]
theorem take_succ_getD {rows : List (List Int)} {i : Nat} (h : i < rows.length) : rows.take (i + 1) = rows.take i ++ [rows.getD i []] := by
  rw [List.take_succ_eq_append_getElem h, List.getD_eq_getElem?_getD, List.getElem?_eq_getElem h, Option.getD_some]
theorem fl_le {m : Nat} {rows : List (List Int)} (h : ∀ r ∈ rows, r.length ≤ m) (k : Nat) : fl rows k ≤ (m + 8) * k := by
  have h1 := flat_le (rows := rows.take k) (m := m) fun r hr => h r (List.mem_of_mem_take hr)
  have h2 : (rows.take k).length ≤ k := by rw [List.length_take]; omega
  exact Nat.le_trans h1 (Nat.mul_le_mul_left _ h2)
theorem fl_mono (rows : List (List Int)) (k : Nat) : fl rows k ≤ (flat rows).length := by
  unfold fl
  have e : flat rows = flat (rows.take k) ++ flat (rows.drop k) := by rw [← flat_append, List.take_append_drop]
  have := congrArg List.length e
  rw [List.length_append] at this
  omega
theorem scan_prefix {rows : List (List Int)} (h : ∀ r ∈ rows, okb r = true ∧ r.length ≤ 65536) {k a : Nat} (hk : k ≤ rows.length) (h1 : fl rows k ≤ a) (h2 : a ≤ (flat rows).length) (h3 : k < rows.length → a < fl rows (k + 1)) :
    scan ((flat rows).take a) = (rows.take k, fl rows k, if fl rows k = a then 0 else 10) := by
  have e : flat rows = flat (rows.take k) ++ flat (rows.drop k) := by rw [← flat_append, List.take_append_drop]
  have hT : ∀ r ∈ rows.take k, okb r = true ∧ r.length ≤ 65536 := fun r hr => h r (List.mem_of_mem_take hr)
  have hsplit : (flat rows).take a = flat (rows.take k) ++ (flat (rows.drop k)).take (a - fl rows k) := by
    rw [e, List.take_append]
    unfold fl at h1 ⊢
    rw [List.take_of_length_le h1]
  rw [hsplit]
  by_cases ha : fl rows k = a
  · rw [ha, Nat.sub_self, List.take_zero, scan_flat hT (fun h => absurd rfl h), if_pos rfl, if_pos rfl]
    congr 1
    unfold fl at ha
    rw [ha]
  · have hlt : k < rows.length := by
      rcases Nat.lt_or_ge k rows.length with hh | hh
      · exact hh
      · exfalso
        unfold fl at h1 ha
        rw [List.take_of_length_le hh] at h1 ha
        omega
    have h4 := h3 hlt
    rw [fl_succ hlt] at h4
    have hr := h (rows.getD k []) (by rw [List.getD_eq_getElem?_getD, List.getElem?_eq_getElem hlt, Option.getD_some]; exact List.getElem_mem hlt)
    have hd : rows.drop k = rows.getD k [] :: rows.drop (k + 1) := by
      rw [List.drop_eq_getElem_cons hlt, List.getD_eq_getElem?_getD, List.getElem?_eq_getElem hlt, Option.getD_some]
    have ht : (flat (rows.drop k)).take (a - fl rows k) = (sealed (rows.getD k [])).take (a - fl rows k) := by
      rw [hd, flat_cons, List.take_append_of_le_length (by rw [sealed_length]; omega)]
    have ho := opened_part hr.1 hr.2 (n := a - fl rows k) (by omega)
    have hne : (sealed (rows.getD k [])).take (a - fl rows k) ≠ [] := by
      intro h0
      have := congrArg List.length h0
      rw [List.length_take, sealed_length, List.length_nil] at this
      omega
    rw [ht, scan_flat hT (fun _ => by rw [ho]; simp), if_neg hne, if_neg ha, ho]
    rfl
end Go.Proofs.Ytkckmikpmjecdaa.H
