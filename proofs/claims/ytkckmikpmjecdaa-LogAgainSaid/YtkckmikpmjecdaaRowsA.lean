/- An argument [][]byte: what its reading says of its cells. -/
import Derived.Test.YtkckmikpmjecdaaScanP
import Derived.Deep.Matrix
namespace Go.Proofs.Ytkckmikpmjecdaa.H
open Go.RowKit Go.Proofs.YtkckmikpmjecdaaW.PrintWords Go.Proofs.YtkckmikpmjecdaaW.PrintLast Go.Proofs.YtkckmikpmjecdaaW.PrintMore
set_option linter.unusedVariables false
theorem rows_of_trod {H : Type} {enc : TypeId × Value → H} {W : World} {a : Option Addr} {len cap fuel : Nat} {x : DataW H × List MemPlace} (hf : DataW.trod enc Try.prog W 0 (fun _ => true) true fuel 38 (Value.slice a len cap).cells.toList = some x) :
    ∃ rows : List (List Int), len = rows.length ∧ rows.length ≤ cap ∧ cap ≤ maxLen ∧ Kd.C (Kd.slice 5 (Kd.int .u8)) W a rows.length rows ∧ ∀ r ∈ rows, okb r = true := by
  rcases Go.Deep.open_int_rows Try.underlying38 Try.underlying22 Try.underlying5 (by kernel_rfl) (by kernel_rfl) hf with ⟨hcs, _⟩ | ⟨ad, l, c, A, L, C, Z, hcs, _, hl, hm, _, hr⟩
  · simp [Value.cells] at hcs
    obtain ⟨rfl, rfl, rfl⟩ := hcs
    exact ⟨[], rfl, Nat.le_refl _, Nat.zero_le _, Kd.C_nil _ _, by simp⟩
  · simp [Value.cells] at hcs
    obtain ⟨rfl, rfl, rfl⟩ := hcs
    have hlen : ((List.range len).map fun r => (Z r).take (L r)).length = len := by simp
    refine ⟨(List.range len).map fun r => (Z r).take (L r), hlen.symm, by rw [hlen]; exact hl, hm, ?_, ?_⟩
    · refine ⟨rfl, by rw [hlen]; exact Nat.le_trans hl hm, fun _ => ⟨ad, rfl, fun j p hj => ?_⟩⟩
      rw [List.getElem?_map] at hj
      obtain ⟨j', hj1, rfl⟩ := Option.map_eq_some_iff.1 hj
      obtain ⟨hj2, hj3⟩ := List.getElem?_eq_some_iff.1 hj1
      rw [List.length_range] at hj2
      rw [List.getElem_range] at hj3
      subst hj3
      obtain ⟨r1, r2, r3, r4, r5, r6, r7⟩ := hr j (by omega)
      have htl : ((Z j).take (L j)).length = L j := by rw [List.length_take]; omega
      refine ⟨[.slice (A j) (L j) (C j)], rfl, ⟨A j, C j, by rw [htl], by rw [htl]; exact r2, ?_⟩, fun i u hu => ?_⟩
      · refine Kd.C_of_reads (d := (0 : Int)) (h1 := fun _ => rfl) ⟨rfl, by rw [htl]; exact Nat.le_trans r2 r3, fun hp => ?_⟩
        rw [htl] at hp
        cases hA : A j with
        | none => exact absurd (r6 hA) (by omega)
        | some a' =>
          refine ⟨a', rfl, fun i hi => ?_⟩
          rw [htl] at hi
          have h1 := (r7 a' hA).2 i (by omega)
          rw [List.getD_eq_getElem?_getD] at h1 ⊢
          rw [List.getElem?_take_of_lt hi]
          exact h1
      · have hi : i = 0 := by
          have := (List.getElem?_eq_some_iff.1 hu).1
          simpa using this
        subst hi
        have hu2 : Value.slice (A j) (L j) (C j) = u := by simpa using hu
        rw [← hu2]
        show W.cell? (ad.add (j * 1 + 0)) = _
        rw [Nat.mul_one, Nat.add_zero]
        exact r1
    · intro r hr2
      obtain ⟨j, hj, rfl⟩ := List.mem_map.1 hr2
      obtain ⟨_, _, _, _, r5, _⟩ := hr j (by have := List.mem_range.1 hj; omega)
      exact okb_of fun n hn => r5 n (List.mem_of_mem_take hn)
end Go.Proofs.Ytkckmikpmjecdaa.H
