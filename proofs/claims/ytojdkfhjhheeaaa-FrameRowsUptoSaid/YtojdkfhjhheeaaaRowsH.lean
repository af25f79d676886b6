/- Headers of rows: a row of slices that others own, copied. -/
import Derived.Test.YtojdkfhjhheeaaaRowsA
namespace Go.Proofs.Ytojdkfhjhheeaaa.H
open Go.RowKit Go.Proofs.YtojdkfhjhheeaaaW.PrintWords Go.Proofs.YtojdkfhjhheeaaaW.PrintLast Go.Proofs.YtojdkfhjhheeaaaW.PrintMore
set_option linter.unusedVariables false
/-- A slice's header, and what it leads to. -/
structure Hd where
  A : Option Addr
  c : Nat
  xs : List Int
def encH (h : Hd) : Value := .slice h.A h.xs.length h.c
theorem encH1 (h : Hd) : (encH h).oneCell' = true := rfl
abbrev KH : Kd Hd := Kd.scalar encH encH1
/-- What a header leads to is there. -/
def There (W : World) (h : Hd) : Prop := h.xs.length ≤ h.c ∧ Kd.C (Kd.int .u8) W h.A h.xs.length h.xs
theorem There.below {W W1 : World} {h : Hd} (t : There W h) (hb : Below W.heap.size W W1) : There W1 h := ⟨t.1, Kd.C_below t.2 hb⟩
theorem C_of_hs {W : World} {base : Nat} {v : Value} {hs : List Hd} (h : Kd.R KH 22 W base (fun _ => True) v hs) (hg : ∀ h ∈ hs, There W h) :
    ∃ A' c', v = .slice A' (hs.map Hd.xs).length c' ∧ Kd.C (Kd.slice 5 (Kd.int .u8)) W A' (hs.map Hd.xs).length (hs.map Hd.xs) := by
  obtain ⟨A', c', rfl, hle, h1, h2, h3⟩ := Kd.R_reads h
  rw [List.length_map]
  refine ⟨A', c', rfl, by simp, h2, fun hn => ?_⟩
  obtain ⟨ad, e, hc⟩ := h3 hn
  refine ⟨ad, e, fun j p hj => ?_⟩
  rw [List.getElem?_map] at hj
  obtain ⟨hd, hj2, rfl⟩ := Option.map_eq_some_iff.1 hj
  obtain ⟨c, e1, e2, e3⟩ := hc j hd hj2
  have hgd := hg hd (List.mem_of_getElem? hj2)
  exact ⟨c, e1, ⟨hd.A, hd.c, e2, hgd.1, hgd.2⟩, e3⟩
theorem hs_of_C {W : World} {A : Option Addr} {n : Nat} {rows : List (List Int)} (h : Kd.C (Kd.slice 5 (Kd.int .u8)) W A n rows) :
    ∃ hs : List Hd, hs.map Hd.xs = rows ∧ Kd.C KH W A n hs ∧ ∀ h ∈ hs, There W h := by
  obtain ⟨h1, h2, h3⟩ := h
  have each : ∀ j : Nat, ∃ hd : Hd, j < n → (hd.xs = rows.getD j [] ∧ There W hd ∧ ∃ ad, A = some ad ∧ W.cell? (ad.add j) = some (encH hd)) := by
    intro j
    by_cases hj : j < n
    · obtain ⟨ad, e, hc⟩ := h3 (by omega)
      have hg : rows[j]? = some (rows.getD j []) := by
        rw [List.getD_eq_getElem?_getD, List.getElem?_eq_getElem (by omega), Option.getD_some]
      obtain ⟨c, e1, ⟨B, d, e2, e3, e4⟩, e5⟩ := hc j _ hg
      subst e2
      refine ⟨⟨B, d, rows.getD j []⟩, fun _ => ⟨rfl, ⟨e3, e4⟩, ad, e, ?_⟩⟩
      have h6 := e5 0 _ rfl
      have e1' : j * (Kd.slice 5 (Kd.int .u8)).sz + 0 = j := by show j * 1 + 0 = j; omega
      rwa [e1'] at h6
    · exact ⟨⟨none, 0, []⟩, fun h => absurd h hj⟩
  obtain ⟨f, hf⟩ := Classical.axiomOfChoice each
  refine ⟨(List.range n).map f, ?_, ⟨by simp, h2, fun hn => ?_⟩, ?_⟩
  · apply List.ext_getElem
    · simp [h1]
    · intro j g1 g2
      simp only [List.getElem_map, List.getElem_range]
      rw [(hf j (by omega)).1, List.getD_eq_getElem?_getD, List.getElem?_eq_getElem g2, Option.getD_some]
  · obtain ⟨ad, e, _⟩ := h3 hn
    refine ⟨ad, e, fun j p hj => ?_⟩
    rw [List.getElem?_map] at hj
    obtain ⟨j', hj1, rfl⟩ := Option.map_eq_some_iff.1 hj
    obtain ⟨hj2, hj3⟩ := List.getElem?_eq_some_iff.1 hj1
    rw [List.length_range] at hj2
    rw [List.getElem_range] at hj3
    subst hj3
    obtain ⟨_, _, ad2, e2, e3⟩ := hf j (by omega)
    obtain rfl : ad = ad2 := Option.some.inj (e.symm.trans e2)
    refine ⟨[encH (f j)], rfl, rfl, fun i u hu => ?_⟩
    have hi : i = 0 := by
      have := (List.getElem?_eq_some_iff.1 hu).1
      simpa using this
    subst hi
    have hu2 : encH (f j) = u := by simpa using hu
    rw [← hu2]
    show W.cell? (ad.add (j * 1 + 0)) = _
    rw [Nat.mul_one, Nat.add_zero]
    exact e3
  · intro hd hh
    obtain ⟨j, hj, rfl⟩ := List.mem_map.1 hh
    exact (hf j (by have := List.mem_range.1 hj; omega)).2.1
theorem info22 : (Try.prog.info? 22).map (fun i => (i.zero, i.size, i.bytes)) = some (some (.slice none 0 0), 1, 24) := by kernel_rfl
end Go.Proofs.Ytojdkfhjhheeaaa.H
