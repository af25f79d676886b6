/- A message that is handed in, opened. -/
import Derived.Test.YtbojccpaohccfaaNetG
import Derived.WideShapes
import Derived.ChangeShapes
import Derived.ChangeArms
import Derived.Lib.SmallJoins
namespace Go.Proofs.Ytbojccpaohccfaa.Pure
open Go.ChangeShapes Go.WideShapes Go.ChangeAt Go.RowKit Go.Joins Go.Proofs.Ytbojccpaohccfaa.H
set_option linter.unusedVariables false
theorem array11 {α : Type} {cs : Array α} (h : cs.size = 11) : ∃ c0 c1 c2 c3 c4 c5 c6 c7 c8 c9 c10, cs = #[c0, c1, c2, c3, c4, c5, c6, c7, c8, c9, c10] := by
  obtain ⟨l⟩ := cs
  match l, h with
  | [c0, c1, c2, c3, c4, c5, c6, c7, c8, c9, c10], _ => exact ⟨c0, c1, c2, c3, c4, c5, c6, c7, c8, c9, c10, rfl⟩
section
variable {H : Type} {enc : TypeId × Value → H}
theorem k3 : Try.prog.cellsOf 3 = 1 := by kernel_rfl
theorem k4 : Try.prog.cellsOf 4 = 1 := by kernel_rfl
theorem k29 : Try.prog.cellsOf 29 = 1 := by kernel_rfl
theorem k30 : Try.prog.cellsOf 30 = 1 := by kernel_rfl
theorem k35 : Try.prog.cellsOf 35 = 1 := by kernel_rfl
theorem k36 : Try.prog.cellsOf 36 = 1 := by kernel_rfl
theorem k37 : Try.prog.cellsOf 37 = 1 := by kernel_rfl
theorem k39 : Try.prog.cellsOf 39 = 11 := by kernel_rfl
theorem open_msg {W : World} {base b0 : Nat} {spare : Nat → Bool} {held : Bool} {r : Reach} {v : Value} {d : DataW H} {p : List MemPlace} (hv : Value.okWide Try.prog W r b0 39 v) (h : DataW.Trod enc Try.prog W base spare held 39 v d p) :
    ∃ (m0 m1 m2 m3 m5 : Int) (m4 : Bool) (A6 A7 A8 A9 A10 : Option Addr) (n6 c6 n7 c7 n8 c8 n9 c9 n10 c10 : Nat), v = .agg (mgs m0 m1 m2 m3 m5 m4 A6 A7 A8 A9 A10 n6 c6 n7 c7 n8 c8 n9 c9 n10 c10) := by
  obtain ⟨cs, rfl, hsz⟩ := okWide_struct Try.underlying39 hv
  obtain ⟨v0, v1, v2, v3, v4, v5, v6, v7, v8, v9, v10, rfl⟩ := array11 (hsz.trans k39)
  obtain ⟨fuel, hf⟩ := h
  obtain ⟨xs, n, _, _, _, hlen, hf⟩ := DataW.trod_struct Try.underlying39 hf
  have hl : xs.length = 11 := hlen
  have g0 : DataW.trod enc Try.prog W base spare held n 3 [v0] = some (xs[0]'(by omega)) := by
    have g := hf 0 _ rfl
    rw [List.getElem?_eq_getElem (by omega : 0 < xs.length)] at g
    simpa [Value.cells, k3] using g
  have g1 : DataW.trod enc Try.prog W base spare held n 3 [v1] = some (xs[1]'(by omega)) := by
    have g := hf 1 _ rfl
    rw [List.getElem?_eq_getElem (by omega : 1 < xs.length)] at g
    simpa [Value.cells, k3] using g
  have g2 : DataW.trod enc Try.prog W base spare held n 3 [v2] = some (xs[2]'(by omega)) := by
    have g := hf 2 _ rfl
    rw [List.getElem?_eq_getElem (by omega : 2 < xs.length)] at g
    simpa [Value.cells, k3] using g
  have g3 : DataW.trod enc Try.prog W base spare held n 3 [v3] = some (xs[3]'(by omega)) := by
    have g := hf 3 _ rfl
    rw [List.getElem?_eq_getElem (by omega : 3 < xs.length)] at g
    simpa [Value.cells, k3] using g
  have g4 : DataW.trod enc Try.prog W base spare held n 4 [v4] = some (xs[4]'(by omega)) := by
    have g := hf 4 _ rfl
    rw [List.getElem?_eq_getElem (by omega : 4 < xs.length)] at g
    simpa [Value.cells, k4] using g
  have g5 : DataW.trod enc Try.prog W base spare held n 3 [v5] = some (xs[5]'(by omega)) := by
    have g := hf 5 _ rfl
    rw [List.getElem?_eq_getElem (by omega : 5 < xs.length)] at g
    simpa [Value.cells, k3] using g
  have g6 : DataW.trod enc Try.prog W base spare held n 35 [v6] = some (xs[6]'(by omega)) := by
    have g := hf 6 _ rfl
    rw [List.getElem?_eq_getElem (by omega : 6 < xs.length)] at g
    simpa [Value.cells, k35] using g
  have g7 : DataW.trod enc Try.prog W base spare held n 36 [v7] = some (xs[7]'(by omega)) := by
    have g := hf 7 _ rfl
    rw [List.getElem?_eq_getElem (by omega : 7 < xs.length)] at g
    simpa [Value.cells, k36] using g
  have g8 : DataW.trod enc Try.prog W base spare held n 37 [v8] = some (xs[8]'(by omega)) := by
    have g := hf 8 _ rfl
    rw [List.getElem?_eq_getElem (by omega : 8 < xs.length)] at g
    simpa [Value.cells, k37] using g
  have g9 : DataW.trod enc Try.prog W base spare held n 29 [v9] = some (xs[9]'(by omega)) := by
    have g := hf 9 _ rfl
    rw [List.getElem?_eq_getElem (by omega : 9 < xs.length)] at g
    simpa [Value.cells, k29] using g
  have g10 : DataW.trod enc Try.prog W base spare held n 30 [v10] = some (xs[10]'(by omega)) := by
    have g := hf 10 _ rfl
    rw [List.getElem?_eq_getElem (by omega : 10 < xs.length)] at g
    simpa [Value.cells, k30] using g
  obtain ⟨x0, e0, _⟩ := DataW.trod_int Try.underlying3 g0
  obtain ⟨x1, e1, _⟩ := DataW.trod_int Try.underlying3 g1
  obtain ⟨x2, e2, _⟩ := DataW.trod_int Try.underlying3 g2
  obtain ⟨x3, e3, _⟩ := DataW.trod_int Try.underlying3 g3
  obtain ⟨x4, e4, _⟩ := DataW.trod_bool Try.underlying4 g4
  obtain ⟨x5, e5, _⟩ := DataW.trod_int Try.underlying3 g5
  obtain ⟨a6, l6, c6, e6⟩ := slice_form Try.underlying35 g6
  obtain ⟨a7, l7, c7, e7⟩ := slice_form Try.underlying36 g7
  obtain ⟨a8, l8, c8, e8⟩ := slice_form Try.underlying37 g8
  obtain ⟨a9, l9, c9, e9⟩ := slice_form Try.underlying29 g9
  obtain ⟨a10, l10, c10, e10⟩ := slice_form Try.underlying30 g10
  simp only [List.cons.injEq, and_true] at e0 e1 e2 e3 e4 e5 e6 e7 e8 e9 e10
  subst e0 e1 e2 e3 e4 e5 e6 e7 e8 e9 e10
  exact ⟨_, _, _, _, _, _, _, _, _, _, _, _, _, _, _, _, _, _, _, _, _, rfl⟩
end
end Go.Proofs.Ytbojccpaohccfaa.Pure
