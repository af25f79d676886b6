/- Where a text that was put into a name ends. Plain Lean over the printed functions. -/
import Derived.Test.YtmhjplbloeamiaaDoorUnf
namespace Go.Proofs.YtmhjplbloeamiaaDoor.H
open Go.RowKit Go.Proofs.YtmhjplbloeamiaaDoor.M Go.Proofs.YtmhjplbloeamiaaDoor.PEsc Go.Proofs.YtmhjplbloeamiaaDoorW.PrintWords Go.Proofs.YtmhjplbloeamiaaDoorW.PrintLast Go.Proofs.YtmhjplbloeamiaaDoorW.PrintMore
set_option linter.unusedVariables false
set_option linter.unusedSimpArgs false
theorem pre_split (g : Nat → UInt8 → Bs) (l : Bs) (i : Nat) : ∀ n, i ≤ n → ∃ rest, pre g l n = pre g l i ++ rest
  | 0, h => ⟨[], by obtain rfl := Nat.le_zero.1 h; simp⟩
  | n + 1, h => by
    by_cases e : i = n + 1
    · subst e; exact ⟨[], by simp⟩
    · obtain ⟨rest, hr⟩ := pre_split g l i n (by omega)
      exact ⟨rest ++ g n (l.getD n 0), by rw [pre, hr, List.append_assoc]⟩
/-- A byte that ends no text, and is no backslash. -/
def calm (c : UInt8) : Bool := !(amg [34, 43, 44, 59, 60, 62, 61, 92] c)
theorem calm_all : ∀ n : Fin 256, calm (UInt8.ofNat n.val) = true → amg [34, 60, 62, 61] (UInt8.ofNat n.val) = false ∧ amg [34, 43, 44, 59, 60, 62, 61] (UInt8.ofNat n.val) = false ∧ n.val ≠ 92 := by decide +kernel
theorem calm_is {c : UInt8} (h : calm c = true) : amg [34, 60, 62, 61] c = false ∧ amg [34, 43, 44, 59, 60, 62, 61] c = false ∧ c.toNat ≠ 92 := by
  have := calm_all ⟨c.toNat, c.toNat_lt⟩ (by simpa using h)
  simpa using this
theorem dig_calm_all : ∀ n : Fin 16, calm (dig n.val) = true := by decide +kernel
theorem dig_calm {n : Nat} (h : n < 16) : calm (dig n) = true := dig_calm_all ⟨n, h⟩
section
variable {P : Bs} {j : Nat} {v : Int} {c : UInt8}
theorem end_calm (h : P[j]? = some c) (hc : calm c = true) (hj : P.length ≤ 4000000) (ih : Ev (fun k => escape_end.l0 k (mk P) ((j + 1 : Nat) : Int)) v) :
    Ev (fun k => escape_end.l0 k (mk P) (j : Int)) v := by
  have hlt := (List.getElem?_eq_some_iff.1 h).1
  obtain ⟨c1, c2, c3⟩ := calm_is hc
  have g0 : (j : Int) < (P.length : Int) := by omega
  have g1 : (0 : Int) ≤ (j : Int) := by omega
  have g2 : ¬ (c.toNat : Int) = 92 := by omega
  have hw : wrap64 ((j : Int) + 1) = ((j + 1 : Nat) : Int) := by rw [w64 (by omega) (by omega)]; omega
  refine Ev.step (f := fun k => escape_end.l0 k (mk P) ((j + 1 : Nat) : Int)) (fun k => ?_) ih
  simp only [escape_end.l0]
  rw [bt_mk h, mk_size, if_pos g0, if_pos g1, among_f, among_f]
  show (some (amg [34, 60, 62, 61] c)).bind _ = _
  rw [c1, Option.bind_some, if_neg (by decide)]
  show (some (amg [34, 43, 44, 59, 60, 62, 61] c)).bind _ = _
  rw [c2, Option.bind_some, if_neg (by decide), if_neg g2, hw]
theorem end_slash (h : P[j]? = some c) (hc : c = 92) (h2 : j + 2 ≤ P.length) (hj : P.length ≤ 4000000) (ih : Ev (fun k => escape_end.l0 k (mk P) ((j + 2 : Nat) : Int)) v) :
    Ev (fun k => escape_end.l0 k (mk P) (j : Int)) v := by
  subst hc
  have g0 : (j : Int) < (P.length : Int) := by omega
  have g1 : (0 : Int) ≤ (j : Int) := by omega
  have g2 : ¬ ((j + 1 : Nat) : Int) = (P.length : Int) := by omega
  have hw : wrap64 ((j : Int) + 1) = ((j + 1 : Nat) : Int) := by rw [w64 (by omega) (by omega)]; omega
  have hw2 : wrap64 (((j + 1 : Nat) : Int) + 1) = ((j + 2 : Nat) : Int) := by rw [w64 (by omega) (by omega)]; omega
  refine Ev.step (f := fun k => escape_end.l0 k (mk P) ((j + 2 : Nat) : Int)) (fun k => ?_) ih
  simp only [escape_end.l0]
  rw [bt_mk h, mk_size, if_pos g0, if_pos g1, among_f, among_f]
  show (some (amg [34, 60, 62, 61] 92)).bind _ = _
  rw [show amg [34, 60, 62, 61] 92 = false by decide +kernel, Option.bind_some, if_neg (by decide)]
  show (some (amg [34, 43, 44, 59, 60, 62, 61] 92)).bind _ = _
  rw [show amg [34, 43, 44, 59, 60, 62, 61] 92 = false by decide +kernel, Option.bind_some, if_neg (by decide), if_pos (show ((92 : UInt8).toNat : Int) = 92 from rfl), hw, if_neg g2, hw2]
end
end Go.Proofs.YtmhjplbloeamiaaDoor.H
