/- What Unhex tells of the digits that Hex wrote. Plain Lean over the printed functions. -/
import Derived.Test.YtmhjplbloeamiaaDoorRf
namespace Go.Proofs.YtmhjplbloeamiaaDoor.H
open Go.RowKit Go.Proofs.YtmhjplbloeamiaaDoor.M Go.Proofs.YtmhjplbloeamiaaDoor.PEsc Go.Proofs.YtmhjplbloeamiaaDoorW.PrintWords Go.Proofs.YtmhjplbloeamiaaDoorW.PrintLast Go.Proofs.YtmhjplbloeamiaaDoorW.PrintMore
set_option linter.unusedVariables false
set_option linter.unusedSimpArgs false
theorem digit_all : ∀ n : Fin 16, escape_digit.f ((dig n.val).toNat : Int) = some ((n.val : Int), true) := by decide +kernel
theorem digit_f {n : Nat} (h : n < 16) : escape_digit.f ((dig n).toNat : Int) = some ((n : Int), true) := digit_all ⟨n, h⟩
theorem or_all : ∀ x y : Fin 16, Go.bits .or .u8 (((x.val : Int) * 16) % 256) (y.val : Int) = ((x.val * 16 + y.val : Nat) : Int) := by decide +kernel
theorem or_eq {x y : Nat} (hx : x < 16) (hy : y < 16) : Go.bits .or .u8 (((x : Int) * 16) % 256) (y : Int) = ((x * 16 + y : Nat) : Int) := or_all ⟨x, hx⟩ ⟨y, hy⟩
theorem hexs_cons (c : UInt8) (s : Bs) : hexs (c :: s) = two2 c ++ hexs s := by rw [hexs_flat, hexs_flat, List.flatMap_cons]
theorem hexs_len (l : Bs) : (hexs l).length = 2 * l.length := by
  induction l with
  | nil => rfl
  | cons c s ih => rw [hexs_cons, List.length_append, ih, two_len, List.length_cons]; omega
theorem wraps3 {a : Nat} (ha : a ≤ 4000000) : wrap64 ((a : Int) + 1) = ((a + 1 : Nat) : Int) ∧ wrap64 ((a : Int) + 2) = ((a + 2 : Nat) : Int) :=
  ⟨by rw [w64 (by omega) (by omega)]; omega, by rw [w64 (by omega) (by omega)]; omega⟩
theorem unhex_l0 : ∀ (s p acc : Bs), p.length + 2 * s.length ≤ 1000000 → acc.length + s.length ≤ 1000000 →
    Ev (fun k => escape_Unhex.l0 k (mk (p ++ hexs s)) (nums8 acc) (p.length : Int)) (mk (acc ++ s), true)
  | [], p, acc, h1, h2 => by
    refine Ev.step (f := fun _ => some (mk acc, true)) (fun k => ?_) (by rw [List.append_nil]; exact Ev.now _)
    have e : p ++ hexs [] = p := by show p ++ [] = p; rw [List.append_nil]
    simp only [escape_Unhex.l0]
    rw [e, mk_size, if_neg (by omega), strOf_nums8]
  | c :: s, p, acc, h1, h2 => by
    simp only [List.length_cons] at h1 h2
    have hc := c.toNat_lt
    have ih := unhex_l0 s (p ++ two2 c) (acc ++ [c]) (by rw [List.length_append, two_len]; omega) (by rw [List.length_append]; simp; omega)
    have e1 : (p ++ two2 c) ++ hexs s = p ++ hexs (c :: s) := by rw [hexs_cons, List.append_assoc]
    have e2 : (acc ++ [c]) ++ s = acc ++ c :: s := by simp
    have e3 : (p ++ two2 c).length = p.length + 2 := by rw [List.length_append, two_len]
    rw [e1, e2, e3] at ih
    have hsz : (mk (p ++ hexs (c :: s))).size = p.length + 2 * (s.length + 1) := by rw [mk_size, List.length_append, hexs_len]; rfl
    have a0 : (p ++ hexs (c :: s))[p.length]? = some (dig (c.toNat / 16)) := by rw [List.getElem?_append_right (Nat.le_refl _), Nat.sub_self, hexs_cons]; rfl
    have a1 : (p ++ hexs (c :: s))[p.length + 1]? = some (dig (c.toNat % 16)) := by rw [List.getElem?_append_right (by omega), show p.length + 1 - p.length = 1 by omega, hexs_cons]; rfl
    have b0 := bt_mk a0
    have b1 := bt_mk a1
    have d0 := digit_f (n := c.toNat / 16) (by omega)
    have d1 := digit_f (n := c.toNat % 16) (by omega)
    have g0 : (p.length : Int) < ((p.length + 2 * (s.length + 1) : Nat) : Int) := by omega
    have g1 : (0 : Int) ≤ (p.length : Int) := by omega
    have g2 : (0 : Int) ≤ ((p.length + 1 : Nat) : Int) := by omega
    have g3 : ((p.length + 1 : Nat) : Int) < ((p.length + 2 * (s.length + 1) : Nat) : Int) := by omega
    have g4 : (nums8 acc).length < 140737488355328 := by rw [nums8_len]; omega
    have ho : Go.bits .or .u8 (((((c.toNat / 16 : Nat)) : Int) * 16) % 256) ((c.toNat % 16 : Nat) : Int) = (c.toNat : Int) := by
      rw [or_eq (by omega) (by omega)]; omega
    have hp : p.length ≤ 4000000 := by omega
    clear h1 h2 a0 a1 hc
    obtain ⟨w1, w2⟩ := wraps3 hp
    refine Ev.step (fun k => ?_) ih
    simp only [escape_Unhex.l0]
    rw [hsz, if_pos g0, if_pos g1, b0, d0, Option.bind_some, w1, if_pos g2, if_pos g3, b1, d1, Option.bind_some, if_pos rfl, if_pos rfl, if_pos g4, ho, nums8_add, w2]
theorem unhex_hexs (l : Bs) (hl : l.length ≤ 600) : Ev (fun k => escape_Unhex.f k (mk (hexs l))) (mk l, true) := by
  have := unhex_l0 l [] [] (by simp; omega) (by simp; omega)
  refine Ev.congr (fun k => ?_) this
  unfold escape_Unhex.f
  have e : (mk (hexs l)).size = 2 * l.length := by rw [mk_size, hexs_len]
  rw [e, if_pos (by omega)]
  rfl
end Go.Proofs.YtmhjplbloeamiaaDoor.H
