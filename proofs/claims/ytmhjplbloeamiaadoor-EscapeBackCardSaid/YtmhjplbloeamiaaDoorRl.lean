/- What Read's loop makes of each piece of a text in a name. Plain Lean over the printed functions. -/
import Derived.Test.YtmhjplbloeamiaaDoorRd
namespace Go.Proofs.YtmhjplbloeamiaaDoor.H
open Go.RowKit Go.Proofs.YtmhjplbloeamiaaDoor.M Go.Proofs.YtmhjplbloeamiaaDoor.PEsc Go.Proofs.YtmhjplbloeamiaaDoorW.PrintWords Go.Proofs.YtmhjplbloeamiaaDoorW.PrintLast Go.Proofs.YtmhjplbloeamiaaDoorW.PrintMore
set_option linter.unusedVariables false
set_option linter.unusedSimpArgs false
def pl : Bs := [34, 43, 44, 59, 60, 62, 61, 35, 32, 92]
theorem dig_pl_all : ∀ n : Fin 16, amg pl (dig n.val) = false := by decide +kernel
theorem dig_pl {n : Nat} (h : n < 16) : amg pl (dig n) = false := dig_pl_all ⟨n, h⟩
theorem sign_own (c : UInt8) (x : Bs) (h : amg pl c = true) (hx : x.length ≤ 4000000) : Ev (fun k => escape_sign.f k (mk (c :: x)) (mk pl)) ((c.toNat : Int), 1) := by
  have hz : 0 < ((mk (c :: x)).size : Int) := by rw [mk_size]; simp <;> omega
  refine Ev.step (f := fun _ => some ((c.toNat : Int), (1 : Int))) (fun k => ?_) (Ev.now _)
  unfold escape_sign.f
  rw [mk_toList, if_neg (by simp), if_pos hz, bt_head, among_f]
  show (some (amg pl c)).bind _ = _
  rw [h, Option.bind_some]
  simp only [escape_sign.j0]
  rw [if_pos trivial, if_pos hz, bt_head]
theorem sign_digits (c : UInt8) (x : Bs) (hx : x.length ≤ 4000000) : Ev (fun k => escape_sign.f k (mk (two2 c ++ x)) (mk pl)) ((c.toNat : Int), 2) := by
  have hc := c.toNat_lt
  have hd : amg pl (dig (c.toNat / 16)) = false := dig_pl (by omega)
  have hl : (mk (two2 c ++ x)).size = x.length + 2 := by rw [mk_size, List.length_append, two_len]; omega
  have hz : 0 < ((x.length + 2 : Nat) : Int) := by omega
  have g1 : ¬ ((x.length + 2 : Nat) : Int) < 2 := by omega
  have g2 : (2 : Int) ≤ ((x.length + 2 : Nat) : Int) := by omega
  have hx2 : (mk (two2 c ++ x)).extract 0 2 = mk (two2 c) := by rw [mk_extract]; rfl
  have hj : Ev (fun k => escape_sign.j0 k (mk (two2 c ++ x)) false) ((c.toNat : Int), 2) := by
    refine Ev.step (f := fun k => (escape_Unhex.f k (mk (two2 c))).bind fun bt130 => (if bt130.2 = true then (if 0 < (bt130.1.size : Int) then (some (bt bt130.1 0, 2)) else (none)) else (some (0, 0)))) (fun k => ?_) (Ev.bind (unhex_two c) ?_)
    · simp only [escape_sign.j0]
      rw [if_neg (by decide), hl, if_neg g1, if_pos (by decide : 0 ≤ 2), if_pos g2, hx2]
    · have hb : bt (mk [c]) 0 = (c.toNat : Int) := bt_head _ _
      have hz1 : ((mk [c]).size : Int) = 1 := rfl
      simp only [if_true, hz1, hb, if_pos (show (0 : Int) < 1 by decide)]
      exact Ev.now _
  refine Ev.congr (fun k => ?_) hj
  unfold escape_sign.f
  rw [mk_toList, if_neg (by simp [two2]), hl, if_pos hz]
  show ((escape_among.f (mk pl) (bt (mk (dig (c.toNat / 16) :: ([dig (c.toNat % 16)] ++ x))) 0)).bind _) = _
  rw [bt_head, among_f]
  show ((some (amg pl (dig (c.toNat / 16)))).bind _) = _
  rw [hd, Option.bind_some]
section
variable {p s : Bs} {c : UInt8}
theorem drop_piece (U s : Bs) (c : UInt8) : (mk (U ++ c :: s)).extract (U.length + 1) (U.length + s.length + 1) = mk s := by
  rw [mk_extract]
  congr 1
  rw [List.drop_append, List.drop_eq_nil_of_le (by omega), List.nil_append, show U.length + 1 - U.length = 1 by omega, List.drop_one, List.tail_cons]
  exact List.take_of_length_le (by omega)
theorem at_mid2 (p s : Bs) (c : UInt8) : (p ++ c :: s)[p.length]? = some c := by rw [List.getElem?_append_right (Nat.le_refl _)]; simp
theorem sz_mid2 (p s : Bs) (c : UInt8) : (mk (p ++ c :: s)).size = p.length + s.length + 1 := by rw [mk_size]; simp; omega
end
theorem nums8_len (l : Bs) : (nums8 l).length = l.length := by unfold nums8; rw [List.length_map]
theorem nums8_add (l : Bs) (c : UInt8) : nums8 l ++ [(c.toNat : Int)] = nums8 (l ++ [c]) := by unfold nums8; rw [List.map_append]; rfl
theorem wraps2 {a b : Nat} (ha : a ≤ 4000000) (hb : b ≤ 3) : wrap64 ((a : Int) + 1) = ((a + 1 : Nat) : Int) ∧ wrap64 (wrap64 ((a : Int) + (b : Int)) + 1) = ((a + 1 + b : Nat) : Int) := by
  refine ⟨by rw [w64 (by omega) (by omega)]; omega, ?_⟩
  rw [w64 (n := (a : Int) + (b : Int)) (by omega) (by omega), w64 (by omega) (by omega)]
  omega
/-- A byte that stands for itself. -/
theorem read_plain (n5 : Int) (U s acc : Bs) (c : UInt8) (K : Nat) (r : ByteArray × Int × Bool) (hc : c.toNat ≠ 92) (hz : U.length + s.length + 1 ≤ 4000000) (ha : acc.length ≤ 4000000)
    (ih : Ev (fun k => escape_Read.l0 k n5 (mk (U ++ c :: s)) (nums8 (acc ++ [c])) ((if c.toNat = 32 then K else acc.length + 1 : Nat) : Int) ((U.length + 1 : Nat) : Int)) r) :
    Ev (fun k => escape_Read.l0 k n5 (mk (U ++ c :: s)) (nums8 acc) (K : Int) (U.length : Int)) r := by
  have hbt := bt_mk (at_mid2 U s c)
  have g0 : (U.length : Int) < ((U.length + s.length + 1 : Nat) : Int) := by omega
  have g1 : (0 : Int) ≤ (U.length : Int) := by omega
  have g2 : ¬ (c.toNat : Int) = 92 := by omega
  have g3 : (nums8 acc).length < 140737488355328 := by rw [nums8_len]; omega
  have e32 : ((c.toNat : Int) = 32) = (c.toNat = 32) := by rw [eq_iff_iff]; omega
  have hl : (nums8 (acc ++ [c])).length = acc.length + 1 := by rw [nums8_len, List.length_append]; rfl
  obtain ⟨hw, _⟩ := wraps2 (a := U.length) (b := 0) (by omega) (by omega)
  refine Ev.step (fun k => ?_) ih
  simp only [escape_Read.l0]
  rw [sz_mid2, if_pos g0, if_pos g1, hbt, if_neg g2, if_pos g3, nums8_add, Option.bind_some, hw]
  simp only [e32]
  by_cases h : c.toNat = 32
  · rw [if_pos h, if_pos h]
  · rw [if_neg h, if_neg h, hl]
/-- A byte with a backslash ahead. -/
theorem read_sign (n5 : Int) (U D V acc : Bs) (c : UInt8) (K : Nat) (r : ByteArray × Int × Bool) (hs : Ev (fun k => escape_sign.f k (mk (D ++ V)) (mk pl)) ((c.toNat : Int), (D.length : Int))) (hd : D.length ≠ 0 ∧ D.length ≤ 2)
    (hz : U.length + (D.length + V.length) + 1 ≤ 4000000) (ha : acc.length ≤ 4000000)
    (ih : Ev (fun k => escape_Read.l0 k n5 (mk (U ++ 92 :: (D ++ V))) (nums8 (acc ++ [c])) ((acc.length + 1 : Nat) : Int) ((U.length + 1 + D.length : Nat) : Int)) r) :
    Ev (fun k => escape_Read.l0 k n5 (mk (U ++ 92 :: (D ++ V))) (nums8 acc) (K : Int) (U.length : Int)) r := by
  have hbt := bt_mk (at_mid2 U (D ++ V) 92)
  have hle : (D ++ V).length = D.length + V.length := List.length_append
  have g0 : (U.length : Int) < ((U.length + (D ++ V).length + 1 : Nat) : Int) := by omega
  have g1 : (0 : Int) ≤ (U.length : Int) := by omega
  have g3 : (nums8 acc).length < 140737488355328 := by rw [nums8_len]; omega
  have g4 : (0 : Int) ≤ ((U.length + 1 : Nat) : Int) := by omega
  have g5 : ((U.length + 1 : Nat) : Int) ≤ ((U.length + (D ++ V).length + 1 : Nat) : Int) := by omega
  have g6 : ¬ (D.length : Int) = 0 := by omega
  have hl : (nums8 (acc ++ [c])).length = acc.length + 1 := by rw [nums8_len, List.length_append]; rfl
  have hu : U.length ≤ 4000000 := by omega
  obtain ⟨hw, hw2⟩ := wraps2 (a := U.length) (b := D.length) hu (by omega)
  refine Ev.step (f := fun k => (escape_sign.f k (mk (D ++ V)) (mk pl)).bind fun bt143 => (if bt143.2 = 0 then (some ((⟨#[]⟩ : ByteArray), 0, false)) else (if (nums8 acc).length < 140737488355328 then ((some (nums8 acc ++ [bt143.1] : List Int)).bind fun y145 => (escape_Read.l0 k n5 (mk (U ++ 92 :: (D ++ V))) y145 (y145.length : Int) (wrap64 ((wrap64 ((U.length : Int) + bt143.2)) + 1)))) else (none)))) (fun k => ?_) (Ev.bind hs ?_)
  · simp only [escape_Read.l0]
    rw [sz_mid2, if_pos g0, if_pos g1, hbt, if_pos (show ((92 : UInt8).toNat : Int) = 92 from rfl), hw, if_pos g4, if_pos g5, Int.toNat_natCast, drop_piece]
    rfl
  · refine Ev.congr (fun k => ?_) ih
    rw [if_neg g6, if_pos g3, nums8_add, Option.bind_some, hl, hw2]
end Go.Proofs.YtmhjplbloeamiaaDoor.H
