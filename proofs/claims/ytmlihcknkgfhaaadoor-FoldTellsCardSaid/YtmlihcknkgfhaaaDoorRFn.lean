/- What the reference's Numeric and Find compute: the same. Plain Lean over the printed functions. -/
import Derived.Test.YtmlihcknkgfhaaaDoorNumP
import Derived.Test.YtmlihcknkgfhaaaDoorFnd
import Derived.Test.YtmlihcknkgfhaaaDoorPFoldx2
import Derived.Test.YtmlihcknkgfhaaaDoorPFoldx4
namespace Go.Proofs.YtmlihcknkgfhaaaDoor.N
open Go.RowKit Go.Lib Go.Proofs.YtmlihcknkgfhaaaDoor.PFold Go.Proofs.YtmlihcknkgfhaaaDoorW.PrintWords Go.Proofs.YtmlihcknkgfhaaaDoorW.PrintLast Go.Proofs.YtmlihcknkgfhaaaDoorW.PrintMore
set_option linter.unusedVariables false
set_option linter.unusedSimpArgs false
def numR (out s : Bs) : ByteArray × Bool := if (H.tight s).all isd = true then (tx (out ++ H.tight s), !(out ++ H.tight s).isEmpty) else (tx [], false)
theorem tight_cons (c : UInt8) (s : Bs) : H.tight (c :: s) = if c = 32 then H.tight s else c :: H.tight s := by
  unfold H.tight
  by_cases h : c = 32
  · rw [if_pos h, List.filter_cons_of_neg (by simp [h])]
  · rw [if_neg h, List.filter_cons_of_pos (by simpa using h)]
theorem rnum_l0 : ∀ (s p out : Bs), p.length + s.length ≤ 100000 → out.length + s.length ≤ 100000 →
    Ev (fun k => peerageref05_Numeric.l0 k (tx (p ++ s)) (tx out) (p.length : Int)) (numR out s)
  | [], p, out, h1, h2 => by
    have hz : (tx (p ++ [])).size = p.length := by rw [tx_size, List.append_nil]
    have e : numR out [] = (tx out, !out.isEmpty) := by
      show (tx (out ++ []), !(out ++ []).isEmpty) = _
      rw [List.append_nil]
    rw [e]
    refine Ev.step (f := fun _ => some _) (fun k => ?_) (Ev.now _)
    simp only [peerageref05_Numeric.l0]
    rw [hz, if_neg (by omega), tx_toList]
    cases out <;> rfl
  | c :: s, p, out, h1, h2 => by
    simp only [List.length_cons] at h1 h2
    have hz : (tx (p ++ c :: s)).size = p.length + s.length + 1 := by rw [tx_size, List.length_append, List.length_cons]; omega
    have hat : (p ++ c :: s)[p.length]? = some c := by rw [List.getElem?_append_right (Nat.le_refl _)]; simp
    have hbt := bt_tx hat
    have hpc : p ++ c :: s = (p ++ [c]) ++ s := by simp
    have hlc : (p ++ [c]).length = p.length + 1 := by simp
    have ex : (tx (p ++ c :: s)).extract p.length (p.length + 1) = tx [c] := by
      rw [tx_extract, List.drop_left, show p.length + 1 - p.length = 1 by omega]
      rfl
    have ih1 := rnum_l0 s (p ++ [c]) (out ++ [c]) (by rw [hlc]; omega) (by simp; omega)
    have ih2 := rnum_l0 s (p ++ [c]) out (by rw [hlc]; omega) (by omega)
    rw [← hpc, hlc] at ih1 ih2
    have g0 : (p.length : Int) < ((p.length + s.length + 1 : Nat) : Int) := by omega
    have g1 : (0 : Int) ≤ (p.length : Int) := by omega
    have g2 : (p.length : Int) ≤ ((p.length + 1 : Nat) : Int) := by omega
    have g3 : ((p.length + 1 : Nat) : Int) ≤ ((p.length + s.length + 1 : Nat) : Int) := by omega
    have g4 : (tx out).size + (tx [c]).size ≤ 9223372036854775807 := by rw [tx_size, tx_size]; simp; omega
    have hw : wrap64 ((p.length : Int) + 1) = ((p.length + 1 : Nat) : Int) := by rw [w64 (by omega) (by omega)]; omega
    cases hd : isd c with
    | true =>
      have hd2 := hd
      unfold isd at hd2
      rw [decide_eq_true_eq] at hd2
      have hne : ¬ c = 32 := by rintro rfl; exact absurd hd (by decide)
      have e : numR out (c :: s) = numR (out ++ [c]) s := by
        unfold numR
        rw [tight_cons, if_neg hne, List.all_cons, hd, Bool.true_and]
        simp
      have k1 : (c.toNat : Int) ≥ 48 := by omega
      have k2 : (c.toNat : Int) ≤ 57 := by omega
      rw [e]
      refine Ev.step (fun k => ?_) ih1
      simp only [peerageref05_Numeric.l0]
      rw [hz, if_pos g0, if_pos g1, hbt, if_pos k1, if_pos k2, hw, if_pos g2, if_pos g3, Int.toNat_natCast, Int.toNat_natCast, ex, if_pos g4, tx_append]
    | false =>
      have hd2 := hd
      unfold isd at hd2
      rw [decide_eq_false_iff_not] at hd2
      by_cases h32 : c = 32
      · have e : numR out (c :: s) = numR out s := by
          unfold numR
          rw [tight_cons, if_pos h32]
        have k1 : ¬ (c.toNat : Int) ≥ 48 := by rw [h32]; decide
        have k3 : (c.toNat : Int) = 32 := by rw [h32]; rfl
        rw [e]
        refine Ev.step (fun k => ?_) ih2
        simp only [peerageref05_Numeric.l0]
        rw [hz, if_pos g0, if_pos g1, hbt, if_neg k1, if_pos k3, hw]
      · have h3 : ¬ (c.toNat : Int) = 32 := by
          intro q
          apply h32
          have : c.toNat = (32 : UInt8).toNat := by show c.toNat = 32; omega
          exact UInt8.toNat_inj.1 this
        have e : numR out (c :: s) = (tx [], false) := by
          unfold numR
          rw [tight_cons, if_neg h32, List.all_cons, hd, Bool.false_and, if_neg (by decide)]
        rw [e]
        refine Ev.step (f := fun _ => some (tx [], false)) (fun k => ?_) (Ev.now _)
        simp only [peerageref05_Numeric.l0]
        rw [hz, if_pos g0, if_pos g1, hbt]
        by_cases k1 : (c.toNat : Int) ≥ 48
        · rw [if_pos k1, if_neg (by omega), if_neg h3]; rfl
        · rw [if_neg k1, if_neg h3]; rfl
theorem rnumeric_f (l : Bs) (hl : l.length ≤ 100000) : Ev (fun k => peerageref05_Numeric.f k (tx l)) (tx (num l).1, (num l).2) := by
  have := rnum_l0 l [] [] (by simp; omega) (by simp; omega)
  have e : numR [] l = (tx (num l).1, (num l).2) := by
    unfold numR num
    simp only [List.nil_append]
    split <;> rfl
  rw [e] at this
  exact this
/-- What Find answers from a place on. -/
def foundFrom (L T : Bs) (b : Nat) : Int := if L.length < b then -1 else if Lib.index (L.drop b) T < 0 then -1 else (b : Int) + Lib.index (L.drop b) T
theorem rfind_l0 (L T : Bs) (hs : L.length + T.length ≤ 600) : ∀ (q b : Nat), L.length + 1 ≤ b + q → (b : Int) ≤ 9223372036854775807 → Ev (fun k => peerageref05_Find.l0 k (tx L) (tx T) (b : Int)) (foundFrom L T b)
  | 0, b, hq, hb => by
    have e : foundFrom L T b = -1 := by unfold foundFrom; rw [if_pos (by omega)]
    rw [e]
    refine Ev.step (f := fun _ => some _) (fun k => ?_) (Ev.now _)
    simp only [peerageref05_Find.l0]
    rw [tx_size, tx_size, if_neg (by omega)]
  | q + 1, b, hq, hb => by
    by_cases h0 : L.length < b
    · have e : foundFrom L T b = -1 := by unfold foundFrom; rw [if_pos h0]
      rw [e]
      refine Ev.step (f := fun _ => some _) (fun k => ?_) (Ev.now _)
      simp only [peerageref05_Find.l0]
      rw [tx_size, tx_size, if_neg (by omega)]
    have hle : b ≤ L.length := by omega
    have g0 : (b : Int) ≤ (L.length : Int) := by omega
    have g1 : (0 : Int) ≤ (b : Int) := by omega
    have hdl : (L.drop b).length = L.length - b := List.length_drop
    have hw0 : wrap64 ((L.length : Int) - (b : Int)) = ((L.length - b : Nat) : Int) := by rw [w64 (by omega) (by omega)]; omega
    have hw1 : wrap64 ((b : Int) + (T.length : Int)) = ((b + T.length : Nat) : Int) := by rw [w64 (by omega) (by omega)]; omega
    have hw2 : wrap64 ((b : Int) + 1) = ((b + 1 : Nat) : Int) := by rw [w64 (by omega) (by omega)]; omega
    by_cases h1 : T.length ≤ L.length - b
    · have g2 : (T.length : Int) ≤ ((L.length - b : Nat) : Int) := by omega
      have g3 : (b : Int) ≤ ((b + T.length : Nat) : Int) := by omega
      have g4 : ((b + T.length : Nat) : Int) ≤ (L.length : Int) := by omega
      have ex : ((tx L).extract b (b + T.length)).toList = (L.drop b).take T.length := by rw [tx_extract, tx_toList, Nat.add_sub_cancel_left]
      have ho := occAt_iff_take (L.drop b) T 0 (by omega)
      rw [List.drop_zero] at ho
      by_cases h2 : (L.drop b).take T.length = T
      · have hi : Lib.index (L.drop b) T = ((0 : Nat) : Int) := index_hit (NoOcc.zero _ _) (Nat.zero_le _) (by rw [ho, h2]; simp)
        have e : foundFrom L T b = (b : Int) := by
          unfold foundFrom
          rw [if_neg h0, hi, if_neg (by omega)]
          omega
        rw [e]
        refine Ev.step (f := fun _ => some _) (fun k => ?_) (Ev.now _)
        simp only [peerageref05_Find.l0]
        rw [tx_size, tx_size, if_pos g0, hw0, if_pos g2, if_pos g1, hw1, if_pos g3, if_pos g4, Int.toNat_natCast, Int.toNat_natCast, ex, tx_toList, if_pos h2]
      · have hne : occAt (L.drop b) T 0 = false := by rw [ho]; simpa using h2
        have hlt : b < L.length := by
          rcases Nat.lt_or_ge b L.length with h | h
          · exact h
          · exfalso
            apply h2
            have : T = [] := List.eq_nil_of_length_eq_zero (by omega)
            subst this
            rfl
        have ih := rfind_l0 L T hs q (b + 1) (by omega) (by omega)
        have hd := index_drop (s := L.drop b) (sub := T) (i := 1) (by
          intro j hj
          obtain rfl : j = 0 := by omega
          exact hne) (by omega)
        have hge := index_ge ((L.drop b).drop 1) T
        rw [List.drop_drop] at hd hge
        have e : foundFrom L T b = foundFrom L T (b + 1) := by
          have hb1 : ¬ L.length < b + 1 := by omega
          unfold foundFrom
          rw [if_neg h0, if_neg hb1, hd]
          by_cases hm : Lib.index (L.drop (b + 1)) T = -1
          · rw [hm]; rfl
          · have hb2 : (Lib.index (L.drop (b + 1)) T == -1) = false := by simpa using hm
            have hb3 : ¬ Lib.index (L.drop (b + 1)) T < 0 := by omega
            have hb4 : ¬ Lib.index (L.drop (b + 1)) T + ((1 : Nat) : Int) < 0 := by omega
            rw [hb2, if_neg Bool.false_ne_true, if_neg hb4, if_neg hb3]
            omega
        rw [e]
        refine Ev.step (fun k => ?_) ih
        simp only [peerageref05_Find.l0]
        rw [tx_size, tx_size, if_pos g0, hw0, if_pos g2, if_pos g1, hw1, if_pos g3, if_pos g4, Int.toNat_natCast, Int.toNat_natCast, ex, tx_toList, if_neg h2, hw2]
    · have hT : T ≠ [] := by rintro rfl; simp at h1
      have hi : Lib.index (L.drop b) T = -1 := index_past hT (NoOcc.zero _ _) (by omega)
      have e : foundFrom L T b = -1 := by unfold foundFrom; rw [if_neg h0, hi, if_pos (by decide)]
      have g2 : ¬ (T.length : Int) ≤ ((L.length - b : Nat) : Int) := by omega
      rw [e]
      refine Ev.step (f := fun _ => some _) (fun k => ?_) (Ev.now _)
      simp only [peerageref05_Find.l0]
      rw [tx_size, tx_size, if_pos g0, hw0, if_neg g2]
theorem found_eq (L T : Bs) (n : Int) : H.found (tx L) (tx T) n = foundFrom L T (mx n 0).toNat := by
  have h0 : 0 ≤ mx n 0 := by unfold mx; split <;> omega
  have hs : (tx L).size = L.length := tx_size L
  unfold H.found foundFrom
  show (if ((tx L).size : Int) < mx n 0 then -1 else if Lib.index (L.drop (mx n 0).toNat) T < 0 then -1 else mx n 0 + Lib.index (L.drop (mx n 0).toNat) T) = _
  rw [hs]
  by_cases h : (L.length : Int) < mx n 0
  · rw [if_pos h, if_pos (by omega)]
  · have h2 : ¬ L.length < (mx n 0).toNat := by omega
    rw [if_neg h, if_neg h2]
    have : ((mx n 0).toNat : Int) = mx n 0 := Int.toNat_of_nonneg h0
    rw [this]
theorem rfind_f (L T : Bs) (n : Int) (hs : L.length + T.length ≤ 600) (hn : n ≤ 9223372036854775807) : Ev (fun k => peerageref05_Find.f k (tx L) (tx T) n) (H.found (tx L) (tx T) n) := by
  rw [found_eq]
  by_cases h : n < 0
  · have e : (mx n 0).toNat = 0 := by unfold mx; rw [if_pos h]; rfl
    have := rfind_l0 L T hs (L.length + 1) 0 (by omega) (by omega)
    rw [e]
    refine Ev.congr (fun k => ?_) this
    unfold peerageref05_Find.f
    rw [if_pos h]
    rfl
  · have e : mx n 0 = n := by unfold mx; rw [if_neg h]
    have e2 : ((n.toNat : Nat) : Int) = n := Int.toNat_of_nonneg (by omega)
    have := rfind_l0 L T hs (L.length + 1) n.toNat (by omega) (by omega)
    rw [e]
    rw [e2] at this
    refine Ev.congr (fun k => ?_) this
    unfold peerageref05_Find.f
    rw [if_neg h]
end Go.Proofs.YtmlihcknkgfhaaaDoor.N
