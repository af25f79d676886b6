/- What Numeric computes, on lists of bytes. Plain Lean over the printed functions. -/
import Derived.Test.YtmlihcknkgfhaaaDoorNumW
import Derived.Lib.TrimByte
namespace Go.Proofs.YtmlihcknkgfhaaaDoor.N
open Go.RowKit Go.Proofs.YtmlihcknkgfhaaaDoor.H Go.Proofs.YtmlihcknkgfhaaaDoor.LFoldNumbers Go.Proofs.YtmlihcknkgfhaaaDoorW.PrintWords Go.Proofs.YtmlihcknkgfhaaaDoorW.PrintLast Go.Proofs.YtmlihcknkgfhaaaDoorW.PrintMore
set_option linter.unusedVariables false
set_option linter.unusedSimpArgs false
abbrev Bs := List UInt8
def tx (l : Bs) : ByteArray := ⟨l.toArray⟩
theorem tx_data (s : ByteArray) : tx s.data.toList = s := by
  obtain ⟨⟨l⟩⟩ := s
  rfl
theorem tx_toList (l : Bs) : (tx l).toList = l := by rw [ByteArray.toList_eq]; rfl
theorem tx_size (l : Bs) : (tx l).size = l.length := Lib.size_mk l
theorem tx_extract (l : Bs) (a b : Nat) : (tx l).extract a b = tx ((l.drop a).take (b - a)) := Lib.extract_mk l a b
theorem tx_append (l m : Bs) : tx l ++ tx m = tx (l ++ m) := by
  apply ByteArray.ext
  simp [tx]
theorem bt_tx {l : Bs} {i : Nat} {c : UInt8} (h : l[i]? = some c) : bt (tx l) (i : Int) = (c.toNat : Int) := by
  have hi : i < l.length := (List.getElem?_eq_some_iff.1 h).1
  unfold bt
  have hs : (i : Int).toNat < (tx l).size := by rw [tx_size]; simpa using hi
  rw [dif_pos hs]
  have := Lib.getElem_mk l (i : Int).toNat hs
  simp only [Int.toNat_natCast] at this ⊢
  rw [h] at this
  rw [Option.some.inj this]
  rfl
theorem w64 {n : Int} (h0 : -9223372036854775808 ≤ n) (h1 : n ≤ 9223372036854775807) : wrap64 n = n := by unfold wrap64; omega
def isd (c : UInt8) : Bool := decide (48 ≤ c.toNat ∧ c.toNat ≤ 57)
/-- What Numeric answers. -/
def num (l : Bs) : Bs × Bool := if (H.tight l).all isd = true then (H.tight l, !(H.tight l).isEmpty) else ([], false)
theorem l0_f (t : Bs) (ht : t.length ≤ 1000000) : ∀ q j, j + q = t.length → Ev (fun k => fold_Numeric.l0 k (tx t) (t.length : Int) (j : Int)) (if (t.drop j).all isd = true then (tx t, !t.isEmpty) else (tx [], false))
  | 0, j, h => by
    have e : t.drop j = [] := List.drop_eq_nil_of_le (by omega)
    rw [e, List.all_nil, if_pos rfl]
    refine Ev.step (f := fun _ => some _) (fun k => ?_) (Ev.now _)
    simp only [fold_Numeric.l0]
    rw [if_neg (by omega), tx_toList]
    cases t <;> rfl
  | q + 1, j, h => by
    have ih := l0_f t ht q (j + 1) (by omega)
    have hj : j < t.length := by omega
    have hat : t[j]? = some t[j] := List.getElem?_eq_getElem hj
    have e : t.drop j = t[j] :: t.drop (j + 1) := List.drop_eq_getElem_cons hj
    have hbt := bt_tx hat
    generalize t[j] = c at *
    have g0 : (j : Int) < (t.length : Int) := by omega
    have g1 : (0 : Int) ≤ (j : Int) := by omega
    have hw : wrap64 ((j : Int) + 1) = ((j + 1 : Nat) : Int) := by rw [w64 (by omega) (by omega)]; omega
    rw [e, List.all_cons]
    by_cases h1 : c.toNat < 48
    · have hc : isd c = false := by unfold isd; rw [decide_eq_false_iff_not]; omega
      rw [hc, Bool.false_and, if_neg (by decide)]
      refine Ev.step (f := fun _ => some _) (fun k => ?_) (Ev.now _)
      simp only [fold_Numeric.l0]
      rw [tx_size, if_pos g0, if_pos g1, if_pos g0, hbt, if_pos (by omega)]
      rfl
    · by_cases h2 : 57 < c.toNat
      · have hc : isd c = false := by unfold isd; rw [decide_eq_false_iff_not]; omega
        rw [hc, Bool.false_and, if_neg (by decide)]
        refine Ev.step (f := fun _ => some _) (fun k => ?_) (Ev.now _)
        simp only [fold_Numeric.l0]
        rw [tx_size, if_pos g0, if_pos g1, if_pos g0, hbt, if_neg (by omega), if_pos (by omega)]
        rfl
      · have hc : isd c = true := by unfold isd; rw [decide_eq_true_eq]; omega
        rw [hc, Bool.true_and]
        refine Ev.step (fun k => ?_) ih
        simp only [fold_Numeric.l0]
        rw [tx_size, if_pos g0, if_pos g1, if_pos g0, hbt, if_neg (by omega), if_neg (by omega), hw]
theorem tight_len (l : Bs) : (H.tight l).length ≤ l.length := List.length_filter_le ..
theorem numeric_f (l : Bs) (hl : l.length ≤ 1000000) : Ev (fun k => fold_Numeric.f k (tx l)) (tx (num l).1, (num l).2) := by
  have h1 := l0_f (H.tight l) (by have := tight_len l; omega) (H.tight l).length 0 (by omega)
  have e : strings_ReplaceAll.f (tx l) (⟨#[32]⟩ : ByteArray) (⟨#[]⟩ : ByteArray) = some (tx (H.tight l)) := by
    unfold strings_ReplaceAll.f
    rw [if_pos ⟨by rw [tx_size]; omega, rfl, rfl⟩]
    rfl
  have e2 : (if ((H.tight l).drop 0).all isd = true then (tx (H.tight l), !(H.tight l).isEmpty) else (tx [], false)) = (tx (num l).1, (num l).2) := by
    rw [List.drop_zero]
    unfold num
    split <;> rfl
  rw [e2] at h1
  refine Ev.congr (fun k => ?_) h1
  unfold fold_Numeric.f
  rw [e, Option.bind_some, tx_size]
  rfl
theorem Num_f (l : Bs) (hl : l.length ≤ 1000000) : Num (tx l) (tx (num l).1) (num l).2 := (numeric_f l hl).rounds
theorem num_tight (l : Bs) : num l = num (H.tight l) := by unfold num; rw [tight_tight]
theorem num_again {l : Bs} (h : (num l).2 = true) : num (num l).1 = num l := by
  unfold num at h
  split at h
  case isFalse => cases h
  rename_i hd
  have e : num l = (H.tight l, !(H.tight l).isEmpty) := by unfold num; rw [if_pos hd]
  rw [e]
  show num (H.tight l) = _
  rw [← num_tight, e]
theorem num_x (a b : Bs) : num (a ++ [120] ++ b) = ([], false) := by
  unfold num
  rw [tight_append, tight_append, if_neg]
  rw [List.all_append, List.all_append]
  have : (H.tight [120]).all isd = false := by decide
  rw [this]
  simp
theorem num_gap (l : Bs) (n : Nat) : num (l.take n ++ [32, 32] ++ l.drop n) = num l := by
  rw [num_tight, num_tight l]
  congr 1
  rw [tight_append, tight_append]
  have : H.tight [32, 32] = [] := by decide
  rw [this, List.append_nil, ← tight_append, List.take_append_drop]
theorem place {z : Int} {a1 A : Int} (hz : 0 ≤ z) (h1 : z ≤ 300) (hA : (wrap64 (a1.tmod (z + 1) + (z + 1))).tmod (z + 1) = A) : 0 ≤ A ∧ A ≤ z := by
  have b1 := Int.tmod_lt_of_pos a1 (show 0 < z + 1 by omega)
  have b0 := Int.lt_tmod_of_pos a1 (show 0 < z + 1 by omega)
  rw [w64 (by omega) (by omega)] at hA
  have c1 := Int.tmod_lt_of_pos (a1.tmod (z + 1) + (z + 1)) (show 0 < z + 1 by omega)
  have c0 := Int.tmod_nonneg (z + 1) (show 0 ≤ a1.tmod (z + 1) + (z + 1) by omega)
  omega
end Go.Proofs.YtmlihcknkgfhaaaDoor.N
namespace Go.Proofs.YtmlihcknkgfhaaaDoor.Pure
open Go.RowKit Go.Proofs.YtmlihcknkgfhaaaDoor.H Go.Proofs.YtmlihcknkgfhaaaDoor.N
theorem five : num [49, 32, 50, 51] = ([49, 50, 51], true) := by decide
theorem facts (l : Bs) (n : Nat) (hl : l.length ≤ 300) (hn : n ≤ l.length) :
    Num (tx l) (tx (num l).1) (num l).2 ∧ Num ((tx l).extract 0 n ++ ⟨#[32, 32]⟩ ++ (tx l).extract n l.length) (tx (num l).1) (num l).2 ∧
    Num ((tx l).extract 0 n ++ ⟨#[120]⟩ ++ (tx l).extract n l.length) (tx []) false ∧ Num (tx (num l).1) (tx (num (num l).1).1) (num (num l).1).2 ∧
    Num (⟨#[49, 32, 50, 51]⟩ : ByteArray) ⟨#[49, 50, 51]⟩ true := by
  have e1 : (tx l).extract 0 n = tx (l.take n) := by rw [tx_extract]; rfl
  have e2 : (tx l).extract n l.length = tx (l.drop n) := by rw [tx_extract, List.take_of_length_le (by rw [List.length_drop]; omega)]
  have e3 : tx (l.take n) ++ (⟨#[32, 32]⟩ : ByteArray) = tx (l.take n ++ [32, 32]) := tx_append _ _
  have e4 : tx (l.take n) ++ (⟨#[120]⟩ : ByteArray) = tx (l.take n ++ [120]) := tx_append _ _
  have hlen : (l.take n).length ≤ 300 := by rw [List.length_take]; omega
  have hlen2 : (l.drop n).length ≤ 300 := by rw [List.length_drop]; omega
  have hn1 : (num l).1.length ≤ 300 := by
    unfold num
    split
    · have := tight_len l; show (H.tight l).length ≤ 300; omega
    · simp
  rw [e1, e2, e3, e4, tx_append, tx_append]
  refine ⟨Num_f l (by omega), ?_, ?_, Num_f _ (by omega), ?_⟩
  · have := Num_f (l.take n ++ [32, 32] ++ l.drop n) (by simp only [List.length_append]; simp; omega)
    rw [num_gap] at this
    exact this
  · have := Num_f (l.take n ++ [120] ++ l.drop n) (by simp only [List.length_append]; simp; omega)
    rw [num_x] at this
    exact this
  · have := Num_f [49, 32, 50, 51] (by simp)
    rw [five] at this
    exact this
theorem FoldNumbers_walk (a0 : ByteArray) (a1 : Int) (w : World) (HM : MX w) :
    Calls Tryd.prog 4 #[.string a0, .int .i64 a1] w fun e w' => e = .returned (.bool true) ∧ Below w.heap.size w w' := by
  obtain ⟨l, rfl⟩ : ∃ l, a0 = tx l := ⟨a0.data.toList, (tx_data a0).symm⟩
  by_cases h : l.length ≤ 300
  · have hsz : (tx l).size = l.length := tx_size l
    obtain ⟨p0, p1⟩ := place (z := ((tx l).size : Int)) (a1 := a1) (by omega) (by omega) rfl
    generalize hA : (wrap64 (a1.tmod (((tx l).size : Int) + 1) + (((tx l).size : Int) + 1))).tmod (((tx l).size : Int) + 1) = A at p0 p1
    obtain ⟨n1, n2, n3, n4, n5⟩ := facts l A.toNat h (by omega)
    rw [← hsz] at n2 n3
    cases hb : (num l).2 with
    | true =>
      rw [num_again hb, hb] at n4
      rw [hb] at n1 n2
      exact num_short_true (tx l) a1 A _ _ _ _ w ⟨HM⟩ (decide_eq_false (by omega)) (by omega) hA p0 p1 n1 n2 n3 n4 n5 rfl rfl
    | false =>
      rw [hb] at n1 n2
      exact num_short_false (tx l) a1 A _ _ _ _ w ⟨HM⟩ (decide_eq_false (by omega)) (by omega) hA p0 p1 n1 n2 n3 n4 n5
  · have hsz : (tx l).size = l.length := tx_size l
    have hx : (tx l).extract 0 300 = tx (l.take 300) := by rw [tx_extract]; rfl
    have hm : min 300 (tx l).size = (l.take 300).length := by rw [hsz, List.length_take]
    obtain ⟨p0, p1⟩ := place (z := ((min 300 (tx l).size : Nat) : Int)) (a1 := a1) (by omega) (by omega) rfl
    generalize hA : (wrap64 (a1.tmod (((min 300 (tx l).size : Nat) : Int) + 1) + (((min 300 (tx l).size : Nat) : Int) + 1))).tmod (((min 300 (tx l).size : Nat) : Int) + 1) = A at p0 p1
    obtain ⟨n1, n2, n3, n4, n5⟩ := facts (l.take 300) A.toNat (by omega) (by omega)
    rw [← hm, ← hx] at n2 n3
    rw [← hx] at n1
    cases hb : (num (l.take 300)).2 with
    | true =>
      rw [num_again hb, hb] at n4
      rw [hb] at n1 n2
      exact num_long_true (tx l) a1 A _ _ _ _ w ⟨HM⟩ (decide_eq_true (by omega)) (by omega) hA p0 p1 n1 n2 n3 n4 n5 rfl rfl
    | false =>
      rw [hb] at n1 n2
      exact num_long_false (tx l) a1 A _ _ _ _ w ⟨HM⟩ (decide_eq_true (by omega)) (by omega) hA p0 p1 n1 n2 n3 n4 n5
end Go.Proofs.YtmlihcknkgfhaaaDoor.Pure
