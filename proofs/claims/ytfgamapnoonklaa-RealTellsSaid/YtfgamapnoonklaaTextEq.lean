/- Two numbers are told alike just if they are alike in the order; the order goes both ways, and on. Plain facts. -/
import Derived.Test.YtfgamapnoonklaaText
namespace Go.Proofs.Ytfgamapnoonklaa.H
open Go.RowKit Key Go.Proofs.YtfgamapnoonklaaW.PrintWords

theorem hexd_inj : ∀ a, a < 16 → ∀ b, b < 16 → hexd ((a : Nat) : Int) = hexd ((b : Nat) : Int) → a = b := by decide
theorem hexd_range : ∀ a, a < 16 → 48 ≤ hexd ((a : Nat) : Int) ∧ hexd ((a : Nat) : Int) ≤ 102 := by decide
theorem mod_eq {n m : Nat} (h : ∀ i, i < 16 → n / 16 ^ i % 16 = m / 16 ^ i % 16) : ∀ k, k ≤ 16 → n % 16 ^ k = m % 16 ^ k := by
  intro k
  induction k with
  | zero => intro _; simp [Nat.mod_one]
  | succ k ih =>
    intro hk
    rw [Nat.mod_pow_succ, Nat.mod_pow_succ, ih (by omega), h k (by omega)]
theorem digs_inj {n m : Nat} (hn : n < 2 ^ 64) (hm : m < 2 ^ 64) (h : digs n = digs m) : n = m := by
  have e : (2 : Nat) ^ 64 = 16 ^ 16 := by decide
  have h1 : ∀ i, i < 16 → n / 16 ^ i % 16 = m / 16 ^ i % 16 := by
    intro i hi
    have h2 : (digs n)[15 - i]? = (digs m)[15 - i]? := by rw [h]
    simp only [digs, List.getElem?_map, List.getElem?_range (show 15 - i < 16 by omega), Option.map_some, Option.some.injEq, dig] at h2
    rw [show 15 - (15 - i) = i by omega] at h2
    exact hexd_inj _ (Nat.mod_lt _ (by omega)) _ (Nat.mod_lt _ (by omega)) h2
  have h3 := mod_eq h1 16 (by omega)
  rwa [← e, Nat.mod_eq_of_lt hn, Nat.mod_eq_of_lt hm] at h3
theorem digs_range {n : Nat} : ∀ x ∈ digs n, 48 ≤ x ∧ x ≤ 102 := by
  intro x hx
  simp only [digs, List.mem_map, List.mem_range] at hx
  obtain ⟨i, _, rfl⟩ := hx
  exact hexd_range _ (Nat.mod_lt _ (by omega))
theorem str_inj {xs ys : List Int} (hx : ∀ x ∈ xs, 0 ≤ x ∧ x ≤ 255) (hy : ∀ x ∈ ys, 0 ≤ x ∧ x ≤ 255) (h : strOfNums xs = strOfNums ys) : xs = ys := by
  have h1 := congrArg (fun s : ByteArray => s.data.toList.map fun u => (u.toNat : Int)) h
  simp only [strOfNums_data, List.map_map] at h1
  have e : ∀ {zs : List Int}, (∀ x ∈ zs, 0 ≤ x ∧ x ≤ 255) → zs.map ((fun u : UInt8 => (u.toNat : Int)) ∘ fun n => UInt8.ofNat n.toNat) = zs := fun {zs} hz => by
    conv => rhs; rw [← List.map_id zs]
    refine List.map_congr_left fun x hxm => ?_
    have := hz x hxm
    simp only [Function.comp, id]
    rw [UInt8.toNat_ofNat']
    omega
  rw [e hx, e hy] at h1
  exact h1
theorem plain_lt {x : Nat} (hx : x < 2 ^ 64) : plain x < 2 ^ 64 := by unfold plain; split; decide; split; decide; exact hx
theorem key_inj {x y : Nat} (hx : x < 2 ^ 64) (hy : y < 2 ^ 64) (h : key x = key y) (h0 : key x ≠ 0) : x = y := by
  have eW : (2 : Nat) ^ 64 = 2 * W := by decide
  have hW : 0 < W := by decide
  have d1 := Nat.div_add_mod x W
  have d2 := Nat.div_add_mod y W
  have l1 : x / W < 2 := by rw [Nat.div_lt_iff_lt_mul hW]; omega
  have l2 : y / W < 2 := by rw [Nat.div_lt_iff_lt_mul hW]; omega
  have n1 : neg x = decide (x / W = 1) := by unfold neg; generalize x / W = q at *; rcases (by omega : q = 0 ∨ q = 1) with rfl | rfl <;> rfl
  have n2 : neg y = decide (y / W = 1) := by unfold neg; generalize y / W = q at *; rcases (by omega : q = 0 ∨ q = 1) with rfl | rfl <;> rfl
  unfold key at h h0
  have inj := @val_inj (rg x) (rg y)
  unfold rg at inj h h0
  rw [n1, n2] at h
  rw [n1] at h0
  generalize val (x % W) = A at *
  generalize val (y % W) = B at *
  have c1 : x / W = 0 ∨ x / W = 1 := by generalize x / W = q at l1; omega
  have c2 : y / W = 0 ∨ y / W = 1 := by generalize y / W = q at l2; omega
  rcases c1 with e1 | e1 <;> rcases c2 with e2 | e2 <;> rw [e1] at d1 h h0 <;> rw [e2] at d2 h <;> simp at h h0
  · have := inj (by omega); omega
  · omega
  · omega
  · have := inj (by omega); omega
theorem plain_ord {a b : Nat} (ha : a < 2 ^ 64) (hb : b < 2 ^ 64) : plain a = plain b ↔ ord a b = 0 := by
  have kn : isNaN 9221120237041090560 = true := by decide
  have k0 : isNaN 0 = false := by decide
  have z0 : key 0 = 0 := by decide
  have pn : ∀ x, isNaN (plain x) = isNaN x := fun x => by
    unfold plain; cases h : isNaN x
    · simp only [Bool.false_eq_true, if_false]; split; exact k0; exact h
    · simp [kn]
  have pk : ∀ x, isNaN x = false → key (plain x) = key x := fun x h => by
    unfold plain; rw [h]; simp only [Bool.false_eq_true, if_false]; split
    · rename_i h1; rw [z0, h1]
    · rfl
  unfold ord
  cases h1 : isNaN a <;> cases h2 : isNaN b <;> simp only [Bool.false_eq_true, if_false, if_true]
  · constructor
    · intro h
      have e := pk a h1
      rw [h, pk b h2] at e
      rw [if_neg (by omega), if_neg (by omega)]
    · intro h
      have e : key a = key b := by split at h; omega; split at h; omega; omega
      by_cases h0 : key a = 0
      · simp [plain, h1, h2, h0, ← e]
      · rw [key_inj ha hb e h0]
  · constructor
    · intro h; have := pn a; rw [h, pn b, h1, h2] at this; cases this
    · intro h; omega
  · constructor
    · intro h; have := pn a; rw [h, pn b, h1, h2] at this; cases this
    · intro h; omega
  · simp [plain, h1, h2]
theorem text_eq {a b : Nat} (ha : a < 2 ^ 64) (hb : b < 2 ^ 64) : strOfNums (digs (plain a)) = strOfNums (digs (plain b)) ↔ ord a b = 0 := by
  rw [← plain_ord ha hb]
  constructor
  · intro h
    exact digs_inj (plain_lt ha) (plain_lt hb) (str_inj (fun x hx => by have := digs_range x hx; omega) (fun x hx => by have := digs_range x hx; omega) h)
  · intro h; rw [h]
theorem ord_range (a b : Nat) : -1 ≤ ord a b ∧ ord a b ≤ 1 := by
  unfold ord; split <;> (split <;> first | omega | (split <;> first | omega | (split <;> omega)))
theorem ord_neg (a b : Nat) : ord a b = -ord b a := by
  unfold ord
  cases isNaN a <;> cases isNaN b <;> simp only [Bool.false_eq_true, if_false, if_true] <;> first | rfl | (split <;> split <;> first | omega | rfl | (split <;> omega))
theorem ord_trans {a b c : Nat} (h1 : ord a b ≤ 0) (h2 : ord b c ≤ 0) : ord a c ≤ 0 := by
  unfold ord at *
  cases ha : isNaN a <;> cases hb : isNaN b <;> cases hc : isNaN c <;> simp only [ha, hb, hc, Bool.false_eq_true, if_false, if_true] at * <;> first | omega | skip
end Go.Proofs.Ytfgamapnoonklaa.H
