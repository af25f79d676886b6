/- Plain facts on doubles: each word that is a number has a key, an integer; the order of words is the order of keys; what a rate's key is. No Go in sight. -/
import Derived.Test.YtfgamapnoonklaaRnd
namespace Go.Proofs.Ytfgamapnoonklaa.Key
open Ieee Rnd

/-- 2 ^ 52, 2 ^ 63 and the rung of infinity, behind names. -/
def B : Nat := 2 ^ 52
def W : Nat := 2 ^ 63
def INF : Nat := 2047 * 2 ^ 52
theorem B_pos : 0 < B := by decide
theorem INF_B : INF = 2047 * B := rfl
theorem W_B : W = 2048 * B := by decide
theorem inf_lt : INF < W := by decide
theorem binade_d : double.binade = B := by decide
theorem inf_d : double.infRung = INF := by decide
theorem weight_d : double.signWeight = W := by decide
theorem least_d : double.leastPlace = -1074 := by decide

def neg (x : Nat) : Bool := x / W % 2 == 1
def rg (x : Nat) : Nat := x % W
def isNaN (x : Nat) : Bool := decide (INF < rg x)
/-- A rung's significand, and its place above the least one. -/
def sig (r : Nat) : Nat := if r < B then r else B + r % B
def up (r : Nat) : Nat := if r < B then 0 else r / B - 1
/-- A rung's value, in units of the least place. -/
def val (r : Nat) : Nat := sig r * 2 ^ up r
def key (x : Nat) : Int := if neg x then -(val (rg x) : Int) else (val (rg x) : Int)

theorem val_step (r : Nat) : val r < val (r + 1) := by
  have hB := B_pos
  unfold val sig up
  by_cases h1 : r + 1 < B
  · rw [if_pos h1, if_pos (by omega : r < B), if_pos h1, if_pos (by omega : r < B)]; simp
  · rw [if_neg h1, if_neg h1]
    by_cases h2 : r < B
    · have e : r + 1 = B := by omega
      rw [if_pos h2, if_pos h2, e, Nat.mod_self, Nat.div_self hB]; simp; omega
    · rw [if_neg h2, if_neg h2]
      have x := Nat.div_add_mod r B
      have hr := Nat.mod_lt r hB
      have hq : 1 ≤ r / B := by rw [Nat.le_div_iff_mul_le hB]; omega
      by_cases h3 : r % B + 1 < B
      · have e1 : (r + 1) / B = r / B := by
          rw [← x, Nat.add_assoc, Nat.mul_add_div hB, Nat.mul_add_div hB, Nat.div_eq_of_lt h3, Nat.div_eq_of_lt hr]
        have e2 : (r + 1) % B = r % B + 1 := by
          conv => lhs; rw [← x]
          rw [Nat.add_assoc, Nat.mul_add_mod, Nat.mod_eq_of_lt h3]
        rw [e1, e2]
        exact Nat.mul_lt_mul_of_pos_right (by omega) (Nat.two_pow_pos _)
      · have e0 : r + 1 = B * (r / B + 1) := by rw [Nat.mul_add]; omega
        have e1 : (r + 1) / B = r / B + 1 := by rw [e0, Nat.mul_div_cancel_left _ hB]
        have e2 : (r + 1) % B = 0 := by rw [e0, Nat.mul_mod_right]
        rw [e1, e2, show r / B + 1 - 1 = (r / B - 1) + 1 by omega, Nat.pow_succ]
        have hp := Nat.two_pow_pos (r / B - 1)
        calc (B + r % B) * 2 ^ (r / B - 1) < (2 * B) * 2 ^ (r / B - 1) := Nat.mul_lt_mul_of_pos_right (by omega) hp
          _ = (B + 0) * (2 ^ (r / B - 1) * 2) := by rw [Nat.add_zero, Nat.mul_comm 2 B, Nat.mul_assoc, Nat.mul_comm 2]
theorem val_lt {r s : Nat} (h : r < s) : val r < val s := by
  obtain ⟨k, rfl⟩ : ∃ k, s = r + 1 + k := ⟨s - r - 1, by omega⟩
  clear h
  induction k with
  | zero => exact val_step r
  | succ k ih => exact Nat.lt_trans ih (val_step _)
theorem val_le {r s : Nat} (h : r ≤ s) : val r ≤ val s := by
  rcases Nat.lt_or_ge r s with h1 | h1
  · exact Nat.le_of_lt (val_lt h1)
  · rw [show r = s by omega]; exact Nat.le_refl _
theorem val_inj {r s : Nat} (h : val r = val s) : r = s := by
  rcases Nat.lt_trichotomy r s with h1 | h1 | h1
  · have := val_lt h1; omega
  · exact h1
  · have := val_lt h1; omega
theorem val_zero : val 0 = 0 := by decide
theorem val_pos {r : Nat} (h : 0 < r) : 0 < val r := by have := val_lt h; rw [val_zero] at this; exact this

theorem read_fin {x : Nat} (h : rg x < INF) : double.read x = .number (neg x) (sig (rg x)) (-1074 + (up (rg x) : Int)) := by
  unfold Format.read
  simp only [binade_d, inf_d, weight_d, least_d]
  unfold rg at h ⊢
  by_cases h1 : x % W < B
  · rw [if_pos h1]; simp [sig, up, h1, neg]
  · rw [if_neg h1, if_pos h]; simp [sig, up, h1, neg]
theorem read_inf {x : Nat} (h : rg x = INF) : double.read x = .infinity (neg x) := by
  unfold Format.read
  simp only [binade_d, inf_d, weight_d, least_d]
  unfold rg at h
  rw [if_neg (by rw [h]; decide), if_neg (by omega), if_pos h]; rfl
theorem read_nan {x : Nat} (h : INF < rg x) : double.read x = .nan (neg x) (rg x - INF) := by
  unfold Format.read
  simp only [binade_d, inf_d, weight_d, least_d]
  unfold rg at h
  have : B ≤ INF := by decide
  rw [if_neg (by omega), if_neg (by omega), if_neg (by omega)]; rfl

theorem compare_eq {a b c d : Int} (h1 : a < b ↔ c < d) (h2 : a = b ↔ c = d) : compare a b = compare c d := by
  show compareOfLessAndEq a b = compareOfLessAndEq c d
  unfold compareOfLessAndEq
  by_cases x : a < b
  · rw [if_pos x, if_pos (h1.1 x)]
  · rw [if_neg x, if_neg (fun y => x (h1.2 y))]
    by_cases z : a = b
    · rw [if_pos z, if_pos (h2.1 z)]
    · rw [if_neg z, if_neg (fun y => z (h2.2 y))]

theorem signed_key (s : Bool) (m k : Nat) : signed s m k = (if s then -((m * 2 ^ k : Nat) : Int) else ((m * 2 ^ k : Nat) : Int)) := by
  unfold signed
  rw [Nat.shiftLeft_eq]

theorem order_num {x y : Nat} (hx : isNaN x = false) (hy : isNaN y = false) : double.order x y = some (compare (key x) (key y)) := by
  unfold isNaN at hx hy
  have hx' : rg x ≤ INF := by simpa using hx
  have hy' : rg y ≤ INF := by simpa using hy
  unfold Format.order
  rcases Nat.lt_or_ge (rg x) INF with h1 | h1 <;> rcases Nat.lt_or_ge (rg y) INF with h2 | h2
  · rw [read_fin h1, read_fin h2]
    simp only [Datum.order]
    congr 1
    unfold key val
    rw [signed_key, signed_key]
    generalize sig (rg x) = m
    generalize sig (rg y) = n
    generalize up (rg x) = i
    generalize up (rg y) = j
    obtain ⟨c, hc⟩ : ∃ c : Nat, min (-1074 + (i : Int)) (-1074 + (j : Int)) = -1074 + (c : Int) := ⟨min i j, by omega⟩
    rw [hc]
    obtain ⟨a, ha⟩ : ∃ a, i = a + c := ⟨i - c, by omega⟩
    obtain ⟨b, hb⟩ : ∃ b, j = b + c := ⟨j - c, by omega⟩
    have e1 : (-1074 + (i : Int) - (-1074 + (c : Int))).toNat = a := by omega
    have e2 : (-1074 + (j : Int) - (-1074 + (c : Int))).toNat = b := by omega
    rw [e1, e2, ha, hb, Nat.pow_add, Nat.pow_add, ← Nat.mul_assoc, ← Nat.mul_assoc]
    generalize m * 2 ^ a = M
    generalize n * 2 ^ b = N
    have hp := Nat.two_pow_pos c
    generalize 2 ^ c = C at *
    have t1 : ∀ u v : Nat, (u : Int) < v ↔ ((u * C : Nat) : Int) < ((v * C : Nat) : Int) := fun u v => by
      rw [Int.ofNat_lt, Int.ofNat_lt]; exact (Nat.mul_lt_mul_right hp).symm
    have t2 : ∀ u v : Nat, (u : Int) = v ↔ ((u * C : Nat) : Int) = ((v * C : Nat) : Int) := fun u v => by
      rw [Int.ofNat_inj, Int.ofNat_inj]; exact (Nat.mul_left_inj (by omega)).symm
    have p1 := t1 M N
    have p2 := t1 N M
    have p3 := t2 M N
    have z1 := t2 M 0
    have z2 := t2 N 0
    have z3 := t1 0 M
    have z4 := t1 0 N
    simp only [Nat.zero_mul] at z1 z2 z3 z4
    refine compare_eq ?_ ?_ <;> cases neg x <;> cases neg y <;> simp only [if_true, if_false, Bool.false_eq_true] <;> omega
  · have h2' : rg y = INF := by omega
    rw [read_fin h1, read_inf h2']
    simp only [Datum.order]
    congr 1
    have hv := val_lt h1
    unfold key
    rw [h2']
    generalize val INF = I at *
    show (if neg y = true then Ordering.gt else Ordering.lt) = compareOfLessAndEq _ _
    unfold compareOfLessAndEq
    cases neg x <;> cases neg y <;> simp only [if_true, if_false, Bool.false_eq_true] <;> (split <;> first | rfl | (exfalso; omega) | (split <;> first | rfl | (exfalso; omega)))
  · have h1' : rg x = INF := by omega
    rw [read_inf h1', read_fin h2]
    simp only [Datum.order]
    congr 1
    have hv := val_lt h2
    unfold key
    rw [h1']
    generalize val INF = I at *
    show (if neg x = true then Ordering.lt else Ordering.gt) = compareOfLessAndEq _ _
    unfold compareOfLessAndEq
    cases neg x <;> cases neg y <;> simp only [if_true, if_false, Bool.false_eq_true] <;> (split <;> first | rfl | (exfalso; omega) | (split <;> first | rfl | (exfalso; omega)))
  · have h1' : rg x = INF := by omega
    have h2' : rg y = INF := by omega
    rw [read_inf h1', read_inf h2']
    simp only [Datum.order]
    congr 1
    have hv : 0 < val INF := val_pos (by decide)
    unfold key
    rw [h1', h2']
    generalize val INF = I at *
    show _ = compareOfLessAndEq _ _
    unfold compareOfLessAndEq
    cases neg x <;> cases neg y <;> simp only [if_true, if_false, Bool.false_eq_true] <;> (split <;> first | rfl | (exfalso; omega) | (split <;> first | rfl | (exfalso; omega)))
theorem order_nan {x y : Nat} (h : isNaN x = true ∨ isNaN y = true) : double.order x y = none := by
  unfold isNaN at h
  unfold Format.order
  rcases h with h | h
  · have h' : INF < rg x := by simpa using h
    rw [read_nan h']; rfl
  · have h' : INF < rg y := by simpa using h
    rw [read_nan h']
    cases double.read x <;> rfl
theorem order_self (x : Nat) : (double.order x x != some .eq) = isNaN x := by
  cases h : isNaN x
  · rw [order_num h h]
    have : compare (key x) (key x) = .eq := by
      show compareOfLessAndEq _ _ = _
      simp [compareOfLessAndEq]
    rw [this]; rfl
  · rw [order_nan (.inl h)]; rfl
theorem order_lt {x y : Nat} (hx : isNaN x = false) (hy : isNaN y = false) : (double.order x y == some .lt) = decide (key x < key y) := by
  rw [order_num hx hy]
  show (some (compareOfLessAndEq _ _) == _) = _
  unfold compareOfLessAndEq
  by_cases h : key x < key y
  · simp [h]
  · by_cases h2 : key x = key y
    · simp [h2]
    · simp [h, h2]
theorem order_gt {x y : Nat} (hx : isNaN x = false) (hy : isNaN y = false) : (double.order x y == some .gt) = decide (key y < key x) := by
  rw [order_num hx hy]
  show (some (compareOfLessAndEq _ _) == _) = _
  unfold compareOfLessAndEq
  by_cases h : key x < key y
  · have : ¬ key y < key x := by omega
    simp [h, this]
  · by_cases h2 : key x = key y
    · simp [h2]
    · have : key y < key x := by omega
      simp [h, h2, this]
theorem order_eq {x y : Nat} (hx : isNaN x = false) (hy : isNaN y = false) : (double.order x y == some .eq) = decide (key x = key y) := by
  rw [order_num hx hy]
  show (some (compareOfLessAndEq _ _) == _) = _
  unfold compareOfLessAndEq
  by_cases h : key x < key y
  · have : ¬ key x = key y := by omega
    simp [h, this]
  · by_cases h2 : key x = key y
    · simp [h2]
    · simp [h, h2]

/-! ### Words of a sign and a rung -/
theorem word_rg {s : Bool} {r : Nat} (h : r < W) : rg (double.word s r) = r := by
  unfold rg Format.word
  rw [weight_d]
  cases s
  · simp [Nat.mod_eq_of_lt h]
  · simp [Nat.mod_eq_of_lt h]
theorem word_neg {s : Bool} {r : Nat} (h : r < W) : neg (double.word s r) = s := by
  unfold neg Format.word
  rw [weight_d]
  have hW : 0 < W := by decide
  cases s
  · simp [Nat.div_eq_of_lt h]
  · have : (W + r) / W = 1 := by rw [Nat.add_div_left _ hW, Nat.div_eq_of_lt h]
    simp [this]
theorem word_key {s : Bool} {r : Nat} (h : r < W) : key (double.word s r) = if s then -(val r : Int) else val r := by
  unfold key
  rw [word_rg h, word_neg h]
theorem word_num {s : Bool} {r : Nat} (h : r ≤ INF) : isNaN (double.word s r) = false := by
  unfold isNaN
  rw [word_rg (Nat.lt_of_le_of_lt h inf_lt)]
  simpa using h

/-- The word that 'float64(n)' gives. -/
def ofInt (n : Int) : Nat := double.word (n < 0) (min (rung 52 (-1074) n.natAbs 0) INF)
theorem ofInt_write (n : Int) : double.write (.number (decide (n < 0)) n.natAbs 0) = ofInt n := by
  show double.nearest _ _ _ = _
  rw [nearest_rung, inf_d, least_d]; rfl

theorem rung_fin {n : Nat} (h : n ≤ 2 ^ 63) : rung 52 (-1074) n 0 < INF := by
  refine Nat.lt_of_le_of_lt (rung_mono h) ?_
  decide
theorem rung_one {n : Nat} (h : 0 < n) : B ≤ rung 52 (-1074) n 0 := by
  refine Nat.le_trans ?_ (rung_mono (show 1 ≤ n from h))
  decide

theorem sig_pos {r : Nat} (h : 0 < r) : 0 < sig r := by unfold sig; have := B_pos; split <;> omega
theorem sig_lt (r : Nat) : sig r < 2 ^ 53 := by
  have e : 2 ^ 53 = 2 * B := by decide
  have := Nat.mod_lt r B_pos
  unfold sig; split <;> omega
theorem sig_log (r : Nat) : (sig r).log2 ≤ 52 := by
  by_cases h : sig r = 0
  · rw [h]; decide
  · have : (sig r).log2 < 53 := by rw [Nat.log2_lt h]; exact sig_lt r
    omega

/-- The rung of the quotient of two rungs. -/
def quo (r t : Nat) : Nat :=
  rung 52 (-1074) (sticky (sig r <<< (54 + (sig t).log2 - (sig r).log2)) (sig t)) ((-1074 + (up r : Int)) - (-1074 + (up t : Int)) - (54 + (sig t).log2 - (sig r).log2 : Nat) - 1)
theorem quo_zero (t : Nat) : quo 0 t = 0 := by
  unfold quo
  have : sig 0 = 0 := by decide
  rw [this, Nat.zero_shiftLeft]
  have : sticky 0 (sig t) = 0 := by simp [sticky]
  rw [this]; rfl
theorem quo_mono {r s t : Nat} (ht : 0 < t) (h : r ≤ s) : quo r t ≤ quo s t := by
  by_cases h0 : r = 0
  · rw [h0, quo_zero]; omega
  have a := sig_pos (show 0 < r by omega)
  have b := sig_pos (show 0 < s by omega)
  have c := sig_log r
  have d := sig_log s
  refine quotient_mono (L := -1074) (sig_pos ht) (by omega) (by omega) (by omega) (by omega) (by omega) (by omega) ?_
  rw [Nat.shiftLeft_eq, Nat.shiftLeft_eq, show (-1074 + (up r : Int) - -1074).toNat = up r by omega, show (-1074 + (up s : Int) - -1074).toNat = up s by omega]
  exact val_le h

/-- A quotient of two words that are finite, the lower one above zero. -/
theorem div_fin {x y : Nat} (hx : rg x < INF) (hy : rg y < INF) (hp : 0 < rg y) : double.div x y = some (double.word (neg x ^^ neg y) (min (quo (rg x) (rg y)) INF)) := by
  unfold Format.div
  rw [read_fin hx, read_fin hy]
  have := sig_pos hp
  simp only [Datum.quotient]
  rw [if_neg (by omega)]
  simp only [Option.map_some]
  show some (double.nearest _ _ _) = _
  rw [nearest_rung, inf_d, least_d]
  rfl

/-- The rate's word. -/
def rate (n k : Int) : Nat := double.word (n < 0) (min (quo (rung 52 (-1074) n.natAbs 0) (rung 52 (-1074) k.natAbs 0)) INF)
theorem rate_div {n k : Int} (hn : n.natAbs ≤ 2 ^ 63) (hk : k.natAbs ≤ 2 ^ 63) (h : 0 < k) : double.div (ofInt n) (ofInt k) = some (rate n k) := by
  have f1 := rung_fin hn
  have f2 := rung_fin hk
  have f3 := rung_one (show 0 < k.natAbs by omega)
  have hB := B_pos
  have w1 : min (rung 52 (-1074) n.natAbs 0) INF = rung 52 (-1074) n.natAbs 0 := Nat.min_eq_left (by omega)
  have w2 : min (rung 52 (-1074) k.natAbs 0) INF = rung 52 (-1074) k.natAbs 0 := Nat.min_eq_left (by omega)
  have hW := inf_lt
  unfold ofInt
  rw [w1, w2, div_fin (by rw [word_rg (by omega)]; omega) (by rw [word_rg (by omega)]; omega) (by rw [word_rg (by omega)]; omega), word_neg (by omega), word_neg (by omega), word_rg (by omega), word_rg (by omega)]
  have : decide (k < 0) = false := by simpa using (by omega : 0 ≤ k)
  rw [this, Bool.xor_false]; rfl
theorem rate_num (n k : Int) : isNaN (rate n k) = false := word_num (Nat.min_le_right ..)
theorem rate_key (n k : Int) : key (rate n k) = if n < 0 then -(val (min (quo (rung 52 (-1074) n.natAbs 0) (rung 52 (-1074) k.natAbs 0)) INF) : Int) else val (min (quo (rung 52 (-1074) n.natAbs 0) (rung 52 (-1074) k.natAbs 0)) INF) := by
  unfold rate
  rw [word_key (Nat.lt_of_le_of_lt (Nat.min_le_right ..) inf_lt)]
  by_cases h : n < 0 <;> simp [h]
theorem rate_mono {n m k : Int} (hk : 0 < k) (h : n ≤ m) : key (rate n k) ≤ key (rate m k) := by
  rw [rate_key, rate_key]
  have hB := B_pos
  have hp := rung_one (show 0 < k.natAbs by omega)
  generalize rung 52 (-1074) k.natAbs 0 = t at *
  have mono : ∀ a b : Nat, a ≤ b → val (min (quo (rung 52 (-1074) a 0) t) INF) ≤ val (min (quo (rung 52 (-1074) b 0) t) INF) := fun a b hab => by
    have := quo_mono (t := t) (by omega) (rung_mono (fb := 52) (L := -1074) (p := 0) hab)
    exact val_le (by omega)
  by_cases h1 : n < 0
  · by_cases h2 : m < 0
    · rw [if_pos h1, if_pos h2]
      have := mono m.natAbs n.natAbs (by omega)
      omega
    · rw [if_pos h1, if_neg h2]; omega
  · rw [if_neg h1, if_neg (by omega)]
    have := mono n.natAbs m.natAbs (by omega)
    omega
/-- The sign turned. -/
def flip (x : Nat) : Nat := x ^^^ 2 ^ 63
theorem flip_rg {x : Nat} (h : x < 2 ^ 64) : rg (flip x) = rg x ∧ neg (flip x) = !neg x := by
  have e : W = 2 ^ 63 := rfl
  constructor
  · unfold rg flip
    rw [e, Nat.xor_mod_two_pow, Nat.mod_self, Nat.xor_zero]
  · unfold neg flip
    rw [e, Nat.xor_div_two_pow, Nat.div_self (Nat.two_pow_pos _)]
    have h2 : x / 2 ^ 63 < 2 := by rw [Nat.div_lt_iff_lt_mul (Nat.two_pow_pos _)]; exact h
    generalize x / 2 ^ 63 = q at *
    rcases (by omega : q = 0 ∨ q = 1) with rfl | rfl <;> rfl
theorem flip_num {x : Nat} (h : x < 2 ^ 64) : isNaN (flip x) = isNaN x := by unfold isNaN; rw [(flip_rg h).1]
theorem flip_key {x : Nat} (h : x < 2 ^ 64) : key (flip x) = -key x := by
  unfold key
  rw [(flip_rg h).1, (flip_rg h).2]
  cases neg x <;> simp
theorem rate_lt (n k : Int) : rate n k < 2 ^ 64 := by
  have h := inf_lt
  have e : (2 : Nat) ^ 64 = 2 * W := by decide
  unfold rate Format.word
  rw [weight_d, e]
  split <;> omega
theorem rate_zero (k : Int) : val (min (quo (rung 52 (-1074) 0 0) (rung 52 (-1074) k.natAbs 0)) INF) = 0 := by
  have : rung 52 (-1074) 0 0 = 0 := rfl
  rw [this, quo_zero]; exact val_zero
/-- The other sign's rate is the rate's negation. -/
theorem rate_neg (n k : Int) : key (rate (-n) k) = -key (rate n k) := by
  rw [rate_key, rate_key, Int.natAbs_neg]
  rcases Int.lt_trichotomy n 0 with h | h | h
  · rw [if_pos h, if_neg (by omega)]; omega
  · subst h
    have := rate_zero k
    rw [if_neg (by omega), if_neg (by omega)]
    simp only [Int.natAbs_zero] at *
    omega
  · rw [if_pos (by omega : -n < 0), if_neg (by omega : ¬ n < 0)]

end Go.Proofs.Ytfgamapnoonklaa.Key
