/- Plain facts on binary floating point: how the words of the format are ordered, and that rounding, and a quotient of one denominator, do not turn an order round. No Go in sight. -/
import Ieee.Arith
namespace Go.Proofs.Ytfgamapnoonklaa.Rnd
open Ieee

/-- n / 2 ^ d, to the nearest, ties to even. -/
def re (n d : Nat) : Nat := n / 2 ^ d + (if 2 ^ d < 2 * (n % 2 ^ d) ∨ (2 ^ d = 2 * (n % 2 ^ d) ∧ n / 2 ^ d % 2 = 1) then 1 else 0)

theorem cut_pow (n d : Nat) : (let gap := 2 ^ d; let low := n / gap; let rest := n % gap; low + (decide (gap < 2 * rest) || (gap == 2 * rest && low % 2 == 1)).toNat) = re n d := by
  simp only [re]
  by_cases h : 2 ^ d < 2 * (n % 2 ^ d)
  · simp [h]
  · by_cases h2 : 2 ^ d = 2 * (n % 2 ^ d) ∧ n / 2 ^ d % 2 = 1
    · rw [if_pos (Or.inr h2)]
      have e : (decide (2 ^ d < 2 * (n % 2 ^ d)) || (2 ^ d == 2 * (n % 2 ^ d) && n / 2 ^ d % 2 == 1)) = true := by
        simp only [Bool.or_eq_true, Bool.and_eq_true, beq_iff_eq]; exact Or.inr h2
      rw [e]; rfl
    · rw [if_neg (by rintro (h3 | h3); exact h h3; exact h2 h3)]
      have e : (decide (2 ^ d < 2 * (n % 2 ^ d)) || (2 ^ d == 2 * (n % 2 ^ d) && n / 2 ^ d % 2 == 1)) = false := by
        rw [Bool.eq_false_iff]
        simp only [ne_eq, Bool.or_eq_true, Bool.and_eq_true, beq_iff_eq, decide_eq_true_eq]
        rintro (h3 | h3)
        · exact h h3
        · exact h2 h3
      rw [e]; rfl

theorem re_small {n d : Nat} (h : 2 * n < 2 ^ d) : re n d = 0 := by
  have h1 : n / 2 ^ d = 0 := Nat.div_eq_of_lt (by omega)
  have h2 : n % 2 ^ d = n := Nat.mod_eq_of_lt (by omega)
  simp only [re, h1, h2]
  rw [if_neg (by omega)]

theorem cut_even (s : Bool) (n d : Nat) : Toward.even.cut s n d = re n d := by
  have key : Toward.even.cut s n d = re n (min d (n.log2 + 2)) := by
    rw [← cut_pow]
    simp only [Toward.cut, Nat.one_shiftLeft]
  rw [key]
  by_cases h : d ≤ n.log2 + 2
  · rw [Nat.min_eq_left h]
  · have h0 : n < 2 ^ (n.log2 + 1) := Nat.lt_log2_self
    have h1 : 2 ^ (n.log2 + 2) = 2 * 2 ^ (n.log2 + 1) := by rw [Nat.pow_succ]; omega
    have h2 : 2 ^ (n.log2 + 2) ≤ 2 ^ d := Nat.pow_le_pow_right (by omega) (by omega)
    rw [Nat.min_eq_right (by omega), re_small (by omega), re_small (by omega)]

theorem re_zero (n : Nat) : re n 0 = n := by
  simp [re, Nat.mod_one]

theorem re_mono {n m : Nat} (d : Nat) (h : n ≤ m) : re n d ≤ re m d := by
  have hp : 0 < 2 ^ d := Nat.two_pow_pos d
  simp only [re]
  generalize 2 ^ d = G at *
  have h1 : n / G ≤ m / G := Nat.div_le_div_right h
  rcases Nat.lt_or_ge (n / G) (m / G) with h2 | h2
  · split <;> split <;> omega
  · have e : n / G = m / G := by omega
    have a := Nat.div_add_mod n G
    have b := Nat.div_add_mod m G
    rw [e] at a
    rw [e]
    generalize G * (m / G) = T at *
    have hs := Nat.mod_lt m hp
    split <;> split <;> omega

theorem re_le {n d k : Nat} (h : n < 2 ^ (d + k)) : re n d ≤ 2 ^ k := by
  have hp : 0 < 2 ^ d := Nat.two_pow_pos d
  have : n / 2 ^ d < 2 ^ k := by rw [Nat.div_lt_iff_lt_mul hp, ← Nat.pow_add, Nat.add_comm k d]; exact h
  simp only [re]
  split <;> omega

theorem re_ge {n d k : Nat} (h : 2 ^ (d + k) ≤ n) : 2 ^ k ≤ re n d := by
  have hp : 0 < 2 ^ d := Nat.two_pow_pos d
  have : 2 ^ k ≤ n / 2 ^ d := by rw [Nat.le_div_iff_mul_le hp, ← Nat.pow_add, Nat.add_comm k d]; exact h
  simp only [re]
  omega

theorem re_double (n d : Nat) : re (2 * n) (d + 1) = re n d := by
  have e : 2 ^ (d + 1) = 2 * 2 ^ d := by rw [Nat.pow_succ]; omega
  simp only [re, e, Nat.mul_mod_mul_left]
  rw [Nat.mul_div_mul_left _ _ (by omega : 0 < 2)]
  congr 1
  split <;> split <;> omega

/-- The rung of 'm * 2 ^ p': fb bits of fraction, L the least place; no bound above. -/
def rung (fb : Nat) (L : Int) (m : Nat) (p : Int) : Nat :=
  if m = 0 then 0 else
    (max (p + m.log2 - fb) L - L).toNat * 2 ^ fb + re (m <<< (p - max (p + m.log2 - fb) L).toNat) (max (p + m.log2 - fb) L - p).toNat

theorem nearest_rung (f : Format) (s : Bool) (m : Nat) (p : Int) : f.nearest s m p = f.word s (min (rung f.fractionBits f.leastPlace m p) f.infRung) := by
  unfold Format.nearest rung
  split
  · simp
  · simp only [cut_even, Format.binade]

theorem log2_mono {a b : Nat} (ha : a ≠ 0) (h : a ≤ b) : a.log2 ≤ b.log2 := by
  rw [Nat.le_log2 (by omega)]
  exact Nat.le_trans (Nat.log2_self_le ha) h

theorem log2_double {m : Nat} (h : m ≠ 0) : (2 * m).log2 = m.log2 + 1 := Nat.log2_two_mul h

theorem rung_mono {fb : Nat} {L p : Int} {m1 m2 : Nat} (h : m1 ≤ m2) : rung fb L m1 p ≤ rung fb L m2 p := by
  unfold rung
  by_cases h1 : m1 = 0
  · simp [h1]
  have h2 : m2 ≠ 0 := by omega
  rw [if_neg h1, if_neg h2]
  have he := log2_mono h1 h
  have l1 := Nat.log2_self_le h1
  have u1 : m1 < 2 ^ (m1.log2 + 1) := Nat.lt_log2_self
  have l2 := Nat.log2_self_le h2
  generalize m1.log2 = e1 at *
  generalize m2.log2 = e2 at *
  by_cases heq : max (p + e1 - fb) L = max (p + e2 - fb) L
  · rw [heq]
    refine Nat.add_le_add_left (re_mono _ ?_) _
    rw [Nat.shiftLeft_eq, Nat.shiftLeft_eq]
    exact Nat.mul_le_mul_right _ h
  · have hlt : max (p + e1 - fb) L < max (p + e2 - fb) L := by omega
    have hl2 : max (p + (e2 : Int) - fb) L = p + e2 - fb := by omega
    rw [hl2] at hlt ⊢
    generalize hl1 : max (p + (e1 : Int) - fb) L = last1 at *
    have hge1 : p + (e1 : Int) - fb ≤ last1 := by omega
    have hL : L ≤ last1 := by omega
    -- what is kept of the greater
    have k2 : 2 ^ fb ≤ re (m2 <<< (p - (p + (e2 : Int) - fb)).toNat) ((p + (e2 : Int) - fb) - p).toNat := by
      by_cases hc : (fb : Int) ≤ e2
      · have d1 : (p - (p + (e2 : Int) - fb)).toNat = 0 := by omega
        have d2 : ((p + (e2 : Int) - fb) - p).toNat = e2 - fb := by omega
        rw [d1, d2, Nat.shiftLeft_zero]
        refine re_ge (k := fb) ?_
        rw [show e2 - fb + fb = e2 by omega]
        exact l2
      · have d1 : (p - (p + (e2 : Int) - fb)).toNat = fb - e2 := by omega
        have d2 : ((p + (e2 : Int) - fb) - p).toNat = 0 := by omega
        rw [d1, d2, re_zero, Nat.shiftLeft_eq]
        calc 2 ^ fb = 2 ^ e2 * 2 ^ (fb - e2) := by rw [← Nat.pow_add]; congr 1; omega
          _ ≤ m2 * 2 ^ (fb - e2) := Nat.mul_le_mul_right _ l2
    have k1 : re (m1 <<< (p - last1).toNat) (last1 - p).toNat ≤ 2 ^ (fb + 1) := by
      by_cases hc : p ≤ last1
      · have d1 : (p - last1).toNat = 0 := by omega
        rw [d1, Nat.shiftLeft_zero]
        refine re_le (Nat.lt_of_lt_of_le u1 (Nat.pow_le_pow_right (by omega) ?_))
        omega
      · have d2 : (last1 - p).toNat = 0 := by omega
        rw [d2, re_zero, Nat.shiftLeft_eq]
        have hk : (p - last1).toNat ≤ fb - e1 := by omega
        have hfe : e1 ≤ fb := by omega
        calc m1 * 2 ^ (p - last1).toNat ≤ 2 ^ (e1 + 1) * 2 ^ (fb - e1) := Nat.mul_le_mul (by omega) (Nat.pow_le_pow_right (by omega) hk)
          _ = 2 ^ (fb + 1) := by rw [← Nat.pow_add]; congr 1; omega
    have e3 : 2 ^ (fb + 1) = 2 * 2 ^ fb := by rw [Nat.pow_succ]; omega
    rw [e3] at k1
    obtain ⟨a, ha⟩ : ∃ a : Nat, a = (last1 - L).toNat := ⟨_, rfl⟩
    obtain ⟨b, hb⟩ : ∃ b : Nat, b = (p + (e2 : Int) - fb - L).toNat := ⟨_, rfl⟩
    rw [← ha, ← hb]
    have hab : a + 1 ≤ b := by omega
    have hm : (a + 1) * 2 ^ fb ≤ b * 2 ^ fb := Nat.mul_le_mul_right _ hab
    rw [Nat.succ_mul] at hm
    omega

theorem rung_double {fb : Nat} {L p : Int} {m : Nat} : rung fb L (2 * m) p = rung fb L m (p + 1) := by
  unfold rung
  by_cases h : m = 0
  · simp [h]
  rw [if_neg (by omega), if_neg h, log2_double h]
  have e : p + ((m.log2 + 1 : Nat) : Int) - fb = p + 1 + (m.log2 : Int) - fb := by omega
  rw [e]
  generalize max (p + 1 + (m.log2 : Int) - fb) L = last
  congr 1
  by_cases hc : p + 1 ≤ last
  · have d1 : (p - last).toNat = 0 := by omega
    have d2 : (p + 1 - last).toNat = 0 := by omega
    have d3 : (last - p).toNat = (last - (p + 1)).toNat + 1 := by omega
    rw [d1, d2, d3, Nat.shiftLeft_zero, Nat.shiftLeft_zero, re_double]
  · have d1 : (last - p).toNat = 0 := by omega
    have d2 : (last - (p + 1)).toNat = 0 := by omega
    have d3 : (p + 1 - last).toNat = (p - last).toNat + 1 := by omega
    rw [d1, d2, d3, re_zero, re_zero, Nat.shiftLeft_eq, Nat.shiftLeft_eq, Nat.pow_succ]
    rw [Nat.mul_comm 2 m, Nat.mul_assoc, Nat.mul_comm 2]

theorem rung_place {fb : Nat} {L p : Int} {m : Nat} : rung fb L m p ≤ rung fb L m (p + 1) := by
  rw [← rung_double]
  exact rung_mono (by omega)

theorem rung_places {fb : Nat} {L p : Int} {m : Nat} (k : Nat) : rung fb L m p ≤ rung fb L m (p + k) := by
  induction k with
  | zero => simp
  | succ k ih =>
    refine Nat.le_trans ih ?_
    have := rung_place (fb := fb) (L := L) (p := p + k) (m := m)
    rwa [show p + (k : Int) + 1 = p + ((k + 1 : Nat) : Int) by omega] at this

/-- A quotient with one digit more, which is 1 where anything is left over. -/
def sticky (M n : Nat) : Nat := 2 * (M / n) + (M % n != 0).toNat

theorem sticky_mono {a b n : Nat} (_hn : 0 < n) (h : a ≤ b) : sticky a n ≤ sticky b n := by
  unfold sticky
  have h1 : a / n ≤ b / n := Nat.div_le_div_right h
  rcases Nat.lt_or_ge (a / n) (b / n) with h2 | h2
  · have : (a % n != 0).toNat ≤ 1 := by cases (a % n != 0) <;> simp
    omega
  · have e : a / n = b / n := by omega
    have x := Nat.div_add_mod a n
    have y := Nat.div_add_mod b n
    rw [e] at x
    rw [e]
    refine Nat.add_le_add_left ?_ _
    generalize n * (b / n) = T at *
    by_cases h3 : a % n = 0
    · simp [h3]
    · have h4 : b % n ≠ 0 := by omega
      have b3 : (a % n != 0) = true := by simpa using h3
      have b4 : (b % n != 0) = true := by simpa using h4
      rw [b3, b4]; exact Nat.le_refl _

/-- What is rounded away does not see how long the row of digits behind is. -/
theorem re_sticky {M n d : Nat} (hn : 0 < n) (hd : 2 ≤ d) : re (sticky (2 * M) n) (d + 1) = re (sticky M n) d := by
  obtain ⟨j, rfl⟩ : ∃ j, d = j + 2 := ⟨d - 2, by omega⟩
  have x := Nat.div_add_mod M n
  have hr := Nat.mod_lt M hn
  obtain ⟨q, hq⟩ : ∃ q, q = M / n := ⟨_, rfl⟩
  obtain ⟨r, hrr⟩ : ∃ r, r = M % n := ⟨_, rfl⟩
  rw [← hq, ← hrr] at x
  rw [← hrr] at hr
  -- the quotient of twice as much
  obtain ⟨t, st, hst, ht, e1, e2⟩ : ∃ t st, (st = 0 ∨ st = 1) ∧ ((st = 0 → t = 0) ∧ (st = 1 → 1 ≤ t ∧ t ≤ 3)) ∧ sticky M n = 2 * q + st ∧ sticky (2 * M) n = 4 * q + t := by
    by_cases h0 : r = 0
    · refine ⟨0, 0, .inl rfl, ⟨fun _ => rfl, fun h => by omega⟩, ?_, ?_⟩
      · simp [sticky, ← hq, ← hrr, h0]
      · have hM : 2 * M = n * (2 * q) := by rw [← x, h0, Nat.add_zero, ← Nat.mul_assoc, Nat.mul_comm 2 n, Nat.mul_assoc]
        simp only [sticky]
        rw [hM, Nat.mul_div_cancel_left _ hn, Nat.mul_mod_right]
        simp; omega
    · by_cases h1 : 2 * r < n
      · refine ⟨1, 1, .inr rfl, ⟨fun h => by omega, fun _ => by omega⟩, ?_, ?_⟩
        · simp [sticky, ← hq, ← hrr, h0]
        · have hM : 2 * M = 2 * r + n * (2 * q) := by rw [← x, Nat.mul_add, ← Nat.mul_assoc, Nat.mul_comm 2 n, Nat.mul_assoc]; omega
          simp only [sticky]
          rw [hM, Nat.add_mul_div_left _ _ hn, Nat.add_mul_mod_self_left, Nat.div_eq_of_lt h1, Nat.mod_eq_of_lt h1]
          have : (2 * r != 0) = true := by simp; omega
          rw [this]; simp; omega
      · have hM : 2 * M = (2 * r - n) + n * (2 * q + 1) := by rw [← x, Nat.mul_add, ← Nat.mul_assoc, Nat.mul_comm 2 n, Nat.mul_assoc, Nat.mul_add n]; omega
        have hlt : 2 * r - n < n := by omega
        refine ⟨2 + (2 * r - n != 0).toNat, 1, .inr rfl, ⟨fun h => by omega, fun _ => ?_⟩, ?_, ?_⟩
        · have : (2 * r - n != 0).toNat ≤ 1 := by cases (2 * r - n != 0) <;> simp
          omega
        · simp [sticky, ← hq, ← hrr, h0]
        · simp only [sticky]
          rw [hM, Nat.add_mul_div_left _ _ hn, Nat.add_mul_mod_self_left, Nat.div_eq_of_lt hlt, Nat.mod_eq_of_lt hlt]
          omega
  rw [e1, e2]
  have hp : 0 < 2 ^ j := Nat.two_pow_pos j
  have p1 : 2 ^ (j + 2) = 4 * 2 ^ j := by rw [Nat.pow_add]; omega
  have p2 : 2 ^ (j + 2 + 1) = 8 * 2 ^ j := by rw [Nat.pow_add, p1]; omega
  simp only [re, p1, p2]
  generalize 2 ^ j = H at *
  obtain ⟨a, ha⟩ : ∃ a, a = q / (2 * H) := ⟨_, rfl⟩
  obtain ⟨u, hu⟩ : ∃ u, u = q % (2 * H) := ⟨_, rfl⟩
  have y := Nat.div_add_mod q (2 * H)
  have hul := Nat.mod_lt q (show 0 < 2 * H by omega)
  rw [← ha, ← hu] at y
  rw [← hu] at hul
  have z1 : 2 * q + st = (2 * u + st) + 4 * H * a := by rw [← y, Nat.mul_assoc, Nat.mul_assoc]; omega
  have z2 : 4 * q + t = (4 * u + t) + 8 * H * a := by rw [← y, Nat.mul_assoc, Nat.mul_assoc]; omega
  have b1 : 2 * u + st < 4 * H := by omega
  have b2 : 4 * u + t < 8 * H := by
    rcases hst with h | h
    · have := ht.1 h; omega
    · have := ht.2 h; omega
  rw [z1, z2, Nat.add_mul_div_left _ _ (by omega : 0 < 4 * H), Nat.add_mul_div_left _ _ (by omega : 0 < 8 * H), Nat.add_mul_mod_self_left, Nat.add_mul_mod_self_left,
    Nat.div_eq_of_lt b1, Nat.div_eq_of_lt b2, Nat.mod_eq_of_lt b1, Nat.mod_eq_of_lt b2]
  congr 1
  rcases hst with h | h
  · have := ht.1 h; subst h; subst this
    split <;> split <;> omega
  · have := ht.2 h; subst h
    split <;> split <;> omega


/-! ### The order of words -/

theorem sticky_two {M n : Nat} (hn : 0 < n) : ∃ q st t, ((st = 0 ∧ t = 0) ∨ (st = 1 ∧ 1 ≤ t ∧ t ≤ 3)) ∧ sticky M n = 2 * q + st ∧ sticky (2 * M) n = 4 * q + t := by
  have x := Nat.div_add_mod M n
  have hr := Nat.mod_lt M hn
  obtain ⟨q, hq⟩ : ∃ q, q = M / n := ⟨_, rfl⟩
  obtain ⟨r, hrr⟩ : ∃ r, r = M % n := ⟨_, rfl⟩
  rw [← hq, ← hrr] at x
  rw [← hrr] at hr
  by_cases h0 : r = 0
  · refine ⟨q, 0, 0, .inl ⟨rfl, rfl⟩, ?_, ?_⟩
    · simp [sticky, ← hq, ← hrr, h0]
    · have hM : 2 * M = n * (2 * q) := by rw [← x, h0, Nat.add_zero, ← Nat.mul_assoc, Nat.mul_comm 2 n, Nat.mul_assoc]
      simp only [sticky]
      rw [hM, Nat.mul_div_cancel_left _ hn, Nat.mul_mod_right]
      simp; omega
  · by_cases h1 : 2 * r < n
    · refine ⟨q, 1, 1, .inr ⟨rfl, by omega, by omega⟩, ?_, ?_⟩
      · simp [sticky, ← hq, ← hrr, h0]
      · have hM : 2 * M = 2 * r + n * (2 * q) := by rw [← x, Nat.mul_add, ← Nat.mul_assoc, Nat.mul_comm 2 n, Nat.mul_assoc]; omega
        simp only [sticky]
        rw [hM, Nat.add_mul_div_left _ _ hn, Nat.add_mul_mod_self_left, Nat.div_eq_of_lt h1, Nat.mod_eq_of_lt h1]
        have : (2 * r != 0) = true := by simp; omega
        rw [this]; simp; omega
    · have hM : 2 * M = (2 * r - n) + n * (2 * q + 1) := by rw [← x, Nat.mul_add, ← Nat.mul_assoc, Nat.mul_comm 2 n, Nat.mul_assoc, Nat.mul_add n]; omega
      have hlt : 2 * r - n < n := by omega
      have hb : (2 * r - n != 0).toNat ≤ 1 := by cases (2 * r - n != 0) <;> simp
      refine ⟨q, 1, 2 + (2 * r - n != 0).toNat, .inr ⟨rfl, by omega, by omega⟩, ?_, ?_⟩
      · simp [sticky, ← hq, ← hrr, h0]
      · simp only [sticky]
        rw [hM, Nat.add_mul_div_left _ _ hn, Nat.add_mul_mod_self_left, Nat.div_eq_of_lt hlt, Nat.mod_eq_of_lt hlt]
        omega

theorem log2_between {m e : Nat} (h1 : 2 ^ e ≤ m) (h2 : m < 2 ^ (e + 1)) : m.log2 = e := by
  have hp : 0 < 2 ^ e := Nat.two_pow_pos e
  have a : e ≤ m.log2 := by rw [Nat.le_log2 (by omega)]; exact h1
  have b : m.log2 < e + 1 := by rw [Nat.log2_lt (by omega)]; exact h2
  omega

theorem rung_sticky {fb : Nat} {L p : Int} {M n : Nat} (hn : 0 < n) (h : 2 ^ (fb + 2) ≤ sticky M n) : rung fb L (sticky (2 * M) n) p = rung fb L (sticky M n) (p + 1) := by
  have h0 : sticky M n ≠ 0 := by have := Nat.two_pow_pos (fb + 2); omega
  have he : fb + 2 ≤ (sticky M n).log2 := by rw [Nat.le_log2 h0]; exact h
  have hlog : (sticky (2 * M) n).log2 = (sticky M n).log2 + 1 := by
    have l := Nat.log2_self_le h0
    have u : sticky M n < 2 ^ ((sticky M n).log2 + 1) := Nat.lt_log2_self
    obtain ⟨q, st, t, hst, e1, e2⟩ := sticky_two (M := M) hn
    generalize (sticky M n).log2 = e at *
    obtain ⟨j, rfl⟩ : ∃ j, e = j + 1 := ⟨e - 1, by omega⟩
    have p1 : 2 ^ (j + 1) = 2 * 2 ^ j := by rw [Nat.pow_succ]; omega
    have p2 : 2 ^ (j + 1 + 1) = 4 * 2 ^ j := by rw [Nat.pow_succ, p1]; omega
    have p3 : 2 ^ (j + 1 + 1 + 1) = 8 * 2 ^ j := by rw [Nat.pow_succ, p2]; omega
    refine log2_between ?_ ?_
    · rw [e2, p2]; rw [e1, p1] at l; omega
    · rw [e2, p3]; rw [e1, p2] at u; omega
  have h2 : sticky (2 * M) n ≠ 0 := by
    intro hz
    rw [hz] at hlog
    simp at hlog
  unfold rung
  rw [if_neg h2, if_neg h0, hlog]
  have e : p + (((sticky M n).log2 + 1 : Nat) : Int) - fb = p + 1 + ((sticky M n).log2 : Int) - fb := by omega
  rw [e]
  generalize hlast : max (p + 1 + ((sticky M n).log2 : Int) - fb) L = last
  have hge : p + 3 ≤ last := by omega
  have d1 : (p - last).toNat = 0 := by omega
  have d2 : (p + 1 - last).toNat = 0 := by omega
  have d3 : (last - p).toNat = (last - (p + 1)).toNat + 1 := by omega
  rw [d1, d2, d3, Nat.shiftLeft_zero, Nat.shiftLeft_zero, re_sticky hn (by omega)]

/-- A quotient by n of two numbers 'm * 2 ^ i', as the division tells it: the greater has no lesser rung. -/
theorem quotient_mono {n m1 m2 : Nat} {L i1 i2 j : Int} (hn : 0 < n) (h1 : m1 ≠ 0) (h2 : m2 ≠ 0) (b1 : m1.log2 ≤ 54 + n.log2) (b2 : m2.log2 ≤ 54 + n.log2) (hi1 : L ≤ i1) (hi2 : L ≤ i2)
    (h : m1 <<< (i1 - L).toNat ≤ m2 <<< (i2 - L).toNat) :
    rung 52 L (sticky (m1 <<< (54 + n.log2 - m1.log2)) n) (i1 - j - (54 + n.log2 - m1.log2 : Nat) - 1) ≤
    rung 52 L (sticky (m2 <<< (54 + n.log2 - m2.log2)) n) (i2 - j - (54 + n.log2 - m2.log2 : Nat) - 1) := by
  have l1 := Nat.log2_self_le h1
  have u1 : m1 < 2 ^ (m1.log2 + 1) := Nat.lt_log2_self
  have l2 := Nat.log2_self_le h2
  have u2 : m2 < 2 ^ (m2.log2 + 1) := Nat.lt_log2_self
  have un : n < 2 ^ (n.log2 + 1) := Nat.lt_log2_self
  generalize m1.log2 = e1 at *
  generalize m2.log2 = e2 at *
  generalize n.log2 = ln at *
  obtain ⟨a1, ha1⟩ : ∃ a : Nat, (i1 - L).toNat = a := ⟨_, rfl⟩
  obtain ⟨a2, ha2⟩ : ∃ a : Nat, (i2 - L).toNat = a := ⟨_, rfl⟩
  rw [ha1, ha2, Nat.shiftLeft_eq, Nat.shiftLeft_eq] at h
  rw [Nat.shiftLeft_eq, Nat.shiftLeft_eq]
  have hexp : e1 + a1 < e2 + 1 + a2 := by
    have : 2 ^ (e1 + a1) < 2 ^ (e2 + 1 + a2) := by
      calc 2 ^ (e1 + a1) = 2 ^ e1 * 2 ^ a1 := Nat.pow_add ..
        _ ≤ m1 * 2 ^ a1 := Nat.mul_le_mul_right _ l1
        _ ≤ m2 * 2 ^ a2 := h
        _ < 2 ^ (e2 + 1) * 2 ^ a2 := Nat.mul_lt_mul_of_pos_right u2 (Nat.two_pow_pos _)
        _ = 2 ^ (e2 + 1 + a2) := (Nat.pow_add ..).symm
    exact (Nat.pow_lt_pow_iff_right (by omega)).1 this
  by_cases heq : e1 + a1 = e2 + a2
  · have hs : i1 - j - ((54 + ln - e1 : Nat) : Int) - 1 = i2 - j - ((54 + ln - e2 : Nat) : Int) - 1 := by omega
    rw [hs]
    refine rung_mono (sticky_mono hn ?_)
    refine Nat.le_of_mul_le_mul_right (c := 2 ^ (e1 + a1)) ?_ (Nat.two_pow_pos _)
    have x1 : m1 * 2 ^ (54 + ln - e1) * 2 ^ (e1 + a1) = m1 * 2 ^ a1 * 2 ^ (54 + ln) := by
      rw [Nat.mul_assoc, Nat.mul_assoc, ← Nat.pow_add, ← Nat.pow_add]; congr 2; omega
    have x2 : m2 * 2 ^ (54 + ln - e2) * 2 ^ (e1 + a1) = m2 * 2 ^ a2 * 2 ^ (54 + ln) := by
      rw [heq, Nat.mul_assoc, Nat.mul_assoc, ← Nat.pow_add, ← Nat.pow_add]; congr 2; omega
    rw [x1, x2]
    exact Nat.mul_le_mul_right _ h
  · obtain ⟨s1, hs1⟩ : ∃ s : Int, s = i1 - j - ((54 + ln - e1 : Nat) : Int) - 1 := ⟨_, rfl⟩
    obtain ⟨s2, hs2⟩ : ∃ s : Int, s = i2 - j - ((54 + ln - e2 : Nat) : Int) - 1 := ⟨_, rfl⟩
    obtain ⟨k, hk⟩ : ∃ k : Nat, s2 = s1 + 1 + k := ⟨(s2 - s1 - 1).toNat, by omega⟩
    rw [← hs1, ← hs2]
    have d1 : m1 * 2 ^ (54 + ln - e1) ≤ 2 * 2 ^ (54 + ln) := by
      calc m1 * 2 ^ (54 + ln - e1) ≤ 2 ^ (e1 + 1) * 2 ^ (54 + ln - e1) := Nat.mul_le_mul_right _ (by omega)
        _ = 2 ^ (54 + ln + 1) := by rw [← Nat.pow_add]; congr 1; omega
        _ = 2 * 2 ^ (54 + ln) := by rw [Nat.pow_succ]; omega
    have d2 : 2 ^ (54 + ln) ≤ m2 * 2 ^ (54 + ln - e2) := by
      calc 2 ^ (54 + ln) = 2 ^ e2 * 2 ^ (54 + ln - e2) := by rw [← Nat.pow_add]; congr 1; omega
        _ ≤ m2 * 2 ^ (54 + ln - e2) := Nat.mul_le_mul_right _ l2
    have hst : 2 ^ (52 + 2) ≤ sticky (2 ^ (54 + ln)) n := by
      have : 2 ^ 53 ≤ 2 ^ (54 + ln) / n := by
        rw [Nat.le_div_iff_mul_le hn]
        calc 2 ^ 53 * n ≤ 2 ^ 53 * 2 ^ (ln + 1) := Nat.mul_le_mul_left _ (by omega)
          _ = 2 ^ (54 + ln) := by rw [← Nat.pow_add]; congr 1; omega
      unfold sticky
      have e : 2 ^ (52 + 2) = 2 * 2 ^ 53 := by rfl
      omega
    calc rung 52 L (sticky (m1 * 2 ^ (54 + ln - e1)) n) s1 ≤ rung 52 L (sticky (2 * 2 ^ (54 + ln)) n) s1 := rung_mono (sticky_mono hn d1)
      _ = rung 52 L (sticky (2 ^ (54 + ln)) n) (s1 + 1) := rung_sticky hn hst
      _ ≤ rung 52 L (sticky (m2 * 2 ^ (54 + ln - e2)) n) (s1 + 1) := rung_mono (sticky_mono hn d2)
      _ ≤ rung 52 L (sticky (m2 * 2 ^ (54 + ln - e2)) n) s2 := by rw [hk]; exact rung_places k

end Go.Proofs.Ytfgamapnoonklaa.Rnd
