/- A frame in which bits are turned: plain facts. Condition: bytes, at most 32 neighbouring bits behind the length. -/
import Derived.Test.YtkckmikpmjecdaaOpenW
namespace Go.Proofs.Ytkckmikpmjecdaa.H
open Go.RowKit Go.Proofs.YtkckmikpmjecdaaW.PrintWords Go.Proofs.YtkckmikpmjecdaaW.PrintMore
open Crc (Tn low feed)
set_option linter.unusedVariables false
set_option linter.unusedSimpArgs false
/-- What the first k turns do to byte i. -/
def dB (T y k i : Nat) : Nat := ((y % 2 ^ k) <<< T) >>> (8 * i) % 2 ^ 8
theorem dB_bit (T y k i b : Nat) : (dB T y k i).testBit b = (decide (b < 8) && (decide (T ≤ 8 * i + b) && (decide (8 * i + b - T < k) && y.testBit (8 * i + b - T)))) := by
  unfold dB
  rw [Nat.testBit_mod_two_pow, Nat.testBit_shiftRight, Nat.testBit_shiftLeft, Nat.testBit_mod_two_pow]
theorem dB_lt (T y k i : Nat) : dB T y k i < 256 := Nat.mod_lt _ (by decide)
def tog (z : List Int) (T y k : Nat) : List Int := (List.range z.length).map fun i => (((z.getD i 0).toNat ^^^ dB T y k i : Nat) : Int)
theorem tog_length (z : List Int) (T y k : Nat) : (tog z T y k).length = z.length := by simp [tog]
theorem tog_get (z : List Int) (T y k i : Nat) (h : i < z.length) : (tog z T y k).getD i 0 = (((z.getD i 0).toNat ^^^ dB T y k i : Nat) : Int) := by
  rw [List.getD_eq_getElem?_getD]
  simp [tog, h]
theorem xor_lt {a b : Nat} (ha : a < 256) (hb : b < 256) : a ^^^ b < 256 := Nat.xor_lt_two_pow (n := 8) ha hb
theorem okb_get {z : List Int} (h : okb z = true) (i : Nat) : 0 ≤ z.getD i 0 ∧ z.getD i 0 ≤ 255 := by
  have := okb_at h (i : Int)
  simpa [rd] using this
theorem tog_okb {z : List Int} (h : okb z = true) (T y k : Nat) : okb (tog z T y k) = true := by
  unfold okb
  rw [List.all_eq_true]
  intro x hx
  unfold tog at hx
  obtain ⟨i, _, rfl⟩ := List.mem_map.1 hx
  have h1 := okb_get h i
  have h2 := xor_lt (show (z.getD i 0).toNat < 256 by omega) (dB_lt T y k i)
  rw [Bool.and_eq_true, decide_eq_true_eq, decide_eq_true_eq]
  omega
theorem tog_zero {z : List Int} (h : okb z = true) (T y : Nat) : tog z T y 0 = z := by
  apply List.ext_getElem (by rw [tog_length])
  intro i h1 h2
  have e := tog_get z T y 0 i h2
  have hg := okb_get h i
  have e0 : dB T y 0 i = 0 := by
    apply Nat.eq_of_testBit_eq
    intro b
    rw [dB_bit]
    simp
  rw [e0, Nat.xor_zero] at e
  rw [List.getD_eq_getElem?_getD, List.getElem?_eq_getElem h1, Option.getD_some] at e
  rw [e]
  rw [List.getD_eq_getElem?_getD, List.getElem?_eq_getElem h2, Option.getD_some] at hg ⊢
  omega
theorem tog_same {z : List Int} {T y k : Nat} (h : y.testBit k = false) : tog z T y (k + 1) = tog z T y k := by
  unfold tog
  apply List.map_congr_left
  intro i _
  congr 2
  apply Nat.eq_of_testBit_eq
  intro b
  rw [dB_bit, dB_bit]
  by_cases e : 8 * i + b - T = k
  · rw [e, h]; simp
  · have : decide (8 * i + b - T < k + 1) = decide (8 * i + b - T < k) := by rw [decide_eq_decide]; omega
    rw [this]
theorem tog_turn {z : List Int} {T y k : Nat} (h : y.testBit k = true) (hz : (T + k) / 8 < z.length) :
    (tog z T y k).set ((T + k) / 8) ((((tog z T y k).getD ((T + k) / 8) 0).toNat ^^^ 2 ^ ((T + k) % 8) : Nat) : Int) = tog z T y (k + 1) := by
  apply List.ext_getElem (by rw [List.length_set, tog_length, tog_length])
  intro i h1 h2
  rw [tog_length] at h2
  have e2 := tog_get z T y (k + 1) i h2
  rw [List.getD_eq_getElem?_getD, List.getElem?_eq_getElem (by rw [tog_length]; exact h2), Option.getD_some] at e2
  rw [e2, List.getElem_set]
  by_cases e : (T + k) / 8 = i
  · rw [if_pos e]
    subst e
    rw [tog_get z T y k _ h2, Int.toNat_natCast, Nat.xor_assoc]
    congr 2
    apply Nat.eq_of_testBit_eq
    intro b
    rw [Nat.testBit_xor, dB_bit, dB_bit, Nat.testBit_two_pow]
    by_cases hb : (T + k) % 8 = b
    · subst hb
      have e8 : 8 * ((T + k) / 8) + (T + k) % 8 = T + k := by omega
      rw [e8, show T + k - T = k by omega, h]
      simp
      omega
    · have d1 : decide ((T + k) % 8 = b) = false := by simp [hb]
      rw [d1, Bool.xor_false]
      by_cases hb8 : b < 8
      · have : decide (8 * ((T + k) / 8) + b - T < k + 1) = decide (8 * ((T + k) / 8) + b - T < k) ∨ ¬ T ≤ 8 * ((T + k) / 8) + b := by
          by_cases ht : T ≤ 8 * ((T + k) / 8) + b
          · left; rw [decide_eq_decide]; omega
          · right; exact ht
        rcases this with hh | hh
        · rw [hh]
        · simp [hh]
      · simp [hb8]
  · rw [if_neg e]
    have e1 := tog_get z T y k i h2
    rw [List.getD_eq_getElem?_getD, List.getElem?_eq_getElem (by rw [tog_length]; exact h2), Option.getD_some] at e1
    rw [e1]
    congr 2
    apply Nat.eq_of_testBit_eq
    intro b
    rw [dB_bit, dB_bit]
    by_cases hb8 : b < 8
    · by_cases ht : T ≤ 8 * i + b
      · have : decide (8 * i + b - T < k + 1) = decide (8 * i + b - T < k) := by rw [decide_eq_decide]; omega
        rw [this]
      · simp [ht]
    · simp [hb8]
/-! ### The checksum of what is turned -/
def F32 : BitVec 32 := 0xffffffff#32
theorem more_bv {l : List Int} (h : okb l = true) : more 0 l = ((feed F32 (l.map bv) ^^^ F32).toNat : Int) := by
  unfold more
  have e : xr 0 4294967295 = ((F32 : BitVec 32).toNat : Int) := by decide +kernel
  rw [e, reg_bv l h]
  have := xr_bv (feed F32 (l.map bv)) F32
  rw [← this]
  rfl
/-- The turns as bits. -/
def dL (T y n : Nat) : List (BitVec 32) := (List.range n).map fun i => BitVec.ofNat 32 (dB T y 32 i)
def dF (T y n : Nat) : List Bool := (List.range n).flatMap fun i => low (BitVec.ofNat 32 (dB T y 32 i)) 8
theorem dF_succ (T y n : Nat) : dF T y (n + 1) = dF T y n ++ low (BitVec.ofNat 32 (dB T y 32 n)) 8 := by
  unfold dF
  rw [List.range_succ, List.flatMap_append]
  simp
theorem dF_length (T y : Nat) : ∀ n, (dF T y n).length = 8 * n
  | 0 => rfl
  | n + 1 => by rw [dF_succ, List.length_append, dF_length T y n, Crc.low_length]; omega
theorem dF_get (T y : Nat) : ∀ n p, p < 8 * n → (dF T y n)[p]? = some (decide (T ≤ p) && (decide (p - T < 32) && y.testBit (p - T)))
  | 0, p, h => by omega
  | n + 1, p, h => by
    rw [dF_succ]
    by_cases hp : p < 8 * n
    · rw [List.getElem?_append_left (by rw [dF_length]; exact hp)]
      exact dF_get T y n p hp
    · rw [List.getElem?_append_right (by rw [dF_length]; omega), dF_length, Crc.low_get _ _ _ (by omega)]
      congr 1
      rw [BitVec.getLsbD_ofNat, dB_bit, show 8 * n + (p - 8 * n) = p by omega]
      have h1 : decide (p - 8 * n < 32) = true := by simp; omega
      have h2 : decide (p - 8 * n < 8) = true := by simp; omega
      rw [h1, h2]
      simp
theorem dF_window {T y n : Nat} (hT : T + 32 ≤ 8 * n) (hy : y < 2 ^ 32) : dF T y n = List.replicate T false ++ (low (BitVec.ofNat 32 y) 32 ++ List.replicate (8 * n - T - 32) false) := by
  apply List.ext_getElem?
  intro p
  rcases Nat.lt_or_ge p (8 * n) with hp | hp
  · rw [dF_get T y n p hp]
    rcases Nat.lt_or_ge p T with h1 | h1
    · rw [List.getElem?_append_left (by simpa using h1), List.getElem?_replicate, if_pos h1]
      have : decide (T ≤ p) = false := by simp; omega
      rw [this]
      rfl
    · rw [List.getElem?_append_right (by simpa using h1), List.length_replicate]
      have h2 : decide (T ≤ p) = true := by simp; omega
      rw [h2]
      rcases Nat.lt_or_ge (p - T) 32 with h3 | h3
      · rw [List.getElem?_append_left (by rw [Crc.low_length]; exact h3), Crc.low_get _ _ _ h3, BitVec.getLsbD_ofNat]
        have h4 : decide (p - T < 32) = true := by simp; omega
        rw [h4]
        rfl
      · rw [List.getElem?_append_right (by rw [Crc.low_length]; exact h3), Crc.low_length, List.getElem?_replicate, if_pos (by omega)]
        have h4 : decide (p - T < 32) = false := by simp; omega
        rw [h4]
        rfl
  · rw [List.getElem?_eq_none (by rw [dF_length]; exact hp), List.getElem?_eq_none (by simp [Crc.low_length]; omega)]
theorem small_shift {x : Nat} (h : x < 256) : (BitVec.ofNat 32 x) >>> 8 = 0#32 := by
  apply BitVec.eq_of_toNat_eq
  rw [BitVec.toNat_ushiftRight, Nat.shiftRight_eq_div_pow, BitVec.toNat_ofNat, Nat.mod_eq_of_lt (by omega), Nat.div_eq_of_lt h]
  rfl
theorem feed_turn {T y n : Nat} (hT : T + 32 ≤ 8 * n) (hy : y < 2 ^ 32) : feed 0#32 (dL T y n) = 0#32 ↔ y = 0 := by
  have h1 : feed 0#32 (dL T y n) = Crc.bits 0#32 (dF T y n) := by
    rw [Crc.feed_bits _ _ (fun c hc => by
      unfold dL at hc
      obtain ⟨i, _, rfl⟩ := List.mem_map.1 hc
      exact small_shift (dB_lt T y 32 i))]
    unfold dL dF
    rw [List.flatMap_map]
  rw [h1, dF_window hT hy, Crc.bits_window]
  constructor
  · intro h
    have := congrArg BitVec.toNat h
    rw [BitVec.toNat_ofNat, Nat.mod_eq_of_lt hy] at this
    exact this
  · rintro rfl; rfl
theorem tog_bv {z : List Int} (h : okb z = true) (T y : Nat) : (tog z T y 32).map bv = List.zipWith (· ^^^ ·) (z.map bv) (dL T y z.length) := by
  apply List.ext_getElem
  · simp [tog_length, dL]
  intro i h1 h2
  have hi : i < z.length := by simpa [tog_length] using h1
  have e := tog_get z T y 32 i hi
  have hg := okb_get h i
  rw [List.getD_eq_getElem?_getD, List.getElem?_eq_getElem (by rw [tog_length]; exact hi), Option.getD_some] at e
  rw [List.getElem_zipWith, List.getElem_map, List.getElem_map, e]
  have hz : z.getD i 0 = z[i] := by rw [List.getD_eq_getElem?_getD, List.getElem?_eq_getElem hi, Option.getD_some]
  rw [hz] at hg ⊢
  unfold bv dL
  rw [List.getElem_map, List.getElem_range, Int.toNat_natCast]
  apply BitVec.eq_of_toNat_eq
  have l1 := xor_lt (show z[i].toNat < 256 by omega) (dB_lt T y 32 i)
  have l2 := dB_lt T y 32 i
  rw [BitVec.toNat_xor, BitVec.toNat_ofNat, BitVec.toNat_ofNat, BitVec.toNat_ofNat, Nat.mod_eq_of_lt (by omega), Nat.mod_eq_of_lt (by omega), Nat.mod_eq_of_lt (by omega)]
end Go.Proofs.Ytkckmikpmjecdaa.H
