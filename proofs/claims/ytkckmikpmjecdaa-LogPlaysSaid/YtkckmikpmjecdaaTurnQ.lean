/- What Open answers of a frame in which bits are turned: plain facts. Condition: bytes, at most 32 neighbouring bits behind the length. -/
import Derived.Test.YtkckmikpmjecdaaTurnP
namespace Go.Proofs.Ytkckmikpmjecdaa.H
open Go.RowKit Go.Proofs.YtkckmikpmjecdaaW.PrintWords Go.Proofs.YtkckmikpmjecdaaW.PrintMore
open Crc (Tn low feed)
set_option linter.unusedVariables false
set_option linter.unusedSimpArgs false
theorem bv_byte {v : BitVec 32} {x : Int} (s : Nat) (h0 : 0 ≤ x) (h1 : x ≤ 255) (h : v.toNat / 2 ^ s % 256 = x.toNat) : bv x = (v >>> s) &&& 0xff#32 := by
  apply BitVec.eq_of_toNat_eq
  rw [BitVec.toNat_and, BitVec.toNat_ushiftRight, Nat.shiftRight_eq_div_pow]
  have e := Nat.and_two_pow_sub_one_eq_mod (v.toNat / 2 ^ s) 8
  rw [show (0xff#32).toNat = 2 ^ 8 - 1 from rfl, e, show (2 : Nat) ^ 8 = 256 from rfl, h]
  unfold bv
  rw [BitVec.toNat_ofNat, Nat.mod_eq_of_lt (by omega)]
theorem four {t : List Int} (h : okb t = true) (hl : t.length = 4) {v : BitVec 32} (hv : v.toNat = (les t).toNat) : t.map bv = [v &&& 0xff#32, (v >>> 8) &&& 0xff#32, (v >>> 16) &&& 0xff#32, (v >>> 24) &&& 0xff#32] := by
  obtain ⟨a, b, c, d, rfl⟩ : ∃ a b c d, t = [a, b, c, d] := by
    match t, hl with
    | [a, b, c, d], _ => exact ⟨a, b, c, d, rfl⟩
  simp only [okb, List.all_cons, List.all_nil, Bool.and_true, Bool.and_eq_true, decide_eq_true_eq] at h
  obtain ⟨⟨a0, a1⟩, ⟨b0, b1⟩, ⟨c0, c1⟩, d0, d1⟩ := h
  simp only [les] at hv
  have e0 := bv_byte (v := v) 0 a0 a1 (by omega)
  rw [show v >>> 0 = v from BitVec.ushiftRight_zero v] at e0
  rw [List.map_cons, List.map_cons, List.map_cons, List.map_cons, List.map_nil, e0, bv_byte (v := v) 8 b0 b1 (by omega), bv_byte (v := v) 16 c0 c1 (by omega), bv_byte (v := v) 24 d0 d1 (by omega)]
theorem okb_parts {z : List Int} (h : okb z = true) (m : Nat) : okb (z.take m) = true ∧ okb (z.drop m) = true := ⟨okb_take h m, okb_drop h m⟩
theorem good_iff {z : List Int} (h : okb z = true) (m : Nat) (hl : z.length = m + 4) : les (z.drop m) = more 0 (z.take m) ↔ feed F32 (z.map bv) = Tn 32 F32 := by
  obtain ⟨hb, ht⟩ := okb_parts h m
  have hd : (z.drop m).length = 4 := by rw [List.length_drop]; omega
  have hr := les_range _ ht
  rw [hd] at hr
  have hv : (BitVec.ofNat 32 (les (z.drop m)).toNat).toNat = (les (z.drop m)).toNat := by
    rw [BitVec.toNat_ofNat, Nat.mod_eq_of_lt (by have := hr.2; omega)]
  generalize BitVec.ofNat 32 (les (z.drop m)).toNat = v at hv
  have e1 : feed F32 (z.map bv) = Tn 32 (feed F32 ((z.take m).map bv) ^^^ v) := by
    have e := Crc.feed_append F32 ((z.take m).map bv) ((z.drop m).map bv)
    rw [← List.map_append, List.take_append_drop] at e
    rw [e, four ht hd hv, Crc.feed_word]
  rw [e1, more_bv hb]
  generalize feed F32 ((z.take m).map bv) = f
  constructor
  · intro hh
    have : v = f ^^^ F32 := by
      apply BitVec.eq_of_toNat_eq
      rw [hv, hh, Int.toNat_natCast]
    rw [this, ← BitVec.xor_assoc, BitVec.xor_self, BitVec.zero_xor]
  · intro hh
    have h2 : Tn 32 ((f ^^^ v) ^^^ F32) = 0#32 := by rw [Crc.Tn_xor, hh, BitVec.xor_self]
    have h3 := Crc.Tn_ker 32 h2
    have h4 : v = f ^^^ F32 := by
      have h5 : f ^^^ v = F32 := by
        have := congrArg (· ^^^ F32) h3
        simp only [BitVec.xor_assoc, BitVec.xor_self, BitVec.xor_zero, BitVec.zero_xor] at this
        exact this
      rw [← h5, ← BitVec.xor_assoc, BitVec.xor_self, BitVec.zero_xor]
    rw [← h4, hv]
    omega
theorem les_tail {s : Int} (h0 : 0 ≤ s) (h1 : s ≤ 4294967295) : les (tail4 s) = s := by
  simp only [tail4, les]
  omega
theorem sealed_length (l : List Int) : (sealed l).length = l.length + 8 := by simp [sealed, hdr, tail4] <;> omega
theorem sealed_okb {l : List Int} (h : okb l = true) : okb (sealed l) = true := okb_app (okb_app (hdr_okb _) h) (tail_okb _)
theorem sealed_parts (l : List Int) : (sealed l).take (l.length + 4) = hdr l.length ++ l ∧ (sealed l).drop (l.length + 4) = tail4 (more 0 (hdr l.length ++ l)) := by
  have hh : (hdr (l.length : Int) ++ l).length = l.length + 4 := by simp [hdr] <;> omega
  unfold sealed
  exact ⟨by rw [← hh, List.take_left], by rw [← hh, List.drop_left]⟩
theorem sealed_good {l : List Int} (h : okb l = true) : feed F32 ((sealed l).map bv) = Tn 32 F32 := by
  rw [← good_iff (sealed_okb h) (l.length + 4) (by rw [sealed_length]), (sealed_parts l).1, (sealed_parts l).2]
  have := more_range 0 (hdr (l.length : Int) ++ l)
  exact les_tail this.1 this.2
theorem turned_good {l : List Int} (h : okb l = true) {T y : Nat} (hT : T + 32 ≤ 8 * (l.length + 8)) (hy : y < 2 ^ 32) :
    les ((tog (sealed l) T y 32).drop (l.length + 4)) = more 0 ((tog (sealed l) T y 32).take (l.length + 4)) ↔ y = 0 := by
  rw [good_iff (tog_okb (sealed_okb h) T y 32) (l.length + 4) (by rw [tog_length, sealed_length]), tog_bv (sealed_okb h)]
  have e := Crc.feed_xor ((sealed l).map bv) (dL T y (sealed l).length) F32 0#32 (by simp [dL])
  rw [BitVec.xor_zero] at e
  rw [e, sealed_good h, ← feed_turn (T := T) (y := y) (n := l.length + 8) hT hy, sealed_length]
  constructor
  · intro hh
    have := congrArg (Tn 32 F32 ^^^ ·) hh
    simp only [← BitVec.xor_assoc, BitVec.xor_self, BitVec.zero_xor] at this
    exact this
  · intro hh
    rw [hh, BitVec.xor_zero]
theorem tog_head {z : List Int} (h : okb z = true) {T y k : Nat} (hT : 32 ≤ T) : (tog z T y k).take 4 = z.take 4 := by
  apply List.ext_getElem (by simp [tog_length])
  intro i h1 h2
  have hi : i < 4 ∧ i < z.length := by simp [tog_length] at h1; omega
  rw [List.getElem_take, List.getElem_take]
  have e := tog_get z T y k i hi.2
  have hg := okb_get h i
  have e0 : dB T y k i = 0 := by
    apply Nat.eq_of_testBit_eq
    intro b
    rw [dB_bit, Nat.zero_testBit]
    by_cases hb : b < 8
    · have : decide (T ≤ 8 * i + b) = false := by simp; omega
      rw [this]; simp
    · simp [hb]
  rw [e0, Nat.xor_zero, List.getD_eq_getElem?_getD, List.getElem?_eq_getElem (by rw [tog_length]; exact hi.2), Option.getD_some] at e
  rw [e]
  rw [List.getD_eq_getElem?_getD, List.getElem?_eq_getElem hi.2, Option.getD_some] at hg ⊢
  omega
theorem big_hdr {n : Nat} (h : n ≤ 65536) : big (hdr (n : Int)) = n := by
  simp [big, hdr]
  omega
theorem turned_err {l bh : List Int} (h : okb l = true) (hl : l.length ≤ 65536) {T y : Nat} (hT0 : 32 ≤ T) (hT : T + 32 ≤ 8 * (l.length + 8)) (hy : y < 2 ^ 32) :
    (opened (tog (sealed l) T y 32 ++ bh)).2.2 = if y = 0 then 0 else 12 := by
  have hlen : (tog (sealed l) T y 32).length = l.length + 8 := by rw [tog_length, sealed_length]
  have h4 : (tog (sealed l) T y 32 ++ bh).take 4 = hdr l.length := by
    rw [List.take_append_of_le_length (by omega), tog_head (sealed_okb h) hT0]
    unfold sealed
    rw [List.append_assoc, List.take_append_of_le_length (by simp [hdr])]
    rfl
  have hg := turned_good h hT hy
  unfold opened
  rw [if_neg (by rw [List.length_append]; omega), h4, big_hdr hl, if_neg (by omega), if_neg (by rw [List.length_append]; omega), Int.toNat_natCast]
  have e1 : (tog (sealed l) T y 32 ++ bh).take (8 + l.length) = tog (sealed l) T y 32 := by
    rw [List.take_append_of_le_length (by omega), List.take_of_length_le (by omega)]
  have e2 : (tog (sealed l) T y 32 ++ bh).take (4 + l.length) = (tog (sealed l) T y 32).take (l.length + 4) := by
    rw [List.take_append_of_le_length (by omega), Nat.add_comm]
  rw [e1, e2, Nat.add_comm 4 l.length]
  by_cases hz : y = 0
  · rw [if_pos hz, if_neg (by rw [hg.2 hz]; simp)]
  · rw [if_neg hz, if_pos (fun hh => hz (hg.1 hh))]
end Go.Proofs.Ytkckmikpmjecdaa.H
