/- The checksum over numbers is that over bits, and so is the reference's, bit by bit: plain facts. Condition: bytes. -/
import Derived.Test.YtkckmikpmjecdaaSums
import Derived.Test.YtkckmikpmjecdaaCrc
import Derived.Test.YtkckmikpmjecdaaPFrameTellsx1
namespace Go.Proofs.Ytkckmikpmjecdaa.H
open Go.RowKit Go.Proofs.YtkckmikpmjecdaaW.PrintWords Go.Proofs.YtkckmikpmjecdaaW.PrintMore Go.Proofs.Ytkckmikpmjecdaa.PFrameTells
open Crc (Tn T bit1 low feed byte poly tab)
set_option linter.unusedVariables false
set_option linter.unusedSimpArgs false
def bv (x : Int) : BitVec 32 := BitVec.ofNat 32 x.toNat
theorem bv_toNat {x : Int} (h0 : 0 ≤ x) (h1 : x ≤ 255) : ((bv x).toNat : Int) = x := by
  unfold bv
  rw [BitVec.toNat_ofNat, Nat.mod_eq_of_lt (by omega)]
  omega
theorem xr_bv (A B : BitVec 32) : xr (A.toNat : Int) (B.toNat : Int) = ((A ^^^ B).toNat : Int) := by
  unfold xr
  rw [u32_xor_nat _ _ A.isLt B.isLt, BitVec.toNat_xor]
theorem tab_int : ∀ j, j < 16 → tabI.getD j 0 = ((tab.getD j 0#32).toNat : Int) := by decide
theorem half_bv (A : BitVec 32) : half (A.toNat : Int) = ((Tn 4 A).toNat : Int) := by
  unfold half
  have e1 : (A.toNat : Int) / (16 : Int) = ((A >>> 4).toNat : Int) := by
    rw [BitVec.toNat_ushiftRight, Nat.shiftRight_eq_div_pow]
    omega
  have e2 : (an (A.toNat : Int) 15).toNat = (A &&& 15#32).toNat := by
    unfold an
    have := u32_and_nat A.toNat 15 A.isLt (by omega)
    rw [show ((15 : Nat) : Int) = 15 from rfl] at this
    rw [this, Int.toNat_natCast, BitVec.toNat_and]
    rfl
  have e3 : (A &&& 15#32).toNat < 16 := by
    rw [BitVec.toNat_and]
    exact Nat.lt_of_le_of_lt Nat.and_le_right (by decide)
  rw [e1, e2, tab_int _ e3, xr_bv, Crc.nib]
theorem step_bv (R C : BitVec 32) : step (R.toNat : Int) (C.toNat : Int) = ((byte R C).toNat : Int) := by
  unfold step byte
  rw [xr_bv, half_bv, half_bv, ← Crc.Tn_add 4 4]
theorem reg_bv (l : List Int) (hl : okb l = true) : ∀ R : BitVec 32, reg (R.toNat : Int) l = ((feed R (l.map bv)).toNat : Int) := by
  induction l with
  | nil => intro R; rfl
  | cons c l ih =>
    intro R
    simp only [okb, List.all_cons, Bool.and_eq_true, decide_eq_true_eq] at hl
    have h := step_bv R (bv c)
    rw [bv_toNat hl.1.1 hl.1.2] at h
    show reg (step _ c) l = _
    rw [h]
    exact ih (by simp [okb, hl.2]) _
theorem bit1_eq (R : BitVec 32) (b : Bool) : bit1 R b = if R.getLsbD 0 = b then R >>> 1 else (R >>> 1) ^^^ poly := by
  unfold bit1 T
  rw [BitVec.ushiftRight_xor_distrib, BitVec.getLsbD_xor]
  cases b <;> cases h : R.getLsbD 0 <;> simp
/-- One step of the reference. -/
theorem bit_int (R C : BitVec 32) (j : Nat) (hj : j < 8) :
    (if Go.bits .and .u32 (R.toNat : Int) 1 = Go.bits .and .u32 (shr .u32 ((C.toNat : Int) % 4294967296) (IntKind.u64.wrap (j : Int))) 1 then (R.toNat : Int) / 2 else Go.bits .xor .u32 ((R.toNat : Int) / 2) 3988292384) = ((bit1 R (C.getLsbD j)).toNat : Int) := by
  have hC := C.isLt
  have e0 : ∀ x : Nat, x < 4294967296 → Go.bits .and .u32 (x : Int) 1 = ((x % 2 : Nat) : Int) := fun x hx => by
    have := u32_and_nat x 1 hx (by omega)
    rw [show ((1 : Nat) : Int) = 1 from rfl] at this
    rw [this, Nat.and_one_is_mod]
  have e1 : shr .u32 ((C.toNat : Int) % 4294967296) (IntKind.u64.wrap (j : Int)) = ((C.toNat / 2 ^ j : Nat) : Int) := by
    unfold shr
    rw [IntKind.wrap_u64, show (C.toNat : Int) % 4294967296 = (C.toNat : Int) by omega]
    have : min (((j : Int) % 18446744073709551616).toNat) (IntKind.u32).bits = j := by
      rw [show (IntKind.u32).bits = 32 from rfl]; omega
    rw [this]
    push_cast
    rfl
  have e2 : (R.toNat : Int) / (2 : Int) = ((R >>> 1).toNat : Int) := by
    rw [BitVec.toNat_ushiftRight, Nat.shiftRight_eq_div_pow]
    omega
  have e3 : (3988292384 : Int) = ((poly : BitVec 32).toNat : Int) := by decide
  have e4 : R.getLsbD 0 = decide (R.toNat % 2 = 1) := by
    rw [Bool.eq_iff_iff]
    simp [BitVec.getLsbD, Nat.testBit]
  have e5 : C.getLsbD j = decide (C.toNat / 2 ^ j % 2 = 1) := by
    rw [Bool.eq_iff_iff]
    simp [BitVec.getLsbD, Nat.testBit, Nat.shiftRight_eq_div_pow]
  rw [e1, e0 _ R.isLt, e0 _ (Nat.lt_of_le_of_lt (Nat.div_le_self ..) hC), e2, e3]
  have e6 := xr_bv (R >>> 1) poly
  unfold xr at e6
  rw [e6, bit1_eq, e4, e5]
  have h1 : R.toNat % 2 < 2 := Nat.mod_lt _ (by decide)
  have h2 : C.toNat / 2 ^ j % 2 < 2 := Nat.mod_lt _ (by decide)
  generalize R.toNat % 2 = x at *
  generalize C.toNat / 2 ^ j % 2 = y at *
  by_cases h : x = y
  · subst h; simp
  · rw [if_neg (by omega), if_neg]
    intro hd
    have := decide_eq_decide.1 hd
    omega
theorem ref_l1 (l : List Int) (i : Nat) (hi : i < l.length) (hm : (l.length : Int) < 1000000000) (C : BitVec 32) (hC : rd l (i : Int) = (C.toNat : Int)) (K : Nat) :
    ∀ (m j : Nat) (R : BitVec 32), j + m = 8 → peerageref04_More.l1 (K + m + 1) l (R.toNat : Int) (i : Int) (j : Int) = peerageref04_More.l0 K l ((Crc.bits R (low (C >>> j) m)).toNat : Int) ((i + 1 : Nat) : Int)
  | 0, j, R, h => by
    obtain rfl : j = 8 := by omega
    unfold peerageref04_More.l1
    rw [if_neg (by omega), show wrap64 ((i : Int) + 1) = ((i + 1 : Nat) : Int) by unfold wrap64; omega]
    rfl
  | m + 1, j, R, h => by
    have hb := bit_int R C j (by omega)
    rw [show K + (m + 1) + 1 = (K + m + 1) + 1 by omega]
    unfold peerageref04_More.l1
    rw [if_pos (by omega), if_pos (by omega), if_pos (by omega), if_pos (by rw [IntKind.wrap_u64]; omega), hC]
    have ih := ref_l1 l i hi hm C hC K m (j + 1) (bit1 R (C.getLsbD j)) (by omega)
    have e : low (C >>> j) (m + 1) = C.getLsbD j :: low (C >>> (j + 1)) m := by
      show (C >>> j).getLsbD 0 :: low ((C >>> j) >>> 1) m = _
      rw [BitVec.getLsbD_ushiftRight, Nat.add_zero, ← BitVec.shiftRight_add]
    rw [e]
    show _ = peerageref04_More.l0 K l ((Crc.bits (bit1 R (C.getLsbD j)) (low (C >>> (j + 1)) m)).toNat : Int) _
    rw [← ih, show wrap64 ((j : Int) + 1) = ((j + 1 : Nat) : Int) by unfold wrap64; omega, ← hb]
    split <;> rfl
theorem ref_l0 (l : List Int) (hl : okb l = true) (hm : (l.length : Int) < 1000000000) :
    ∀ (n i : Nat) (R : BitVec 32), i + n = l.length → peerageref04_More.l0 (10 * n + 1) l (R.toNat : Int) (i : Int) = some (Go.bits .xor .u32 ((feed R ((l.drop i).map bv)).toNat : Int) 4294967295)
  | 0, i, R, h => by
    unfold peerageref04_More.l0
    rw [if_neg (by omega), List.drop_eq_nil_of_le (by omega)]
    rfl
  | n + 1, i, R, h => by
    have hi : i < l.length := by omega
    have hr := okb_at hl (i : Int)
    have hb := bv_toNat hr.1 hr.2
    rw [show 10 * (n + 1) + 1 = (10 * n + 1 + 8 + 1) + 1 by omega]
    unfold peerageref04_More.l0
    rw [if_pos (by omega)]
    have h1 := ref_l1 l i hi hm (bv (rd l (i : Int))) hb.symm (10 * n + 1) 8 0 R (by omega)
    rw [show ((0 : Nat) : Int) = 0 from rfl] at h1
    rw [h1, ref_l0 l hl hm n (i + 1) _ (by omega)]
    have e1 : (bv (rd l (i : Int))) >>> 8 = 0#32 := by
      apply BitVec.eq_of_toNat_eq
      rw [BitVec.toNat_ushiftRight, Nat.shiftRight_eq_div_pow]
      have : (bv (rd l (i : Int))).toNat < 256 := by omega
      rw [Nat.div_eq_of_lt this]
      rfl
    have e2 : l.drop i = rd l (i : Int) :: l.drop (i + 1) := by
      rw [List.drop_eq_getElem_cons hi]
      simp [rd, List.getD_eq_getElem?_getD, hi]
    rw [e2, BitVec.ushiftRight_zero, ← Crc.byte_bits e1]
    rfl
theorem refmore {l : List Int} (hl : okb l = true) (hm : (l.length : Int) < 1000000000) {a : Int} (a0 : 0 ≤ a) (a1 : a ≤ 4294967295) : peerageref04_More.f (10 * l.length + 1) a l = some (more a l) := by
  unfold peerageref04_More.f more
  have hx : Go.bits .xor .u32 a 4294967295 = xr a 4294967295 := rfl
  have hr := xr_range a 4294967295
  rw [hx]
  obtain ⟨R, hR⟩ : ∃ R : BitVec 32, xr a 4294967295 = (R.toNat : Int) := ⟨BitVec.ofNat 32 (xr a 4294967295).toNat, by rw [BitVec.toNat_ofNat, Nat.mod_eq_of_lt (by omega)]; omega⟩
  rw [hR, show (0 : Int) = ((0 : Nat) : Int) from rfl, ref_l0 l hl hm l.length 0 R (by omega), reg_bv l hl, List.drop_zero]
  rfl
end Go.Proofs.Ytkckmikpmjecdaa.H
