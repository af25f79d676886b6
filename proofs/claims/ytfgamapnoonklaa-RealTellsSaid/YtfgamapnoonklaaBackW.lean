/- Parsing the Text of a number yields its plain form, whose Text is the same: the walk. Condition: the number is 64 bits wide. -/
import Derived.Test.YtfgamapnoonklaaTellsW
namespace Go.Proofs.Ytfgamapnoonklaa.H
open Go.RowKit Key Go.Proofs.YtfgamapnoonklaaW.PrintWords Go.Proofs.YtfgamapnoonklaaW.PrintLast Go.Proofs.YtfgamapnoonklaaW.PrintMore
set_option linter.unusedVariables false
set_option linter.unusedSimpArgs false
theorem hx_hexd : ∀ d, d < 16 → hx (hexd ((d : Nat) : Int)) = d := by decide
theorem by_digs {m i : Nat} (h : i < 16) : by_ (strOfNums (digs m)) i = dig m i := by
  have hr := hexd_range (m / 16 ^ (15 - i) % 16) (Nat.mod_lt _ (by decide))
  unfold by_
  have e : (strOfNums (digs m)).data.getD i 0 = UInt8.ofNat (dig m i).toNat := by
    have hl : (strOfNums (digs m)).data.toList[i]? = some (UInt8.ofNat (dig m i).toNat) := by
      rw [strOfNums_data]
      simp [digs, h]
    rw [Array.getElem?_toList] at hl
    simp [Array.getD_eq_getD_getElem?, hl]
  rw [e]
  unfold dig
  simp only [UInt8.toNat_ofNat']
  omega
theorem par_digs (m : Nat) : ∀ k, k ≤ 16 → par (strOfNums (digs m)) k (16 - k) ((m / 16 ^ k : Nat) : Int) = some (m : Int)
  | 0, _ => by simp [par]
  | k + 1, h => by
    unfold par
    have hd := hx_hexd (m / 16 ^ k % 16) (Nat.mod_lt _ (by decide))
    have e : by_ (strOfNums (digs m)) (16 - (k + 1)) = hexd ((m / 16 ^ k % 16 : Nat) : Int) := by
      rw [by_digs (by omega)]
      unfold dig
      rw [show 15 - (16 - (k + 1)) = k by omega]
    rw [e, hd, if_neg (by omega)]
    have ih := par_digs m k (by omega)
    rw [show 16 - (k + 1) + 1 = 16 - k by omega]
    have e2 : ((m / 16 ^ (k + 1) : Nat) : Int) * 16 + ((m / 16 ^ k % 16 : Nat) : Int) = ((m / 16 ^ k : Nat) : Int) := by
      have : m / 16 ^ (k + 1) = m / 16 ^ k / 16 := by rw [Nat.pow_succ, Nat.div_div_eq_div_mul]
      omega
    rw [e2]
    exact ih
theorem eq_same {x : Nat} {b : Bool} (h : isNaN x = b) : (FloatKind.f64.format.order x x == some .eq) = !b := by
  have e : (FloatKind.f64.format.order x x != some .eq) = isNaN x := order_self x
  rw [← h, ← e]
  simp [bne]
theorem ne_zero {x : Nat} (h : isNaN x = false) : (FloatKind.f64.format.order x 0 != some .eq) = !decide (key x = 0) := by
  have e : (FloatKind.f64.format.order x 0 == some .eq) = decide (key x = key 0) := order_eq h (by decide)
  rw [show key 0 = 0 by decide] at e
  rw [← e]
  rfl
theorem parsed_digs {m : Nat} (h : m < 2 ^ 64) : parsed (strOfNums (digs m)) = some (m : Int) := by
  unfold parsed
  rw [if_pos (by rw [strOfNums_size, digs_length])]
  have := par_digs m 16 (Nat.le_refl _)
  rw [Nat.div_eq_of_lt (by exact h)] at this
  exact this

set_option maxHeartbeats 4000000 in
theorem back_nan (n : Nat) (s : ByteArray) (w : World) (ha : n < 2 ^ 64) (hs : strOfNums (digs (plain n)) = s) (hn : isNaN n = true) :
    Calls Try.prog 8 #[.float .f64 n] w fun e w' => e = .returned (.bool true) ∧ Below w.heap.size w w' := by
  have HA := Lib.hid ha
  have HS := Lib.hid hs
  have hz : s.size = 16 := by rw [← hs, strOfNums_size, digs_length]
  have HP := Lib.hid (show parsed s = some ((plain n : Nat) : Int) by rw [← hs]; exact parsed_digs (plain_lt ha))
  have HO := Lib.hid (show ord n (plain n) = 0 from (plain_ord ha (plain_lt ha)).1 (plain_plain n).symm)
  have HB := Lib.hid (show Below w.heap.size w w from Below.refl _ _)
  have SZ := Lib.hid (show s.size < 1000000 by omega)
  have HP1 := Lib.hid (show parsed (s.extract 1 16) = none by unfold parsed; rw [if_neg (by rw [ByteArray.size_extract]; omega)])
  have qp : (FloatKind.f64.format.order n n == some .eq) = false := eq_same hn
  have q0 : (FloatKind.f64.format.order n 0 != some .eq) = true := by rw [show FloatKind.f64.format.order n 0 = none from order_nan (.inl hn)]; rfl
  have l1 : (s.toList == [55, 102, 102, 56, 48, 48, 48, 48, 48, 48, 48, 48, 48, 48, 48, 48]) = true := by rw [← hs, show plain n = 9221120237041090560 by simp [plain, hn]]; decide +kernel
  have t1 : (s.toList != s.toList) = false := by simp
  have z1 : ((s.size : Int) != 16) = false := by simp [hz]
  have z2 : (1 : Int) ≤ (s.size : Int) := by omega
  clear hs ha hn
  go_enter Try.func8, Try.ntmps8
  go_wp2_with (first | (go_at_call_of 18 (Value.string s); refine (parse1_calls _ _ SZ.out).mono ?_; rintro e w' ⟨q1, rfl, rfl⟩; rw [HP.out, Option.getD_some, Option.isSome_some, Int.toNat_natCast]) | (go_at_call 18; refine (parse1_calls _ _ (by rw [ByteArray.size_extract]; have := SZ.out; omega)).mono ?_; rintro e w' ⟨q1, rfl, rfl⟩; rw [HP1.out, Option.getD_none, Option.isSome_none]) | (go_at_call 10; refine (order_calls _ _ _).mono ?_; rintro e w' ⟨rfl, rfl⟩; rw [HO.out]) | (go_at_call_of 12 (Value.float FloatKind.f64 n); refine (text_calls _ _ HA.out).mono ?_; rintro e w' ⟨rfl, hb⟩; rw [HS.out]; (have HB' := Lib.hid (below_step (by repeat (first | exact HB.out | apply below_drew | apply pw_below_drewN)) hb); clear HB hb; have HB := HB'; clear HB')) | (go_at_call 12; refine (text_calls _ _ (plain_lt HA.out)).mono ?_; rintro e w' ⟨rfl, hb⟩; rw [plain_plain, HS.out]; (have HB' := Lib.hid (below_step (by repeat (first | exact HB.out | apply below_drew | apply pw_below_drewN)) hb); clear HB hb; have HB := HB'; clear HB')))
  go_ret
  exact ⟨rfl, by repeat (first | exact HB.out | apply below_drew | apply pw_below_drewN)⟩

set_option maxHeartbeats 4000000 in
theorem back_zero (n : Nat) (s : ByteArray) (w : World) (ha : n < 2 ^ 64) (hs : strOfNums (digs (plain n)) = s) (hn : isNaN n = false) (hk : key n = 0) :
    Calls Try.prog 8 #[.float .f64 n] w fun e w' => e = .returned (.bool true) ∧ Below w.heap.size w w' := by
  have HA := Lib.hid ha
  have HS := Lib.hid hs
  have hz : s.size = 16 := by rw [← hs, strOfNums_size, digs_length]
  have HP := Lib.hid (show parsed s = some ((plain n : Nat) : Int) by rw [← hs]; exact parsed_digs (plain_lt ha))
  have HO := Lib.hid (show ord n (plain n) = 0 from (plain_ord ha (plain_lt ha)).1 (plain_plain n).symm)
  have HB := Lib.hid (show Below w.heap.size w w from Below.refl _ _)
  have SZ := Lib.hid (show s.size < 1000000 by omega)
  have HP1 := Lib.hid (show parsed (s.extract 1 16) = none by unfold parsed; rw [if_neg (by rw [ByteArray.size_extract]; omega)])
  have qp : (FloatKind.f64.format.order n n == some .eq) = true := eq_same hn
  have q0 : (FloatKind.f64.format.order n 0 != some .eq) = false := by rw [ne_zero hn]; simp [hk]
  have l1 : (s.toList == [48, 48, 48, 48, 48, 48, 48, 48, 48, 48, 48, 48, 48, 48, 48, 48]) = true := by rw [← hs, show plain n = 0 by simp [plain, hn, hk]]; decide +kernel
  have t1 : (s.toList != s.toList) = false := by simp
  have z1 : ((s.size : Int) != 16) = false := by simp [hz]
  have z2 : (1 : Int) ≤ (s.size : Int) := by omega
  clear hs ha hn hk
  go_enter Try.func8, Try.ntmps8
  go_wp2_with (first | (go_at_call_of 18 (Value.string s); refine (parse1_calls _ _ SZ.out).mono ?_; rintro e w' ⟨q1, rfl, rfl⟩; rw [HP.out, Option.getD_some, Option.isSome_some, Int.toNat_natCast]) | (go_at_call 18; refine (parse1_calls _ _ (by rw [ByteArray.size_extract]; have := SZ.out; omega)).mono ?_; rintro e w' ⟨q1, rfl, rfl⟩; rw [HP1.out, Option.getD_none, Option.isSome_none]) | (go_at_call 10; refine (order_calls _ _ _).mono ?_; rintro e w' ⟨rfl, rfl⟩; rw [HO.out]) | (go_at_call_of 12 (Value.float FloatKind.f64 n); refine (text_calls _ _ HA.out).mono ?_; rintro e w' ⟨rfl, hb⟩; rw [HS.out]; (have HB' := Lib.hid (below_step (by repeat (first | exact HB.out | apply below_drew | apply pw_below_drewN)) hb); clear HB hb; have HB := HB'; clear HB')) | (go_at_call 12; refine (text_calls _ _ (plain_lt HA.out)).mono ?_; rintro e w' ⟨rfl, hb⟩; rw [plain_plain, HS.out]; (have HB' := Lib.hid (below_step (by repeat (first | exact HB.out | apply below_drew | apply pw_below_drewN)) hb); clear HB hb; have HB := HB'; clear HB')))
  go_ret
  exact ⟨rfl, by repeat (first | exact HB.out | apply below_drew | apply pw_below_drewN)⟩

set_option maxHeartbeats 4000000 in
theorem back_rest (n : Nat) (s : ByteArray) (w : World) (ha : n < 2 ^ 64) (hs : strOfNums (digs (plain n)) = s) (hn : isNaN n = false) (hk : key n ≠ 0) :
    Calls Try.prog 8 #[.float .f64 n] w fun e w' => e = .returned (.bool true) ∧ Below w.heap.size w w' := by
  have HA := Lib.hid ha
  have HS := Lib.hid hs
  have hz : s.size = 16 := by rw [← hs, strOfNums_size, digs_length]
  have HP := Lib.hid (show parsed s = some ((plain n : Nat) : Int) by rw [← hs]; exact parsed_digs (plain_lt ha))
  have HO := Lib.hid (show ord n (plain n) = 0 from (plain_ord ha (plain_lt ha)).1 (plain_plain n).symm)
  have HB := Lib.hid (show Below w.heap.size w w from Below.refl _ _)
  have SZ := Lib.hid (show s.size < 1000000 by omega)
  have HP1 := Lib.hid (show parsed (s.extract 1 16) = none by unfold parsed; rw [if_neg (by rw [ByteArray.size_extract]; omega)])
  have qp : (FloatKind.f64.format.order n n == some .eq) = true := eq_same hn
  have q0 : (FloatKind.f64.format.order n 0 != some .eq) = true := by rw [ne_zero hn]; simp [hk]
  have t1 : (s.toList != s.toList) = false := by simp
  have z1 : ((s.size : Int) != 16) = false := by simp [hz]
  have z2 : (1 : Int) ≤ (s.size : Int) := by omega
  clear hs ha hn hk
  go_enter Try.func8, Try.ntmps8
  go_wp2_with (first | (go_at_call_of 18 (Value.string s); refine (parse1_calls _ _ SZ.out).mono ?_; rintro e w' ⟨q1, rfl, rfl⟩; rw [HP.out, Option.getD_some, Option.isSome_some, Int.toNat_natCast]) | (go_at_call 18; refine (parse1_calls _ _ (by rw [ByteArray.size_extract]; have := SZ.out; omega)).mono ?_; rintro e w' ⟨q1, rfl, rfl⟩; rw [HP1.out, Option.getD_none, Option.isSome_none]) | (go_at_call 10; refine (order_calls _ _ _).mono ?_; rintro e w' ⟨rfl, rfl⟩; rw [HO.out]) | (go_at_call_of 12 (Value.float FloatKind.f64 n); refine (text_calls _ _ HA.out).mono ?_; rintro e w' ⟨rfl, hb⟩; rw [HS.out]; (have HB' := Lib.hid (below_step (by repeat (first | exact HB.out | apply below_drew | apply pw_below_drewN)) hb); clear HB hb; have HB := HB'; clear HB')) | (go_at_call 12; refine (text_calls _ _ (plain_lt HA.out)).mono ?_; rintro e w' ⟨rfl, hb⟩; rw [plain_plain, HS.out]; (have HB' := Lib.hid (below_step (by repeat (first | exact HB.out | apply below_drew | apply pw_below_drewN)) hb); clear HB hb; have HB := HB'; clear HB')))
  go_ret
  exact ⟨rfl, by repeat (first | exact HB.out | apply below_drew | apply pw_below_drewN)⟩
theorem back_walk (n : Nat) (w : World) (ha : n < 2 ^ 64) : Calls Try.prog 8 #[.float .f64 n] w fun e w' => e = .returned (.bool true) ∧ Below w.heap.size w w' := by
  cases hn : isNaN n with
  | true => exact back_nan n _ w ha rfl hn
  | false =>
    by_cases hk : key n = 0
    · exact back_zero n _ w ha rfl hn hk
    · exact back_rest n _ w ha rfl hn hk
theorem tells_walk (s : ByteArray) (a b : Nat) (w : World) (ha : a < 2 ^ 64) :
    Calls Try.prog 7 #[.string s, .float .f64 a, .float .f64 b] w fun e w' => e = .returned (.bool true) ∧ Below w.heap.size w w' := by
  rcases Nat.lt_or_ge 100 s.size with h | h
  · cases hn : isNaN ((parsed (s.extract 0 100)).getD 0).toNat with
    | true => exact tells_long_true s a b _ _ w h ha rfl rfl hn
    | false => exact tells_long_false s a b _ _ w h ha rfl rfl hn
  · cases hn : isNaN ((parsed s).getD 0).toNat with
    | true => exact tells_short_true s a b _ _ w h ha rfl rfl hn
    | false => exact tells_short_false s a b _ _ w h ha rfl rfl hn
end Go.Proofs.Ytfgamapnoonklaa.H
