/- The number of sixteen digits: what Parse tells, and the reference's; contracts. -/
import Derived.Test.YtfgamapnoonklaaPRealTellsx1
import Derived.Test.YtfgamapnoonklaaTextEq
namespace Go.Proofs.Ytfgamapnoonklaa.H
open Go.RowKit Go.Proofs.Ytfgamapnoonklaa.PRealTells Go.Proofs.YtfgamapnoonklaaW.PrintWords Go.Proofs.YtfgamapnoonklaaW.PrintLast Go.Proofs.YtfgamapnoonklaaW.PrintMore
open Go.RowKit Key Go.Proofs.YtfgamapnoonklaaW.PrintWords Go.Proofs.YtfgamapnoonklaaW.PrintLast Go.Proofs.YtfgamapnoonklaaW.PrintMore
set_option linter.unusedVariables false
set_option linter.unusedSimpArgs false
/-- A digit's number; -1: it is none. -/
def hx (c : Int) : Int := if 48 ≤ c ∧ c ≤ 57 then c - 48 else if 97 ≤ c ∧ c ≤ 102 then c - 87 else if 65 ≤ c ∧ c ≤ 70 then c - 55 else -1
theorem hx_range (c : Int) : -1 ≤ hx c ∧ hx c ≤ 15 := by unfold hx; repeat' split <;> omega
theorem of_256 {p : Int → Bool} (h : (List.range 256).all (fun n => p n) = true) {x : Int} (h0 : 0 ≤ x) (h1 : x < 256) : p x = true := by
  have := List.all_eq_true.mp h x.toNat (by simp; omega)
  rwa [Int.toNat_of_nonneg h0] at this
theorem digit1 {c : Int} (h0 : 0 ≤ c) (h1 : c < 256) : real_digit.f 5 c = some (if hx c < 0 then 0 else hx c, decide (0 ≤ hx c)) := by
  have := of_256 (p := fun c => decide (real_digit.f 5 c = some (if hx c < 0 then 0 else hx c, decide (0 ≤ hx c)))) (by decide +kernel) h0 h1
  simpa using this
theorem digit2 {c : Int} (h0 : 0 ≤ c) (h1 : c < 256) : peerageref06_digit.f 30 c = some (hx c) := by
  have := of_256 (p := fun c => decide (peerageref06_digit.f 30 c = some (hx c))) (by decide +kernel) h0 h1
  simpa using this
theorem digit1_calls {c : Int} (h0 : 0 ≤ c) (h1 : c < 256) (w : World) : Calls Try.prog 28 #[.int .u8 c] w fun e w' => e = .returned (.tuple #[.int .u64 (if hx c < 0 then 0 else hx c), .bool (decide (0 ≤ hx c))]) ∧ Drawn0 w w' := real_digit.calls 5 c _ _ w (digit1 h0 h1)
theorem digit2_calls {c : Int} (h0 : 0 ≤ c) (h1 : c < 256) (w : World) : Calls Try.prog 30 #[.int .u8 c] w fun e w' => e = .returned (.int .i64 (hx c)) ∧ Drawn0 w w' := peerageref06_digit.calls 30 c _ w (digit2 h0 h1)

/-- The byte at a place. -/
def by_ (s : ByteArray) (i : Nat) : Int := ((s.data.getD i 0).toNat : Int)
theorem by_range (s : ByteArray) (i : Nat) : 0 ≤ by_ s i ∧ by_ s i < 256 := by
  unfold by_
  have := (s.data.getD i 0).toNat_lt
  omega
theorem by_at {s : ByteArray} {i : Nat} (h : i < s.size) : (((s[i]'h).toNat : Nat) : Int) = by_ s i := by
  unfold by_
  have h2 : i < s.data.size := h
  rw [show s.data.getD i 0 = s[i]'h from by unfold Array.getD; rw [dif_pos h2]; rfl]
/-- m digits from place i on, behind v. -/
def par (s : ByteArray) : Nat → Nat → Int → Option Int
  | 0, _, v => some v
  | m + 1, i, v => if hx (by_ s i) < 0 then none else par s m (i + 1) (v * 16 + hx (by_ s i))
def parsed (s : ByteArray) : Option Int := if s.size = 16 then par s 16 0 0 else none

theorem or16 {a d : Int} (a0 : 0 ≤ a) (a1 : a < 16 ^ 15) (d0 : 0 ≤ d) (d1 : d ≤ 15) : bits .or .u64 (IntKind.u64.wrap (a * 16)) d = a * 16 + d := by
  have hw : IntKind.u64.wrap (a * 16) = a * 16 := by rw [IntKind.wrap_u64]; omega
  rw [hw, u64_or (a * 16) d (by omega) (by omega) (by omega) (by omega)]
  obtain ⟨x, rfl⟩ := Int.eq_ofNat_of_zero_le a0
  obtain ⟨y, rfl⟩ := Int.eq_ofNat_of_zero_le d0
  have h := Nat.two_pow_add_eq_or_of_lt (b := y) (i := 4) (by omega) x
  have e1 : ((x : Int) * 16).toNat = 2 ^ 4 * x := by omega
  rw [e1, Int.toNat_natCast, ← h]
  omega
set_option maxHeartbeats 2000000 in
theorem parse1_calls (s : ByteArray) (w : World) (hs : s.size < 1000000) : Calls Try.prog 18 #[.string s] w fun e w' => ∃ q, e = .returned (.tuple #[.float .f64 ((parsed s).getD 0).toNat, .bool (parsed s).isSome]) ∧ w' = w.drewN q := by
  have hfb : ∀ (v : Int) (w : World), 0 ≤ v → (callFunc 29 #[.int .u64 v]).run Try.prog w = .ok (.value (.float .f64 v.toNat)) w := fun v w h => by
    have := run_frombits v.toNat w
    rwa [Int.toNat_of_nonneg h] at this
  by_cases hz : s.size = 16
  · have hsz : ((s.size : Int) != 16) = false := by simp [hz]
    have HP := Lib.hid (show parsed s = par s 16 0 0 by unfold parsed; rw [if_pos hz])
    have HF := Lib.hid hfb
    clear hfb
    go_enter Try.func18, Try.ntmps18
    go_wp2_with fail
    go_loopw [4, 5, 6, 7, 11] (fun b _ _ _ i wr => ∃ (n q : Nat) (v : Int), n ≤ 16 ∧ i = .int .i64 n ∧ b = .int .u64 v ∧ Hid (0 ≤ v ∧ v < 16 ^ n ∧ par s (16 - n) n v = parsed s) ∧ wr = w.drewN q) (fun _ _ _ _ i _ => 16 - (intOf i).toNat)
    case atStart => exact ⟨0, 0, 0, by omega, rfl, rfl, Lib.hid ⟨by omega, by decide, HP.out.symm⟩, rfl⟩
    case round =>
      obtain ⟨n, q, v, hn, rfl, rfl, HV, rfl⟩ := hrel
      by_cases hlt : n < 16
      · have hns : n < s.size := by omega
        have bb := Lib.hid (by_range s n)
        have B := Lib.hid (by_at hns)
        obtain ⟨m, hm⟩ : ∃ m, 16 - n = m + 1 := ⟨15 - n, by omega⟩
        have HW := Lib.hid (show (if hx (by_ s n) < 0 then none else par s m (n + 1) (v * 16 + hx (by_ s n))) = parsed s by have h := HV.out.2.2; rw [hm] at h; exact h)
        have hr := hx_range (by_ s n)
        have HM := Lib.hid (show 16 - (n + 1) = m by omega)
        clear hm
        by_cases hd : 0 ≤ hx (by_ s n)
        · have hd1 : decide (0 ≤ hx (by_ s n)) = true := by simp [hd]
          have hd2 := Lib.hid (show (if hx (by_ s n) < 0 then 0 else hx (by_ s n)) = hx (by_ s n) by rw [if_neg (by omega)])
          clear hd
          clear hr
          go_wp2_with (go_at_call 28; rw [B.out]; refine (digit1_calls bb.out.1 bb.out.2 _).mono ?_; rintro e w' ⟨rfl, ⟨k, rfl⟩⟩; rw [hd1, hd2.out])
          go_roundw
          case rel =>
            have hd0 : 0 ≤ hx (by_ s n) := of_decide_eq_true hd1
            have hr := hx_range (by_ s n)
            have hv := HV.out.2.1
            have hp16 : (16 : Int) ^ n ≤ 16 ^ 15 := by exact_mod_cast Nat.pow_le_pow_right (by omega) (by omega : n ≤ 15)
            have e := or16 HV.out.1 (Int.lt_of_lt_of_le hv hp16) hd0 hr.2
            refine ⟨n + 1, q + k, v * 16 + hx (by_ s n), by omega, by go_num, by rw [e], Lib.hid ⟨by have := HV.out.1; omega, by rw [Int.pow_succ]; omega, ?_⟩, rfl⟩
            rw [← HW.out, if_neg (by omega)]
            congr 1
          case measure => simp [intOf]; omega
        · have hd1 : decide (0 ≤ hx (by_ s n)) = false := by simp; omega
          have hp : parsed s = none := by rw [← HW.out, if_pos (by omega)]
          clear hr
          go_wp2_with (go_at_call 28; rw [B.out]; refine (digit1_calls bb.out.1 bb.out.2 _).mono ?_; rintro e w' ⟨rfl, ⟨k, rfl⟩⟩; rw [hd1])
          exact bodyPost_ret (v := .tuple #[.float .f64 0, .bool false]) (by simp [results, Try.results18, go_sem]) rfl ⟨_, by rw [hp]; rfl, rfl⟩
      · have hn16 : n = 16 := by omega
        subst hn16
        have hp : parsed s = some v := by rw [← HV.out.2.2]; rfl
        have hf := HF.out v (w.drewN q) HV.out.1
        go_wp2
        exact bodyPost_ret (v := .tuple #[.float .f64 v.toNat, .bool true]) (by simp [results, Try.results18, go_sem]) rfl ⟨q, by rw [hp]; rfl, rfl⟩
  · have hsz : ((s.size : Int) != 16) = true := by simp [bne]; omega
    have hp : parsed s = none := by unfold parsed; rw [if_neg hz]
    clear hfb
    go_enter Try.func18, Try.ntmps18
    go_wp2_with fail
    exact bodyPost_ret (v := .tuple #[.float .f64 0, .bool false]) (by simp [results, Try.results18, go_sem]) rfl ⟨0, by rw [hp]; rfl, rfl⟩
set_option maxHeartbeats 2000000 in
theorem parse2_calls (s : ByteArray) (w : World) (hs : s.size < 1000000) : Calls Try.prog 19 #[.string s] w fun e w' => ∃ q, e = .returned (.tuple #[.float .f64 ((parsed s).getD 0).toNat, .bool (parsed s).isSome]) ∧ w' = w.drewN q := by
  have hfb : ∀ (v : Int) (w : World), 0 ≤ v → (callFunc 29 #[.int .u64 v]).run Try.prog w = .ok (.value (.float .f64 v.toNat)) w := fun v w h => by
    have := run_frombits v.toNat w
    rwa [Int.toNat_of_nonneg h] at this
  by_cases hz : s.size = 16
  · have hsz : ((s.size : Int) != 16) = false := by simp [hz]
    have HP := Lib.hid (show parsed s = par s 16 0 0 by unfold parsed; rw [if_pos hz])
    have HF := Lib.hid hfb
    clear hfb
    go_enter Try.func19, Try.ntmps19
    go_wp2_with fail
    go_loopw [4, 5, 6] (fun b i _ wr => ∃ (n q : Nat) (v : Int), n ≤ 16 ∧ i = .int .i64 n ∧ b = .int .u64 v ∧ Hid (0 ≤ v ∧ v < 16 ^ n ∧ par s (16 - n) n v = parsed s) ∧ wr = w.drewN q) (fun _ i _ _ => 16 - (intOf i).toNat)
    case atStart => exact ⟨0, 0, 0, by omega, rfl, rfl, Lib.hid ⟨by omega, by decide, HP.out.symm⟩, rfl⟩
    case round =>
      obtain ⟨n, q, v, hn, rfl, rfl, HV, rfl⟩ := hrel
      by_cases hlt : n < 16
      · have hns : n < s.size := by omega
        have bb := Lib.hid (by_range s n)
        have B := Lib.hid (by_at hns)
        obtain ⟨m, hm⟩ : ∃ m, 16 - n = m + 1 := ⟨15 - n, by omega⟩
        have HW := Lib.hid (show (if hx (by_ s n) < 0 then none else par s m (n + 1) (v * 16 + hx (by_ s n))) = parsed s by have h := HV.out.2.2; rw [hm] at h; exact h)
        have hr := hx_range (by_ s n)
        have HM := Lib.hid (show 16 - (n + 1) = m by omega)
        clear hm
        by_cases hd : 0 ≤ hx (by_ s n)
        · have hd1 : decide (hx (by_ s n) < 0) = false := by simp; omega
          have hd2 := Lib.hid (show (if hx (by_ s n) < 0 then 0 else hx (by_ s n)) = hx (by_ s n) by rw [if_neg (by omega)])
          clear hd
          clear hr
          go_wp2_with (go_at_call 30; rw [B.out]; refine (digit2_calls bb.out.1 bb.out.2 _).mono ?_; rintro e w' ⟨rfl, ⟨k, rfl⟩⟩; skip)
          go_roundw
          case rel =>
            have hd0 : 0 ≤ hx (by_ s n) := by have := of_decide_eq_false hd1; omega
            have hr := hx_range (by_ s n)
            have hv := HV.out.2.1
            have hp16 : (16 : Int) ^ n ≤ 16 ^ 15 := by exact_mod_cast Nat.pow_le_pow_right (by omega) (by omega : n ≤ 15)
            have hv0 := HV.out.1
            refine ⟨n + 1, q + k, v * 16 + hx (by_ s n), by omega, by go_num, by simp only [IntKind.wrap_u64]; congr 1; omega, Lib.hid ⟨by have := HV.out.1; omega, by rw [Int.pow_succ]; omega, ?_⟩, rfl⟩
            rw [← HW.out, if_neg (by omega)]
            congr 1
          case measure => simp [intOf]; omega
        · have hd1 : decide (hx (by_ s n) < 0) = true := by simp; omega
          have hp : parsed s = none := by rw [← HW.out, if_pos (by omega)]
          clear hr
          go_wp2_with (go_at_call 30; rw [B.out]; refine (digit2_calls bb.out.1 bb.out.2 _).mono ?_; rintro e w' ⟨rfl, ⟨k, rfl⟩⟩)
          exact bodyPost_ret (v := .tuple #[.float .f64 0, .bool false]) (by simp [results, Try.results19, go_sem]) rfl ⟨_, by rw [hp]; rfl, rfl⟩
      · have hn16 : n = 16 := by omega
        subst hn16
        have hp : parsed s = some v := by rw [← HV.out.2.2]; rfl
        have hf := HF.out v (w.drewN q) HV.out.1
        go_wp2
        exact bodyPost_ret (v := .tuple #[.float .f64 v.toNat, .bool true]) (by simp [results, Try.results19, go_sem]) rfl ⟨q, by rw [hp]; rfl, rfl⟩
  · have hsz : ((s.size : Int) != 16) = true := by simp [bne]; omega
    have hp : parsed s = none := by unfold parsed; rw [if_neg hz]
    clear hfb
    go_enter Try.func19, Try.ntmps19
    go_wp2_with fail
    exact bodyPost_ret (v := .tuple #[.float .f64 0, .bool false]) (by simp [results, Try.results19, go_sem]) rfl ⟨0, by rw [hp]; rfl, rfl⟩

theorem strOfNums_app (xs ys : List Int) : strOfNums xs ++ strOfNums ys = strOfNums (xs ++ ys) := by
  apply ByteArray.ext
  apply Array.ext'
  rw [ByteArray.data_append, Array.toList_append]
  simp only [strOfNums, List.map_append]
theorem hex_cut {d : Nat} (h : d < 16) : (⟨#[48, 49, 50, 51, 52, 53, 54, 55, 56, 57, 97, 98, 99, 100, 101, 102]⟩ : ByteArray).extract d (d + 1) = strOfNums [hexd (d : Int)] := by
  rcases (by omega : d = 0 ∨ d = 1 ∨ d = 2 ∨ d = 3 ∨ d = 4 ∨ d = 5 ∨ d = 6 ∨ d = 7 ∨ d = 8 ∨ d = 9 ∨ d = 10 ∨ d = 11 ∨ d = 12 ∨ d = 13 ∨ d = 14 ∨ d = 15) with rfl | rfl | rfl | rfl | rfl | rfl | rfl | rfl | rfl | rfl | rfl | rfl | rfl | rfl | rfl | rfl <;> decide +kernel
set_option maxHeartbeats 1000000 in
theorem bits_calls (x : Nat) (w : World) : Calls Try.prog 15 #[.float .f64 x] w fun e w' => e = .returned (.int .u64 (plain x : Nat)) ∧ w = w' := by
  have hb1 : ∀ (n : Nat) (w : World), (callFunc 27 #[.float .f64 n]).run Try.prog w = .ok (.value (.int .u64 (n : Int))) w := run_bits
  cases hn : isNaN x
  · have k0 : key 0 = 0 := by decide
    have q0 : (FloatKind.f64.format.order x x != some .eq) = false := by rw [← hn]; exact order_self x
    have he : (FloatKind.f64.format.order x 0 == some .eq) = decide (key x = 0) := by
      have h := order_eq hn (show isNaN 0 = false by decide)
      rw [k0] at h
      exact h
    by_cases h0 : key x = 0
    · have hp : plain x = 0 := by simp [plain, hn, h0]
      replace he : (FloatKind.f64.format.order x 0 == some .eq) = true := by rw [he]; simpa using h0
      rw [hp]
      clear hp h0
      go_enter Try.func15, Try.ntmps15
      go_wp2_with fail
      go_ret
      exact ⟨rfl, rfl⟩
    · have hp : plain x = x := by simp [plain, hn, h0]
      replace he : (FloatKind.f64.format.order x 0 == some .eq) = false := by rw [he]; simpa using h0
      rw [hp]
      clear hp h0
      go_enter Try.func15, Try.ntmps15
      go_wp2_with fail
      go_ret
      exact ⟨rfl, rfl⟩
  · have hp : plain x = 9221120237041090560 := by simp [plain, hn]
    have q0 : (FloatKind.f64.format.order x x != some .eq) = true := by rw [← hn]; exact order_self x
    rw [hp]
    clear hp
    go_enter Try.func15, Try.ntmps15
    go_wp2_with fail
    go_ret
    exact ⟨rfl, rfl⟩

set_option maxHeartbeats 2000000 in
theorem text2_calls (x : Nat) (w : World) (hx : x < 2 ^ 64) : Calls Try.prog 20 #[.float .f64 x] w fun e w' => e = .returned (.string (strOfNums (digs (plain x)))) ∧ w' = w := by
  have hp : plain x < 2 ^ 64 := by unfold plain; split; decide; split; decide; exact hx
  go_enter Try.func20, Try.ntmps20
  go_wp2_with (go_at_call 15; refine (bits_calls _ _).mono ?_; rintro e w' ⟨rfl, rfl⟩)
  generalize hn : plain x = n at *
  have HN := Lib.hid hn
  clear hn
  go_loopw [4, 5, 6] (fun s i _ wr => ∃ k : Nat, k ≤ 16 ∧ i = .int .i64 k ∧ s = .string (strOfNums ((digs n).take k)) ∧ wr = w) (fun _ i _ _ => 16 - (intOf i).toNat)
  case atStart => exact ⟨0, by omega, rfl, rfl, rfl⟩
  case round =>
    obtain ⟨k, hk, rfl, rfl, rfl⟩ := hrel
    by_cases hlt : k < 16
    · have hm := shifted n k hp hlt
      have hm0 : 0 ≤ bits .and .u64 ((n : Int) / 2 ^ (60 - 4 * k)) 15 := by rw [hm]; omega
      have hm1 : bits .and .u64 ((n : Int) / 2 ^ (60 - 4 * k)) 15 < 16 := by rw [hm]; omega
      have HM := Lib.hid (show hexd ((bits .and .u64 ((n : Int) / 2 ^ (60 - 4 * k)) 15).toNat : Int) = dig n k by rw [hm]; rfl)
      clear hm
      have hs : ¬ (9223372036854775807 < (strOfNums (List.take k (digs n))).size + (min (bits .and .u64 ((n : Int) / 2 ^ (60 - 4 * k)) 15 + 1).toNat 16 - (bits .and .u64 ((n : Int) / 2 ^ (60 - 4 * k)) 15).toNat)) := by
        rw [strOfNums_size, List.length_take]
        omega
      go_wp2
      go_roundw
      case rel =>
        obtain ⟨d, hd⟩ := Int.eq_ofNat_of_zero_le hm0
        have hM := HM.out
        rw [hd] at hm1 hM
        rw [Int.toNat_natCast] at hM
        refine ⟨k + 1, by omega, by go_num, ?_, trivial⟩
        rw [hd, show ((d : Int) + 1).toNat = d + 1 by omega, Int.toNat_natCast, hex_cut (by omega), strOfNums_app, hM, List.take_add_one]
        simp [digs, hlt]
      case measure => simp [intOf]; omega
    · have hkl : k = 16 := by omega
      subst hkl
      have hrow : (digs n).take 16 = digs n := by rw [List.take_of_length_le (by simp [digs_length])]
      rw [hrow]
      clear hrow
      go_wp2
      go_ret
      exact ⟨by have h := HN.out; subst h; rfl, rfl⟩
set_option maxHeartbeats 1000000 in
theorem order2_any (a b : Nat) (w : World) : Calls Try.prog 22 #[.float .f64 a, .float .f64 b] w (Ans (ord a b) w) := by
  have qa : (FloatKind.f64.format.order a a != some .eq) = isNaN a := order_self a
  have qb : (FloatKind.f64.format.order b b != some .eq) = isNaN b := order_self b
  cases ha : isNaN a
  · cases hb : isNaN b
    · have hg : (FloatKind.f64.format.order a b == some .gt) = decide (key b < key a) := order_gt ha hb
      have hl : (FloatKind.f64.format.order a b == some .lt) = decide (key a < key b) := order_lt ha hb
      by_cases h1 : key b < key a
      · have ho : ord a b = 1 := by simp [ord, ha, hb, h1]
        rw [ho]
        replace hg : (FloatKind.f64.format.order a b == some .gt) = true := by rw [hg]; simpa using h1
        replace hl : (FloatKind.f64.format.order a b == some .lt) = false := by rw [hl]; simp; omega
        clear h1 ho
        rw [ha] at qa
        rw [hb] at qb
        go_enter Try.func22, Try.ntmps22
        go_wp2_with fail
        go_ret
        exact ⟨rfl, rfl⟩
      · by_cases h2 : key a < key b
        · have ho : ord a b = -1 := by simp [ord, ha, hb, h1, h2]
          rw [ho]
          replace hg : (FloatKind.f64.format.order a b == some .gt) = false := by rw [hg]; simpa using h1
          replace hl : (FloatKind.f64.format.order a b == some .lt) = true := by rw [hl]; simpa using h2
          clear h1 h2 ho
          rw [ha] at qa
          rw [hb] at qb
          go_enter Try.func22, Try.ntmps22
          go_wp2_with fail
          go_ret
          exact ⟨rfl, rfl⟩
        · have ho : ord a b = 0 := by simp [ord, ha, hb, h1, h2]
          rw [ho]
          replace hg : (FloatKind.f64.format.order a b == some .gt) = false := by rw [hg]; simpa using h1
          replace hl : (FloatKind.f64.format.order a b == some .lt) = false := by rw [hl]; simpa using h2
          clear h1 h2 ho
          rw [ha] at qa
          rw [hb] at qb
          go_enter Try.func22, Try.ntmps22
          go_wp2_with fail
          go_ret
          exact ⟨rfl, rfl⟩
    · have ho : ord a b = -1 := by simp [ord, ha, hb]
      rw [ho]
      clear ho
      rw [ha] at qa
      rw [hb] at qb
      go_enter Try.func22, Try.ntmps22
      go_wp2_with fail
      go_ret
      exact ⟨rfl, rfl⟩
  · cases hb : isNaN b
    · have ho : ord a b = 1 := by simp [ord, ha, hb]
      rw [ho]
      clear ho
      rw [ha] at qa
      rw [hb] at qb
      go_enter Try.func22, Try.ntmps22
      go_wp2_with fail
      go_ret
      exact ⟨rfl, rfl⟩
    · have ho : ord a b = 0 := by simp [ord, ha, hb]
      rw [ho]
      clear ho
      rw [ha] at qa
      rw [hb] at qb
      go_enter Try.func22, Try.ntmps22
      go_wp2_with fail
      go_ret
      exact ⟨rfl, rfl⟩
theorem order2_calls (a b : Nat) (w : World) : Calls Try.prog 22 #[.float .f64 a, .float .f64 b] w fun e w' => e = .returned (.int .i64 (ord a b)) ∧ w = w' := order2_any a b w
end Go.Proofs.Ytfgamapnoonklaa.H
