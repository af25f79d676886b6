/- What ReadLen answers: a contract. Condition: the slice holds bytes. -/
import Derived.Test.YtkhghgmonjebnaaBase
namespace Go.Proofs.Ytkhghgmonjebnaa.H
open Go.RowKit Go.Proofs.YtkhghgmonjebnaaW.PrintWords Go.Proofs.YtkhghgmonjebnaaW.PrintLast Go.Proofs.YtkhghgmonjebnaaW.PrintMore
set_option linter.unusedVariables false
set_option linter.unusedSimpArgs false

/-- Bytes as a number, the highest first. -/
def big (l : List Int) : Int := l.foldl (fun n c => n * 256 + c) 0
theorem big_snoc (l : List Int) (c : Int) : big (l ++ [c]) = big l * 256 + c := by simp [big]
theorem big_go (l : List Int) : ∀ n k : Int, okb l = true → 0 ≤ n → n < k → 0 ≤ l.foldl (fun n c => n * 256 + c) n ∧ l.foldl (fun n c => n * 256 + c) n < k * 256 ^ l.length := by
  induction l with
  | nil => intro n k _ h0 h1; simp; omega
  | cons c l ih =>
    intro n k h h0 h1
    have hc := okb_mem h (x := c) (by simp)
    have := ih (n * 256 + c) (k * 256) (okb_sub h fun x hx => by simp [hx]) (by omega) (by omega)
    rw [List.length_cons, Int.pow_succ, Int.mul_comm (256 ^ l.length), ← Int.mul_assoc]
    exact this
theorem big_range {l : List Int} (h : okb l = true) : 0 ≤ big l ∧ big l < 256 ^ l.length := by
  have := big_go l 0 1 h (by omega) (by omega)
  rwa [Int.one_mul] at this
theorem big_small {l : List Int} (h : okb l = true) (hl : l.length ≤ 4) : 0 ≤ big l ∧ big l ≤ 4294967295 := by
  have := big_range h
  rcases (by omega : l.length = 0 ∨ l.length = 1 ∨ l.length = 2 ∨ l.length = 3 ∨ l.length = 4) with e | e | e | e | e <;> rw [e] at this <;> omega
theorem big_three {l : List Int} (h : okb l = true) (hl : l.length ≤ 3) : 0 ≤ big l ∧ big l ≤ 16777215 := by
  have := big_range h
  rcases (by omega : l.length = 0 ∨ l.length = 1 ∨ l.length = 2 ∨ l.length = 3) with e | e | e | e <;> rw [e] at this <;> omega

abbrev three (a b c : Int) : Value := .tuple #[.int .i64 a, .int .i64 b, .int .i64 c]

set_option maxHeartbeats 1000000 in
theorem rl_empty (A : Option Addr) (c : Nat) (w : World) : Calls Try.prog 42 #[.slice A 0 c] w fun e w' => e = .returned (three 0 0 10) ∧ w = w' := by
  go_enter Try.func42, Try.ntmps42
  go_wp2
  go_ret3
  exact ⟨rfl, rfl⟩

set_option maxHeartbeats 1000000 in
theorem rl_short (ad : Addr) (n c : Nat) (x : Int) (w : World) (hn : 0 < n) (hx : w.cell? ad = some (.int .u8 x)) (h0 : 0 ≤ x) (h1 : x < 128) :
    Calls Try.prog 42 #[.slice (some ad) n c] w fun e w' => e = .returned (three x 1 0) ∧ w = w' := by
  have hl : ((n : Int) == 0) = false := by rw [beq_eq_false_iff_ne]; omega
  have hl2 : (0 : Int) < (n : Int) := by omega
  go_enter Try.func42, Try.ntmps42
  go_wp2
  go_ret3
  exact ⟨rfl, rfl⟩

set_option maxHeartbeats 1000000 in
theorem rl_form (ad : Addr) (n c : Nat) (x : Int) (w : World) (hn : 0 < n) (hx : w.cell? ad = some (.int .u8 x)) (h : x = 128 ∨ x = 255) :
    Calls Try.prog 42 #[.slice (some ad) n c] w fun e w' => e = .returned (three 0 0 11) ∧ w = w' := by
  have hl : ((n : Int) == 0) = false := by rw [beq_eq_false_iff_ne]; omega
  have hl2 : (0 : Int) < (n : Int) := by omega
  rcases h with rfl | rfl
  all_goals
    go_enter Try.func42, Try.ntmps42
    go_wp2
    go_ret3
    exact ⟨rfl, rfl⟩

set_option maxHeartbeats 1000000 in
theorem rl_big (ad : Addr) (n c : Nat) (x : Int) (w : World) (hn : 0 < n) (hx : w.cell? ad = some (.int .u8 x)) (h0 : 132 < x) (h1 : x < 255) :
    Calls Try.prog 42 #[.slice (some ad) n c] w fun e w' => e = .returned (three 0 0 3) ∧ w = w' := by
  have hl : ((n : Int) == 0) = false := by rw [beq_eq_false_iff_ne]; omega
  have hl2 : (0 : Int) < (n : Int) := by omega
  have t1 : (x == 128) = false := by rw [beq_eq_false_iff_ne]; omega
  have t2 : (x == 255) = false := by rw [beq_eq_false_iff_ne]; omega
  go_enter Try.func42, Try.ntmps42
  go_wp2
  go_ret3
  exact ⟨rfl, rfl⟩

set_option maxHeartbeats 1000000 in
theorem rl_end (ad : Addr) (n c : Nat) (x : Int) (w : World) (hn : 0 < n) (hx : w.cell? ad = some (.int .u8 x)) (h0 : 128 < x) (h1 : x ≤ 132) (h2 : (n : Int) ≤ x - 128) :
    Calls Try.prog 42 #[.slice (some ad) n c] w fun e w' => e = .returned (three 0 0 10) ∧ w = w' := by
  have hl : ((n : Int) == 0) = false := by rw [beq_eq_false_iff_ne]; omega
  have hl2 : (0 : Int) < (n : Int) := by omega
  have t1 : (x == 128) = false := by rw [beq_eq_false_iff_ne]; omega
  have t2 : (x == 255) = false := by rw [beq_eq_false_iff_ne]; omega
  go_enter Try.func42, Try.ntmps42
  go_wp2
  go_ret3
  exact ⟨rfl, rfl⟩

set_option maxHeartbeats 2000000 in
theorem rl_read (ad : Addr) (c : Nat) (l y : List Int) (x : Int) (w : World) (HR : Kd.C (Kd.int .u8) w (some ad) l.length l) (hc : l.length ≤ c) (hb : okb y = true) (hx : w.cell? ad = some (.int .u8 x)) (h0 : 128 < x) (h1 : x ≤ 132) (h2 : x - 128 < (l.length : Int)) (hy : y = (l.take (1 + (x - 128)).toNat).drop 1) (hyl : (y.length : Int) = x - 128) :
    Calls Try.prog 42 #[.slice (some ad) l.length c] w fun e w' => e = .returned (if 2147483647 < big y then three 0 0 3 else three (big y) (1 + (x - 128)) 0) ∧ w = w' := by
  have hl : ((l.length : Int) == 0) = false := by rw [beq_eq_false_iff_ne]; omega
  have hl2 : (0 : Int) < (l.length : Int) := by omega
  have t1 : (x == 128) = false := by rw [beq_eq_false_iff_ne]; omega
  have t2 : (x == 255) = false := by rw [beq_eq_false_iff_ne]; omega
  obtain ⟨i5, hi5, _, hsz5, _⟩ := info_parts info5
  obtain ⟨A', hcut, hA, hcA⟩ := print_mid_of (P := Try.prog) (Value.int .u8) 0 24 5 .i64 .i64 Try.underlying24 hi5 hsz5 (some ad) c l 1 (1 + (x - 128)) (by omega) (by omega) (by omega) hc
  have e1 : (1 : Int).toNat = 1 := rfl
  rw [e1, ← hy] at hcut hA hcA
  have HA := Lib.hid (hA _ (Kd.reads_of_C HR))
  have HBY := Lib.hid hb
  have HYL := Lib.hid hyl
  have hy4 : y.length ≤ 4 := by omega
  clear hA hi5 hsz5 HR hb e1 hy
  have hcut : ∀ W : World, (Instr.slice 24 (.slice (some ad) l.length c) (some (.int .i64 1)) (some (.int .i64 (1 + (x - 128)))) none).run Try.prog W = .ok (.slice A' y.length (c - 1)) W := hcut
  go_enter Try.func42, Try.ntmps42
  go_wp2
  clear hcut hx t1 t2
  go_loop [7, 9, 44] (fun n _ i => ∃ k : Nat, k ≤ y.length ∧ i = .int .i64 k ∧ n = .int .i64 (big (y.take k))) (fun _ _ i => y.length - (intOf i).toNat)
  case atStart => exact ⟨0, Nat.zero_le _, rfl, rfl⟩
  case round =>
    obtain ⟨k, hk, rfl, rfl⟩ := hrel
    by_cases hlt : k < y.length
    · obtain ⟨ad2, e2, hcell⟩ := Kd.at_int (Kd.C_of_reads (h1 := fun _ => rfl) HA.out) (k : Int) (by omega) (by omega)
      subst e2
      have hcell : w.cell? (ad2.add k) = some (.int .u8 (rd y k)) := hcell
      obtain ⟨hc0, hc1⟩ := okb_at HBY.out (k : Int)
      obtain ⟨hr0, hr1⟩ := big_three (okb_take HBY.out k) (by rw [List.length_take]; omega)
      have HS := Lib.hid (show big (y.take (k + 1)) = big (y.take k) * 256 + rd y k by rw [take_rd hlt, big_snoc])
      generalize big (y.take k) = R at *
      generalize rd y k = ch at *
      have hor : bits .or .i64 (R * 256) ch = R * 256 + ch := or_add (n := 8) hr0 hc0 (by omega) (by omega)
      go_wp2
      go_round
      case rel => exact ⟨k + 1, by omega, by go_num, by rw [HS.out]⟩
      case measure => simp [intOf]; omega
    · have hkl : k = y.length := by omega
      subst hkl
      rw [List.take_length]
      by_cases hg : 2147483647 < big y
      · go_wp2
        go_ret3
        exact ⟨rfl, rfl⟩
      · go_wp2
        go_ret3
        exact ⟨rfl, rfl⟩
end Go.Proofs.Ytkhghgmonjebnaa.H
