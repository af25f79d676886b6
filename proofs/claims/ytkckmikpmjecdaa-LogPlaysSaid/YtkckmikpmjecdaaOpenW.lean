/- What Open answers: a contract. Condition: bytes. -/
import Derived.Test.YtkckmikpmjecdaaSealW
import Derived.Laws.Bits128
namespace Go.Proofs.Ytkckmikpmjecdaa.H
open Go.RowKit Go.Proofs.YtkckmikpmjecdaaW.PrintWords Go.Proofs.YtkckmikpmjecdaaW.PrintLast Go.Proofs.YtkckmikpmjecdaaW.PrintMore
set_option linter.unusedVariables false
set_option linter.unusedSimpArgs false
theorem okb_sub {l m : List Int} (h : okb l = true) (k : ∀ x ∈ m, x ∈ l) : okb m = true := by
  unfold okb at *
  rw [List.all_eq_true] at *
  exact fun x hx => h x (k x hx)
theorem okb_take {a : List Int} (h : okb a = true) (n : Nat) : okb (a.take n) = true := okb_sub h fun z hz => List.mem_of_mem_take hz
theorem okb_drop {a : List Int} (h : okb a = true) (n : Nat) : okb (a.drop n) = true := okb_sub h fun z hz => List.mem_of_mem_drop hz
/-- Bytes as a number, the highest first. -/
def big (l : List Int) : Int := l.foldl (fun n c => n * 256 + c) 0
theorem big_snoc (l : List Int) (c : Int) : big (l ++ [c]) = big l * 256 + c := by simp [big]
theorem big_take {l : List Int} (h : okb l = true) : ∀ k, 0 ≤ big (l.take k) ∧ big (l.take k) < 256 ^ k
  | 0 => by simp [big]
  | k + 1 => by
    have ih := big_take h k
    rcases Nat.lt_or_ge k l.length with hk | hk
    · have hc := okb_at h (k : Int)
      rw [take_rd hk, big_snoc, Int.pow_succ]
      omega
    · rw [List.take_of_length_le (by omega)]
      rw [List.take_of_length_le hk] at ih
      rw [Int.pow_succ]
      have : (0 : Int) < 256 ^ k := Int.pow_pos (by omega)
      omega
/-- Bytes as a number, the lowest first. -/
def les : List Int → Int
  | [] => 0
  | c :: l => c + 256 * les l
theorem les_snoc : ∀ (l : List Int) (c : Int), les (l ++ [c]) = les l + c * 2 ^ (8 * l.length)
  | [], c => by simp [les]
  | b :: l, c => by
    have ih := les_snoc l c
    show b + 256 * les (l ++ [c]) = b + 256 * les l + c * 2 ^ (8 * (l.length + 1))
    rw [ih, Nat.mul_add, Int.pow_add, Int.mul_add, ← Int.add_assoc]
    congr 1
    rw [show (2 : Int) ^ (8 * 1) = 256 from rfl]
    ac_rfl
theorem les_range : ∀ l : List Int, okb l = true → 0 ≤ les l ∧ les l < 2 ^ (8 * l.length)
  | [], _ => by simp [les]
  | b :: l, h => by
    simp only [okb, List.all_cons, Bool.and_eq_true, decide_eq_true_eq] at h
    have ih := les_range l (by simp [okb, h.2])
    show 0 ≤ b + 256 * les l ∧ b + 256 * les l < 2 ^ (8 * (l.length + 1))
    rw [Nat.mul_add, Int.pow_add, show (2 : Int) ^ (8 * 1) = 256 from rfl]
    omega
theorem les_take {l : List Int} {k : Nat} (hk : k < l.length) : les (l.take (k + 1)) = les (l.take k) + rd l k * 2 ^ (8 * k) := by
  rw [take_rd hk, les_snoc, List.length_take, Nat.min_eq_left (by omega)]
def opened (l : List Int) : List Int × Int × Int :=
  if l.length < 4 then ([], 0, 10) else if 65536 < big (l.take 4) then ([], 0, 3) else if (l.length : Int) < big (l.take 4) + 8 then ([], 0, 10) else
  if les ((l.take (8 + (big (l.take 4)).toNat)).drop (4 + (big (l.take 4)).toNat)) ≠ more 0 (l.take (4 + (big (l.take 4)).toNat)) then ([], 0, 12) else ((l.take (4 + (big (l.take 4)).toNat)).drop 4, 8 + big (l.take 4), 0)
theorem or_add {a b : Int} {n : Nat} (ha : 0 ≤ a) (hb : 0 ≤ b) (hb2 : b < 2 ^ n) (h : a * 2 ^ n + b < 9223372036854775808) : bits .or .i64 (a * 2 ^ n) b = a * 2 ^ n + b := by
  obtain ⟨x, rfl⟩ := Int.eq_ofNat_of_zero_le ha
  obtain ⟨y, rfl⟩ := Int.eq_ofNat_of_zero_le hb
  have hy : y < 2 ^ n := Int.ofNat_lt.1 (by rw [Int.natCast_pow]; exact hb2)
  have e : ((x : Int) * 2 ^ n) = ((x * 2 ^ n : Nat) : Int) := by rw [Int.natCast_mul, Int.natCast_pow]; rfl
  rw [e] at h ⊢
  have h1 : x * 2 ^ n + y < 9223372036854775808 := by omega
  show IntKind.i64.wrap ((BitVec.ofInt 64 ((x * 2 ^ n : Nat) : Int) ||| BitVec.ofInt 64 (y : Int)).toNat : Int) = _
  rw [BitVec.ofInt_natCast, BitVec.ofInt_natCast, BitVec.toNat_or, BitVec.toNat_ofNat, BitVec.toNat_ofNat, Nat.mod_eq_of_lt (by omega), Nat.mod_eq_of_lt (by omega)]
  rw [← Nat.shiftLeft_eq, ← Nat.shiftLeft_add_eq_or_of_lt hy, Nat.shiftLeft_eq]
  rw [IntKind.wrap_i64]
  omega
theorem i64_orb {a c : Int} (a0 : 0 ≤ a) (a1 : a < 16777216) (c0 : 0 ≤ c) (c1 : c ≤ 255) : bits .or .i64 (a * 256) c = a * 256 + c := or_add (n := 8) a0 c0 (by omega) (by omega)
theorem u32_orb {s y : Int} (k : Nat) (hk : k < 4) (s0 : 0 ≤ s) (s1 : s < 2 ^ (8 * k)) (y0 : 0 ≤ y) (y1 : y ≤ 255) : bits .or .u32 s (IntKind.u32.wrap (y * 2 ^ (8 * k))) = s + y * 2 ^ (8 * k) := by
  obtain ⟨x, rfl⟩ := Int.eq_ofNat_of_zero_le s0
  obtain ⟨z, rfl⟩ := Int.eq_ofNat_of_zero_le y0
  rcases (by omega : k = 0 ∨ k = 1 ∨ k = 2 ∨ k = 3) with rfl | rfl | rfl | rfl
  · have h := Nat.two_pow_add_eq_or_of_lt (b := x) (i := 0) (by omega) z
    rw [IntKind.wrap_u32', show (z : Int) * 2 ^ (8 * 0) % 4294967296 = (z : Int) by omega, u32_or_nat _ _ (by omega) (by omega), Nat.or_comm]
    simp at h
    omega
  · have h := Nat.two_pow_add_eq_or_of_lt (b := x) (i := 8) (by omega) z
    rw [IntKind.wrap_u32', show (z : Int) * 2 ^ (8 * 1) % 4294967296 = ((2 ^ 8 * z : Nat) : Int) by omega, u32_or_nat _ _ (by omega) (by omega), Nat.or_comm, ← h]
    omega
  · have h := Nat.two_pow_add_eq_or_of_lt (b := x) (i := 16) (by omega) z
    rw [IntKind.wrap_u32', show (z : Int) * 2 ^ (8 * 2) % 4294967296 = ((2 ^ 16 * z : Nat) : Int) by omega, u32_or_nat _ _ (by omega) (by omega), Nat.or_comm, ← h]
    omega
  · have h := Nat.two_pow_add_eq_or_of_lt (b := x) (i := 24) (by omega) z
    rw [IntKind.wrap_u32', show (z : Int) * 2 ^ (8 * 3) % 4294967296 = ((2 ^ 24 * z : Nat) : Int) by omega, u32_or_nat _ _ (by omega) (by omega), Nat.or_comm, ← h]
    omega
abbrev OpenPost (w : World) (l : List Int) : Ending → World → Prop := fun e w' => ∃ v, e = .returned (.tuple #[v, .int .i64 (opened l).2.1, .int .i64 (opened l).2.2]) ∧ Kd.R (Kd.int .u8) 5 w' w.heap.size (fun _ => True) v (opened l).1 ∧ Below w.heap.size w w'
theorem open_short (A : Option Addr) (c : Nat) (l : List Int) (w : World) (hl : l.length < 4) : Calls Try.prog 44 #[.slice A l.length c] w (OpenPost w l) := by
  have ho : opened l = ([], 0, 10) := by unfold opened; rw [if_pos hl]
  have t1 : decide ((l.length : Int) < 4) = true := by simp; omega
  unfold OpenPost
  rw [ho]
  go_enter Try.func44, Try.ntmps44
  go_wp2
  exact bodyPost_ret (v := .tuple #[.slice none 0 0, .int .i64 0, .int .i64 10]) (by simp [results, Try.results44, go_sem]) rfl ⟨_, rfl, Kd.R_nil _ _ _ _ _, Below.refl _ _⟩

set_option maxHeartbeats 4000000 in
theorem open_long (A : Option Addr) (c : Nat) (l : List Int) (w : World) (hr : Kd.C (Kd.int .u8) w A l.length l) (hc : l.length ≤ c) (hb : okb l = true) (hm : l.length ≤ 1000000000) (hl : 4 ≤ l.length) : Calls Try.prog 44 #[.slice A l.length c] w (OpenPost w l) := by
  have HR := Lib.hid hr
  have HL := Lib.hid hb
  have t1 : decide ((l.length : Int) < 4) = false := by simp; omega
  have t2 : (4 : Int) ≤ (c : Int) := by omega
  have HD := Lib.hid (show opened l = _ by unfold opened; rw [if_neg (by omega)])
  obtain ⟨b0, b4⟩ := big_take hb 4
  have B := Lib.hid (And.intro b0 b4)
  clear hr hb b0 b4
  go_enter Try.func44, Try.ntmps44
  go_wp2
  go_loop [5, 7, 18] (fun n _ i => ∃ k : Nat, k ≤ 4 ∧ i = .int .i64 k ∧ n = .int .i64 (big (l.take k))) (fun _ _ i => 4 - (intOf i).toNat)
  case atStart => exact ⟨0, Nat.zero_le _, rfl, rfl⟩
  case round =>
    obtain ⟨k, hk, rfl, rfl⟩ := hrel
    by_cases hlt : k < 4
    · obtain ⟨ad2, e2, hcell⟩ := Kd.at_int HR.out (k : Int) (by omega) (by omega)
      subst e2
      have hcell : w.cell? (ad2.add k) = some (.int .u8 (rd l k)) := hcell
      obtain ⟨hc0, hc1⟩ := okb_at HL.out (k : Int)
      obtain ⟨hr0, hr1⟩ := big_take HL.out k
      have hp : (256 : Int) ^ k ≤ 256 ^ 3 := by rcases (by omega : k = 0 ∨ k = 1 ∨ k = 2 ∨ k = 3) with h | h | h | h <;> rw [h] <;> decide
      have hr2 : big (l.take k) < 16777216 := Int.lt_of_lt_of_le hr1 hp
      clear hr1 hp
      have HS := Lib.hid (show big (l.take (k + 1)) = big (l.take k) * 256 + rd l k by rw [take_rd (by omega), big_snoc])
      generalize big (l.take k) = R at *
      generalize rd l k = ch at *
      have hor : bits .or .i64 (R * 256) ch = R * 256 + ch := i64_orb hr0 hr2 hc0 hc1
      go_wp2
      go_round
      case rel => exact ⟨k + 1, by omega, by go_num, by rw [HS.out]⟩
      case measure => simp [intOf]; omega
    · obtain rfl : k = 4 := by omega
      clear hlt hk
      obtain ⟨N, hN⟩ : ∃ N : Nat, big (l.take 4) = (N : Int) := ⟨(big (l.take 4)).toNat, by have := B.out.1; omega⟩
      rw [hN] at HD B ⊢
      by_cases h1 : 65536 < (N : Int)
      · have HO := Lib.hid (show opened l = ([], 0, 3) by rw [HD.out, if_pos h1])
        have d1 : decide ((65536 : Int) < (N : Int)) = true := by simp; omega
        go_wp2
        exact bodyPost_ret (v := .tuple #[.slice none 0 0, .int .i64 0, .int .i64 3]) (by simp [results, Try.results44, go_sem]) rfl ⟨_, by rw [HO.out], by rw [HO.out]; exact Kd.R_nil _ _ _ _ _, Below.refl _ _⟩
      · have d1 : decide ((65536 : Int) < (N : Int)) = false := by simp; omega
        by_cases h2 : (l.length : Int) < (N : Int) + 8
        · have HO := Lib.hid (show opened l = ([], 0, 10) by rw [HD.out, if_neg h1, if_pos h2])
          have d2 : decide ((l.length : Int) < 4 + (N : Int) + 4) = true := by simp; omega
          go_wp2
          exact bodyPost_ret (v := .tuple #[.slice none 0 0, .int .i64 0, .int .i64 10]) (by simp [results, Try.results44, go_sem]) rfl ⟨_, by rw [HO.out], by rw [HO.out]; exact Kd.R_nil _ _ _ _ _, Below.refl _ _⟩
        · have d2 : decide ((l.length : Int) < 4 + (N : Int) + 4) = false := by simp; omega
          have HD2 := Lib.hid (show opened l = _ by rw [HD.out, if_neg h1, if_neg h2, Int.toNat_natCast])
          clear HD
          obtain ⟨i5, hi5, _, hsz5, _⟩ := info_parts info5
          obtain ⟨A1, hcut1, hA1, hcA1⟩ := print_mid_of (P := Try.prog) (Value.int .u8) 0 22 5 .i64 .i64 Try.underlying22 hi5 hsz5 A c l (4 + (N : Int)) (4 + (N : Int) + 4) (by omega) (by omega) (by omega) hc
          obtain ⟨A2, hcut2, hA2, hcA2⟩ := print_mid_of (P := Try.prog) (Value.int .u8) 0 22 5 .i64 .i64 Try.underlying22 hi5 hsz5 A c l 4 (4 + (N : Int)) (by omega) (by omega) (by omega) hc
          have e1 : (4 + (N : Int) + 4).toNat = 8 + N := by omega
          have e2 : (4 + (N : Int)).toNat = 4 + N := by omega
          have e3 : (4 : Int).toNat = 4 := rfl
          rw [e1, e2] at hcut1 hA1 hcA1
          rw [e3, e2] at hcut2 hA2 hcA2
          have hy1 : ((l.take (8 + N)).drop (4 + N)).length = 4 := by rw [List.length_drop, List.length_take]; omega
          have K1 := Lib.hid (hA1 _ (Kd.reads_of_C HR.out))
          have K2 := Lib.hid (hA2 _ (Kd.reads_of_C HR.out))
          have Y1 := Lib.hid (okb_drop (okb_take HL.out (8 + N)) (4 + N))
          rw [hy1] at hcut1 K1
          have HC2 := Lib.hid hcA2
          have hs1 : ∀ W : World, (Instr.slice 22 (.slice A l.length c) (some (.int .i64 (4 + (N : Int)))) (some (.int .i64 (4 + (N : Int) + 4))) none).run Try.prog W = .ok (.slice A1 4 (c - (4 + N))) W := hcut1
          have hs2 : ∀ W : World, (Instr.slice 22 (.slice A l.length c) (some (.int .i64 4)) (some (.int .i64 (4 + (N : Int)))) none).run Try.prog W = .ok (.slice A2 ((l.take (4 + N)).drop 4).length (c - 4)) W := hcut2
          clear hcut1 hcut2 hA1 hA2 hcA1 hcA2 hi5 hsz5 e1 e2 e3
          generalize hy : (l.take (8 + N)).drop (4 + N) = y at *
          clear hy
          have HY := Lib.hid hy1
          clear hy1
          go_wp2
          clear hs1
          go_loop [9, 10, 11, 45] (fun s _ _ i => ∃ k : Nat, k ≤ 4 ∧ i = .int .i64 k ∧ s = .int .u32 (les (y.take k))) (fun _ _ _ i => 4 - (intOf i).toNat)
          case atStart => exact ⟨0, Nat.zero_le _, rfl, by simp [les]⟩
          case round =>
            obtain ⟨k, hk, rfl, rfl⟩ := hrel
            by_cases hlt : k < 4
            · obtain ⟨ad2, e2, hcell⟩ := Kd.at_int (Kd.C_of_reads (d := (0 : Int)) (h1 := fun _ => rfl) K1.out) (k : Int) (by omega) (by omega)
              subst e2
              have hcell : w.cell? (ad2.add k) = some (.int .u8 (rd y k)) := hcell
              obtain ⟨hc0, hc1⟩ := okb_at Y1.out (k : Int)
              obtain ⟨hr0, hr1⟩ := les_range (y.take k) (okb_take Y1.out k)
              rw [List.length_take, HY.out, Nat.min_eq_left (by omega)] at hr1
              have HS := Lib.hid (show les (y.take (k + 1)) = les (y.take k) + rd y k * 2 ^ (8 * k) from les_take (by have := HY.out; omega))
              have HO1 := Lib.hid (u32_orb k hlt hr0 hr1 hc0 hc1)
              have hr3 : les (y.take k) < 4294967296 := Int.lt_of_lt_of_le hr1 (by rcases (by omega : k = 0 ∨ k = 1 ∨ k = 2 ∨ k = 3) with h | h | h | h <;> rw [h] <;> decide)
              clear hr1
              generalize les (y.take k) = R at *
              generalize rd y k = ch at *
              go_wp2
              go_round
              case rel => exact ⟨k + 1, by omega, by go_num, by rw [HS.out, ← HO1.out, IntKind.wrap_u32']⟩
              case measure => simp [intOf]; omega
            · obtain rfl : k = 4 := by omega
              rw [show y.take 4 = y by rw [List.take_of_length_le]; have := HY.out; omega]
              generalize les y = S at *
              have hcl : 4 + N ≤ l.length := by omega
              have HT := Lib.hid (Kd.C_take (m := 4 + N) HR.out hcl)
              have HTB := Lib.hid (okb_take HL.out (4 + N))
              have hlt2 : (l.take (4 + N)).length = 4 + N := by rw [List.length_take]; omega
              have HLT := Lib.hid hlt2
              clear hlt2
              by_cases hs : S = more 0 (l.take (4 + N))
              · have q1 : (S != more 0 (l.take (4 + N))) = false := by rw [hs]; simp
                have HO := Lib.hid (show opened l = ((l.take (4 + N)).drop 4, 8 + (N : Int), 0) by rw [HD2.out, if_neg (by omega)])
                go_wp2_with (first | (go_at_call 43; refine cast_len (n' := (l.take (4 + N)).length) (by have := HLT.out; omega) ?_; refine (sum_calls A c (l.take (4 + N)) _ HT.out (by have := HLT.out; omega) HTB.out).mono ?_; rintro e w62 ⟨rfl, hb⟩; have Hv62 := Lib.hid hb; clear hb) | (go_at_call 48; refine cast_len (n' := ((l.take (4 + N)).drop 4).length) (by rw [List.length_drop, List.length_take]; omega) ?_; refine (clone_calls A2 (c - 4) ((l.take (4 + N)).drop 4) _ (Kd.C_below (Kd.C_of_reads (d := (0 : Int)) (h1 := fun _ => rfl) K2.out) Hv62.out) HC2.out (by rw [List.length_drop, HLT.out]; omega)).mono ?_; rintro e w67 ⟨v67, rfl, ho, hb⟩; have Pv67 := Lib.hid ho; have Hv67 := Lib.hid (below_step Hv62.out hb); clear ho hb))
                exact bodyPost_ret (v := .tuple #[v67, .int .i64 (4 + (N : Int) + 4), .int .i64 0]) (by simp [results, Try.results44, go_sem]) rfl ⟨v67, by rw [HO.out, show (4 + (N : Int) + 4) = 8 + (N : Int) by omega], by rw [HO.out]; exact Kd.R_lower Pv67.out Hv62.out.size, Hv67.out⟩
              · have q1 : (S != more 0 (l.take (4 + N))) = true := by simp [bne, hs]
                have HO := Lib.hid (show opened l = ([], 0, 12) by rw [HD2.out, if_pos hs])
                go_wp2_with (go_at_call 43; refine cast_len (n' := (l.take (4 + N)).length) (by have := HLT.out; omega) ?_; refine (sum_calls A c (l.take (4 + N)) _ HT.out (by have := HLT.out; omega) HTB.out).mono ?_; rintro e w62 ⟨rfl, hb⟩; have Hv62 := Lib.hid hb; clear hb)
                exact bodyPost_ret (v := .tuple #[.slice none 0 0, .int .i64 0, .int .i64 12]) (by simp [results, Try.results44, go_sem]) rfl ⟨_, by rw [HO.out], by rw [HO.out]; exact Kd.R_nil _ _ _ _ _, Hv62.out⟩
theorem open_calls (A : Option Addr) (c : Nat) (l : List Int) (w : World) (hr : Kd.C (Kd.int .u8) w A l.length l) (hc : l.length ≤ c) (hb : okb l = true) (hm : l.length ≤ 1000000000) : Calls Try.prog 44 #[.slice A l.length c] w (OpenPost w l) := by
  rcases Nat.lt_or_ge l.length 4 with h | h
  · exact open_short A c l w h
  · exact open_long A c l w hr hc hb hm h
end Go.Proofs.Ytkckmikpmjecdaa.H
