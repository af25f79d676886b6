/- RealRates returns true, whatever three integers: the walk. -/
import Derived.Test.YtfgamapnoonklaaRate
namespace Go.Proofs.Ytfgamapnoonklaa.H
open Go.RowKit Key
set_option linter.unusedVariables false
set_option linter.unusedSimpArgs false

theorem rate_pos (n k : Int) (w : World) (hn : -9223372036854775808 ≤ n) (hn2 : n ≤ 9223372036854775807) (hk : 0 < k) (hk2 : k ≤ 9223372036854775807) :
    Calls Try.prog 9 #[.int .i64 n, .int .i64 k] w fun e w' => e = .returned (.float .f64 (rate n k)) ∧ w = w' :=
  rate_some n k _ w (rate_div (by omega) (by omega) hk)

theorem rate_any (n k : Int) (w : World) : Calls Try.prog 9 #[.int .i64 n, .int .i64 k] w fun e w' => ∃ x, e = .returned (.float .f64 x) ∧ Below w.heap.size w w' := by
  cases h : Ieee.double.div (ofInt n) (ofInt k) with
  | some r => exact (rate_some n k r w h).mono fun e w' ⟨he, hw⟩ => ⟨r, he, hw ▸ Below.refl _ _⟩
  | none => exact (rate_none n k w h).mono fun e w' ⟨x, he, _, hw⟩ => ⟨x, he, hw ▸ (Below.refl _ _).drew⟩

theorem ord_rate {n m k : Int} (hk : 0 < k) (h : n ≤ m) : ord (rate n k) (rate m k) ≤ 0 := by
  have := rate_mono hk h
  unfold ord
  rw [rate_num, rate_num]
  simp only [Bool.false_eq_true, if_false]
  split
  · omega
  · split <;> omega
theorem ord_flip {n k : Int} : ord (rate (-n) k) (flip (rate n k)) = 0 := by
  have h1 := rate_neg n k
  have h2 := flip_key (rate_lt n k)
  have h3 := flip_num (rate_lt n k)
  unfold ord
  rw [h3, rate_num, rate_num]
  simp only [Bool.false_eq_true, if_false]
  rw [if_neg (by omega), if_neg (by omega)]

theorem quarter : ∃ r, Ieee.double.div (ofInt 1) (ofInt 4) = some r ∧ (ord r 4598175219545276416 == 0) = true := ⟨4598175219545276416, by decide +kernel, by decide +kernel⟩
theorem div_none : Ieee.double.div (ofInt 0) (ofInt 0) = none := by decide +kernel
theorem inf : ∃ r, Ieee.double.div (ofInt 1) (ofInt 0) = some r ∧ isNaN r = false := ⟨9218868437227405312, by decide +kernel, by decide +kernel⟩
theorem ord_none {x r : Nat} (h : isNaN x = true) (hr : isNaN r = false) : (ord x r == 1) = true := by
  unfold ord; rw [h, hr]; rfl

/-- The end of it: 'Order(Rate(1, 4), 0.25) == 0 && Order(Rate(0, 0), Rate(1, 0)) == 1'. -/
def Good (w : World) (e : Ending) (w' : World) : Prop := e = .returned (.bool true) ∧ Below w.heap.size w w'

set_option maxHeartbeats 2000000 in
theorem rates_pos (n m k : Int) (w : World) (hn : -9223372036854775808 ≤ n) (hn2 : n ≤ 9223372036854775807) (hm : -9223372036854775808 ≤ m) (hm2 : m ≤ 9223372036854775807) (hk : 0 < k) (hk2 : k ≤ 9223372036854775807) (hnm : n ≤ m) (hg : -1000000000 < n) :
    Calls Try.prog 3 #[.int .i64 n, .int .i64 m, .int .i64 k] w (Good w) := by
  have o1 : ord (rate n k) (rate m k) ≤ 0 := ord_rate hk (by omega)
  have o2 : (ord (rate (-n) k) (flip (rate n k)) != 0) = false := by rw [ord_flip]; rfl
  have hneg : ∀ (x : Nat) (w : World), (Op.unary .neg (.float .f64 x)).run Try.prog w = .ok (.float .f64 (flip x)) w := fun _ _ => rfl
  go_enter Try.func3, Try.ntmps3
  go_wp2_with fail
  refine (rate_pos _ _ _ hn hn2 hk hk2).mono ?_; rintro e w' ⟨rfl, rfl⟩
  go_wp2_with fail
  refine (rate_pos _ _ _ hm hm2 hk hk2).mono ?_; rintro e w' ⟨rfl, rfl⟩
  go_wp2_with fail
  refine (order_calls _ _ _).mono ?_; rintro e w' ⟨rfl, rfl⟩
  go_wp2_with fail
  refine (rate_pos _ _ _ (by omega) (by omega) hk hk2).mono ?_; rintro e w' ⟨rfl, rfl⟩
  go_wp2_with fail
  refine (order_calls _ _ _).mono ?_; rintro e w' ⟨rfl, rfl⟩
  obtain ⟨r1, d1, q1⟩ := quarter
  have D1 := Lib.hid d1
  clear d1
  go_wp2_with fail
  refine (rate_some _ _ _ _ D1.out).mono ?_; rintro e w' ⟨rfl, rfl⟩
  go_wp2_with fail
  refine (order_calls _ _ _).mono ?_; rintro e w' ⟨rfl, rfl⟩
  go_wp2_with fail
  refine (rate_none _ _ _ div_none).mono ?_; rintro e w' ⟨x, rfl, hx, rfl⟩
  obtain ⟨r2, d2, n2⟩ := inf
  have q2 := ord_none hx n2
  have D2 := Lib.hid d2
  clear d2
  go_wp2_with fail
  refine (rate_some _ _ _ _ D2.out).mono ?_; rintro e w' ⟨rfl, rfl⟩
  go_wp2_with fail
  refine (order_calls _ _ _).mono ?_; rintro e w' ⟨rfl, rfl⟩
  go_wp2_with fail
  go_ret
  exact ⟨rfl, (Below.refl _ _).drew⟩
set_option maxHeartbeats 2000000 in
theorem rates_posf (n m k : Int) (w : World) (hn : -9223372036854775808 ≤ n) (hn2 : n ≤ 9223372036854775807) (hm : -9223372036854775808 ≤ m) (hm2 : m ≤ 9223372036854775807) (hk : 0 < k) (hk2 : k ≤ 9223372036854775807) (hnm : n ≤ m) (hg : n ≤ -1000000000) :
    Calls Try.prog 3 #[.int .i64 n, .int .i64 m, .int .i64 k] w (Good w) := by
  have o1 : ord (rate n k) (rate m k) ≤ 0 := ord_rate hk (by omega)
  have o2 : (ord (rate (-n) k) (flip (rate n k)) != 0) = false := by rw [ord_flip]; rfl
  have hneg : ∀ (x : Nat) (w : World), (Op.unary .neg (.float .f64 x)).run Try.prog w = .ok (.float .f64 (flip x)) w := fun _ _ => rfl
  go_enter Try.func3, Try.ntmps3
  go_wp2_with fail
  refine (rate_pos _ _ _ hn hn2 hk hk2).mono ?_; rintro e w' ⟨rfl, rfl⟩
  go_wp2_with fail
  refine (rate_pos _ _ _ hm hm2 hk hk2).mono ?_; rintro e w' ⟨rfl, rfl⟩
  go_wp2_with fail
  refine (order_calls _ _ _).mono ?_; rintro e w' ⟨rfl, rfl⟩
  obtain ⟨r1, d1, q1⟩ := quarter
  have D1 := Lib.hid d1
  clear d1
  go_wp2_with fail
  refine (rate_some _ _ _ _ D1.out).mono ?_; rintro e w' ⟨rfl, rfl⟩
  go_wp2_with fail
  refine (order_calls _ _ _).mono ?_; rintro e w' ⟨rfl, rfl⟩
  go_wp2_with fail
  refine (rate_none _ _ _ div_none).mono ?_; rintro e w' ⟨x, rfl, hx, rfl⟩
  obtain ⟨r2, d2, n2⟩ := inf
  have q2 := ord_none hx n2
  have D2 := Lib.hid d2
  clear d2
  go_wp2_with fail
  refine (rate_some _ _ _ _ D2.out).mono ?_; rintro e w' ⟨rfl, rfl⟩
  go_wp2_with fail
  refine (order_calls _ _ _).mono ?_; rintro e w' ⟨rfl, rfl⟩
  go_wp2_with fail
  go_ret
  exact ⟨rfl, (Below.refl _ _).drew⟩
set_option maxHeartbeats 2000000 in
theorem rates_zero (n m k : Int) (w : World) (hn : -9223372036854775808 ≤ n) (hn2 : n ≤ 9223372036854775807) (hm : -9223372036854775808 ≤ m) (hm2 : m ≤ 9223372036854775807) (hk : k = 0) (hnm : n ≤ m) :
    Calls Try.prog 3 #[.int .i64 n, .int .i64 m, .int .i64 k] w (Good w) := by
  subst hk
  go_enter Try.func3, Try.ntmps3
  go_wp2_with fail
  refine (rate_any _ _ _).mono ?_; rintro e w1 ⟨x1, rfl, hb1⟩
  have HB1 := Lib.hid hb1
  clear hb1
  go_wp2_with fail
  refine (rate_any _ _ _).mono ?_; rintro e w2 ⟨x2, rfl, hb2⟩
  have HB2 := Lib.hid (HB1.out.trans (hb2.mono HB1.out.size))
  clear hb2 HB1
  obtain ⟨r1, d1, q1⟩ := quarter
  have D1 := Lib.hid d1
  clear d1
  go_wp2_with fail
  refine (rate_some _ _ _ _ D1.out).mono ?_; rintro e w' ⟨rfl, rfl⟩
  go_wp2_with fail
  refine (order_calls _ _ _).mono ?_; rintro e w' ⟨rfl, rfl⟩
  go_wp2_with fail
  refine (rate_none _ _ _ div_none).mono ?_; rintro e w' ⟨x, rfl, hx, rfl⟩
  obtain ⟨r2, d2, n2⟩ := inf
  have q2 := ord_none hx n2
  have D2 := Lib.hid d2
  clear d2
  go_wp2_with fail
  refine (rate_some _ _ _ _ D2.out).mono ?_; rintro e w' ⟨rfl, rfl⟩
  go_wp2_with fail
  refine (order_calls _ _ _).mono ?_; rintro e w' ⟨rfl, rfl⟩
  go_wp2_with fail
  go_ret
  exact ⟨rfl, HB2.out.drew⟩
set_option maxHeartbeats 2000000 in
theorem rates_zeron (n m k : Int) (w : World) (hn : -9223372036854775808 ≤ n) (hn2 : n ≤ 9223372036854775807) (hm : -9223372036854775808 ≤ m) (hm2 : m ≤ 9223372036854775807) (hk : k < 0) (hnm : n ≤ m) :
    Calls Try.prog 3 #[.int .i64 n, .int .i64 m, .int .i64 k] w (Good w) := by
  go_enter Try.func3, Try.ntmps3
  go_wp2_with fail
  refine (rate_any _ _ _).mono ?_; rintro e w1 ⟨x1, rfl, hb1⟩
  have HB1 := Lib.hid hb1
  clear hb1
  go_wp2_with fail
  refine (rate_any _ _ _).mono ?_; rintro e w2 ⟨x2, rfl, hb2⟩
  have HB2 := Lib.hid (HB1.out.trans (hb2.mono HB1.out.size))
  clear hb2 HB1
  obtain ⟨r1, d1, q1⟩ := quarter
  have D1 := Lib.hid d1
  clear d1
  go_wp2_with fail
  refine (rate_some _ _ _ _ D1.out).mono ?_; rintro e w' ⟨rfl, rfl⟩
  go_wp2_with fail
  refine (order_calls _ _ _).mono ?_; rintro e w' ⟨rfl, rfl⟩
  go_wp2_with fail
  refine (rate_none _ _ _ div_none).mono ?_; rintro e w' ⟨x, rfl, hx, rfl⟩
  obtain ⟨r2, d2, n2⟩ := inf
  have q2 := ord_none hx n2
  have D2 := Lib.hid d2
  clear d2
  go_wp2_with fail
  refine (rate_some _ _ _ _ D2.out).mono ?_; rintro e w' ⟨rfl, rfl⟩
  go_wp2_with fail
  refine (order_calls _ _ _).mono ?_; rintro e w' ⟨rfl, rfl⟩
  go_wp2_with fail
  go_ret
  exact ⟨rfl, HB2.out.drew⟩
set_option maxHeartbeats 2000000 in
theorem rates_poss (n m k : Int) (w : World) (hn : -9223372036854775808 ≤ n) (hn2 : n ≤ 9223372036854775807) (hm : -9223372036854775808 ≤ m) (hm2 : m ≤ 9223372036854775807) (hk : 0 < k) (hk2 : k ≤ 9223372036854775807) (hnm : m < n) (hg : -1000000000 < m) :
    Calls Try.prog 3 #[.int .i64 n, .int .i64 m, .int .i64 k] w (Good w) := by
  have o1 : ord (rate m k) (rate n k) ≤ 0 := ord_rate hk (by omega)
  have o2 : (ord (rate (-m) k) (flip (rate m k)) != 0) = false := by rw [ord_flip]; rfl
  have hneg : ∀ (x : Nat) (w : World), (Op.unary .neg (.float .f64 x)).run Try.prog w = .ok (.float .f64 (flip x)) w := fun _ _ => rfl
  go_enter Try.func3, Try.ntmps3
  go_wp2_with fail
  refine (rate_pos _ _ _ hm hm2 hk hk2).mono ?_; rintro e w' ⟨rfl, rfl⟩
  go_wp2_with fail
  refine (rate_pos _ _ _ hn hn2 hk hk2).mono ?_; rintro e w' ⟨rfl, rfl⟩
  go_wp2_with fail
  refine (order_calls _ _ _).mono ?_; rintro e w' ⟨rfl, rfl⟩
  go_wp2_with fail
  refine (rate_pos _ _ _ (by omega) (by omega) hk hk2).mono ?_; rintro e w' ⟨rfl, rfl⟩
  go_wp2_with fail
  refine (order_calls _ _ _).mono ?_; rintro e w' ⟨rfl, rfl⟩
  obtain ⟨r1, d1, q1⟩ := quarter
  have D1 := Lib.hid d1
  clear d1
  go_wp2_with fail
  refine (rate_some _ _ _ _ D1.out).mono ?_; rintro e w' ⟨rfl, rfl⟩
  go_wp2_with fail
  refine (order_calls _ _ _).mono ?_; rintro e w' ⟨rfl, rfl⟩
  go_wp2_with fail
  refine (rate_none _ _ _ div_none).mono ?_; rintro e w' ⟨x, rfl, hx, rfl⟩
  obtain ⟨r2, d2, n2⟩ := inf
  have q2 := ord_none hx n2
  have D2 := Lib.hid d2
  clear d2
  go_wp2_with fail
  refine (rate_some _ _ _ _ D2.out).mono ?_; rintro e w' ⟨rfl, rfl⟩
  go_wp2_with fail
  refine (order_calls _ _ _).mono ?_; rintro e w' ⟨rfl, rfl⟩
  go_wp2_with fail
  go_ret
  exact ⟨rfl, (Below.refl _ _).drew⟩
set_option maxHeartbeats 2000000 in
theorem rates_possf (n m k : Int) (w : World) (hn : -9223372036854775808 ≤ n) (hn2 : n ≤ 9223372036854775807) (hm : -9223372036854775808 ≤ m) (hm2 : m ≤ 9223372036854775807) (hk : 0 < k) (hk2 : k ≤ 9223372036854775807) (hnm : m < n) (hg : m ≤ -1000000000) :
    Calls Try.prog 3 #[.int .i64 n, .int .i64 m, .int .i64 k] w (Good w) := by
  have o1 : ord (rate m k) (rate n k) ≤ 0 := ord_rate hk (by omega)
  have o2 : (ord (rate (-m) k) (flip (rate m k)) != 0) = false := by rw [ord_flip]; rfl
  have hneg : ∀ (x : Nat) (w : World), (Op.unary .neg (.float .f64 x)).run Try.prog w = .ok (.float .f64 (flip x)) w := fun _ _ => rfl
  go_enter Try.func3, Try.ntmps3
  go_wp2_with fail
  refine (rate_pos _ _ _ hm hm2 hk hk2).mono ?_; rintro e w' ⟨rfl, rfl⟩
  go_wp2_with fail
  refine (rate_pos _ _ _ hn hn2 hk hk2).mono ?_; rintro e w' ⟨rfl, rfl⟩
  go_wp2_with fail
  refine (order_calls _ _ _).mono ?_; rintro e w' ⟨rfl, rfl⟩
  obtain ⟨r1, d1, q1⟩ := quarter
  have D1 := Lib.hid d1
  clear d1
  go_wp2_with fail
  refine (rate_some _ _ _ _ D1.out).mono ?_; rintro e w' ⟨rfl, rfl⟩
  go_wp2_with fail
  refine (order_calls _ _ _).mono ?_; rintro e w' ⟨rfl, rfl⟩
  go_wp2_with fail
  refine (rate_none _ _ _ div_none).mono ?_; rintro e w' ⟨x, rfl, hx, rfl⟩
  obtain ⟨r2, d2, n2⟩ := inf
  have q2 := ord_none hx n2
  have D2 := Lib.hid d2
  clear d2
  go_wp2_with fail
  refine (rate_some _ _ _ _ D2.out).mono ?_; rintro e w' ⟨rfl, rfl⟩
  go_wp2_with fail
  refine (order_calls _ _ _).mono ?_; rintro e w' ⟨rfl, rfl⟩
  go_wp2_with fail
  go_ret
  exact ⟨rfl, (Below.refl _ _).drew⟩
set_option maxHeartbeats 2000000 in
theorem rates_zeros (n m k : Int) (w : World) (hn : -9223372036854775808 ≤ n) (hn2 : n ≤ 9223372036854775807) (hm : -9223372036854775808 ≤ m) (hm2 : m ≤ 9223372036854775807) (hk : k = 0) (hnm : m < n) :
    Calls Try.prog 3 #[.int .i64 n, .int .i64 m, .int .i64 k] w (Good w) := by
  subst hk
  go_enter Try.func3, Try.ntmps3
  go_wp2_with fail
  refine (rate_any _ _ _).mono ?_; rintro e w1 ⟨x1, rfl, hb1⟩
  have HB1 := Lib.hid hb1
  clear hb1
  go_wp2_with fail
  refine (rate_any _ _ _).mono ?_; rintro e w2 ⟨x2, rfl, hb2⟩
  have HB2 := Lib.hid (HB1.out.trans (hb2.mono HB1.out.size))
  clear hb2 HB1
  obtain ⟨r1, d1, q1⟩ := quarter
  have D1 := Lib.hid d1
  clear d1
  go_wp2_with fail
  refine (rate_some _ _ _ _ D1.out).mono ?_; rintro e w' ⟨rfl, rfl⟩
  go_wp2_with fail
  refine (order_calls _ _ _).mono ?_; rintro e w' ⟨rfl, rfl⟩
  go_wp2_with fail
  refine (rate_none _ _ _ div_none).mono ?_; rintro e w' ⟨x, rfl, hx, rfl⟩
  obtain ⟨r2, d2, n2⟩ := inf
  have q2 := ord_none hx n2
  have D2 := Lib.hid d2
  clear d2
  go_wp2_with fail
  refine (rate_some _ _ _ _ D2.out).mono ?_; rintro e w' ⟨rfl, rfl⟩
  go_wp2_with fail
  refine (order_calls _ _ _).mono ?_; rintro e w' ⟨rfl, rfl⟩
  go_wp2_with fail
  go_ret
  exact ⟨rfl, HB2.out.drew⟩
set_option maxHeartbeats 2000000 in
theorem rates_zerosn (n m k : Int) (w : World) (hn : -9223372036854775808 ≤ n) (hn2 : n ≤ 9223372036854775807) (hm : -9223372036854775808 ≤ m) (hm2 : m ≤ 9223372036854775807) (hk : k < 0) (hnm : m < n) :
    Calls Try.prog 3 #[.int .i64 n, .int .i64 m, .int .i64 k] w (Good w) := by
  go_enter Try.func3, Try.ntmps3
  go_wp2_with fail
  refine (rate_any _ _ _).mono ?_; rintro e w1 ⟨x1, rfl, hb1⟩
  have HB1 := Lib.hid hb1
  clear hb1
  go_wp2_with fail
  refine (rate_any _ _ _).mono ?_; rintro e w2 ⟨x2, rfl, hb2⟩
  have HB2 := Lib.hid (HB1.out.trans (hb2.mono HB1.out.size))
  clear hb2 HB1
  obtain ⟨r1, d1, q1⟩ := quarter
  have D1 := Lib.hid d1
  clear d1
  go_wp2_with fail
  refine (rate_some _ _ _ _ D1.out).mono ?_; rintro e w' ⟨rfl, rfl⟩
  go_wp2_with fail
  refine (order_calls _ _ _).mono ?_; rintro e w' ⟨rfl, rfl⟩
  go_wp2_with fail
  refine (rate_none _ _ _ div_none).mono ?_; rintro e w' ⟨x, rfl, hx, rfl⟩
  obtain ⟨r2, d2, n2⟩ := inf
  have q2 := ord_none hx n2
  have D2 := Lib.hid d2
  clear d2
  go_wp2_with fail
  refine (rate_some _ _ _ _ D2.out).mono ?_; rintro e w' ⟨rfl, rfl⟩
  go_wp2_with fail
  refine (order_calls _ _ _).mono ?_; rintro e w' ⟨rfl, rfl⟩
  go_wp2_with fail
  go_ret
  exact ⟨rfl, HB2.out.drew⟩

theorem rates_walk (n m k : Int) (w : World) (hn : -9223372036854775808 ≤ n) (hn2 : n ≤ 9223372036854775807) (hm : -9223372036854775808 ≤ m) (hm2 : m ≤ 9223372036854775807) (hk1 : -9223372036854775808 ≤ k) (hk2 : k ≤ 9223372036854775807) : Calls Try.prog 3 #[.int .i64 n, .int .i64 m, .int .i64 k] w (Good w) := by
  rcases Int.lt_trichotomy k 0 with hk | hk | hk
  · by_cases h : n ≤ m
    · exact rates_zeron n m k w hn hn2 hm hm2 hk h
    · exact rates_zerosn n m k w hn hn2 hm hm2 hk (by omega)
  · by_cases h : n ≤ m
    · exact rates_zero n m k w hn hn2 hm hm2 hk h
    · exact rates_zeros n m k w hn hn2 hm hm2 hk (by omega)
  · by_cases h : n ≤ m
    · by_cases g : -1000000000 < n
      · exact rates_pos n m k w hn hn2 hm hm2 hk hk2 h g
      · exact rates_posf n m k w hn hn2 hm hm2 hk hk2 h (by omega)
    · by_cases g : -1000000000 < m
      · exact rates_poss n m k w hn hn2 hm hm2 hk hk2 (by omega) g
      · exact rates_possf n m k w hn hn2 hm hm2 hk hk2 (by omega) (by omega)
end Go.Proofs.Ytfgamapnoonklaa.H
