/- RealOrder returns true, whatever three numbers by their bits: the walk. -/
import Derived.Test.YtfgamapnoonklaaTextEq
import Derived.Test.YtfgamapnoonklaaRatesW
namespace Go.Proofs.Ytfgamapnoonklaa.H
open Go.RowKit Key Go.Proofs.YtfgamapnoonklaaW.PrintWords
set_option linter.unusedVariables false
set_option linter.unusedSimpArgs false

theorem neg_inf : ∃ r, Ieee.double.div (ofInt (-1)) (ofInt 0) = some r ∧ ∃ q, Ieee.double.div (ofInt 1) (ofInt 0) = some q ∧ ord r q < 0 := ⟨18442240474082181120, by decide +kernel, 9218868437227405312, by decide +kernel, by decide +kernel⟩
theorem neg_zero : ∃ r, Ieee.double.div (ofInt 0) (ofInt (-1)) = some r ∧ (ord 0 r == 0) = true := ⟨9223372036854775808, by decide +kernel, by decide +kernel⟩
theorem ord_nan {a x : Nat} (hx : isNaN x = true) : ord a x = if isNaN a then 0 else -1 := by unfold ord; rw [hx]; cases isNaN a <;> rfl
theorem order_at {a b : Nat} {p : Int} (h : ord a b = p) (w : World) : Calls Try.prog 10 #[.float .f64 a, .float .f64 b] w fun e w' => e = .returned (.int .i64 p) ∧ w = w' := h ▸ order_calls a b w

set_option maxHeartbeats 4000000 in
theorem ol_fmB (a b c : Nat) (w : World) (sa sb : ByteArray) (ha : a < 2 ^ 64) (hb : b < 2 ^ 64) (hsa : strOfNums (digs (plain a)) = sa) (hsb : strOfNums (digs (plain b)) = sb) (hn : isNaN a = false) (h1 : ord a b = -1) (h1' : ord b a = 1) (r : Int) (h2 : ord b c = r) (hr : 0 < r) (hsab : sa ≠ sb) :
    Calls Try.prog 5 #[.float .f64 a, .float .f64 b, .float .f64 c] w (Good w) := by
  have TA : ∀ w, Calls Try.prog 12 #[.float .f64 a] w fun e w' => e = .returned (.string sa) ∧ Below w.heap.size w w' := fun w => hsa ▸ text_calls a w ha
  have TB : ∀ w, Calls Try.prog 12 #[.float .f64 b] w fun e w' => e = .returned (.string sb) ∧ Below w.heap.size w w' := fun w => hsb ▸ text_calls b w hb
  have HA := Lib.hid TA
  have HB := Lib.hid TB
  have H1 := Lib.hid h1
  have H1' := Lib.hid h1'
  have H2 := Lib.hid h2
  clear h2
  have HN := Lib.hid hn
  have hsl : sa.toList ≠ sb.toList := fun h => hsab (ByteArray.ext (by rw [Go.ByteArray.toList_eq, Go.ByteArray.toList_eq] at h; exact Array.toList_inj.1 h))
  have hss : (sa.toList == sb.toList) = false := by simpa using hsl
  clear hsl
  clear TA TB h1 h1' hsa hsb ha hb hn hsab
  have hnn : (FloatKind.f64.format.order a a != some .eq) = false := (order_self a).trans HN.out
  go_enter Try.func5, Try.ntmps5
  go_wp2_with fail
  refine (order_at H1.out _).mono ?_; rintro e w' ⟨rfl, rfl⟩
  go_wp2_with fail
  refine (order_at H1'.out _).mono ?_; rintro e w' ⟨rfl, rfl⟩
  go_wp2_with fail
  refine (order_at H1.out _).mono ?_; rintro e w' ⟨rfl, rfl⟩
  go_wp2_with fail
  refine (HA.out _).mono ?_; rintro e w1 ⟨rfl, hb1⟩
  have B1 := Lib.hid hb1
  clear hb1
  go_wp2_with fail
  refine (HB.out _).mono ?_; rintro e w2 ⟨rfl, hb2⟩
  have B2 := Lib.hid (B1.out.trans (hb2.mono B1.out.size))
  clear hb2 B1
  go_wp2_with fail
  refine (order_at H1.out _).mono ?_; rintro e w' ⟨rfl, rfl⟩
  go_wp2_with fail
  refine (order_at H2.out _).mono ?_; rintro e w' ⟨rfl, rfl⟩
  go_wp2_with fail
  refine (rate_none _ _ _ div_none).mono ?_; rintro e w' ⟨x, rfl, hx, rfl⟩
  have O := Lib.hid (show ord a x = -1 by rw [ord_nan hx, HN.out]; rfl)
  clear hx
  go_wp2_with fail
  refine (order_at O.out _).mono ?_; rintro e w' ⟨rfl, rfl⟩
  go_wp2_with fail
  refine (order_at O.out _).mono ?_; rintro e w' ⟨rfl, rfl⟩
  obtain ⟨r1, d1, r2, d2, o12⟩ := neg_inf
  have D1 := Lib.hid d1
  have D2 := Lib.hid d2
  clear d1 d2
  go_wp2_with fail
  refine (rate_some _ _ _ _ D1.out).mono ?_; rintro e w' ⟨rfl, rfl⟩
  go_wp2_with fail
  refine (rate_some _ _ _ _ D2.out).mono ?_; rintro e w' ⟨rfl, rfl⟩
  go_wp2_with fail
  refine (order_calls _ _ _).mono ?_; rintro e w' ⟨rfl, rfl⟩
  obtain ⟨r3, d3, o3⟩ := neg_zero
  have D3 := Lib.hid d3
  clear d3
  go_wp2_with fail
  refine (rate_some _ _ _ _ D3.out).mono ?_; rintro e w' ⟨rfl, rfl⟩
  go_wp2_with fail
  refine (order_calls _ _ _).mono ?_; rintro e w' ⟨rfl, rfl⟩
  go_wp2_with fail
  go_ret
  exact ⟨rfl, B2.out.drew⟩

set_option maxHeartbeats 4000000 in
theorem ol_fmC (a b c : Nat) (w : World) (sa sb : ByteArray) (ha : a < 2 ^ 64) (hb : b < 2 ^ 64) (hsa : strOfNums (digs (plain a)) = sa) (hsb : strOfNums (digs (plain b)) = sb) (hn : isNaN a = false) (h1 : ord a b = -1) (h1' : ord b a = 1) (r s : Int) (h2 : ord b c = r) (hr : r ≤ 0) (h3 : ord a c = s) (hs : s ≤ 0) (hsab : sa ≠ sb) :
    Calls Try.prog 5 #[.float .f64 a, .float .f64 b, .float .f64 c] w (Good w) := by
  have TA : ∀ w, Calls Try.prog 12 #[.float .f64 a] w fun e w' => e = .returned (.string sa) ∧ Below w.heap.size w w' := fun w => hsa ▸ text_calls a w ha
  have TB : ∀ w, Calls Try.prog 12 #[.float .f64 b] w fun e w' => e = .returned (.string sb) ∧ Below w.heap.size w w' := fun w => hsb ▸ text_calls b w hb
  have HA := Lib.hid TA
  have HB := Lib.hid TB
  have H1 := Lib.hid h1
  have H1' := Lib.hid h1'
  have H2 := Lib.hid h2
  clear h2
  have H3 := Lib.hid h3
  clear h3
  have HN := Lib.hid hn
  have hsl : sa.toList ≠ sb.toList := fun h => hsab (ByteArray.ext (by rw [Go.ByteArray.toList_eq, Go.ByteArray.toList_eq] at h; exact Array.toList_inj.1 h))
  have hss : (sa.toList == sb.toList) = false := by simpa using hsl
  clear hsl
  clear TA TB h1 h1' hsa hsb ha hb hn hsab
  have hnn : (FloatKind.f64.format.order a a != some .eq) = false := (order_self a).trans HN.out
  go_enter Try.func5, Try.ntmps5
  go_wp2_with fail
  refine (order_at H1.out _).mono ?_; rintro e w' ⟨rfl, rfl⟩
  go_wp2_with fail
  refine (order_at H1'.out _).mono ?_; rintro e w' ⟨rfl, rfl⟩
  go_wp2_with fail
  refine (order_at H1.out _).mono ?_; rintro e w' ⟨rfl, rfl⟩
  go_wp2_with fail
  refine (HA.out _).mono ?_; rintro e w1 ⟨rfl, hb1⟩
  have B1 := Lib.hid hb1
  clear hb1
  go_wp2_with fail
  refine (HB.out _).mono ?_; rintro e w2 ⟨rfl, hb2⟩
  have B2 := Lib.hid (B1.out.trans (hb2.mono B1.out.size))
  clear hb2 B1
  go_wp2_with fail
  refine (order_at H1.out _).mono ?_; rintro e w' ⟨rfl, rfl⟩
  go_wp2_with fail
  refine (order_at H2.out _).mono ?_; rintro e w' ⟨rfl, rfl⟩
  go_wp2_with fail
  refine (order_at H3.out _).mono ?_; rintro e w' ⟨rfl, rfl⟩
  go_wp2_with fail
  refine (rate_none _ _ _ div_none).mono ?_; rintro e w' ⟨x, rfl, hx, rfl⟩
  have O := Lib.hid (show ord a x = -1 by rw [ord_nan hx, HN.out]; rfl)
  clear hx
  go_wp2_with fail
  refine (order_at O.out _).mono ?_; rintro e w' ⟨rfl, rfl⟩
  go_wp2_with fail
  refine (order_at O.out _).mono ?_; rintro e w' ⟨rfl, rfl⟩
  obtain ⟨r1, d1, r2, d2, o12⟩ := neg_inf
  have D1 := Lib.hid d1
  have D2 := Lib.hid d2
  clear d1 d2
  go_wp2_with fail
  refine (rate_some _ _ _ _ D1.out).mono ?_; rintro e w' ⟨rfl, rfl⟩
  go_wp2_with fail
  refine (rate_some _ _ _ _ D2.out).mono ?_; rintro e w' ⟨rfl, rfl⟩
  go_wp2_with fail
  refine (order_calls _ _ _).mono ?_; rintro e w' ⟨rfl, rfl⟩
  obtain ⟨r3, d3, o3⟩ := neg_zero
  have D3 := Lib.hid d3
  clear d3
  go_wp2_with fail
  refine (rate_some _ _ _ _ D3.out).mono ?_; rintro e w' ⟨rfl, rfl⟩
  go_wp2_with fail
  refine (order_calls _ _ _).mono ?_; rintro e w' ⟨rfl, rfl⟩
  go_wp2_with fail
  go_ret
  exact ⟨rfl, B2.out.drew⟩

set_option maxHeartbeats 4000000 in
theorem ol_fzB (a b c : Nat) (w : World) (sa sb : ByteArray) (ha : a < 2 ^ 64) (hb : b < 2 ^ 64) (hsa : strOfNums (digs (plain a)) = sa) (hsb : strOfNums (digs (plain b)) = sb) (hn : isNaN a = false) (h1 : ord a b = 0) (h1' : ord b a = 0) (r : Int) (h2 : ord b c = r) (hr : 0 < r) (hsab : sa = sb) :
    Calls Try.prog 5 #[.float .f64 a, .float .f64 b, .float .f64 c] w (Good w) := by
  have TA : ∀ w, Calls Try.prog 12 #[.float .f64 a] w fun e w' => e = .returned (.string sa) ∧ Below w.heap.size w w' := fun w => hsa ▸ text_calls a w ha
  have TB : ∀ w, Calls Try.prog 12 #[.float .f64 b] w fun e w' => e = .returned (.string sb) ∧ Below w.heap.size w w' := fun w => hsb ▸ text_calls b w hb
  have HA := Lib.hid TA
  have HB := Lib.hid TB
  have H1 := Lib.hid h1
  have H1' := Lib.hid h1'
  have H2 := Lib.hid h2
  clear h2
  have HN := Lib.hid hn
  subst hsab
  have hss : (sa.toList == sa.toList) = true := by simp
  clear TA TB h1 h1' hsa hsb ha hb hn
  have hnn : (FloatKind.f64.format.order a a != some .eq) = false := (order_self a).trans HN.out
  go_enter Try.func5, Try.ntmps5
  go_wp2_with fail
  refine (order_at H1.out _).mono ?_; rintro e w' ⟨rfl, rfl⟩
  go_wp2_with fail
  refine (order_at H1'.out _).mono ?_; rintro e w' ⟨rfl, rfl⟩
  go_wp2_with fail
  refine (order_at H1.out _).mono ?_; rintro e w' ⟨rfl, rfl⟩
  go_wp2_with fail
  refine (HA.out _).mono ?_; rintro e w1 ⟨rfl, hb1⟩
  have B1 := Lib.hid hb1
  clear hb1
  go_wp2_with fail
  refine (HB.out _).mono ?_; rintro e w2 ⟨rfl, hb2⟩
  have B2 := Lib.hid (B1.out.trans (hb2.mono B1.out.size))
  clear hb2 B1
  go_wp2_with fail
  refine (order_at H1.out _).mono ?_; rintro e w' ⟨rfl, rfl⟩
  go_wp2_with fail
  refine (order_at H2.out _).mono ?_; rintro e w' ⟨rfl, rfl⟩
  go_wp2_with fail
  refine (rate_none _ _ _ div_none).mono ?_; rintro e w' ⟨x, rfl, hx, rfl⟩
  have O := Lib.hid (show ord a x = -1 by rw [ord_nan hx, HN.out]; rfl)
  clear hx
  go_wp2_with fail
  refine (order_at O.out _).mono ?_; rintro e w' ⟨rfl, rfl⟩
  go_wp2_with fail
  refine (order_at O.out _).mono ?_; rintro e w' ⟨rfl, rfl⟩
  obtain ⟨r1, d1, r2, d2, o12⟩ := neg_inf
  have D1 := Lib.hid d1
  have D2 := Lib.hid d2
  clear d1 d2
  go_wp2_with fail
  refine (rate_some _ _ _ _ D1.out).mono ?_; rintro e w' ⟨rfl, rfl⟩
  go_wp2_with fail
  refine (rate_some _ _ _ _ D2.out).mono ?_; rintro e w' ⟨rfl, rfl⟩
  go_wp2_with fail
  refine (order_calls _ _ _).mono ?_; rintro e w' ⟨rfl, rfl⟩
  obtain ⟨r3, d3, o3⟩ := neg_zero
  have D3 := Lib.hid d3
  clear d3
  go_wp2_with fail
  refine (rate_some _ _ _ _ D3.out).mono ?_; rintro e w' ⟨rfl, rfl⟩
  go_wp2_with fail
  refine (order_calls _ _ _).mono ?_; rintro e w' ⟨rfl, rfl⟩
  go_wp2_with fail
  go_ret
  exact ⟨rfl, B2.out.drew⟩

set_option maxHeartbeats 4000000 in
theorem ol_fzC (a b c : Nat) (w : World) (sa sb : ByteArray) (ha : a < 2 ^ 64) (hb : b < 2 ^ 64) (hsa : strOfNums (digs (plain a)) = sa) (hsb : strOfNums (digs (plain b)) = sb) (hn : isNaN a = false) (h1 : ord a b = 0) (h1' : ord b a = 0) (r s : Int) (h2 : ord b c = r) (hr : r ≤ 0) (h3 : ord a c = s) (hs : s ≤ 0) (hsab : sa = sb) :
    Calls Try.prog 5 #[.float .f64 a, .float .f64 b, .float .f64 c] w (Good w) := by
  have TA : ∀ w, Calls Try.prog 12 #[.float .f64 a] w fun e w' => e = .returned (.string sa) ∧ Below w.heap.size w w' := fun w => hsa ▸ text_calls a w ha
  have TB : ∀ w, Calls Try.prog 12 #[.float .f64 b] w fun e w' => e = .returned (.string sb) ∧ Below w.heap.size w w' := fun w => hsb ▸ text_calls b w hb
  have HA := Lib.hid TA
  have HB := Lib.hid TB
  have H1 := Lib.hid h1
  have H1' := Lib.hid h1'
  have H2 := Lib.hid h2
  clear h2
  have H3 := Lib.hid h3
  clear h3
  have HN := Lib.hid hn
  subst hsab
  have hss : (sa.toList == sa.toList) = true := by simp
  clear TA TB h1 h1' hsa hsb ha hb hn
  have hnn : (FloatKind.f64.format.order a a != some .eq) = false := (order_self a).trans HN.out
  go_enter Try.func5, Try.ntmps5
  go_wp2_with fail
  refine (order_at H1.out _).mono ?_; rintro e w' ⟨rfl, rfl⟩
  go_wp2_with fail
  refine (order_at H1'.out _).mono ?_; rintro e w' ⟨rfl, rfl⟩
  go_wp2_with fail
  refine (order_at H1.out _).mono ?_; rintro e w' ⟨rfl, rfl⟩
  go_wp2_with fail
  refine (HA.out _).mono ?_; rintro e w1 ⟨rfl, hb1⟩
  have B1 := Lib.hid hb1
  clear hb1
  go_wp2_with fail
  refine (HB.out _).mono ?_; rintro e w2 ⟨rfl, hb2⟩
  have B2 := Lib.hid (B1.out.trans (hb2.mono B1.out.size))
  clear hb2 B1
  go_wp2_with fail
  refine (order_at H1.out _).mono ?_; rintro e w' ⟨rfl, rfl⟩
  go_wp2_with fail
  refine (order_at H2.out _).mono ?_; rintro e w' ⟨rfl, rfl⟩
  go_wp2_with fail
  refine (order_at H3.out _).mono ?_; rintro e w' ⟨rfl, rfl⟩
  go_wp2_with fail
  refine (rate_none _ _ _ div_none).mono ?_; rintro e w' ⟨x, rfl, hx, rfl⟩
  have O := Lib.hid (show ord a x = -1 by rw [ord_nan hx, HN.out]; rfl)
  clear hx
  go_wp2_with fail
  refine (order_at O.out _).mono ?_; rintro e w' ⟨rfl, rfl⟩
  go_wp2_with fail
  refine (order_at O.out _).mono ?_; rintro e w' ⟨rfl, rfl⟩
  obtain ⟨r1, d1, r2, d2, o12⟩ := neg_inf
  have D1 := Lib.hid d1
  have D2 := Lib.hid d2
  clear d1 d2
  go_wp2_with fail
  refine (rate_some _ _ _ _ D1.out).mono ?_; rintro e w' ⟨rfl, rfl⟩
  go_wp2_with fail
  refine (rate_some _ _ _ _ D2.out).mono ?_; rintro e w' ⟨rfl, rfl⟩
  go_wp2_with fail
  refine (order_calls _ _ _).mono ?_; rintro e w' ⟨rfl, rfl⟩
  obtain ⟨r3, d3, o3⟩ := neg_zero
  have D3 := Lib.hid d3
  clear d3
  go_wp2_with fail
  refine (rate_some _ _ _ _ D3.out).mono ?_; rintro e w' ⟨rfl, rfl⟩
  go_wp2_with fail
  refine (order_calls _ _ _).mono ?_; rintro e w' ⟨rfl, rfl⟩
  go_wp2_with fail
  go_ret
  exact ⟨rfl, B2.out.drew⟩

set_option maxHeartbeats 4000000 in
theorem ol_fpA (a b c : Nat) (w : World) (sa sb : ByteArray) (ha : a < 2 ^ 64) (hb : b < 2 ^ 64) (hsa : strOfNums (digs (plain a)) = sa) (hsb : strOfNums (digs (plain b)) = sb) (hn : isNaN a = false) (h1 : ord a b = 1) (h1' : ord b a = -1) (hsab : sa ≠ sb) :
    Calls Try.prog 5 #[.float .f64 a, .float .f64 b, .float .f64 c] w (Good w) := by
  have TA : ∀ w, Calls Try.prog 12 #[.float .f64 a] w fun e w' => e = .returned (.string sa) ∧ Below w.heap.size w w' := fun w => hsa ▸ text_calls a w ha
  have TB : ∀ w, Calls Try.prog 12 #[.float .f64 b] w fun e w' => e = .returned (.string sb) ∧ Below w.heap.size w w' := fun w => hsb ▸ text_calls b w hb
  have HA := Lib.hid TA
  have HB := Lib.hid TB
  have H1 := Lib.hid h1
  have H1' := Lib.hid h1'
  have HN := Lib.hid hn
  have hsl : sa.toList ≠ sb.toList := fun h => hsab (ByteArray.ext (by rw [Go.ByteArray.toList_eq, Go.ByteArray.toList_eq] at h; exact Array.toList_inj.1 h))
  have hss : (sa.toList == sb.toList) = false := by simpa using hsl
  clear hsl
  clear TA TB h1 h1' hsa hsb ha hb hn hsab
  have hnn : (FloatKind.f64.format.order a a != some .eq) = false := (order_self a).trans HN.out
  go_enter Try.func5, Try.ntmps5
  go_wp2_with fail
  refine (order_at H1.out _).mono ?_; rintro e w' ⟨rfl, rfl⟩
  go_wp2_with fail
  refine (order_at H1'.out _).mono ?_; rintro e w' ⟨rfl, rfl⟩
  go_wp2_with fail
  refine (order_at H1.out _).mono ?_; rintro e w' ⟨rfl, rfl⟩
  go_wp2_with fail
  refine (HA.out _).mono ?_; rintro e w1 ⟨rfl, hb1⟩
  have B1 := Lib.hid hb1
  clear hb1
  go_wp2_with fail
  refine (HB.out _).mono ?_; rintro e w2 ⟨rfl, hb2⟩
  have B2 := Lib.hid (B1.out.trans (hb2.mono B1.out.size))
  clear hb2 B1
  go_wp2_with fail
  refine (order_at H1.out _).mono ?_; rintro e w' ⟨rfl, rfl⟩
  go_wp2_with fail
  refine (rate_none _ _ _ div_none).mono ?_; rintro e w' ⟨x, rfl, hx, rfl⟩
  have O := Lib.hid (show ord a x = -1 by rw [ord_nan hx, HN.out]; rfl)
  clear hx
  go_wp2_with fail
  refine (order_at O.out _).mono ?_; rintro e w' ⟨rfl, rfl⟩
  go_wp2_with fail
  refine (order_at O.out _).mono ?_; rintro e w' ⟨rfl, rfl⟩
  obtain ⟨r1, d1, r2, d2, o12⟩ := neg_inf
  have D1 := Lib.hid d1
  have D2 := Lib.hid d2
  clear d1 d2
  go_wp2_with fail
  refine (rate_some _ _ _ _ D1.out).mono ?_; rintro e w' ⟨rfl, rfl⟩
  go_wp2_with fail
  refine (rate_some _ _ _ _ D2.out).mono ?_; rintro e w' ⟨rfl, rfl⟩
  go_wp2_with fail
  refine (order_calls _ _ _).mono ?_; rintro e w' ⟨rfl, rfl⟩
  obtain ⟨r3, d3, o3⟩ := neg_zero
  have D3 := Lib.hid d3
  clear d3
  go_wp2_with fail
  refine (rate_some _ _ _ _ D3.out).mono ?_; rintro e w' ⟨rfl, rfl⟩
  go_wp2_with fail
  refine (order_calls _ _ _).mono ?_; rintro e w' ⟨rfl, rfl⟩
  go_wp2_with fail
  go_ret
  exact ⟨rfl, B2.out.drew⟩

set_option maxHeartbeats 4000000 in
theorem ol_nmB (a b c : Nat) (w : World) (sa sb : ByteArray) (ha : a < 2 ^ 64) (hb : b < 2 ^ 64) (hsa : strOfNums (digs (plain a)) = sa) (hsb : strOfNums (digs (plain b)) = sb) (hn : isNaN a = true) (h1 : ord a b = -1) (h1' : ord b a = 1) (r : Int) (h2 : ord b c = r) (hr : 0 < r) (hsab : sa ≠ sb) :
    Calls Try.prog 5 #[.float .f64 a, .float .f64 b, .float .f64 c] w (Good w) := by
  have TA : ∀ w, Calls Try.prog 12 #[.float .f64 a] w fun e w' => e = .returned (.string sa) ∧ Below w.heap.size w w' := fun w => hsa ▸ text_calls a w ha
  have TB : ∀ w, Calls Try.prog 12 #[.float .f64 b] w fun e w' => e = .returned (.string sb) ∧ Below w.heap.size w w' := fun w => hsb ▸ text_calls b w hb
  have HA := Lib.hid TA
  have HB := Lib.hid TB
  have H1 := Lib.hid h1
  have H1' := Lib.hid h1'
  have H2 := Lib.hid h2
  clear h2
  have HN := Lib.hid hn
  have hsl : sa.toList ≠ sb.toList := fun h => hsab (ByteArray.ext (by rw [Go.ByteArray.toList_eq, Go.ByteArray.toList_eq] at h; exact Array.toList_inj.1 h))
  have hss : (sa.toList == sb.toList) = false := by simpa using hsl
  clear hsl
  clear TA TB h1 h1' hsa hsb ha hb hn hsab
  have hnn : (FloatKind.f64.format.order a a != some .eq) = true := (order_self a).trans HN.out
  go_enter Try.func5, Try.ntmps5
  go_wp2_with fail
  refine (order_at H1.out _).mono ?_; rintro e w' ⟨rfl, rfl⟩
  go_wp2_with fail
  refine (order_at H1'.out _).mono ?_; rintro e w' ⟨rfl, rfl⟩
  go_wp2_with fail
  refine (order_at H1.out _).mono ?_; rintro e w' ⟨rfl, rfl⟩
  go_wp2_with fail
  refine (HA.out _).mono ?_; rintro e w1 ⟨rfl, hb1⟩
  have B1 := Lib.hid hb1
  clear hb1
  go_wp2_with fail
  refine (HB.out _).mono ?_; rintro e w2 ⟨rfl, hb2⟩
  have B2 := Lib.hid (B1.out.trans (hb2.mono B1.out.size))
  clear hb2 B1
  go_wp2_with fail
  refine (order_at H1.out _).mono ?_; rintro e w' ⟨rfl, rfl⟩
  go_wp2_with fail
  refine (order_at H2.out _).mono ?_; rintro e w' ⟨rfl, rfl⟩
  go_wp2_with fail
  refine (rate_none _ _ _ div_none).mono ?_; rintro e w' ⟨x, rfl, hx, rfl⟩
  have O := Lib.hid (show ord a x = 0 by rw [ord_nan hx, HN.out]; rfl)
  clear hx
  go_wp2_with fail
  refine (order_at O.out _).mono ?_; rintro e w' ⟨rfl, rfl⟩
  obtain ⟨r1, d1, r2, d2, o12⟩ := neg_inf
  have D1 := Lib.hid d1
  have D2 := Lib.hid d2
  clear d1 d2
  go_wp2_with fail
  refine (rate_some _ _ _ _ D1.out).mono ?_; rintro e w' ⟨rfl, rfl⟩
  go_wp2_with fail
  refine (rate_some _ _ _ _ D2.out).mono ?_; rintro e w' ⟨rfl, rfl⟩
  go_wp2_with fail
  refine (order_calls _ _ _).mono ?_; rintro e w' ⟨rfl, rfl⟩
  obtain ⟨r3, d3, o3⟩ := neg_zero
  have D3 := Lib.hid d3
  clear d3
  go_wp2_with fail
  refine (rate_some _ _ _ _ D3.out).mono ?_; rintro e w' ⟨rfl, rfl⟩
  go_wp2_with fail
  refine (order_calls _ _ _).mono ?_; rintro e w' ⟨rfl, rfl⟩
  go_wp2_with fail
  go_ret
  exact ⟨rfl, B2.out.drew⟩

set_option maxHeartbeats 4000000 in
theorem ol_nmC (a b c : Nat) (w : World) (sa sb : ByteArray) (ha : a < 2 ^ 64) (hb : b < 2 ^ 64) (hsa : strOfNums (digs (plain a)) = sa) (hsb : strOfNums (digs (plain b)) = sb) (hn : isNaN a = true) (h1 : ord a b = -1) (h1' : ord b a = 1) (r s : Int) (h2 : ord b c = r) (hr : r ≤ 0) (h3 : ord a c = s) (hs : s ≤ 0) (hsab : sa ≠ sb) :
    Calls Try.prog 5 #[.float .f64 a, .float .f64 b, .float .f64 c] w (Good w) := by
  have TA : ∀ w, Calls Try.prog 12 #[.float .f64 a] w fun e w' => e = .returned (.string sa) ∧ Below w.heap.size w w' := fun w => hsa ▸ text_calls a w ha
  have TB : ∀ w, Calls Try.prog 12 #[.float .f64 b] w fun e w' => e = .returned (.string sb) ∧ Below w.heap.size w w' := fun w => hsb ▸ text_calls b w hb
  have HA := Lib.hid TA
  have HB := Lib.hid TB
  have H1 := Lib.hid h1
  have H1' := Lib.hid h1'
  have H2 := Lib.hid h2
  clear h2
  have H3 := Lib.hid h3
  clear h3
  have HN := Lib.hid hn
  have hsl : sa.toList ≠ sb.toList := fun h => hsab (ByteArray.ext (by rw [Go.ByteArray.toList_eq, Go.ByteArray.toList_eq] at h; exact Array.toList_inj.1 h))
  have hss : (sa.toList == sb.toList) = false := by simpa using hsl
  clear hsl
  clear TA TB h1 h1' hsa hsb ha hb hn hsab
  have hnn : (FloatKind.f64.format.order a a != some .eq) = true := (order_self a).trans HN.out
  go_enter Try.func5, Try.ntmps5
  go_wp2_with fail
  refine (order_at H1.out _).mono ?_; rintro e w' ⟨rfl, rfl⟩
  go_wp2_with fail
  refine (order_at H1'.out _).mono ?_; rintro e w' ⟨rfl, rfl⟩
  go_wp2_with fail
  refine (order_at H1.out _).mono ?_; rintro e w' ⟨rfl, rfl⟩
  go_wp2_with fail
  refine (HA.out _).mono ?_; rintro e w1 ⟨rfl, hb1⟩
  have B1 := Lib.hid hb1
  clear hb1
  go_wp2_with fail
  refine (HB.out _).mono ?_; rintro e w2 ⟨rfl, hb2⟩
  have B2 := Lib.hid (B1.out.trans (hb2.mono B1.out.size))
  clear hb2 B1
  go_wp2_with fail
  refine (order_at H1.out _).mono ?_; rintro e w' ⟨rfl, rfl⟩
  go_wp2_with fail
  refine (order_at H2.out _).mono ?_; rintro e w' ⟨rfl, rfl⟩
  go_wp2_with fail
  refine (order_at H3.out _).mono ?_; rintro e w' ⟨rfl, rfl⟩
  go_wp2_with fail
  refine (rate_none _ _ _ div_none).mono ?_; rintro e w' ⟨x, rfl, hx, rfl⟩
  have O := Lib.hid (show ord a x = 0 by rw [ord_nan hx, HN.out]; rfl)
  clear hx
  go_wp2_with fail
  refine (order_at O.out _).mono ?_; rintro e w' ⟨rfl, rfl⟩
  obtain ⟨r1, d1, r2, d2, o12⟩ := neg_inf
  have D1 := Lib.hid d1
  have D2 := Lib.hid d2
  clear d1 d2
  go_wp2_with fail
  refine (rate_some _ _ _ _ D1.out).mono ?_; rintro e w' ⟨rfl, rfl⟩
  go_wp2_with fail
  refine (rate_some _ _ _ _ D2.out).mono ?_; rintro e w' ⟨rfl, rfl⟩
  go_wp2_with fail
  refine (order_calls _ _ _).mono ?_; rintro e w' ⟨rfl, rfl⟩
  obtain ⟨r3, d3, o3⟩ := neg_zero
  have D3 := Lib.hid d3
  clear d3
  go_wp2_with fail
  refine (rate_some _ _ _ _ D3.out).mono ?_; rintro e w' ⟨rfl, rfl⟩
  go_wp2_with fail
  refine (order_calls _ _ _).mono ?_; rintro e w' ⟨rfl, rfl⟩
  go_wp2_with fail
  go_ret
  exact ⟨rfl, B2.out.drew⟩

set_option maxHeartbeats 4000000 in
theorem ol_nzB (a b c : Nat) (w : World) (sa sb : ByteArray) (ha : a < 2 ^ 64) (hb : b < 2 ^ 64) (hsa : strOfNums (digs (plain a)) = sa) (hsb : strOfNums (digs (plain b)) = sb) (hn : isNaN a = true) (h1 : ord a b = 0) (h1' : ord b a = 0) (r : Int) (h2 : ord b c = r) (hr : 0 < r) (hsab : sa = sb) :
    Calls Try.prog 5 #[.float .f64 a, .float .f64 b, .float .f64 c] w (Good w) := by
  have TA : ∀ w, Calls Try.prog 12 #[.float .f64 a] w fun e w' => e = .returned (.string sa) ∧ Below w.heap.size w w' := fun w => hsa ▸ text_calls a w ha
  have TB : ∀ w, Calls Try.prog 12 #[.float .f64 b] w fun e w' => e = .returned (.string sb) ∧ Below w.heap.size w w' := fun w => hsb ▸ text_calls b w hb
  have HA := Lib.hid TA
  have HB := Lib.hid TB
  have H1 := Lib.hid h1
  have H1' := Lib.hid h1'
  have H2 := Lib.hid h2
  clear h2
  have HN := Lib.hid hn
  subst hsab
  have hss : (sa.toList == sa.toList) = true := by simp
  clear TA TB h1 h1' hsa hsb ha hb hn
  have hnn : (FloatKind.f64.format.order a a != some .eq) = true := (order_self a).trans HN.out
  go_enter Try.func5, Try.ntmps5
  go_wp2_with fail
  refine (order_at H1.out _).mono ?_; rintro e w' ⟨rfl, rfl⟩
  go_wp2_with fail
  refine (order_at H1'.out _).mono ?_; rintro e w' ⟨rfl, rfl⟩
  go_wp2_with fail
  refine (order_at H1.out _).mono ?_; rintro e w' ⟨rfl, rfl⟩
  go_wp2_with fail
  refine (HA.out _).mono ?_; rintro e w1 ⟨rfl, hb1⟩
  have B1 := Lib.hid hb1
  clear hb1
  go_wp2_with fail
  refine (HB.out _).mono ?_; rintro e w2 ⟨rfl, hb2⟩
  have B2 := Lib.hid (B1.out.trans (hb2.mono B1.out.size))
  clear hb2 B1
  go_wp2_with fail
  refine (order_at H1.out _).mono ?_; rintro e w' ⟨rfl, rfl⟩
  go_wp2_with fail
  refine (order_at H2.out _).mono ?_; rintro e w' ⟨rfl, rfl⟩
  go_wp2_with fail
  refine (rate_none _ _ _ div_none).mono ?_; rintro e w' ⟨x, rfl, hx, rfl⟩
  have O := Lib.hid (show ord a x = 0 by rw [ord_nan hx, HN.out]; rfl)
  clear hx
  go_wp2_with fail
  refine (order_at O.out _).mono ?_; rintro e w' ⟨rfl, rfl⟩
  obtain ⟨r1, d1, r2, d2, o12⟩ := neg_inf
  have D1 := Lib.hid d1
  have D2 := Lib.hid d2
  clear d1 d2
  go_wp2_with fail
  refine (rate_some _ _ _ _ D1.out).mono ?_; rintro e w' ⟨rfl, rfl⟩
  go_wp2_with fail
  refine (rate_some _ _ _ _ D2.out).mono ?_; rintro e w' ⟨rfl, rfl⟩
  go_wp2_with fail
  refine (order_calls _ _ _).mono ?_; rintro e w' ⟨rfl, rfl⟩
  obtain ⟨r3, d3, o3⟩ := neg_zero
  have D3 := Lib.hid d3
  clear d3
  go_wp2_with fail
  refine (rate_some _ _ _ _ D3.out).mono ?_; rintro e w' ⟨rfl, rfl⟩
  go_wp2_with fail
  refine (order_calls _ _ _).mono ?_; rintro e w' ⟨rfl, rfl⟩
  go_wp2_with fail
  go_ret
  exact ⟨rfl, B2.out.drew⟩

set_option maxHeartbeats 4000000 in
theorem ol_nzC (a b c : Nat) (w : World) (sa sb : ByteArray) (ha : a < 2 ^ 64) (hb : b < 2 ^ 64) (hsa : strOfNums (digs (plain a)) = sa) (hsb : strOfNums (digs (plain b)) = sb) (hn : isNaN a = true) (h1 : ord a b = 0) (h1' : ord b a = 0) (r s : Int) (h2 : ord b c = r) (hr : r ≤ 0) (h3 : ord a c = s) (hs : s ≤ 0) (hsab : sa = sb) :
    Calls Try.prog 5 #[.float .f64 a, .float .f64 b, .float .f64 c] w (Good w) := by
  have TA : ∀ w, Calls Try.prog 12 #[.float .f64 a] w fun e w' => e = .returned (.string sa) ∧ Below w.heap.size w w' := fun w => hsa ▸ text_calls a w ha
  have TB : ∀ w, Calls Try.prog 12 #[.float .f64 b] w fun e w' => e = .returned (.string sb) ∧ Below w.heap.size w w' := fun w => hsb ▸ text_calls b w hb
  have HA := Lib.hid TA
  have HB := Lib.hid TB
  have H1 := Lib.hid h1
  have H1' := Lib.hid h1'
  have H2 := Lib.hid h2
  clear h2
  have H3 := Lib.hid h3
  clear h3
  have HN := Lib.hid hn
  subst hsab
  have hss : (sa.toList == sa.toList) = true := by simp
  clear TA TB h1 h1' hsa hsb ha hb hn
  have hnn : (FloatKind.f64.format.order a a != some .eq) = true := (order_self a).trans HN.out
  go_enter Try.func5, Try.ntmps5
  go_wp2_with fail
  refine (order_at H1.out _).mono ?_; rintro e w' ⟨rfl, rfl⟩
  go_wp2_with fail
  refine (order_at H1'.out _).mono ?_; rintro e w' ⟨rfl, rfl⟩
  go_wp2_with fail
  refine (order_at H1.out _).mono ?_; rintro e w' ⟨rfl, rfl⟩
  go_wp2_with fail
  refine (HA.out _).mono ?_; rintro e w1 ⟨rfl, hb1⟩
  have B1 := Lib.hid hb1
  clear hb1
  go_wp2_with fail
  refine (HB.out _).mono ?_; rintro e w2 ⟨rfl, hb2⟩
  have B2 := Lib.hid (B1.out.trans (hb2.mono B1.out.size))
  clear hb2 B1
  go_wp2_with fail
  refine (order_at H1.out _).mono ?_; rintro e w' ⟨rfl, rfl⟩
  go_wp2_with fail
  refine (order_at H2.out _).mono ?_; rintro e w' ⟨rfl, rfl⟩
  go_wp2_with fail
  refine (order_at H3.out _).mono ?_; rintro e w' ⟨rfl, rfl⟩
  go_wp2_with fail
  refine (rate_none _ _ _ div_none).mono ?_; rintro e w' ⟨x, rfl, hx, rfl⟩
  have O := Lib.hid (show ord a x = 0 by rw [ord_nan hx, HN.out]; rfl)
  clear hx
  go_wp2_with fail
  refine (order_at O.out _).mono ?_; rintro e w' ⟨rfl, rfl⟩
  obtain ⟨r1, d1, r2, d2, o12⟩ := neg_inf
  have D1 := Lib.hid d1
  have D2 := Lib.hid d2
  clear d1 d2
  go_wp2_with fail
  refine (rate_some _ _ _ _ D1.out).mono ?_; rintro e w' ⟨rfl, rfl⟩
  go_wp2_with fail
  refine (rate_some _ _ _ _ D2.out).mono ?_; rintro e w' ⟨rfl, rfl⟩
  go_wp2_with fail
  refine (order_calls _ _ _).mono ?_; rintro e w' ⟨rfl, rfl⟩
  obtain ⟨r3, d3, o3⟩ := neg_zero
  have D3 := Lib.hid d3
  clear d3
  go_wp2_with fail
  refine (rate_some _ _ _ _ D3.out).mono ?_; rintro e w' ⟨rfl, rfl⟩
  go_wp2_with fail
  refine (order_calls _ _ _).mono ?_; rintro e w' ⟨rfl, rfl⟩
  go_wp2_with fail
  go_ret
  exact ⟨rfl, B2.out.drew⟩

set_option maxHeartbeats 4000000 in
theorem ol_npA (a b c : Nat) (w : World) (sa sb : ByteArray) (ha : a < 2 ^ 64) (hb : b < 2 ^ 64) (hsa : strOfNums (digs (plain a)) = sa) (hsb : strOfNums (digs (plain b)) = sb) (hn : isNaN a = true) (h1 : ord a b = 1) (h1' : ord b a = -1) (hsab : sa ≠ sb) :
    Calls Try.prog 5 #[.float .f64 a, .float .f64 b, .float .f64 c] w (Good w) := by
  have TA : ∀ w, Calls Try.prog 12 #[.float .f64 a] w fun e w' => e = .returned (.string sa) ∧ Below w.heap.size w w' := fun w => hsa ▸ text_calls a w ha
  have TB : ∀ w, Calls Try.prog 12 #[.float .f64 b] w fun e w' => e = .returned (.string sb) ∧ Below w.heap.size w w' := fun w => hsb ▸ text_calls b w hb
  have HA := Lib.hid TA
  have HB := Lib.hid TB
  have H1 := Lib.hid h1
  have H1' := Lib.hid h1'
  have HN := Lib.hid hn
  have hsl : sa.toList ≠ sb.toList := fun h => hsab (ByteArray.ext (by rw [Go.ByteArray.toList_eq, Go.ByteArray.toList_eq] at h; exact Array.toList_inj.1 h))
  have hss : (sa.toList == sb.toList) = false := by simpa using hsl
  clear hsl
  clear TA TB h1 h1' hsa hsb ha hb hn hsab
  have hnn : (FloatKind.f64.format.order a a != some .eq) = true := (order_self a).trans HN.out
  go_enter Try.func5, Try.ntmps5
  go_wp2_with fail
  refine (order_at H1.out _).mono ?_; rintro e w' ⟨rfl, rfl⟩
  go_wp2_with fail
  refine (order_at H1'.out _).mono ?_; rintro e w' ⟨rfl, rfl⟩
  go_wp2_with fail
  refine (order_at H1.out _).mono ?_; rintro e w' ⟨rfl, rfl⟩
  go_wp2_with fail
  refine (HA.out _).mono ?_; rintro e w1 ⟨rfl, hb1⟩
  have B1 := Lib.hid hb1
  clear hb1
  go_wp2_with fail
  refine (HB.out _).mono ?_; rintro e w2 ⟨rfl, hb2⟩
  have B2 := Lib.hid (B1.out.trans (hb2.mono B1.out.size))
  clear hb2 B1
  go_wp2_with fail
  refine (order_at H1.out _).mono ?_; rintro e w' ⟨rfl, rfl⟩
  go_wp2_with fail
  refine (rate_none _ _ _ div_none).mono ?_; rintro e w' ⟨x, rfl, hx, rfl⟩
  have O := Lib.hid (show ord a x = 0 by rw [ord_nan hx, HN.out]; rfl)
  clear hx
  go_wp2_with fail
  refine (order_at O.out _).mono ?_; rintro e w' ⟨rfl, rfl⟩
  obtain ⟨r1, d1, r2, d2, o12⟩ := neg_inf
  have D1 := Lib.hid d1
  have D2 := Lib.hid d2
  clear d1 d2
  go_wp2_with fail
  refine (rate_some _ _ _ _ D1.out).mono ?_; rintro e w' ⟨rfl, rfl⟩
  go_wp2_with fail
  refine (rate_some _ _ _ _ D2.out).mono ?_; rintro e w' ⟨rfl, rfl⟩
  go_wp2_with fail
  refine (order_calls _ _ _).mono ?_; rintro e w' ⟨rfl, rfl⟩
  obtain ⟨r3, d3, o3⟩ := neg_zero
  have D3 := Lib.hid d3
  clear d3
  go_wp2_with fail
  refine (rate_some _ _ _ _ D3.out).mono ?_; rintro e w' ⟨rfl, rfl⟩
  go_wp2_with fail
  refine (order_calls _ _ _).mono ?_; rintro e w' ⟨rfl, rfl⟩
  go_wp2_with fail
  go_ret
  exact ⟨rfl, B2.out.drew⟩

theorem order_walk (a b c : Nat) (w : World) (ha : a < 2 ^ 64) (hb : b < 2 ^ 64) : Calls Try.prog 5 #[.float .f64 a, .float .f64 b, .float .f64 c] w (Good w) := by
  have hr := ord_range a b
  have hn := ord_neg b a
  have he := text_eq ha hb
  cases hnan : isNaN a
  · rcases (by omega : ord a b = -1 ∨ ord a b = 0 ∨ ord a b = 1) with h1 | h1 | h1
    · have hne : strOfNums (digs (plain a)) ≠ strOfNums (digs (plain b)) := fun h => by have := he.1 h; omega
      by_cases h2 : 0 < ord b c
      · exact ol_fmB a b c w _ _ ha hb rfl rfl hnan h1 (by omega) _ rfl h2 hne
      · exact ol_fmC a b c w _ _ ha hb rfl rfl hnan h1 (by omega) _ _ rfl (by omega) rfl (ord_trans (b := b) (by omega) (by omega)) hne
    · by_cases h2 : 0 < ord b c
      · exact ol_fzB a b c w _ _ ha hb rfl rfl hnan h1 (by omega) _ rfl h2 (he.2 h1)
      · exact ol_fzC a b c w _ _ ha hb rfl rfl hnan h1 (by omega) _ _ rfl (by omega) rfl (ord_trans (b := b) (by omega) (by omega)) (he.2 h1)
    · have hne : strOfNums (digs (plain a)) ≠ strOfNums (digs (plain b)) := fun h => by have := he.1 h; omega
      exact ol_fpA a b c w _ _ ha hb rfl rfl hnan h1 (by omega) hne
  · rcases (by omega : ord a b = -1 ∨ ord a b = 0 ∨ ord a b = 1) with h1 | h1 | h1
    · have hne : strOfNums (digs (plain a)) ≠ strOfNums (digs (plain b)) := fun h => by have := he.1 h; omega
      by_cases h2 : 0 < ord b c
      · exact ol_nmB a b c w _ _ ha hb rfl rfl hnan h1 (by omega) _ rfl h2 hne
      · exact ol_nmC a b c w _ _ ha hb rfl rfl hnan h1 (by omega) _ _ rfl (by omega) rfl (ord_trans (b := b) (by omega) (by omega)) hne
    · by_cases h2 : 0 < ord b c
      · exact ol_nzB a b c w _ _ ha hb rfl rfl hnan h1 (by omega) _ rfl h2 (he.2 h1)
      · exact ol_nzC a b c w _ _ ha hb rfl rfl hnan h1 (by omega) _ _ rfl (by omega) rfl (ord_trans (b := b) (by omega) (by omega)) (he.2 h1)
    · have hne : strOfNums (digs (plain a)) ≠ strOfNums (digs (plain b)) := fun h => by have := he.1 h; omega
      exact ol_npA a b c w _ _ ha hb rfl rfl hnan h1 (by omega) hne
end Go.Proofs.Ytfgamapnoonklaa.H
