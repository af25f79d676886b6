/- What the document's Rate, Greatest, Mean and Bits answer: contracts. Condition: the slices hold numbers by their bits. -/
import Derived.Test.YtfgamapnoonklaaMean
import Derived.Test.YtfgamapnoonklaaText
import Derived.Test.YtfgamapnoonklaaGreatestW
namespace Go.Proofs.Ytfgamapnoonklaa.H
open Go.RowKit Key Go.Proofs.YtfgamapnoonklaaW.PrintWords Go.Proofs.YtfgamapnoonklaaW.PrintLast Go.Proofs.YtfgamapnoonklaaW.PrintMore
open Go.Proofs.Ytfgamapnoonklaa.GreatestW (order_same)
set_option linter.unusedVariables false
set_option linter.unusedSimpArgs false

theorem rate2_some (n k : Int) (r : Nat) (w : World) (h : Ieee.double.div (ofInt n) (ofInt k) = some r) : Calls Try.prog 16 #[.int .i64 n, .int .i64 k] w fun e w' => e = .returned (.float .f64 r) ∧ w = w' := by
  have hq : ∀ w, (binOp .quo 22 (.float .f64 (floatOfInt .f64 n)) (.float .f64 (floatOfInt .f64 k))).run Try.prog w = .ok (.float .f64 r) w := fun w => run_float_arith w .quo 22 .f64 _ _ _ (by rw [ofInt_eq, ofInt_eq]; exact h)
  clear h
  go_enter Try.func16, Try.ntmps16
  go_wp2
  go_ret
  exact ⟨rfl, rfl⟩
theorem rate2_none (n k : Int) (w : World) (h : Ieee.double.div (ofInt n) (ofInt k) = none) : Calls Try.prog 16 #[.int .i64 n, .int .i64 k] w fun e w' => ∃ x, e = .returned (.float .f64 x) ∧ isNaN x = true ∧ w' = w.drew := by
  have hq : ∀ w, (binOp .quo 22 (.float .f64 (floatOfInt .f64 n)) (.float .f64 (floatOfInt .f64 k))).run Try.prog w = .ok (.float .f64 (nanOf (ofInt n) (ofInt k) w)) w.drew := fun w => by
    rw [ofInt_eq, ofInt_eq]
    exact run_div_none h w
  clear h
  go_enter Try.func16, Try.ntmps16
  go_wp2
  go_ret
  exact ⟨_, rfl, nanOf_nan _ _ _, rfl⟩

/-- The rate, up to a NaN's bits. -/
theorem rate_sim (n k : Int) (w : World) : Calls Try.prog 9 #[.int .i64 n, .int .i64 k] w fun e w' => ∃ x q, e = .returned (.float .f64 x) ∧ Sim x (divP (ofInt n) (ofInt k)) ∧ w' = w.drewN q := by
  cases h : Ieee.double.div (ofInt n) (ofInt k) with
  | some r => exact (rate_some n k r w h).mono fun e w' ⟨he, hw⟩ => ⟨r, 0, he, Or.inl (by simp [divP, h]), hw.symm⟩
  | none => exact (rate_none n k w h).mono fun e w' ⟨x, he, hx, hw⟩ => ⟨x, 1, he, Or.inr ⟨hx, by simp [divP, h, nanC_nan]⟩, hw⟩
theorem rate2_sim (n k : Int) (w : World) : Calls Try.prog 16 #[.int .i64 n, .int .i64 k] w fun e w' => ∃ x q, e = .returned (.float .f64 x) ∧ Sim x (divP (ofInt n) (ofInt k)) ∧ w' = w.drewN q := by
  cases h : Ieee.double.div (ofInt n) (ofInt k) with
  | some r => exact (rate2_some n k r w h).mono fun e w' ⟨he, hw⟩ => ⟨r, 0, he, Or.inl (by simp [divP, h]), hw.symm⟩
  | none => exact (rate2_none n k w h).mono fun e w' ⟨x, he, hx, hw⟩ => ⟨x, 1, he, Or.inr ⟨hx, by simp [divP, h, nanC_nan]⟩, hw⟩

set_option maxHeartbeats 2000000 in
theorem mean2_calls (A : Option Addr) (l : List Nat) (c : Nat) (w : World) (hcell : Fl w A l) (hl : l.length < 1000000000) :
    Calls Try.prog 14 #[.slice A l.length c] w fun e w' => ∃ x q, e = .returned (.tuple #[.float .f64 x, .int .i64 (cntTo l l.length)]) ∧ Sim x (meanP l) ∧ w' = w.drewN q := by
  have HC := Lib.hid hcell
  clear hcell
  go_enter Try.func14, Try.ntmps14
  go_wp2_with fail
  go_loopw [4, 5, 6] (fun s k i wr => ∃ (n q : Nat) (x : Nat), n ≤ l.length ∧ i = .int .i64 n ∧ k = .int .i64 (cntTo l n) ∧ s = .float .f64 x ∧ Hid (Sim x (sumTo l n)) ∧ wr = w.drewN q) (fun _ _ i _ => l.length - (intOf i).toNat)
  case atStart => exact ⟨0, 0, 0, Nat.zero_le _, rfl, rfl, rfl, Lib.hid (Or.inl rfl), rfl⟩
  case round =>
    obtain ⟨n, q, s, hn, rfl, rfl, rfl, HS, rfl⟩ := hrel
    by_cases hlt : n < l.length
    · obtain ⟨ad, e1, hx⟩ := HC.out n hlt
      subst e1
      have hcn := cntTo_le l n
      have H1 := Lib.hid (show sumTo l (n + 1) = if isNaN (numAt l n) then sumTo l n else addP (sumTo l n) (numAt l n) from rfl)
      have H2 := Lib.hid (show cntTo l (n + 1) = if isNaN (numAt l n) then cntTo l n else cntTo l n + 1 from rfl)
      generalize numAt l n = x at *
      cases hN : isNaN x
      · rw [hN] at H1 H2
        have q0 : (FloatKind.f64.format.order x x == some .eq) = true := by rw [order_same, hN]; rfl
        clear hN
        cases ha : Ieee.double.add s x with
        | some r =>
          have hq := run_add_some ha
          have HR := Lib.hid (sim_add HS.out ha)
          clear ha
          generalize cntTo l n = K at *
          go_wp2_with fail
          go_region
          go_wp2_with fail
          go_roundw
          case rel => exact ⟨n + 1, q + 1, r, by omega, by go_num, by rw [H2.out]; go_num, rfl, Lib.hid (by rw [H1.out]; exact Or.inl HR.out), rfl⟩
          case measure => simp [intOf]; omega
        | none =>
          have hq := run_add_none ha
          have HR := Lib.hid (sim_add_none HS.out ha)
          clear ha
          generalize cntTo l n = K at *
          go_wp2_with fail
          go_region
          go_wp2_with fail
          go_roundw
          case rel => exact ⟨n + 1, q + 2, _, by omega, by go_num, by rw [H2.out]; go_num, rfl, Lib.hid (by rw [H1.out]; exact Or.inr ⟨nanOf_nan _ _ _, HR.out⟩), rfl⟩
          case measure => simp [intOf]; omega
      · rw [hN] at H1 H2
        have q0 : (FloatKind.f64.format.order x x == some .eq) = false := by rw [order_same, hN]; rfl
        clear hN
        go_wp2_with fail
        go_region
        go_wp2_with fail
        go_roundw
        case rel => exact ⟨n + 1, q + 1, s, by omega, by go_num, by rw [H2.out]; rfl, rfl, Lib.hid (by rw [H1.out]; exact HS.out), rfl⟩
        case measure => simp [intOf]; omega
    · have hkl : n = l.length := by omega
      clear hn
      subst hkl
      have hcn := cntTo_le l l.length
      have HM := Lib.hid (show meanP l = if cntTo l l.length = 0 then 0 else divP (sumTo l l.length) (ofInt (cntTo l l.length)) from rfl)
      generalize hK : cntTo l l.length = K at *
      have HK := Lib.hid hK
      clear hK
      by_cases hz : K = 0
      · subst hz
        go_wp2
        exact bodyPost_ret (v := .tuple #[.float .f64 0, .int .i64 0]) (by simp [results, Try.results14, go_sem]) rfl (by
          have h1 : Sim 0 (meanP l) := by have h := HM.out; simp at h; rw [h]; exact Or.inl rfl
          first | exact ⟨0, q, by rw [HK.out]; rfl, h1, rfl⟩ | exact ⟨0, by rw [HK.out]; rfl, h1, q, rfl⟩ | exact ⟨0, by rw [HK.out]; rfl, h1, ⟨q, rfl⟩⟩)
      · have hz2 : ((K : Int) == 0) = false := by rw [beq_eq_false_iff_ne]; omega
        cases ha : Ieee.double.div s (ofInt K) with
        | some r =>
          have hq : ∀ w, (binOp .quo 22 (.float .f64 s) (.float .f64 (floatOfInt .f64 K))).run Try.prog w = .ok (.float .f64 r) w := fun w => by rw [ofInt_eq]; exact run_div_some ha w
          have HR := Lib.hid (sim_div HS.out ha)
          clear ha
          go_wp2
          exact bodyPost_ret (v := .tuple #[.float .f64 r, .int .i64 K]) (by simp [results, Try.results14, go_sem]) rfl ⟨r, q, by rw [HK.out], by rw [HM.out, if_neg hz]; exact Or.inl HR.out, rfl⟩
        | none =>
          have hq : ∀ w, (binOp .quo 22 (.float .f64 s) (.float .f64 (floatOfInt .f64 K))).run Try.prog w = .ok (.float .f64 (nanOf s (ofInt K) w)) w.drew := fun w => by rw [ofInt_eq]; exact run_div_none ha w
          have HR := Lib.hid (sim_div_none HS.out ha)
          clear ha
          go_wp2
          exact bodyPost_ret (v := .tuple #[.float .f64 (nanOf s (ofInt K) (w.drewN q)), .int .i64 K]) (by simp [results, Try.results14, go_sem]) rfl ⟨nanOf s (ofInt K) (w.drewN q), q + 1, by rw [HK.out], by rw [HM.out, if_neg hz]; exact Or.inr ⟨nanOf_nan _ _ _, HR.out⟩, rfl⟩

set_option maxHeartbeats 2000000 in
theorem greatest2_calls (A : Option Addr) (l : List Nat) (c : Nat) (w : World) (hcell : Fl w A l) (hl : l.length < 1000000000) :
    Calls Try.prog 17 #[.slice A l.length c] w fun e w' => ∃ q, e = .returned (.int .i64 (pickTo l l.length)) ∧ w' = w.drewN q := by
  have HC := Lib.hid hcell
  clear hcell
  go_enter Try.func17, Try.ntmps17
  go_wp2_with fail
  go_loopw [3, 4] (fun k i wr => ∃ n q : Nat, n ≤ l.length ∧ i = .int .i64 n ∧ k = .int .i64 (pickTo l n) ∧ wr = w.drewN q) (fun _ i _ => l.length - (intOf i).toNat)
  case atStart => exact ⟨0, 0, Nat.zero_le _, rfl, rfl, rfl⟩
  case round =>
    obtain ⟨n, q, hn, rfl, rfl, rfl⟩ := hrel
    by_cases hlt : n < l.length
    · obtain ⟨ad, e1, hx⟩ := HC.out n hlt
      subst e1
      obtain ⟨hp0, hp1⟩ := pickTo_range l n
      have HP := Lib.hid (pickTo_num l n)
      have HS := Lib.hid (show pickTo l (n + 1) = if isNaN (numAt l n) then pickTo l n else if pickTo l n < 0 then n else if ord (numAt l n) (numAt l (pickTo l n)) > 0 then n else pickTo l n from rfl)
      generalize numAt l n = x at *
      cases hN : isNaN x
      · have q0 : (FloatKind.f64.format.order x x == some .eq) = true := by rw [order_same, hN]; rfl
        by_cases hk : pickTo l n < 0
        · have HS2 := Lib.hid (show pickTo l (n + 1) = n by rw [HS.out]; simp [hN, hk])
          clear HS HP hN
          generalize pickTo l n = K at *
          have q1 : decide (K < 0) = true := by simpa using hk
          go_wp2_with fail
          go_region
          go_wp2_with fail
          go_roundw
          case rel => exact ⟨n + 1, q + 1, by omega, by go_num, by rw [HS2.out], rfl⟩
          case measure => simp [intOf]; omega
        · obtain ⟨ad2, e2, hy⟩ := HC.out (pickTo l n).toNat (by omega)
          cases e2
          rw [Int.toNat_of_nonneg (by omega)] at hy
          have hyn := HP.out (by omega)
          have q1 : decide (pickTo l n < 0) = false := by simpa using hk
          have ho : (ord x (numAt l (pickTo l n)) > 0) ↔ key (numAt l (pickTo l n)) < key x := by
            unfold ord
            simp only [hN, hyn, Bool.false_eq_true, if_false]
            split
            · simp; assumption
            · split <;> simp <;> omega
          have hgt := order_gt hN hyn
          by_cases h3 : key (numAt l (pickTo l n)) < key x
          · have q2 : (FloatKind.f64.format.order x (numAt l (pickTo l n)) == some .gt) = true := hgt.trans (by simpa using h3)
            have HS2 := Lib.hid (show pickTo l (n + 1) = n by rw [HS.out]; simp [hN, hk, ho.2 h3])
            clear HS HP hN hyn ho hgt h3
            generalize numAt l (pickTo l n) = y at *
            generalize pickTo l n = K at *
            go_wp2_with fail
            go_region
            go_wp2_with fail
            go_roundw
            case rel => exact ⟨n + 1, q + 1, by omega, by go_num, by rw [HS2.out], rfl⟩
            case measure => simp [intOf]; omega
          · have q2 : (FloatKind.f64.format.order x (numAt l (pickTo l n)) == some .gt) = false := hgt.trans (by simpa using h3)
            have HS2 := Lib.hid (show pickTo l (n + 1) = pickTo l n by
              rw [HS.out, hN]
              simp only [Bool.false_eq_true, if_false]
              rw [if_neg hk, if_neg (fun h => h3 (ho.1 h))])
            clear HS HP hN hyn ho hgt h3
            generalize numAt l (pickTo l n) = y at *
            go_wp2_with fail
            go_region
            go_wp2_with fail
            go_roundw
            case rel => exact ⟨n + 1, q + 1, by omega, by go_num, by rw [HS2.out], rfl⟩
            case measure => simp [intOf]; omega
      · have q0 : (FloatKind.f64.format.order x x == some .eq) = false := by rw [order_same, hN]; rfl
        have HS2 := Lib.hid (show pickTo l (n + 1) = pickTo l n by rw [HS.out]; simp [hN])
        clear HS HP hN
        go_wp2_with fail
        go_region
        go_wp2_with fail
        go_roundw
        case rel => exact ⟨n + 1, q + 1, by omega, by go_num, by rw [HS2.out], rfl⟩
        case measure => simp [intOf]; omega
    · have hkl : n = l.length := by omega
      clear hn
      subst hkl
      go_wp2
      go_ret
      exact ⟨q, rfl, rfl⟩
end Go.Proofs.Ytfgamapnoonklaa.H
