import Derived.Test.YtfgamapnoonklaaOrd
import Derived.Deep.LoopGhost
import Derived.Test.YtfgamapnoonklaaWMore
import Derived.Test.YtfgamapnoonklaaWZeros
namespace Go.Proofs.Ytfgamapnoonklaa.H
open Go.RowKit Key Go.Proofs.YtfgamapnoonklaaW.PrintWords Go.Proofs.YtfgamapnoonklaaW.PrintLast Go.Proofs.YtfgamapnoonklaaW.PrintMore
set_option linter.unusedVariables false
set_option linter.unusedSimpArgs false

theorem counts_calls (x : Nat) (w : World) : Calls Try.prog 25 #[.float .f64 x] w fun e w' => e = .returned (.bool (!isNaN x)) ∧ w = w' := by
  go_enter Try.func25, Try.ntmps25
  go_wp2_with (go_at_call 23; refine (isnan_calls _ _).mono ?_; rintro e w' ⟨rfl, rfl⟩)
  go_ret
  exact ⟨by simp, rfl⟩
theorem above_calls (x y : Nat) (w : World) : Calls Try.prog 26 #[.float .f64 x, .float .f64 y] w fun e w' => e = .returned (.bool (decide (ord x y > 0))) ∧ w = w' := by
  go_enter Try.func26, Try.ntmps26
  go_wp2_with (go_at_call 10; refine (order_any _ _ _).mono ?_; rintro e w' ⟨rfl, rfl⟩)
  go_ret
  exact ⟨by simp, rfl⟩

def numAt (l : List Nat) (i : Int) : Nat := l.getD i.toNat 0
def pickTo (l : List Nat) : Nat → Int
  | 0 => -1
  | n + 1 => if isNaN (numAt l n) then pickTo l n else if pickTo l n < 0 then n else if ord (numAt l n) (numAt l (pickTo l n)) > 0 then n else pickTo l n
theorem pickTo_range (l : List Nat) (n : Nat) : -1 ≤ pickTo l n ∧ pickTo l n < n := by
  induction n with
  | zero => simp [pickTo]
  | succ n ih => simp only [pickTo]; split <;> (try split) <;> (try split) <;> omega

/-- A row of numbers by their bits, in memory. -/
def Fl (w : World) (A : Option Addr) (l : List Nat) : Prop := ∀ i : Nat, i < l.length → ∃ ad, A = some ad ∧ w.cell? (ad.add i) = some (.float .f64 (numAt l i))
theorem Fl.below {w w' : World} {A : Option Addr} {l : List Nat} (h : Fl w A l) (hb : Below w.heap.size w w') : Fl w' A l := by
  intro i hi
  obtain ⟨ad, e, hc⟩ := h i hi
  exact ⟨ad, e, pw_cell_below hb hc⟩

set_option maxHeartbeats 2000000 in
theorem best_calls (A : Option Addr) (l : List Nat) (c : Nat) (w : World) (hcell : Fl w A l) (hl : l.length < 1000000000) :
    Calls Try.prog 24 #[.slice A l.length c, .func (Fn.func 25) #[] #[], .func (Fn.func 26) #[] #[]] w fun e w' => e = .returned (.int .i64 (pickTo l l.length)) ∧ w = w' := by
  have HC := Lib.hid hcell
  clear hcell
  go_enter Try.func24, Try.ntmps24
  go_wp2_with fail
  go_loop [7, 8, 9, 12] (fun k _ _ i => ∃ n : Nat, n ≤ l.length ∧ i = .int .i64 n ∧ k = .int .i64 (pickTo l n)) (fun _ _ _ i => l.length - (intOf i).toNat)
  case atStart => exact ⟨0, Nat.zero_le _, rfl, rfl⟩
  case round =>
    obtain ⟨n, hn, rfl, rfl⟩ := hrel
    by_cases hlt : n < l.length
    · obtain ⟨ad, e1, hx⟩ := HC.out n hlt
      subst e1
      obtain ⟨hp0, hp1⟩ := pickTo_range l n
      have HS := Lib.hid (show pickTo l (n + 1) = if isNaN (numAt l n) then pickTo l n else if pickTo l n < 0 then n else if ord (numAt l n) (numAt l (pickTo l n)) > 0 then n else pickTo l n from rfl)
      generalize numAt l n = x at *
      cases hN : isNaN x
      · by_cases hk : pickTo l n < 0
        · have HS2 := Lib.hid (show pickTo l (n + 1) = n by rw [HS.out]; simp [hN, hk])
          clear HS
          generalize pickTo l n = K at *
          go_wp2_with (first | (go_at_call 25; refine (counts_calls _ _).mono ?_; rintro e w' ⟨rfl, rfl⟩; simp only [hN, Bool.not_false]) | (go_at_call 26; fail))
          go_round
          case rel => exact ⟨n + 1, by omega, by go_num, by rw [HS2.out]⟩
          case measure => simp [intOf]; omega
        · obtain ⟨ad2, e2, hy⟩ := HC.out (pickTo l n).toNat (by omega)
          cases e2
          rw [Int.toNat_of_nonneg (by omega)] at hy
          by_cases ho : ord x (numAt l (pickTo l n)) > 0
          · have HS2 := Lib.hid (show pickTo l (n + 1) = n by rw [HS.out]; simp [hN, hk, ho])
            clear HS
            generalize numAt l (pickTo l n) = y at *
            generalize pickTo l n = K at *
            go_wp2_with (first | (go_at_call 25; refine (counts_calls _ _).mono ?_; rintro e w' ⟨rfl, rfl⟩; simp only [hN, Bool.not_false]) | (go_at_call 26; refine (above_calls _ _ _).mono ?_; rintro e w' ⟨rfl, rfl⟩; simp only [ho, decide_true]))
            go_round
            case rel => exact ⟨n + 1, by omega, by go_num, by rw [HS2.out]⟩
            case measure => simp [intOf]; omega
          · have HS2 := Lib.hid (show pickTo l (n + 1) = pickTo l n by rw [HS.out]; simp [hN, hk, ho])
            clear HS
            generalize numAt l (pickTo l n) = y at *
            go_wp2_with (first | (go_at_call 25; refine (counts_calls _ _).mono ?_; rintro e w' ⟨rfl, rfl⟩; simp only [hN, Bool.not_false]) | (go_at_call 26; refine (above_calls _ _ _).mono ?_; rintro e w' ⟨rfl, rfl⟩; simp only [ho, decide_false]))
            go_round
            case rel => exact ⟨n + 1, by omega, by go_num, by rw [HS2.out]⟩
            case measure => simp [intOf]; omega
      · have HS2 := Lib.hid (show pickTo l (n + 1) = pickTo l n by rw [HS.out]; simp [hN])
        clear HS
        go_wp2_with (first | (go_at_call 25; refine (counts_calls _ _).mono ?_; rintro e w' ⟨rfl, rfl⟩; simp only [hN, Bool.not_true]) | (go_at_call 26; fail))
        go_round
        case rel => exact ⟨n + 1, by omega, by go_num, by rw [HS2.out]⟩
        case measure => simp [intOf]; omega
    · have hkl : n = l.length := by omega
      subst hkl
      go_wp2
      go_ret
      exact ⟨rfl, rfl⟩

theorem greatest_calls (A : Option Addr) (l : List Nat) (c : Nat) (w : World) (hcell : Fl w A l) (hl : l.length < 1000000000) :
    Calls Try.prog 11 #[.slice A l.length c] w fun e w' => e = .returned (.int .i64 (pickTo l l.length)) ∧ w = w' := by
  have HC := Lib.hid hcell
  clear hcell
  go_enter Try.func11, Try.ntmps11
  go_wp2_with (go_at_call 24; refine (best_calls A l c _ HC.out hl).mono ?_; rintro e w' ⟨rfl, rfl⟩)
  go_ret
  exact ⟨rfl, rfl⟩

/-- The one picked is a number. -/
theorem pickTo_num (l : List Nat) (n : Nat) (h : 0 ≤ pickTo l n) : isNaN (numAt l (pickTo l n)) = false := by
  induction n with
  | zero => simp [pickTo] at h
  | succ n ih =>
    simp only [pickTo] at h ⊢
    cases hN : isNaN (numAt l n)
    · simp only [hN, Bool.false_eq_true, if_false] at h ⊢
      by_cases h1 : pickTo l n < 0
      · rw [if_pos h1]; exact hN
      · rw [if_neg h1]
        split
        · exact hN
        · exact ih (by omega)
    · simp only [hN, if_true] at h ⊢
      exact ih h
/-- Each number is at most the one picked, the ones ahead of it are less. -/
theorem pickTo_most (l : List Nat) (n : Nat) : ∀ i : Nat, i < n → isNaN (numAt l i) = false → 0 ≤ pickTo l n ∧ key (numAt l i) ≤ key (numAt l (pickTo l n)) ∧ ((i : Int) < pickTo l n → key (numAt l i) < key (numAt l (pickTo l n))) := by
  induction n with
  | zero => intro i h; omega
  | succ n ih =>
    intro i hi hN
    have hp := pickTo_range l n
    have hq := pickTo_num l n
    simp only [pickTo]
    cases hM : isNaN (numAt l n)
    · simp only [Bool.false_eq_true, if_false]
      by_cases h1 : pickTo l n < 0
      · rw [if_pos h1]
        by_cases hin : i < n
        · have := ih i hin hN; omega
        · have e : i = n := by omega
          subst e
          exact ⟨by omega, Int.le_refl _, by omega⟩
      · rw [if_neg h1]
        have hq := hq (by omega)
        have ho : (ord (numAt l n) (numAt l (pickTo l n)) > 0) ↔ key (numAt l (pickTo l n)) < key (numAt l n) := by
          unfold ord
          simp only [hM, hq, Bool.false_eq_true, if_false]
          split
          · simp; assumption
          · split <;> simp <;> omega
        by_cases h2 : key (numAt l (pickTo l n)) < key (numAt l n)
        · rw [if_pos (ho.2 h2)]
          by_cases hin : i < n
          · have := ih i hin hN; exact ⟨by omega, by omega, by intro _; omega⟩
          · have e : i = n := by omega
            subst e
            exact ⟨by omega, Int.le_refl _, by omega⟩
        · rw [if_neg (fun h => h2 (ho.1 h))]
          by_cases hin : i < n
          · exact ih i hin hN
          · have e : i = n := by omega
            subst e
            exact ⟨by omega, by omega, by omega⟩
    · simp only [if_true]
      by_cases hin : i < n
      · exact ih i hin hN
      · have e : i = n := by omega
        subst e
        rw [hM] at hN; cases hN
end Go.Proofs.Ytfgamapnoonklaa.H
