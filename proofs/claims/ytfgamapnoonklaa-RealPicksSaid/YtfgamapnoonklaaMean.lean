/- What Mean answers, and the document's: contracts. Condition: the slice holds numbers by their bits. A NaN's bits are the machine's choice: they are told up to these. -/
import Derived.Test.YtfgamapnoonklaaBest
import Derived.Test.YtfgamapnoonklaaRate
namespace Go.Proofs.Ytfgamapnoonklaa.H
open Go.RowKit Key Go.Proofs.YtfgamapnoonklaaW.PrintWords Go.Proofs.YtfgamapnoonklaaW.PrintLast Go.Proofs.YtfgamapnoonklaaW.PrintMore
set_option linter.unusedVariables false
set_option linter.unusedSimpArgs false

/-- The same number, or both none. -/
def Sim (s t : Nat) : Prop := s = t ∨ (isNaN s = true ∧ isNaN t = true)
def nanC : Nat := 9221120237041090560
def addP (s x : Nat) : Nat := (Ieee.double.add s x).getD nanC
def divP (s x : Nat) : Nat := (Ieee.double.div s x).getD nanC
theorem nanC_nan : isNaN nanC = true := by decide +kernel

theorem read_isNaN {x : Nat} (h : isNaN x = true) : ∃ s n, Ieee.double.read x = .nan s n := by
  refine ⟨_, _, read_nan ?_⟩
  simpa [isNaN] using h
theorem add_nan {s : Nat} (x : Nat) (h : isNaN s = true) : Ieee.double.add s x = none := by
  obtain ⟨a, b, e⟩ := read_isNaN h
  unfold Ieee.Format.add
  rw [e]
  cases Ieee.double.read x <;> rfl
theorem div_nan {s : Nat} (x : Nat) (h : isNaN s = true) : Ieee.double.div s x = none := by
  obtain ⟨a, b, e⟩ := read_isNaN h
  unfold Ieee.Format.div
  rw [e]
  cases Ieee.double.read x <;> rfl
theorem sim_add {s t x r : Nat} (h : Sim s t) (ha : Ieee.double.add s x = some r) : r = addP t x := by
  rcases h with rfl | ⟨h1, _⟩
  · simp [addP, ha]
  · rw [add_nan x h1] at ha; cases ha
theorem sim_add_none {s t x : Nat} (h : Sim s t) (ha : Ieee.double.add s x = none) : isNaN (addP t x) = true := by
  rcases h with rfl | ⟨_, h2⟩
  · simp [addP, ha, nanC_nan]
  · simp [addP, add_nan x h2, nanC_nan]
theorem sim_div {s t x r : Nat} (h : Sim s t) (ha : Ieee.double.div s x = some r) : r = divP t x := by
  rcases h with rfl | ⟨h1, _⟩
  · simp [divP, ha]
  · rw [div_nan x h1] at ha; cases ha
theorem sim_div_none {s t x : Nat} (h : Sim s t) (ha : Ieee.double.div s x = none) : isNaN (divP t x) = true := by
  rcases h with rfl | ⟨_, h2⟩
  · simp [divP, ha, nanC_nan]
  · simp [divP, div_nan x h2, nanC_nan]

theorem run_add_some {s x r : Nat} (h : Ieee.double.add s x = some r) (w : World) : (binOp .add 22 (.float .f64 s) (.float .f64 x)).run Try.prog w = .ok (.float .f64 r) w :=
  run_float_arith w .add 22 .f64 _ _ _ h
theorem run_add_none {s x : Nat} (h : Ieee.double.add s x = none) (w : World) : (binOp .add 22 (.float .f64 s) (.float .f64 x)).run Try.prog w = .ok (.float .f64 (nanOf s x w)) w.drew := by
  have : Ieee.Format.add FloatKind.f64.format s x = none := h
  simp [binOp, Op.floatArith, this]
  rw [if_neg (by simp [Question.forced])]
  rfl
theorem run_div_some {s x r : Nat} (h : Ieee.double.div s x = some r) (w : World) : (binOp .quo 22 (.float .f64 s) (.float .f64 x)).run Try.prog w = .ok (.float .f64 r) w :=
  run_float_arith w .quo 22 .f64 _ _ _ h
theorem run_div_none {s x : Nat} (h : Ieee.double.div s x = none) (w : World) : (binOp .quo 22 (.float .f64 s) (.float .f64 x)).run Try.prog w = .ok (.float .f64 (nanOf s x w)) w.drew := by
  have : Ieee.Format.div FloatKind.f64.format s x = none := h
  simp [binOp, Op.floatArith, this]
  rw [if_neg (by simp [Question.forced])]
  rfl

/-- The sum so far, and how many are numbers. -/
def sumTo (l : List Nat) : Nat → Nat
  | 0 => 0
  | n + 1 => if isNaN (numAt l n) then sumTo l n else addP (sumTo l n) (numAt l n)
def cntTo (l : List Nat) : Nat → Nat
  | 0 => 0
  | n + 1 => if isNaN (numAt l n) then cntTo l n else cntTo l n + 1
theorem cntTo_le (l : List Nat) (n : Nat) : cntTo l n ≤ n := by
  induction n with
  | zero => simp [cntTo]
  | succ n ih => simp only [cntTo]; split <;> omega
/-- The mean: its bits. -/
def meanP (l : List Nat) : Nat := if cntTo l l.length = 0 then 0 else divP (sumTo l l.length) (ofInt (cntTo l l.length))

set_option maxHeartbeats 2000000 in
theorem mean_calls (A : Option Addr) (l : List Nat) (c : Nat) (w : World) (hcell : Fl w A l) (hl : l.length < 1000000000) :
    Calls Try.prog 13 #[.slice A l.length c] w fun e w' => ∃ x q, e = .returned (.tuple #[.float .f64 x, .int .i64 (cntTo l l.length)]) ∧ Sim x (meanP l) ∧ w' = w.drewN q := by
  have HC := Lib.hid hcell
  clear hcell
  go_enter Try.func13, Try.ntmps13
  go_wp2_with fail
  go_loopw [4, 5, 7, 10] (fun s k _ i wr => ∃ (n q : Nat) (x : Nat), n ≤ l.length ∧ i = .int .i64 n ∧ k = .int .i64 (cntTo l n) ∧ s = .float .f64 x ∧ Hid (Sim x (sumTo l n)) ∧ wr = w.drewN q) (fun _ _ _ i _ => l.length - (intOf i).toNat)
  case atStart => exact ⟨0, 0, 0, Nat.zero_le _, rfl, rfl, rfl, Lib.hid (Or.inl rfl), rfl⟩
  case round =>
    obtain ⟨n, q, s, hn, rfl, rfl, rfl, HS, rfl⟩ := hrel
    by_cases hlt : n < l.length
    · obtain ⟨ad, e1, hx⟩ := HC.out n hlt
      subst e1
      have hcn := cntTo_le l n
      have H1 := Lib.hid (show sumTo l (n + 1) = if isNaN (numAt l n) then sumTo l n else addP (sumTo l n) (numAt l n) from rfl)
      have H2 := Lib.hid (show cntTo l (n + 1) = if isNaN (numAt l n) then cntTo l n else cntTo l n + 1 from rfl)
      generalize numAt l n = x at *
      cases hN : isNaN x
      · rw [hN] at H1 H2
        cases ha : Ieee.double.add s x with
        | some r =>
          have hq := run_add_some ha
          have HR := Lib.hid (sim_add HS.out ha)
          clear ha
          generalize cntTo l n = K at *
          go_wp2_with (go_at_call 23; refine (isnan_calls _ _).mono ?_; rintro e w' ⟨rfl, rfl⟩; rw [hN])
          go_roundw
          case rel => exact ⟨n + 1, q, r, by omega, by go_num, by rw [H2.out]; go_num, rfl, Lib.hid (by rw [H1.out]; exact Or.inl HR.out), rfl⟩
          case measure => simp [intOf]; omega
        | none =>
          have hq := run_add_none ha
          have HR := Lib.hid (sim_add_none HS.out ha)
          clear ha
          generalize cntTo l n = K at *
          go_wp2_with (go_at_call 23; refine (isnan_calls _ _).mono ?_; rintro e w' ⟨rfl, rfl⟩; rw [hN])
          go_roundw
          case rel => exact ⟨n + 1, q + 1, _, by omega, by go_num, by rw [H2.out]; go_num, rfl, Lib.hid (by rw [H1.out]; exact Or.inr ⟨nanOf_nan _ _ _, HR.out⟩), rfl⟩
          case measure => simp [intOf]; omega
      · rw [hN] at H1 H2
        go_wp2_with (go_at_call 23; refine (isnan_calls _ _).mono ?_; rintro e w' ⟨rfl, rfl⟩; rw [hN])
        go_roundw
        case rel => exact ⟨n + 1, q, s, by omega, by go_num, by rw [H2.out]; rfl, rfl, Lib.hid (by rw [H1.out]; exact HS.out), rfl⟩
        case measure => simp [intOf]; omega
    · have hkl : n = l.length := by omega
      clear hn
      subst hkl
      have hcn := cntTo_le l l.length
      have HM := Lib.hid (show meanP l = if cntTo l l.length = 0 then 0 else divP (sumTo l l.length) (ofInt (cntTo l l.length)) from rfl)
      generalize hK : cntTo l l.length = K at *
      have HK := Lib.hid hK
      clear hK
      by_cases hz : K = 0
      · subst hz
        go_wp2
        exact bodyPost_ret (v := .tuple #[.float .f64 0, .int .i64 0]) (by simp [results, Try.results13, go_sem]) rfl (by
          have h1 : Sim 0 (meanP l) := by have h := HM.out; simp at h; rw [h]; exact Or.inl rfl
          first | exact ⟨0, q, by rw [HK.out]; rfl, h1, rfl⟩ | exact ⟨0, by rw [HK.out]; rfl, h1, q, rfl⟩ | exact ⟨0, by rw [HK.out]; rfl, h1, ⟨q, rfl⟩⟩)
      · have hz2 : ((K : Int) == 0) = false := by rw [beq_eq_false_iff_ne]; omega
        cases ha : Ieee.double.div s (ofInt K) with
        | some r =>
          have hq : ∀ w, (binOp .quo 22 (.float .f64 s) (.float .f64 (floatOfInt .f64 K))).run Try.prog w = .ok (.float .f64 r) w := fun w => by rw [ofInt_eq]; exact run_div_some ha w
          have HR := Lib.hid (sim_div HS.out ha)
          clear ha
          go_wp2
          exact bodyPost_ret (v := .tuple #[.float .f64 r, .int .i64 K]) (by simp [results, Try.results13, go_sem]) rfl ⟨r, q, by rw [HK.out], by rw [HM.out, if_neg hz]; exact Or.inl HR.out, rfl⟩
        | none =>
          have hq : ∀ w, (binOp .quo 22 (.float .f64 s) (.float .f64 (floatOfInt .f64 K))).run Try.prog w = .ok (.float .f64 (nanOf s (ofInt K) w)) w.drew := fun w => by rw [ofInt_eq]; exact run_div_none ha w
          have HR := Lib.hid (sim_div_none HS.out ha)
          clear ha
          go_wp2
          exact bodyPost_ret (v := .tuple #[.float .f64 (nanOf s (ofInt K) (w.drewN q)), .int .i64 K]) (by simp [results, Try.results13, go_sem]) rfl ⟨nanOf s (ofInt K) (w.drewN q), q + 1, by rw [HK.out], by rw [HM.out, if_neg hz]; exact Or.inr ⟨nanOf_nan _ _ _, HR.out⟩, rfl⟩
end Go.Proofs.Ytfgamapnoonklaa.H
