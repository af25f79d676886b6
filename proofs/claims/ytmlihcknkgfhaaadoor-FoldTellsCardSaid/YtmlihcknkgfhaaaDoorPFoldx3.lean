/- Functions that a law calls, and the walk of the law itself, told by a program of this session (pp.py) over the kit printer; no condition beyond the statement itself; not trusted: Lean checks it. -/
import Derived.Test.YtmlihcknkgfhaaaDoorPFoldx0
import Derived.Test.YtmlihcknkgfhaaaDoorPFoldx2
namespace Go.Proofs.YtmlihcknkgfhaaaDoor.PFold
open Go.RowKit Go.Proofs.YtmlihcknkgfhaaaDoorW.PrintWords Go.Proofs.YtmlihcknkgfhaaaDoorW.PrintLast Go.Proofs.YtmlihcknkgfhaaaDoorW.PrintMore
attribute [local go_sem] max2_int min2_int max_two min_two max_three min_three max_four min_four   -- for this text's walks alone
set_option linter.unusedVariables false
set_option linter.unusedSimpArgs false

/-! ### peerageref05_Count: function 10 -/
def peerageref05_Count.l0 : Nat → ByteArray → Int → Option (Int)
  | 0, _, _ => none
  | k + 1, x0, x3 => if (x0.size : Int) > 0 then ((peerageref05_Next.f k x0).bind fun bt107 => (if bt107.2 = 0 then (some (-1)) else (if 0 ≤ bt107.2 then (if bt107.2 ≤ (x0.size : Int) then (peerageref05_Count.l0 k (x0.extract (bt107.2 : Int).toNat x0.size) (wrap64 (x3 + 1))) else (none)) else (none)))) else (some x3)
def peerageref05_Count.f (k : Nat) (a0 : ByteArray) : Option (Int) := peerageref05_Count.l0 k a0 0
theorem peerageref05_Count.mono_l : ∀ k, (∀ y0 y1, LeO (peerageref05_Count.l0 k y0 y1) (peerageref05_Count.l0 (k + 1) y0 y1))
  | 0 => fun _ _ r h => by simp [peerageref05_Count.l0] at h
  | k + 1 => by
    have ih0 := peerageref05_Count.mono_l k
    · intro y0 y1
      unfold peerageref05_Count.l0
      repeat' first
      | (with_reducible exact ih0 _ _)
      | (with_reducible exact peerageref05_Next.mono _ _)
      | (with_reducible exact LeO.refl _)
      | (with_reducible exact LeO.none _)
      | (with_reducible refine LeO.ite ?_ ?_)
      | (with_reducible refine LeO.bind ?_ (fun _ => ?_))
      | exact ih0 _ _
      | exact peerageref05_Next.mono _ _
      | exact LeO.none _
      | refine LeO.ite ?_ ?_
      | refine LeO.bind ?_ (fun _ => ?_)
theorem peerageref05_Count.mono : ∀ a0 k, LeO (peerageref05_Count.f k a0) (peerageref05_Count.f (k + 1) a0) := by
  intro a0 k
  have ih0 := peerageref05_Count.mono_l k
  unfold peerageref05_Count.f
  repeat' first
      | (with_reducible exact ih0 _ _)
      | (with_reducible exact peerageref05_Next.mono _ _)
      | (with_reducible exact LeO.refl _)
      | (with_reducible exact LeO.none _)
      | (with_reducible refine LeO.ite ?_ ?_)
      | (with_reducible refine LeO.bind ?_ (fun _ => ?_))
      | exact ih0 _ _
      | exact peerageref05_Next.mono _ _
      | exact LeO.none _
      | refine LeO.ite ?_ ?_
      | refine LeO.bind ?_ (fun _ => ?_)
set_option maxHeartbeats 2000000 in
set_option maxRecDepth 100000 in
theorem peerageref05_Count.calls (k : Nat) (a0 : ByteArray) (r : Int) (w : World) (h : peerageref05_Count.f k a0 = some r) :
    Calls Tryd.prog 10 #[.string a0] w fun e w' => e = .returned (.int .i64 r) ∧ Drawn0 w w' := by
  have H : (peerageref05_Count.l0 k a0 0) = some r := h
  clear h
  have H' := Aside0.mk H
  clear H
  go_enter Tryd.func10, Tryd.ntmps10
  go_wp2
  go_loopg [0, 3] k (fun kq v0 v3 w' => ∃ (x0_1 : ByteArray) (x3_1 : Int), v0 = .string x0_1 ∧ v3 = .int .i64 x3_1 ∧ Aside0 (peerageref05_Count.l0 kq x0_1 x3_1 = some r) ∧ Aside0 (kq ≤ k) ∧ Drawn0 w w')
  case atStart => exact ⟨(a0), (0), (by first | rfl | (simp; done) | (simp [*]; done)), (by first | rfl | (simp; done) | (simp [*]; done)), H', ⟨Nat.le_refl _⟩, by repeat (first | exact Drawn0.refl _ | apply Drawn0.step)⟩
  case round =>
    clear H'
    try clear c1
    obtain ⟨x0_1, x3_1, rfl, rfl, HA, HK1, ⟨m1, rfl⟩⟩ := hrel
    cases gk with
    | zero => exact absurd HA.out (by simp [peerageref05_Count.l0])
    | succ k1 =>
      have H := HA.out
      clear HA
      simp only [peerageref05_Count.l0] at H
      by_cases c2 : (x0_1.size : Int) > 0
      · rw [if_pos c2] at H
        have c2b0 : decide (0 < (x0_1.size : Int)) = true := decide_eq_true c2
        have c2b1 : decide (0 < x0_1.size) = true := decide_eq_true (by omega)
        clear c2
        replace H := Option.bind_eq_some_iff.mp H
        obtain ⟨⟨t107, t108⟩, A30, H⟩ := H
        replace H : (if t108 = 0 then (some (-1)) else (if 0 ≤ t108 then (if t108 ≤ (x0_1.size : Int) then (peerageref05_Count.l0 k1 (x0_1.extract (t108 : Int).toNat x0_1.size) (wrap64 (x3_1 + 1))) else (none)) else (none))) = some r := H
        have A3 := Aside0.mk A30
        clear A30
        by_cases c4 : t108 = 0
        · rw [if_pos c4] at H
          have c4b0 : (t108 == 0) = true := beq_iff_eq.mpr c4
          have c4b1 : (t108 != 0) = false := bne_eq_false_iff_eq.mpr c4
          clear c4
          obtain rfl := Option.some.inj H
          go_wp2_with (first | ((with_reducible refine gate_callee (f := 6) rfl ?_); refine goesL_ (some 11) rfl rfl Tryd.func6 (by kernel_rfl) rfl #[.string x0_1] rfl (by (try simp only [List.map_toArray, List.map_cons, List.map_nil]); first | done | rfl | (simp only [List.length_drop, List.length_take]; rfl)) ?_; (with_reducible refine (peerageref05_Next.calls k1 x0_1 t107 t108 _ A3.out).mono ?_); rintro e w' ⟨rfl, ⟨nd, rfl⟩⟩; refine ⟨_, rfl, ?_⟩))
          go_ret
          exact ⟨by first | rfl | (generalize x4_1.toList = z_; cases z_ <;> rfl) | (simp; done) | (simp [*]; done), by repeat (first | exact Drawn0.refl _ | apply Drawn0.step)⟩
        · rw [if_neg c4] at H
          have c4b0 : (t108 == 0) = false := beq_eq_false_iff_ne.mpr c4
          have c4b1 : (t108 != 0) = true := bne_iff_ne.mpr c4
          by_cases c5 : 0 ≤ t108
          · rw [if_pos c5] at H
            have c5b0 := eq_true c5
            have c5b1 : decide (0 ≤ t108) = true := decide_eq_true c5
            clear c5
            by_cases c6 : t108 ≤ (x0_1.size : Int)
            · rw [if_pos c6] at H
              have c6b0 := eq_true c6
              have c6b1 : decide (t108 ≤ (x0_1.size : Int)) = true := decide_eq_true c6
              clear c6
              have H' := Aside0.mk H
              clear H
              go_wp2_with (first | ((with_reducible refine gate_callee (f := 6) rfl ?_); refine goesL_ (some 11) rfl rfl Tryd.func6 (by kernel_rfl) rfl #[.string x0_1] rfl (by (try simp only [List.map_toArray, List.map_cons, List.map_nil]); first | done | rfl | (simp only [List.length_drop, List.length_take]; rfl)) ?_; (with_reducible refine (peerageref05_Next.calls k1 x0_1 t107 t108 _ A3.out).mono ?_); rintro e w' ⟨rfl, ⟨nd, rfl⟩⟩; refine ⟨_, rfl, ?_⟩))
              go_roundg k1
              case measure => have := HK1.out; omega
              case rel => exact ⟨(x0_1.extract (t108 : Int).toNat x0_1.size), (wrap64 (x3_1 + 1)), (by first | rfl | (simp; done) | (simp [*]; done)), (by first | rfl | (simp; done) | (simp [*]; done)), H', ⟨by have := HK1.out; omega⟩, by repeat (first | exact Drawn0.refl _ | apply Drawn0.step)⟩
            · rw [if_neg c6] at H
              exact absurd H (by simp)
          · rw [if_neg c5] at H
            exact absurd H (by simp)
      · rw [if_neg c2] at H
        have c2b0 : decide (0 < (x0_1.size : Int)) = false := decide_eq_false c2
        have c2b1 : decide (0 < x0_1.size) = false := decide_eq_false (by omega)
        clear c2
        obtain rfl := Option.some.inj H
        go_wp2
        go_ret
        exact ⟨by first | rfl | (generalize x4_1.toList = z_; cases z_ <;> rfl) | (simp; done) | (simp [*]; done), by repeat (first | exact Drawn0.refl _ | apply Drawn0.step)⟩

/-! ### peerageref05_blank: function 32 -/
def peerageref05_blank.f (a0 : Int) : Option (Bool) := if a0 ≥ 9 then (if a0 ≤ 13 then (some true) else (if a0 = 32 then (some true) else (if a0 = 133 then (some true) else (some (a0 == 160))))) else (if a0 = 32 then (some true) else (if a0 = 133 then (some true) else (some (a0 == 160))))
set_option maxHeartbeats 2000000 in
set_option maxRecDepth 100000 in
theorem peerageref05_blank.calls (a0 : Int) (r : Bool) (w : World) (h : peerageref05_blank.f a0 = some r) :
    Calls Tryd.prog 32 #[.int .i32 a0] w fun e w' => e = .returned (.bool r) ∧ Drawn0 w w' := by
  have H : (if a0 ≥ 9 then (if a0 ≤ 13 then (some true) else (if a0 = 32 then (some true) else (if a0 = 133 then (some true) else (some (a0 == 160))))) else (if a0 = 32 then (some true) else (if a0 = 133 then (some true) else (some (a0 == 160))))) = some r := h
  clear h
  by_cases c2 : a0 ≥ 9
  · rw [if_pos c2] at H
    have c2b0 : decide (9 ≤ a0) = true := decide_eq_true c2
    clear c2
    by_cases c3 : a0 ≤ 13
    · rw [if_pos c3] at H
      have c3b0 : decide (a0 ≤ 13) = true := decide_eq_true c3
      clear c3
      obtain rfl := Option.some.inj H
      go_enter Tryd.func32, Tryd.ntmps32
      go_wp2
      go_ret
      exact ⟨by first | rfl | (generalize x4_1.toList = z_; cases z_ <;> rfl) | (simp; done) | (simp [*]; done), by repeat (first | exact Drawn0.refl _ | apply Drawn0.step)⟩
    · rw [if_neg c3] at H
      have c3b0 : decide (a0 ≤ 13) = false := decide_eq_false c3
      clear c3
      by_cases c4 : a0 = 32
      · rw [if_pos c4] at H
        have c4b0 : (a0 == 32) = true := beq_iff_eq.mpr c4
        have c4b1 : (a0 != 32) = false := bne_eq_false_iff_eq.mpr c4
        clear c4
        obtain rfl := Option.some.inj H
        go_enter Tryd.func32, Tryd.ntmps32
        go_wp2
        go_ret
        exact ⟨by first | rfl | (generalize x4_1.toList = z_; cases z_ <;> rfl) | (simp; done) | (simp [*]; done), by repeat (first | exact Drawn0.refl _ | apply Drawn0.step)⟩
      · rw [if_neg c4] at H
        have c4b0 : (a0 == 32) = false := beq_eq_false_iff_ne.mpr c4
        have c4b1 : (a0 != 32) = true := bne_iff_ne.mpr c4
        by_cases c5 : a0 = 133
        · rw [if_pos c5] at H
          have c5b0 : (a0 == 133) = true := beq_iff_eq.mpr c5
          have c5b1 : (a0 != 133) = false := bne_eq_false_iff_eq.mpr c5
          clear c5
          obtain rfl := Option.some.inj H
          go_enter Tryd.func32, Tryd.ntmps32
          go_wp2
          go_ret
          exact ⟨by first | rfl | (generalize x4_1.toList = z_; cases z_ <;> rfl) | (simp; done) | (simp [*]; done), by repeat (first | exact Drawn0.refl _ | apply Drawn0.step)⟩
        · rw [if_neg c5] at H
          have c5b0 : (a0 == 133) = false := beq_eq_false_iff_ne.mpr c5
          have c5b1 : (a0 != 133) = true := bne_iff_ne.mpr c5
          obtain rfl := Option.some.inj H
          go_enter Tryd.func32, Tryd.ntmps32
          go_wp2
          go_ret
          exact ⟨by first | rfl | (generalize x4_1.toList = z_; cases z_ <;> rfl) | (simp; done) | (simp [*]; done), by repeat (first | exact Drawn0.refl _ | apply Drawn0.step)⟩
  · rw [if_neg c2] at H
    have c2b0 : decide (9 ≤ a0) = false := decide_eq_false c2
    clear c2
    by_cases c6 : a0 = 32
    · rw [if_pos c6] at H
      have c6b0 : (a0 == 32) = true := beq_iff_eq.mpr c6
      have c6b1 : (a0 != 32) = false := bne_eq_false_iff_eq.mpr c6
      clear c6
      obtain rfl := Option.some.inj H
      go_enter Tryd.func32, Tryd.ntmps32
      go_wp2
      go_ret
      exact ⟨by first | rfl | (generalize x4_1.toList = z_; cases z_ <;> rfl) | (simp; done) | (simp [*]; done), by repeat (first | exact Drawn0.refl _ | apply Drawn0.step)⟩
    · rw [if_neg c6] at H
      have c6b0 : (a0 == 32) = false := beq_eq_false_iff_ne.mpr c6
      have c6b1 : (a0 != 32) = true := bne_iff_ne.mpr c6
      by_cases c7 : a0 = 133
      · rw [if_pos c7] at H
        have c7b0 : (a0 == 133) = true := beq_iff_eq.mpr c7
        have c7b1 : (a0 != 133) = false := bne_eq_false_iff_eq.mpr c7
        clear c7
        obtain rfl := Option.some.inj H
        go_enter Tryd.func32, Tryd.ntmps32
        go_wp2
        go_ret
        exact ⟨by first | rfl | (generalize x4_1.toList = z_; cases z_ <;> rfl) | (simp; done) | (simp [*]; done), by repeat (first | exact Drawn0.refl _ | apply Drawn0.step)⟩
      · rw [if_neg c7] at H
        have c7b0 : (a0 == 133) = false := beq_eq_false_iff_ne.mpr c7
        have c7b1 : (a0 != 133) = true := bne_iff_ne.mpr c7
        obtain rfl := Option.some.inj H
        go_enter Tryd.func32, Tryd.ntmps32
        go_wp2
        go_ret
        exact ⟨by first | rfl | (generalize x4_1.toList = z_; cases z_ <;> rfl) | (simp; done) | (simp [*]; done), by repeat (first | exact Drawn0.refl _ | apply Drawn0.step)⟩

/-! ### peerageref05_nothing: function 31 -/
def peerageref05_nothing.f (a0 : Int) : Option (Bool) := if a0 < 32 then ((peerageref05_blank.f a0).bind fun t109 => (if t109 = true then (if a0 = 127 then (some true) else (if a0 = 173 then (some true) else (some (a0 == 8203)))) else (some true))) else (if a0 = 127 then (some true) else (if a0 = 173 then (some true) else (some (a0 == 8203))))
set_option maxHeartbeats 2000000 in
set_option maxRecDepth 100000 in
theorem peerageref05_nothing.calls (a0 : Int) (r : Bool) (w : World) (h : peerageref05_nothing.f a0 = some r) :
    Calls Tryd.prog 31 #[.int .i32 a0] w fun e w' => e = .returned (.bool r) ∧ Drawn0 w w' := by
  have H : (if a0 < 32 then ((peerageref05_blank.f a0).bind fun t109 => (if t109 = true then (if a0 = 127 then (some true) else (if a0 = 173 then (some true) else (some (a0 == 8203)))) else (some true))) else (if a0 = 127 then (some true) else (if a0 = 173 then (some true) else (some (a0 == 8203))))) = some r := h
  clear h
  by_cases c2 : a0 < 32
  · rw [if_pos c2] at H
    have c2b0 : decide (a0 < 32) = true := decide_eq_true c2
    clear c2
    replace H := Option.bind_eq_some_iff.mp H
    obtain ⟨t109, A30, H⟩ := H
    replace H : (if t109 = true then (if a0 = 127 then (some true) else (if a0 = 173 then (some true) else (some (a0 == 8203)))) else (some true)) = some r := H
    have A3 := Aside0.mk A30
    clear A30
    by_cases c4 : t109 = true
    · subst c4
      have H1 : (if a0 = 127 then (some true) else (if a0 = 173 then (some true) else (some (a0 == 8203)))) = some r := by rw [if_pos rfl] at H; exact H
      clear H
      have H := H1
      clear H1
      by_cases c5 : a0 = 127
      · rw [if_pos c5] at H
        have c5b0 : (a0 == 127) = true := beq_iff_eq.mpr c5
        have c5b1 : (a0 != 127) = false := bne_eq_false_iff_eq.mpr c5
        clear c5
        obtain rfl := Option.some.inj H
        go_enter Tryd.func31, Tryd.ntmps31
        go_wp2_with (first | (go_at_call 32; (with_reducible refine (peerageref05_blank.calls a0 true _ A3.out).mono ?_); rintro e w' ⟨rfl, ⟨nd, rfl⟩⟩))
        go_ret
        exact ⟨by first | rfl | (generalize x4_1.toList = z_; cases z_ <;> rfl) | (simp; done) | (simp [*]; done), by repeat (first | exact Drawn0.refl _ | apply Drawn0.step)⟩
      · rw [if_neg c5] at H
        have c5b0 : (a0 == 127) = false := beq_eq_false_iff_ne.mpr c5
        have c5b1 : (a0 != 127) = true := bne_iff_ne.mpr c5
        by_cases c6 : a0 = 173
        · rw [if_pos c6] at H
          have c6b0 : (a0 == 173) = true := beq_iff_eq.mpr c6
          have c6b1 : (a0 != 173) = false := bne_eq_false_iff_eq.mpr c6
          clear c6
          obtain rfl := Option.some.inj H
          go_enter Tryd.func31, Tryd.ntmps31
          go_wp2_with (first | (go_at_call 32; (with_reducible refine (peerageref05_blank.calls a0 true _ A3.out).mono ?_); rintro e w' ⟨rfl, ⟨nd, rfl⟩⟩))
          go_ret
          exact ⟨by first | rfl | (generalize x4_1.toList = z_; cases z_ <;> rfl) | (simp; done) | (simp [*]; done), by repeat (first | exact Drawn0.refl _ | apply Drawn0.step)⟩
        · rw [if_neg c6] at H
          have c6b0 : (a0 == 173) = false := beq_eq_false_iff_ne.mpr c6
          have c6b1 : (a0 != 173) = true := bne_iff_ne.mpr c6
          obtain rfl := Option.some.inj H
          go_enter Tryd.func31, Tryd.ntmps31
          go_wp2_with (first | (go_at_call 32; (with_reducible refine (peerageref05_blank.calls a0 true _ A3.out).mono ?_); rintro e w' ⟨rfl, ⟨nd, rfl⟩⟩))
          go_ret
          exact ⟨by first | rfl | (generalize x4_1.toList = z_; cases z_ <;> rfl) | (simp; done) | (simp [*]; done), by repeat (first | exact Drawn0.refl _ | apply Drawn0.step)⟩
    · replace c4 := Bool.eq_false_iff.mpr c4
      subst c4
      have H1 : (some true) = some r := by rw [if_neg (show ¬ (false = true) by decide)] at H; exact H
      clear H
      have H := H1
      clear H1
      obtain rfl := Option.some.inj H
      go_enter Tryd.func31, Tryd.ntmps31
      go_wp2_with (first | (go_at_call 32; (with_reducible refine (peerageref05_blank.calls a0 false _ A3.out).mono ?_); rintro e w' ⟨rfl, ⟨nd, rfl⟩⟩))
      go_ret
      exact ⟨by first | rfl | (generalize x4_1.toList = z_; cases z_ <;> rfl) | (simp; done) | (simp [*]; done), by repeat (first | exact Drawn0.refl _ | apply Drawn0.step)⟩
  · rw [if_neg c2] at H
    have c2b0 : decide (a0 < 32) = false := decide_eq_false c2
    clear c2
    by_cases c7 : a0 = 127
    · rw [if_pos c7] at H
      have c7b0 : (a0 == 127) = true := beq_iff_eq.mpr c7
      have c7b1 : (a0 != 127) = false := bne_eq_false_iff_eq.mpr c7
      clear c7
      obtain rfl := Option.some.inj H
      go_enter Tryd.func31, Tryd.ntmps31
      go_wp2
      go_ret
      exact ⟨by first | rfl | (generalize x4_1.toList = z_; cases z_ <;> rfl) | (simp; done) | (simp [*]; done), by repeat (first | exact Drawn0.refl _ | apply Drawn0.step)⟩
    · rw [if_neg c7] at H
      have c7b0 : (a0 == 127) = false := beq_eq_false_iff_ne.mpr c7
      have c7b1 : (a0 != 127) = true := bne_iff_ne.mpr c7
      by_cases c8 : a0 = 173
      · rw [if_pos c8] at H
        have c8b0 : (a0 == 173) = true := beq_iff_eq.mpr c8
        have c8b1 : (a0 != 173) = false := bne_eq_false_iff_eq.mpr c8
        clear c8
        obtain rfl := Option.some.inj H
        go_enter Tryd.func31, Tryd.ntmps31
        go_wp2
        go_ret
        exact ⟨by first | rfl | (generalize x4_1.toList = z_; cases z_ <;> rfl) | (simp; done) | (simp [*]; done), by repeat (first | exact Drawn0.refl _ | apply Drawn0.step)⟩
      · rw [if_neg c8] at H
        have c8b0 : (a0 == 173) = false := beq_eq_false_iff_ne.mpr c8
        have c8b1 : (a0 != 173) = true := bne_iff_ne.mpr c8
        obtain rfl := Option.some.inj H
        go_enter Tryd.func31, Tryd.ntmps31
        go_wp2
        go_ret
        exact ⟨by first | rfl | (generalize x4_1.toList = z_; cases z_ <;> rfl) | (simp; done) | (simp [*]; done), by repeat (first | exact Drawn0.refl _ | apply Drawn0.step)⟩

/-! ### peerageref05_small: function 33 -/
def peerageref05_small.j0 : Nat → ByteArray → Int → Bool → Option (ByteArray)
  | 0, _, _, _ => none
  | k + 1, x0, x1, x10 => if x10 = true then (some (strOfNums (([(wrap32 (x1 + 32)) % 256] : List Int)))) else (if x1 ≥ 192 then (if x1 ≤ 222 then (if x1 = 215 then (some x0) else (if 1 < (x0.size : Int) then (some (strOfNums (([195, ((bt x0 1) + 32) % 256] : List Int)))) else (none))) else (some x0)) else (some x0))
def peerageref05_small.f (k : Nat) (a0 : ByteArray) (a1 : Int) : Option (ByteArray) := if a1 ≥ 65 then (peerageref05_small.j0 k a0 a1 (decide (a1 ≤ 90))) else (peerageref05_small.j0 k a0 a1 false)
theorem peerageref05_small.mono_l : ∀ k, (∀ y0 y1 y2, LeO (peerageref05_small.j0 k y0 y1 y2) (peerageref05_small.j0 (k + 1) y0 y1 y2))
  | 0 => fun _ _ _ r h => by simp [peerageref05_small.j0] at h
  | k + 1 => by
    have ih0 := peerageref05_small.mono_l k
    · intro y0 y1 y2
      unfold peerageref05_small.j0
      repeat' first
      | (with_reducible exact ih0 _ _ _)
      | (with_reducible exact LeO.refl _)
      | (with_reducible exact LeO.none _)
      | (with_reducible refine LeO.ite ?_ ?_)
      | (with_reducible refine LeO.bind ?_ (fun _ => ?_))
      | exact ih0 _ _ _
      | exact LeO.none _
      | refine LeO.ite ?_ ?_
      | refine LeO.bind ?_ (fun _ => ?_)
theorem peerageref05_small.mono : ∀ a0 a1 k, LeO (peerageref05_small.f k a0 a1) (peerageref05_small.f (k + 1) a0 a1) := by
  intro a0 a1 k
  have ih0 := peerageref05_small.mono_l k
  unfold peerageref05_small.f
  repeat' first
      | (with_reducible exact ih0 _ _ _)
      | (with_reducible exact LeO.refl _)
      | (with_reducible exact LeO.none _)
      | (with_reducible refine LeO.ite ?_ ?_)
      | (with_reducible refine LeO.bind ?_ (fun _ => ?_))
      | exact ih0 _ _ _
      | exact LeO.none _
      | refine LeO.ite ?_ ?_
      | refine LeO.bind ?_ (fun _ => ?_)
set_option maxHeartbeats 2000000 in
set_option maxRecDepth 100000 in
theorem peerageref05_small.calls (k : Nat) (a0 : ByteArray) (a1 : Int) (r : ByteArray) (w : World) (h : peerageref05_small.f k a0 a1 = some r) :
    Calls Tryd.prog 33 #[.string a0, .int .i32 a1] w fun e w' => e = .returned (.string r) ∧ Below w.heap.size w w' := by
  have HB := Aside0.mk (Below.refl w.heap.size w)
  have H : (if a1 ≥ 65 then (peerageref05_small.j0 k a0 a1 (decide (a1 ≤ 90))) else (peerageref05_small.j0 k a0 a1 false)) = some r := h
  clear h
  have HC3 := Aside0.mk H
  try simp only [Int.reduceToNat] at HC3
  clear H
  go_enter Tryd.func33, Tryd.ntmps33
  go_upto_region 1 with (fail)
  go_cut [10] (fun v10 wc => ∃ (kq : Nat) (x10_2 : Bool), v10 = .bool x10_2 ∧ Aside0 (peerageref05_small.j0 kq a0 a1 x10_2 = some r) ∧ Aside0 (kq ≤ k) ∧ Aside0 (Below w.heap.size w wc))
  case first =>
    have H := HC3.out
    clear HC3
    by_cases c4 : a1 ≥ 65
    · rw [if_pos c4] at H
      have c4b0 : decide (65 ≤ a1) = true := decide_eq_true c4
      clear c4
      (first | rw [c4b0] | (simp only [i64_w, i32_w]; rw [c4b0]) | skip)
      have H' := Aside0.mk H
      clear H
      go_wp2
      go_meet
      case rel => exact ⟨_, (decide (a1 ≤ 90)), (by first | rfl | (simp; done) | (simp [*]; done)), H', ⟨by first | omega | exact Nat.le_refl _⟩, ⟨by repeat (first | (with_reducible first | exact HB.out | apply below_alloc | apply pw_below_drewN | apply below_drew1) | exact HB.out)⟩⟩
    · rw [if_neg c4] at H
      have c4b0 : decide (65 ≤ a1) = false := decide_eq_false c4
      clear c4
      (first | rw [c4b0] | (simp only [i64_w, i32_w]; rw [c4b0]) | skip)
      have H' := Aside0.mk H
      clear H
      go_wp2
      go_meet
      case rel => exact ⟨_, (false), (by first | rfl | (simp; done) | (simp [*]; done)), H', ⟨by first | omega | exact Nat.le_refl _⟩, ⟨by repeat (first | (with_reducible first | exact HB.out | apply below_alloc | apply pw_below_drewN | apply below_drew1) | exact HB.out)⟩⟩
  case rest =>
    clear HC3
    try clear p2
    try clear c3
    try clear c4
    try clear c4b0
    obtain ⟨kq, x10_2, rfl, HA, HJ2, HB⟩ := hcut
    cases kq with
    | zero => exact absurd HA.out (by simp [peerageref05_small.j0])
    | succ kj2 =>
      have H := HA.out
      clear HA
      simp only [peerageref05_small.j0] at H
      by_cases c5 : x10_2 = true
      · subst c5
        have H1 : (some (strOfNums (([(wrap32 (a1 + 32)) % 256] : List Int)))) = some r := by rw [if_pos rfl] at H; exact H
        clear H
        have H := H1
        clear H1
        obtain ⟨y110, hy110⟩ : ∃ y_ : List Int, y_ = (([(wrap32 (a1 + 32)) % 256] : List Int)) := ⟨_, rfl⟩
        replace H : (some (strOfNums y110)) = some r := by first | (rw [hy110]; with_reducible exact H) | (have H2_ := (Option.bind_some _ _).symm.trans H; rw [hy110]; with_reducible exact H2_) | (have H2_ := (Option.bind_some _ _).symm.trans H; with_reducible exact H2_) | with_reducible exact H | (rw [hy110]; exact H) | exact H
        have Ny110 := Aside0.mk hy110
        clear hy110
        obtain rfl := Option.some.inj H
        go_wp2_with (first | ((with_reducible refine gate_dst (N := 14) rfl ?_); refine Kd.R_lit (Kd.int .u8) _ 5 ?hg (N := 14) ?hd (xs := ([(wrap32 (a1 + 32)) % 256] : List Int)) (inner := [.int .u8 ((wrap32 (a1 + 32)) % 256)]) (ok := fun _ => True) (okp := fun _ => True) ?hr ?hp (fun _ hk => hk) trivial (Below.refl _ _) (Nat.le_refl _) (by simp) ?_; (case hd => rfl); (case hg => rfl); (case hr => first | (go_simp; done) | (go_simp; rfl)); (case hp => exact (Reps.one (show Kd.M (Kd.int .u8) _ _ _ ((wrap32 (a1 + 32)) % 256) [.int .u8 ((wrap32 (a1 + 32)) % 256)] from rfl) (Reps.none _ _))); intro v111 w6 ho7 hb hg_ hnew_; clear hg_ hnew_; (first | rw [← Ny110.out] at ho7 | (simp only [Int.reduceToNat] at ho7; rw [← Ny110.out] at ho7)); have n0_ := Aside0.mk (Kd.R_lower ho7 (below_size (by repeat (first | (with_reducible first | exact HB.out | apply below_alloc | apply pw_below_drewN | apply below_drew1) | exact HB.out)))); have n1_ := Aside0.mk (below_step (by repeat (first | (with_reducible first | exact HB.out | apply below_alloc | apply pw_below_drewN | apply below_drew1) | exact HB.out)) hb); clear HB; have HO112 := n0_; have HB := n1_; clear n0_ n1_; clear hb ho7; have hcv8 := own_string (P := Tryd.prog) Tryd.underlying40 Tryd.underlying5 Tryd.underlying9 (Kd.own_of_R HO112.out)))
        go_ret
        exact ⟨by first | rfl | (simp [errW_none, errW_some] <;> rfl) | (simp [*, errW_none, errW_some] <;> rfl), by repeat (first | (with_reducible first | exact HB.out | apply below_alloc | apply pw_below_drewN | apply below_drew1) | exact HB.out)⟩
      · replace c5 := Bool.eq_false_iff.mpr c5
        subst c5
        have H1 : (if a1 ≥ 192 then (if a1 ≤ 222 then (if a1 = 215 then (some a0) else (if 1 < (a0.size : Int) then (some (strOfNums (([195, ((bt a0 1) + 32) % 256] : List Int)))) else (none))) else (some a0)) else (some a0)) = some r := by rw [if_neg (show ¬ (false = true) by decide)] at H; exact H
        clear H
        have H := H1
        clear H1
        by_cases c9 : a1 ≥ 192
        · rw [if_pos c9] at H
          have c9b0 : decide (192 ≤ a1) = true := decide_eq_true c9
          clear c9
          by_cases c10 : a1 ≤ 222
          · rw [if_pos c10] at H
            have c10b0 : decide (a1 ≤ 222) = true := decide_eq_true c10
            clear c10
            by_cases c11 : a1 = 215
            · rw [if_pos c11] at H
              have c11b0 : (a1 == 215) = true := beq_iff_eq.mpr c11
              have c11b1 : (a1 != 215) = false := bne_eq_false_iff_eq.mpr c11
              clear c11
              obtain rfl := Option.some.inj H
              go_wp2
              go_ret
              exact ⟨by first | rfl | (simp [errW_none, errW_some] <;> rfl) | (simp [*, errW_none, errW_some] <;> rfl), by repeat (first | (with_reducible first | exact HB.out | apply below_alloc | apply pw_below_drewN | apply below_drew1) | exact HB.out)⟩
            · rw [if_neg c11] at H
              have c11b0 : (a1 == 215) = false := beq_eq_false_iff_ne.mpr c11
              have c11b1 : (a1 != 215) = true := bne_iff_ne.mpr c11
              by_cases c12 : 1 < (a0.size : Int)
              · rw [if_pos c12] at H
                have c12b0 : decide (1 < (a0.size : Int)) = true := decide_eq_true c12
                have c12b1 : decide (1 < a0.size) = true := decide_eq_true (by omega)
                clear c12
                obtain ⟨y113, hy113⟩ : ∃ y_ : List Int, y_ = (([195, ((bt a0 1) + 32) % 256] : List Int)) := ⟨_, rfl⟩
                replace H : (some (strOfNums y113)) = some r := by first | (rw [hy113]; with_reducible exact H) | (have H2_ := (Option.bind_some _ _).symm.trans H; rw [hy113]; with_reducible exact H2_) | (have H2_ := (Option.bind_some _ _).symm.trans H; with_reducible exact H2_) | with_reducible exact H | (rw [hy113]; exact H) | exact H
                have Ny113 := Aside0.mk hy113
                clear hy113
                obtain rfl := Option.some.inj H
                have p13 : 0 ≤ (1 : Int) := (by omega)
                have q13 : 1 < a0.size := (by have : (1 : Int) < (a0.size : Int) := of_decide_eq_true (by first | (with_reducible assumption) | assumption); omega)
                have hx13 : ∀ h : 1 < a0.size, ((a0[1]'h).toNat : Int) = bt a0 1 := bt_at a0 1
                clear p13
                have qi13 : (1 < (a0.size : Int)) = True := eq_true (of_decide_eq_true (by first | (with_reducible assumption) | assumption))
                replace q13 := eq_true q13
                go_wp2_with (first | ((with_reducible refine gate_dst (N := 29) rfl ?_); refine Kd.R_lit (Kd.int .u8) _ 5 ?hg (N := 29) ?hd (xs := ([195, ((bt a0 1) + 32) % 256] : List Int)) (inner := [.int .u8 195, .int .u8 (((bt a0 1) + 32) % 256)]) (ok := fun _ => True) (okp := fun _ => True) ?hr ?hp (fun _ hk => hk) trivial (Below.refl _ _) (Nat.le_refl _) (by simp) ?_; (case hd => rfl); (case hg => rfl); (case hr => first | (go_simp; done) | (go_simp; rfl)); (case hp => exact (Reps.one (show Kd.M (Kd.int .u8) _ _ _ 195 [.int .u8 195] from rfl) (Reps.one (show Kd.M (Kd.int .u8) _ _ _ (((bt a0 1) + 32) % 256) [.int .u8 (((bt a0 1) + 32) % 256)] from rfl) (Reps.none _ _)))); intro v114 w14 ho15 hb hg_ hnew_; clear hg_ hnew_; (first | rw [← Ny113.out] at ho15 | (simp only [Int.reduceToNat] at ho15; rw [← Ny113.out] at ho15)); have n0_ := Aside0.mk (Kd.R_lower ho15 (below_size (by repeat (first | (with_reducible first | exact HB.out | apply below_alloc | apply pw_below_drewN | apply below_drew1) | exact HB.out)))); have n1_ := Aside0.mk (below_step (by repeat (first | (with_reducible first | exact HB.out | apply below_alloc | apply pw_below_drewN | apply below_drew1) | exact HB.out)) hb); clear HB; have HO115 := n0_; have HB := n1_; clear n0_ n1_; clear hb ho15; have hcv16 := own_string (P := Tryd.prog) Tryd.underlying40 Tryd.underlying5 Tryd.underlying9 (Kd.own_of_R HO115.out)))
                go_ret
                exact ⟨by first | rfl | (simp [errW_none, errW_some] <;> rfl) | (simp [*, errW_none, errW_some] <;> rfl), by repeat (first | (with_reducible first | exact HB.out | apply below_alloc | apply pw_below_drewN | apply below_drew1) | exact HB.out)⟩
              · rw [if_neg c12] at H
                exact absurd H (by simp)
          · rw [if_neg c10] at H
            have c10b0 : decide (a1 ≤ 222) = false := decide_eq_false c10
            clear c10
            obtain rfl := Option.some.inj H
            go_wp2
            go_ret
            exact ⟨by first | rfl | (simp [errW_none, errW_some] <;> rfl) | (simp [*, errW_none, errW_some] <;> rfl), by repeat (first | (with_reducible first | exact HB.out | apply below_alloc | apply pw_below_drewN | apply below_drew1) | exact HB.out)⟩
        · rw [if_neg c9] at H
          have c9b0 : decide (192 ≤ a1) = false := decide_eq_false c9
          clear c9
          obtain rfl := Option.some.inj H
          go_wp2
          go_ret
          exact ⟨by first | rfl | (simp [errW_none, errW_some] <;> rfl) | (simp [*, errW_none, errW_some] <;> rfl), by repeat (first | (with_reducible first | exact HB.out | apply below_alloc | apply pw_below_drewN | apply below_drew1) | exact HB.out)⟩

/-! ### peerageref05_prepared: function 23 -/
def peerageref05_prepared.l0 : Nat → ByteArray → Bool → Bool → ByteArray → Bool → Bool → Option (ByteArray)
  | 0, _, _, _, _, _, _ => none
  | k + 1, x0, x1, x2, x7, x8, x9 => if (x0.size : Int) > 0 then ((peerageref05_Next.f k x0).bind fun bt117 => (if 0 ≤ bt117.2 then (if bt117.2 ≤ (x0.size : Int) then ((peerageref05_nothing.f bt117.1).bind fun t119 => (if t119 = true then (peerageref05_prepared.l0 k (x0.extract (bt117.2 : Int).toNat x0.size) x1 x2 x7 x8 x9) else ((peerageref05_blank.f bt117.1).bind fun t120 => (if t120 = true then (peerageref05_prepared.l0 k (x0.extract (bt117.2 : Int).toNat x0.size) x1 x2 x7 true x9) else (if x8 = true then (if x9 = true then (if x1 = true then (if x7.size + 1 ≤ 9223372036854775807 then (if x2 = true then ((peerageref05_small.f k (x0.extract 0 (bt117.2 : Int).toNat) bt117.1).bind fun t121 => (if (x7 ++ (⟨#[32]⟩ : ByteArray)).size + t121.size ≤ 9223372036854775807 then (peerageref05_prepared.l0 k (x0.extract (bt117.2 : Int).toNat x0.size) x1 x2 ((x7 ++ (⟨#[32]⟩ : ByteArray)) ++ t121) false false) else (none))) else (if (x7 ++ (⟨#[32]⟩ : ByteArray)).size + (x0.extract 0 (bt117.2 : Int).toNat).size ≤ 9223372036854775807 then (peerageref05_prepared.l0 k (x0.extract (bt117.2 : Int).toNat x0.size) x1 x2 ((x7 ++ (⟨#[32]⟩ : ByteArray)) ++ (x0.extract 0 (bt117.2 : Int).toNat)) false false) else (none))) else (none)) else (if x2 = true then ((peerageref05_small.f k (x0.extract 0 (bt117.2 : Int).toNat) bt117.1).bind fun t122 => (if x7.size + t122.size ≤ 9223372036854775807 then (peerageref05_prepared.l0 k (x0.extract (bt117.2 : Int).toNat x0.size) x1 x2 (x7 ++ t122) false false) else (none))) else (if x7.size + (x0.extract 0 (bt117.2 : Int).toNat).size ≤ 9223372036854775807 then (peerageref05_prepared.l0 k (x0.extract (bt117.2 : Int).toNat x0.size) x1 x2 (x7 ++ (x0.extract 0 (bt117.2 : Int).toNat)) false false) else (none)))) else (if x7.size + 1 ≤ 9223372036854775807 then (if x2 = true then ((peerageref05_small.f k (x0.extract 0 (bt117.2 : Int).toNat) bt117.1).bind fun t123 => (if (x7 ++ (⟨#[32]⟩ : ByteArray)).size + t123.size ≤ 9223372036854775807 then (peerageref05_prepared.l0 k (x0.extract (bt117.2 : Int).toNat x0.size) x1 x2 ((x7 ++ (⟨#[32]⟩ : ByteArray)) ++ t123) false false) else (none))) else (if (x7 ++ (⟨#[32]⟩ : ByteArray)).size + (x0.extract 0 (bt117.2 : Int).toNat).size ≤ 9223372036854775807 then (peerageref05_prepared.l0 k (x0.extract (bt117.2 : Int).toNat x0.size) x1 x2 ((x7 ++ (⟨#[32]⟩ : ByteArray)) ++ (x0.extract 0 (bt117.2 : Int).toNat)) false false) else (none))) else (none))) else (if x2 = true then ((peerageref05_small.f k (x0.extract 0 (bt117.2 : Int).toNat) bt117.1).bind fun t124 => (if x7.size + t124.size ≤ 9223372036854775807 then (peerageref05_prepared.l0 k (x0.extract (bt117.2 : Int).toNat x0.size) x1 x2 (x7 ++ t124) false false) else (none))) else (if x7.size + (x0.extract 0 (bt117.2 : Int).toNat).size ≤ 9223372036854775807 then (peerageref05_prepared.l0 k (x0.extract (bt117.2 : Int).toNat x0.size) x1 x2 (x7 ++ (x0.extract 0 (bt117.2 : Int).toNat)) false false) else (none)))))))) else (none)) else (none))) else (if x8 = true then (if x1 = true then (if x7.size + 1 ≤ 9223372036854775807 then (some (x7 ++ (⟨#[32]⟩ : ByteArray))) else (none)) else (some x7)) else (some x7))
def peerageref05_prepared.f (k : Nat) (a0 : ByteArray) (a1 : Bool) (a2 : Bool) : Option (ByteArray) := (peerageref05_Count.f k a0).bind fun t116 => (if t116 < 0 then (some a0) else (peerageref05_prepared.l0 k a0 a1 a2 (⟨#[]⟩ : ByteArray) false true))
theorem peerageref05_prepared.mono_l : ∀ k, (∀ y0 y1 y2 y3 y4 y5, LeO (peerageref05_prepared.l0 k y0 y1 y2 y3 y4 y5) (peerageref05_prepared.l0 (k + 1) y0 y1 y2 y3 y4 y5))
  | 0 => fun _ _ _ _ _ _ r h => by simp [peerageref05_prepared.l0] at h
  | k + 1 => by
    have ih0 := peerageref05_prepared.mono_l k
    · intro y0 y1 y2 y3 y4 y5
      unfold peerageref05_prepared.l0
      repeat' first
      | (with_reducible exact ih0 _ _ _ _ _ _)
      | (with_reducible exact peerageref05_Count.mono _ _)
      | (with_reducible exact peerageref05_Next.mono _ _)
      | (with_reducible exact peerageref05_small.mono _ _ _)
      | (with_reducible exact LeO.refl _)
      | (with_reducible exact LeO.none _)
      | (with_reducible refine LeO.ite ?_ ?_)
      | (with_reducible refine LeO.bind ?_ (fun _ => ?_))
      | exact ih0 _ _ _ _ _ _
      | exact peerageref05_Count.mono _ _
      | exact peerageref05_Next.mono _ _
      | exact peerageref05_small.mono _ _ _
      | exact LeO.none _
      | refine LeO.ite ?_ ?_
      | refine LeO.bind ?_ (fun _ => ?_)
theorem peerageref05_prepared.mono : ∀ a0 a1 a2 k, LeO (peerageref05_prepared.f k a0 a1 a2) (peerageref05_prepared.f (k + 1) a0 a1 a2) := by
  intro a0 a1 a2 k
  have ih0 := peerageref05_prepared.mono_l k
  unfold peerageref05_prepared.f
  repeat' first
      | (with_reducible exact ih0 _ _ _ _ _ _)
      | (with_reducible exact peerageref05_Count.mono _ _)
      | (with_reducible exact peerageref05_Next.mono _ _)
      | (with_reducible exact peerageref05_small.mono _ _ _)
      | (with_reducible exact LeO.refl _)
      | (with_reducible exact LeO.none _)
      | (with_reducible refine LeO.ite ?_ ?_)
      | (with_reducible refine LeO.bind ?_ (fun _ => ?_))
      | exact ih0 _ _ _ _ _ _
      | exact peerageref05_Count.mono _ _
      | exact peerageref05_Next.mono _ _
      | exact peerageref05_small.mono _ _ _
      | exact LeO.none _
      | refine LeO.ite ?_ ?_
      | refine LeO.bind ?_ (fun _ => ?_)
set_option maxHeartbeats 2000000 in
set_option maxRecDepth 100000 in
theorem peerageref05_prepared.calls (k : Nat) (a0 : ByteArray) (a1 : Bool) (a2 : Bool) (r : ByteArray) (w : World) (h : peerageref05_prepared.f k a0 a1 a2 = some r) :
    Calls Tryd.prog 23 #[.string a0, .bool a1, .bool a2] w fun e w' => e = .returned (.string r) ∧ Below w.heap.size w w' := by
  have HB := Aside0.mk (Below.refl w.heap.size w)
  have H : ((peerageref05_Count.f k a0).bind fun t116 => (if t116 < 0 then (some a0) else (peerageref05_prepared.l0 k a0 a1 a2 (⟨#[]⟩ : ByteArray) false true))) = some r := h
  clear h
  replace H := Option.bind_eq_some_iff.mp H
  obtain ⟨t116, A40, H⟩ := H
  replace H : (if t116 < 0 then (some a0) else (peerageref05_prepared.l0 k a0 a1 a2 (⟨#[]⟩ : ByteArray) false true)) = some r := H
  have A4 := Aside0.mk A40
  clear A40
  by_cases c5 : t116 < 0
  · rw [if_pos c5] at H
    have c5b0 : decide (t116 < 0) = true := decide_eq_true c5
    clear c5
    obtain rfl := Option.some.inj H
    go_enter Tryd.func23, Tryd.ntmps23
    go_wp2_with (first | ((with_reducible refine gate_callee (f := 10) rfl ?_); refine goesL_ (some 14) rfl rfl Tryd.func10 (by kernel_rfl) rfl #[.string a0] rfl (by (try simp only [List.map_toArray, List.map_cons, List.map_nil]); first | done | rfl | (simp only [List.length_drop, List.length_take]; rfl)) ?_; (with_reducible refine (peerageref05_Count.calls k a0 t116 _ A4.out).mono ?_); rintro e w' ⟨rfl, ⟨nd, rfl⟩⟩; refine ⟨_, rfl, ?_⟩))
    go_ret
    exact ⟨by first | rfl | (simp [errW_none, errW_some] <;> rfl) | (simp [*, errW_none, errW_some] <;> rfl), by repeat (first | (with_reducible first | exact HB.out | apply below_alloc | apply pw_below_drewN | apply below_drew1) | exact HB.out)⟩
  · rw [if_neg c5] at H
    have c5b0 : decide (t116 < 0) = false := decide_eq_false c5
    clear c5
    have H' := Aside0.mk H
    clear H
    go_enter Tryd.func23, Tryd.ntmps23
    go_wp2_with (first | ((with_reducible refine gate_callee (f := 10) rfl ?_); refine goesL_ (some 14) rfl rfl Tryd.func10 (by kernel_rfl) rfl #[.string a0] rfl (by (try simp only [List.map_toArray, List.map_cons, List.map_nil]); first | done | rfl | (simp only [List.length_drop, List.length_take]; rfl)) ?_; (with_reducible refine (peerageref05_Count.calls k a0 t116 _ A4.out).mono ?_); rintro e w' ⟨rfl, ⟨nd, rfl⟩⟩; refine ⟨_, rfl, ?_⟩))
    go_loopg [0, 7, 8, 9] k (fun kq v0 v7 v8 v9 w' => ∃ (x0_1 : ByteArray) (x7_1 : ByteArray) (x8_1 : Bool) (x9_1 : Bool), v0 = .string x0_1 ∧ v7 = .string x7_1 ∧ v8 = .bool x8_1 ∧ v9 = .bool x9_1 ∧ Aside0 (peerageref05_prepared.l0 kq x0_1 a1 a2 x7_1 x8_1 x9_1 = some r) ∧ Aside0 (kq ≤ k) ∧ Aside0 (Below w.heap.size w w'))
    case atStart => exact ⟨(a0), ((⟨#[]⟩ : ByteArray)), (false), (true), (by first | rfl | (simp; done) | (simp [*]; done)), (by first | rfl | (simp; done) | (simp [*]; done)), (by first | rfl | (simp; done) | (simp [*]; done)), (by first | rfl | (simp; done) | (simp [*]; done)), H', ⟨Nat.le_refl _⟩, ⟨by repeat (first | (with_reducible first | exact HB.out | apply below_alloc | apply pw_below_drewN | apply below_drew1) | exact HB.out)⟩⟩
    case round =>
      clear H'
      try clear c1
      try clear c2
      try clear p2
      try clear c5
      try clear c5b0
      obtain ⟨x0_1, x7_1, x8_1, x9_1, rfl, rfl, rfl, rfl, HA, HK1, HB⟩ := hrel
      cases gk with
      | zero => exact absurd HA.out (by simp [peerageref05_prepared.l0])
      | succ k1 =>
        have H := HA.out
        clear HA
        simp only [peerageref05_prepared.l0] at H
        by_cases c6 : (x0_1.size : Int) > 0
        · rw [if_pos c6] at H
          have c6b0 : decide (0 < (x0_1.size : Int)) = true := decide_eq_true c6
          have c6b1 : decide (0 < x0_1.size) = true := decide_eq_true (by omega)
          clear c6
          replace H := Option.bind_eq_some_iff.mp H
          obtain ⟨⟨t117, t118⟩, A70, H⟩ := H
          replace H : (if 0 ≤ t118 then (if t118 ≤ (x0_1.size : Int) then ((peerageref05_nothing.f t117).bind fun t119 => (if t119 = true then (peerageref05_prepared.l0 k1 (x0_1.extract (t118 : Int).toNat x0_1.size) a1 a2 x7_1 x8_1 x9_1) else ((peerageref05_blank.f t117).bind fun t120 => (if t120 = true then (peerageref05_prepared.l0 k1 (x0_1.extract (t118 : Int).toNat x0_1.size) a1 a2 x7_1 true x9_1) else (if x8_1 = true then (if x9_1 = true then (if a1 = true then (if x7_1.size + 1 ≤ 9223372036854775807 then (if a2 = true then ((peerageref05_small.f k1 (x0_1.extract 0 (t118 : Int).toNat) t117).bind fun t121 => (if (x7_1 ++ (⟨#[32]⟩ : ByteArray)).size + t121.size ≤ 9223372036854775807 then (peerageref05_prepared.l0 k1 (x0_1.extract (t118 : Int).toNat x0_1.size) a1 a2 ((x7_1 ++ (⟨#[32]⟩ : ByteArray)) ++ t121) false false) else (none))) else (if (x7_1 ++ (⟨#[32]⟩ : ByteArray)).size + (x0_1.extract 0 (t118 : Int).toNat).size ≤ 9223372036854775807 then (peerageref05_prepared.l0 k1 (x0_1.extract (t118 : Int).toNat x0_1.size) a1 a2 ((x7_1 ++ (⟨#[32]⟩ : ByteArray)) ++ (x0_1.extract 0 (t118 : Int).toNat)) false false) else (none))) else (none)) else (if a2 = true then ((peerageref05_small.f k1 (x0_1.extract 0 (t118 : Int).toNat) t117).bind fun t122 => (if x7_1.size + t122.size ≤ 9223372036854775807 then (peerageref05_prepared.l0 k1 (x0_1.extract (t118 : Int).toNat x0_1.size) a1 a2 (x7_1 ++ t122) false false) else (none))) else (if x7_1.size + (x0_1.extract 0 (t118 : Int).toNat).size ≤ 9223372036854775807 then (peerageref05_prepared.l0 k1 (x0_1.extract (t118 : Int).toNat x0_1.size) a1 a2 (x7_1 ++ (x0_1.extract 0 (t118 : Int).toNat)) false false) else (none)))) else (if x7_1.size + 1 ≤ 9223372036854775807 then (if a2 = true then ((peerageref05_small.f k1 (x0_1.extract 0 (t118 : Int).toNat) t117).bind fun t123 => (if (x7_1 ++ (⟨#[32]⟩ : ByteArray)).size + t123.size ≤ 9223372036854775807 then (peerageref05_prepared.l0 k1 (x0_1.extract (t118 : Int).toNat x0_1.size) a1 a2 ((x7_1 ++ (⟨#[32]⟩ : ByteArray)) ++ t123) false false) else (none))) else (if (x7_1 ++ (⟨#[32]⟩ : ByteArray)).size + (x0_1.extract 0 (t118 : Int).toNat).size ≤ 9223372036854775807 then (peerageref05_prepared.l0 k1 (x0_1.extract (t118 : Int).toNat x0_1.size) a1 a2 ((x7_1 ++ (⟨#[32]⟩ : ByteArray)) ++ (x0_1.extract 0 (t118 : Int).toNat)) false false) else (none))) else (none))) else (if a2 = true then ((peerageref05_small.f k1 (x0_1.extract 0 (t118 : Int).toNat) t117).bind fun t124 => (if x7_1.size + t124.size ≤ 9223372036854775807 then (peerageref05_prepared.l0 k1 (x0_1.extract (t118 : Int).toNat x0_1.size) a1 a2 (x7_1 ++ t124) false false) else (none))) else (if x7_1.size + (x0_1.extract 0 (t118 : Int).toNat).size ≤ 9223372036854775807 then (peerageref05_prepared.l0 k1 (x0_1.extract (t118 : Int).toNat x0_1.size) a1 a2 (x7_1 ++ (x0_1.extract 0 (t118 : Int).toNat)) false false) else (none)))))))) else (none)) else (none)) = some r := H
          have A7 := Aside0.mk A70
          clear A70
          by_cases c8 : 0 ≤ t118
          · rw [if_pos c8] at H
            have c8b0 := eq_true c8
            have c8b1 : decide (0 ≤ t118) = true := decide_eq_true c8
            clear c8
            by_cases c9 : t118 ≤ (x0_1.size : Int)
            · rw [if_pos c9] at H
              have c9b0 := eq_true c9
              have c9b1 : decide (t118 ≤ (x0_1.size : Int)) = true := decide_eq_true c9
              clear c9
              have c10b0 := eq_true (of_decide_eq_true (by first | (with_reducible assumption) | assumption) : 0 ≤ t118)
              have c11b0 := eq_true (of_decide_eq_true (by first | (with_reducible assumption) | assumption) : t118 ≤ (x0_1.size : Int))
              replace H := Option.bind_eq_some_iff.mp H
              obtain ⟨t119, A120, H⟩ := H
              replace H : (if t119 = true then (peerageref05_prepared.l0 k1 (x0_1.extract (t118 : Int).toNat x0_1.size) a1 a2 x7_1 x8_1 x9_1) else ((peerageref05_blank.f t117).bind fun t120 => (if t120 = true then (peerageref05_prepared.l0 k1 (x0_1.extract (t118 : Int).toNat x0_1.size) a1 a2 x7_1 true x9_1) else (if x8_1 = true then (if x9_1 = true then (if a1 = true then (if x7_1.size + 1 ≤ 9223372036854775807 then (if a2 = true then ((peerageref05_small.f k1 (x0_1.extract 0 (t118 : Int).toNat) t117).bind fun t121 => (if (x7_1 ++ (⟨#[32]⟩ : ByteArray)).size + t121.size ≤ 9223372036854775807 then (peerageref05_prepared.l0 k1 (x0_1.extract (t118 : Int).toNat x0_1.size) a1 a2 ((x7_1 ++ (⟨#[32]⟩ : ByteArray)) ++ t121) false false) else (none))) else (if (x7_1 ++ (⟨#[32]⟩ : ByteArray)).size + (x0_1.extract 0 (t118 : Int).toNat).size ≤ 9223372036854775807 then (peerageref05_prepared.l0 k1 (x0_1.extract (t118 : Int).toNat x0_1.size) a1 a2 ((x7_1 ++ (⟨#[32]⟩ : ByteArray)) ++ (x0_1.extract 0 (t118 : Int).toNat)) false false) else (none))) else (none)) else (if a2 = true then ((peerageref05_small.f k1 (x0_1.extract 0 (t118 : Int).toNat) t117).bind fun t122 => (if x7_1.size + t122.size ≤ 9223372036854775807 then (peerageref05_prepared.l0 k1 (x0_1.extract (t118 : Int).toNat x0_1.size) a1 a2 (x7_1 ++ t122) false false) else (none))) else (if x7_1.size + (x0_1.extract 0 (t118 : Int).toNat).size ≤ 9223372036854775807 then (peerageref05_prepared.l0 k1 (x0_1.extract (t118 : Int).toNat x0_1.size) a1 a2 (x7_1 ++ (x0_1.extract 0 (t118 : Int).toNat)) false false) else (none)))) else (if x7_1.size + 1 ≤ 9223372036854775807 then (if a2 = true then ((peerageref05_small.f k1 (x0_1.extract 0 (t118 : Int).toNat) t117).bind fun t123 => (if (x7_1 ++ (⟨#[32]⟩ : ByteArray)).size + t123.size ≤ 9223372036854775807 then (peerageref05_prepared.l0 k1 (x0_1.extract (t118 : Int).toNat x0_1.size) a1 a2 ((x7_1 ++ (⟨#[32]⟩ : ByteArray)) ++ t123) false false) else (none))) else (if (x7_1 ++ (⟨#[32]⟩ : ByteArray)).size + (x0_1.extract 0 (t118 : Int).toNat).size ≤ 9223372036854775807 then (peerageref05_prepared.l0 k1 (x0_1.extract (t118 : Int).toNat x0_1.size) a1 a2 ((x7_1 ++ (⟨#[32]⟩ : ByteArray)) ++ (x0_1.extract 0 (t118 : Int).toNat)) false false) else (none))) else (none))) else (if a2 = true then ((peerageref05_small.f k1 (x0_1.extract 0 (t118 : Int).toNat) t117).bind fun t124 => (if x7_1.size + t124.size ≤ 9223372036854775807 then (peerageref05_prepared.l0 k1 (x0_1.extract (t118 : Int).toNat x0_1.size) a1 a2 (x7_1 ++ t124) false false) else (none))) else (if x7_1.size + (x0_1.extract 0 (t118 : Int).toNat).size ≤ 9223372036854775807 then (peerageref05_prepared.l0 k1 (x0_1.extract (t118 : Int).toNat x0_1.size) a1 a2 (x7_1 ++ (x0_1.extract 0 (t118 : Int).toNat)) false false) else (none))))))) = some r := H
              have A12 := Aside0.mk A120
              clear A120
              by_cases c13 : t119 = true
              · subst c13
                have H1 : (peerageref05_prepared.l0 k1 (x0_1.extract (t118 : Int).toNat x0_1.size) a1 a2 x7_1 x8_1 x9_1) = some r := by rw [if_pos rfl] at H; exact H
                clear H
                have H := H1
                clear H1
                have H' := Aside0.mk H
                clear H
                go_wp2_with (first | ((with_reducible refine gate_callee (f := 6) rfl ?_); refine goesL_ (some 22) rfl rfl Tryd.func6 (by kernel_rfl) rfl #[.string x0_1] rfl (by (try simp only [List.map_toArray, List.map_cons, List.map_nil]); first | done | rfl | (simp only [List.length_drop, List.length_take]; rfl)) ?_; (with_reducible refine (peerageref05_Next.calls k1 x0_1 t117 t118 _ A7.out).mono ?_); rintro e w' ⟨rfl, ⟨nd, rfl⟩⟩; refine ⟨_, rfl, ?_⟩) | ((with_reducible refine gate_callee (f := 31) rfl ?_); refine goesL_ (some 32) rfl rfl Tryd.func31 (by kernel_rfl) rfl #[.int .i32 t117] rfl (by (try simp only [List.map_toArray, List.map_cons, List.map_nil]); first | done | rfl | (simp only [List.length_drop, List.length_take]; rfl)) ?_; (with_reducible refine (peerageref05_nothing.calls t117 true _ A12.out).mono ?_); rintro e w' ⟨rfl, ⟨nd, rfl⟩⟩; refine ⟨_, rfl, ?_⟩))
                go_roundg k1
                case measure => have := HK1.out; omega
                case rel => exact ⟨(x0_1.extract (t118 : Int).toNat x0_1.size), (x7_1), (x8_1), (x9_1), (by first | rfl | (simp; done) | (simp [*]; done)), (by first | rfl | (simp; done) | (simp [*]; done)), (by first | rfl | (simp; done) | (simp [*]; done)), (by first | rfl | (simp; done) | (simp [*]; done)), H', ⟨by have := HK1.out; omega⟩, ⟨by repeat (first | (with_reducible first | exact HB.out | apply below_alloc | apply pw_below_drewN | apply below_drew1) | exact HB.out)⟩⟩
              · replace c13 := Bool.eq_false_iff.mpr c13
                subst c13
                have H1 : ((peerageref05_blank.f t117).bind fun t120 => (if t120 = true then (peerageref05_prepared.l0 k1 (x0_1.extract (t118 : Int).toNat x0_1.size) a1 a2 x7_1 true x9_1) else (if x8_1 = true then (if x9_1 = true then (if a1 = true then (if x7_1.size + 1 ≤ 9223372036854775807 then (if a2 = true then ((peerageref05_small.f k1 (x0_1.extract 0 (t118 : Int).toNat) t117).bind fun t121 => (if (x7_1 ++ (⟨#[32]⟩ : ByteArray)).size + t121.size ≤ 9223372036854775807 then (peerageref05_prepared.l0 k1 (x0_1.extract (t118 : Int).toNat x0_1.size) a1 a2 ((x7_1 ++ (⟨#[32]⟩ : ByteArray)) ++ t121) false false) else (none))) else (if (x7_1 ++ (⟨#[32]⟩ : ByteArray)).size + (x0_1.extract 0 (t118 : Int).toNat).size ≤ 9223372036854775807 then (peerageref05_prepared.l0 k1 (x0_1.extract (t118 : Int).toNat x0_1.size) a1 a2 ((x7_1 ++ (⟨#[32]⟩ : ByteArray)) ++ (x0_1.extract 0 (t118 : Int).toNat)) false false) else (none))) else (none)) else (if a2 = true then ((peerageref05_small.f k1 (x0_1.extract 0 (t118 : Int).toNat) t117).bind fun t122 => (if x7_1.size + t122.size ≤ 9223372036854775807 then (peerageref05_prepared.l0 k1 (x0_1.extract (t118 : Int).toNat x0_1.size) a1 a2 (x7_1 ++ t122) false false) else (none))) else (if x7_1.size + (x0_1.extract 0 (t118 : Int).toNat).size ≤ 9223372036854775807 then (peerageref05_prepared.l0 k1 (x0_1.extract (t118 : Int).toNat x0_1.size) a1 a2 (x7_1 ++ (x0_1.extract 0 (t118 : Int).toNat)) false false) else (none)))) else (if x7_1.size + 1 ≤ 9223372036854775807 then (if a2 = true then ((peerageref05_small.f k1 (x0_1.extract 0 (t118 : Int).toNat) t117).bind fun t123 => (if (x7_1 ++ (⟨#[32]⟩ : ByteArray)).size + t123.size ≤ 9223372036854775807 then (peerageref05_prepared.l0 k1 (x0_1.extract (t118 : Int).toNat x0_1.size) a1 a2 ((x7_1 ++ (⟨#[32]⟩ : ByteArray)) ++ t123) false false) else (none))) else (if (x7_1 ++ (⟨#[32]⟩ : ByteArray)).size + (x0_1.extract 0 (t118 : Int).toNat).size ≤ 9223372036854775807 then (peerageref05_prepared.l0 k1 (x0_1.extract (t118 : Int).toNat x0_1.size) a1 a2 ((x7_1 ++ (⟨#[32]⟩ : ByteArray)) ++ (x0_1.extract 0 (t118 : Int).toNat)) false false) else (none))) else (none))) else (if a2 = true then ((peerageref05_small.f k1 (x0_1.extract 0 (t118 : Int).toNat) t117).bind fun t124 => (if x7_1.size + t124.size ≤ 9223372036854775807 then (peerageref05_prepared.l0 k1 (x0_1.extract (t118 : Int).toNat x0_1.size) a1 a2 (x7_1 ++ t124) false false) else (none))) else (if x7_1.size + (x0_1.extract 0 (t118 : Int).toNat).size ≤ 9223372036854775807 then (peerageref05_prepared.l0 k1 (x0_1.extract (t118 : Int).toNat x0_1.size) a1 a2 (x7_1 ++ (x0_1.extract 0 (t118 : Int).toNat)) false false) else (none)))))) = some r := by rw [if_neg (show ¬ (false = true) by decide)] at H; exact H
                clear H
                have H := H1
                clear H1
                replace H := Option.bind_eq_some_iff.mp H
                obtain ⟨t120, A140, H⟩ := H
                replace H : (if t120 = true then (peerageref05_prepared.l0 k1 (x0_1.extract (t118 : Int).toNat x0_1.size) a1 a2 x7_1 true x9_1) else (if x8_1 = true then (if x9_1 = true then (if a1 = true then (if x7_1.size + 1 ≤ 9223372036854775807 then (if a2 = true then ((peerageref05_small.f k1 (x0_1.extract 0 (t118 : Int).toNat) t117).bind fun t121 => (if (x7_1 ++ (⟨#[32]⟩ : ByteArray)).size + t121.size ≤ 9223372036854775807 then (peerageref05_prepared.l0 k1 (x0_1.extract (t118 : Int).toNat x0_1.size) a1 a2 ((x7_1 ++ (⟨#[32]⟩ : ByteArray)) ++ t121) false false) else (none))) else (if (x7_1 ++ (⟨#[32]⟩ : ByteArray)).size + (x0_1.extract 0 (t118 : Int).toNat).size ≤ 9223372036854775807 then (peerageref05_prepared.l0 k1 (x0_1.extract (t118 : Int).toNat x0_1.size) a1 a2 ((x7_1 ++ (⟨#[32]⟩ : ByteArray)) ++ (x0_1.extract 0 (t118 : Int).toNat)) false false) else (none))) else (none)) else (if a2 = true then ((peerageref05_small.f k1 (x0_1.extract 0 (t118 : Int).toNat) t117).bind fun t122 => (if x7_1.size + t122.size ≤ 9223372036854775807 then (peerageref05_prepared.l0 k1 (x0_1.extract (t118 : Int).toNat x0_1.size) a1 a2 (x7_1 ++ t122) false false) else (none))) else (if x7_1.size + (x0_1.extract 0 (t118 : Int).toNat).size ≤ 9223372036854775807 then (peerageref05_prepared.l0 k1 (x0_1.extract (t118 : Int).toNat x0_1.size) a1 a2 (x7_1 ++ (x0_1.extract 0 (t118 : Int).toNat)) false false) else (none)))) else (if x7_1.size + 1 ≤ 9223372036854775807 then (if a2 = true then ((peerageref05_small.f k1 (x0_1.extract 0 (t118 : Int).toNat) t117).bind fun t123 => (if (x7_1 ++ (⟨#[32]⟩ : ByteArray)).size + t123.size ≤ 9223372036854775807 then (peerageref05_prepared.l0 k1 (x0_1.extract (t118 : Int).toNat x0_1.size) a1 a2 ((x7_1 ++ (⟨#[32]⟩ : ByteArray)) ++ t123) false false) else (none))) else (if (x7_1 ++ (⟨#[32]⟩ : ByteArray)).size + (x0_1.extract 0 (t118 : Int).toNat).size ≤ 9223372036854775807 then (peerageref05_prepared.l0 k1 (x0_1.extract (t118 : Int).toNat x0_1.size) a1 a2 ((x7_1 ++ (⟨#[32]⟩ : ByteArray)) ++ (x0_1.extract 0 (t118 : Int).toNat)) false false) else (none))) else (none))) else (if a2 = true then ((peerageref05_small.f k1 (x0_1.extract 0 (t118 : Int).toNat) t117).bind fun t124 => (if x7_1.size + t124.size ≤ 9223372036854775807 then (peerageref05_prepared.l0 k1 (x0_1.extract (t118 : Int).toNat x0_1.size) a1 a2 (x7_1 ++ t124) false false) else (none))) else (if x7_1.size + (x0_1.extract 0 (t118 : Int).toNat).size ≤ 9223372036854775807 then (peerageref05_prepared.l0 k1 (x0_1.extract (t118 : Int).toNat x0_1.size) a1 a2 (x7_1 ++ (x0_1.extract 0 (t118 : Int).toNat)) false false) else (none))))) = some r := H
                have A14 := Aside0.mk A140
                clear A140
                by_cases c15 : t120 = true
                · subst c15
                  have H1 : (peerageref05_prepared.l0 k1 (x0_1.extract (t118 : Int).toNat x0_1.size) a1 a2 x7_1 true x9_1) = some r := by rw [if_pos rfl] at H; exact H
                  clear H
                  have H := H1
                  clear H1
                  have H' := Aside0.mk H
                  clear H
                  go_wp2_with (first | ((with_reducible refine gate_callee (f := 6) rfl ?_); refine goesL_ (some 22) rfl rfl Tryd.func6 (by kernel_rfl) rfl #[.string x0_1] rfl (by (try simp only [List.map_toArray, List.map_cons, List.map_nil]); first | done | rfl | (simp only [List.length_drop, List.length_take]; rfl)) ?_; (with_reducible refine (peerageref05_Next.calls k1 x0_1 t117 t118 _ A7.out).mono ?_); rintro e w' ⟨rfl, ⟨nd, rfl⟩⟩; refine ⟨_, rfl, ?_⟩) | ((with_reducible refine gate_callee (f := 31) rfl ?_); refine goesL_ (some 32) rfl rfl Tryd.func31 (by kernel_rfl) rfl #[.int .i32 t117] rfl (by (try simp only [List.map_toArray, List.map_cons, List.map_nil]); first | done | rfl | (simp only [List.length_drop, List.length_take]; rfl)) ?_; (with_reducible refine (peerageref05_nothing.calls t117 false _ A12.out).mono ?_); rintro e w' ⟨rfl, ⟨nd, rfl⟩⟩; refine ⟨_, rfl, ?_⟩) | ((with_reducible refine gate_callee (f := 32) rfl ?_); refine goesL_ (some 34) rfl rfl Tryd.func32 (by kernel_rfl) rfl #[.int .i32 t117] rfl (by (try simp only [List.map_toArray, List.map_cons, List.map_nil]); first | done | rfl | (simp only [List.length_drop, List.length_take]; rfl)) ?_; (with_reducible refine (peerageref05_blank.calls t117 true _ A14.out).mono ?_); rintro e w' ⟨rfl, ⟨nd, rfl⟩⟩; refine ⟨_, rfl, ?_⟩))
                  go_roundg k1
                  case measure => have := HK1.out; omega
                  case rel => exact ⟨(x0_1.extract (t118 : Int).toNat x0_1.size), (x7_1), (true), (x9_1), (by first | rfl | (simp; done) | (simp [*]; done)), (by first | rfl | (simp; done) | (simp [*]; done)), (by first | rfl | (simp; done) | (simp [*]; done)), (by first | rfl | (simp; done) | (simp [*]; done)), H', ⟨by have := HK1.out; omega⟩, ⟨by repeat (first | (with_reducible first | exact HB.out | apply below_alloc | apply pw_below_drewN | apply below_drew1) | exact HB.out)⟩⟩
                · replace c15 := Bool.eq_false_iff.mpr c15
                  subst c15
                  have H1 : (if x8_1 = true then (if x9_1 = true then (if a1 = true then (if x7_1.size + 1 ≤ 9223372036854775807 then (if a2 = true then ((peerageref05_small.f k1 (x0_1.extract 0 (t118 : Int).toNat) t117).bind fun t121 => (if (x7_1 ++ (⟨#[32]⟩ : ByteArray)).size + t121.size ≤ 9223372036854775807 then (peerageref05_prepared.l0 k1 (x0_1.extract (t118 : Int).toNat x0_1.size) a1 a2 ((x7_1 ++ (⟨#[32]⟩ : ByteArray)) ++ t121) false false) else (none))) else (if (x7_1 ++ (⟨#[32]⟩ : ByteArray)).size + (x0_1.extract 0 (t118 : Int).toNat).size ≤ 9223372036854775807 then (peerageref05_prepared.l0 k1 (x0_1.extract (t118 : Int).toNat x0_1.size) a1 a2 ((x7_1 ++ (⟨#[32]⟩ : ByteArray)) ++ (x0_1.extract 0 (t118 : Int).toNat)) false false) else (none))) else (none)) else (if a2 = true then ((peerageref05_small.f k1 (x0_1.extract 0 (t118 : Int).toNat) t117).bind fun t122 => (if x7_1.size + t122.size ≤ 9223372036854775807 then (peerageref05_prepared.l0 k1 (x0_1.extract (t118 : Int).toNat x0_1.size) a1 a2 (x7_1 ++ t122) false false) else (none))) else (if x7_1.size + (x0_1.extract 0 (t118 : Int).toNat).size ≤ 9223372036854775807 then (peerageref05_prepared.l0 k1 (x0_1.extract (t118 : Int).toNat x0_1.size) a1 a2 (x7_1 ++ (x0_1.extract 0 (t118 : Int).toNat)) false false) else (none)))) else (if x7_1.size + 1 ≤ 9223372036854775807 then (if a2 = true then ((peerageref05_small.f k1 (x0_1.extract 0 (t118 : Int).toNat) t117).bind fun t123 => (if (x7_1 ++ (⟨#[32]⟩ : ByteArray)).size + t123.size ≤ 9223372036854775807 then (peerageref05_prepared.l0 k1 (x0_1.extract (t118 : Int).toNat x0_1.size) a1 a2 ((x7_1 ++ (⟨#[32]⟩ : ByteArray)) ++ t123) false false) else (none))) else (if (x7_1 ++ (⟨#[32]⟩ : ByteArray)).size + (x0_1.extract 0 (t118 : Int).toNat).size ≤ 9223372036854775807 then (peerageref05_prepared.l0 k1 (x0_1.extract (t118 : Int).toNat x0_1.size) a1 a2 ((x7_1 ++ (⟨#[32]⟩ : ByteArray)) ++ (x0_1.extract 0 (t118 : Int).toNat)) false false) else (none))) else (none))) else (if a2 = true then ((peerageref05_small.f k1 (x0_1.extract 0 (t118 : Int).toNat) t117).bind fun t124 => (if x7_1.size + t124.size ≤ 9223372036854775807 then (peerageref05_prepared.l0 k1 (x0_1.extract (t118 : Int).toNat x0_1.size) a1 a2 (x7_1 ++ t124) false false) else (none))) else (if x7_1.size + (x0_1.extract 0 (t118 : Int).toNat).size ≤ 9223372036854775807 then (peerageref05_prepared.l0 k1 (x0_1.extract (t118 : Int).toNat x0_1.size) a1 a2 (x7_1 ++ (x0_1.extract 0 (t118 : Int).toNat)) false false) else (none)))) = some r := by rw [if_neg (show ¬ (false = true) by decide)] at H; exact H
                  clear H
                  have H := H1
                  clear H1
                  by_cases c16 : x8_1 = true
                  · subst c16
                    have H1 : (if x9_1 = true then (if a1 = true then (if x7_1.size + 1 ≤ 9223372036854775807 then (if a2 = true then ((peerageref05_small.f k1 (x0_1.extract 0 (t118 : Int).toNat) t117).bind fun t121 => (if (x7_1 ++ (⟨#[32]⟩ : ByteArray)).size + t121.size ≤ 9223372036854775807 then (peerageref05_prepared.l0 k1 (x0_1.extract (t118 : Int).toNat x0_1.size) a1 a2 ((x7_1 ++ (⟨#[32]⟩ : ByteArray)) ++ t121) false false) else (none))) else (if (x7_1 ++ (⟨#[32]⟩ : ByteArray)).size + (x0_1.extract 0 (t118 : Int).toNat).size ≤ 9223372036854775807 then (peerageref05_prepared.l0 k1 (x0_1.extract (t118 : Int).toNat x0_1.size) a1 a2 ((x7_1 ++ (⟨#[32]⟩ : ByteArray)) ++ (x0_1.extract 0 (t118 : Int).toNat)) false false) else (none))) else (none)) else (if a2 = true then ((peerageref05_small.f k1 (x0_1.extract 0 (t118 : Int).toNat) t117).bind fun t122 => (if x7_1.size + t122.size ≤ 9223372036854775807 then (peerageref05_prepared.l0 k1 (x0_1.extract (t118 : Int).toNat x0_1.size) a1 a2 (x7_1 ++ t122) false false) else (none))) else (if x7_1.size + (x0_1.extract 0 (t118 : Int).toNat).size ≤ 9223372036854775807 then (peerageref05_prepared.l0 k1 (x0_1.extract (t118 : Int).toNat x0_1.size) a1 a2 (x7_1 ++ (x0_1.extract 0 (t118 : Int).toNat)) false false) else (none)))) else (if x7_1.size + 1 ≤ 9223372036854775807 then (if a2 = true then ((peerageref05_small.f k1 (x0_1.extract 0 (t118 : Int).toNat) t117).bind fun t123 => (if (x7_1 ++ (⟨#[32]⟩ : ByteArray)).size + t123.size ≤ 9223372036854775807 then (peerageref05_prepared.l0 k1 (x0_1.extract (t118 : Int).toNat x0_1.size) a1 a2 ((x7_1 ++ (⟨#[32]⟩ : ByteArray)) ++ t123) false false) else (none))) else (if (x7_1 ++ (⟨#[32]⟩ : ByteArray)).size + (x0_1.extract 0 (t118 : Int).toNat).size ≤ 9223372036854775807 then (peerageref05_prepared.l0 k1 (x0_1.extract (t118 : Int).toNat x0_1.size) a1 a2 ((x7_1 ++ (⟨#[32]⟩ : ByteArray)) ++ (x0_1.extract 0 (t118 : Int).toNat)) false false) else (none))) else (none))) = some r := by rw [if_pos rfl] at H; exact H
                    clear H
                    have H := H1
                    clear H1
                    by_cases c17 : x9_1 = true
                    · subst c17
                      have H1 : (if a1 = true then (if x7_1.size + 1 ≤ 9223372036854775807 then (if a2 = true then ((peerageref05_small.f k1 (x0_1.extract 0 (t118 : Int).toNat) t117).bind fun t121 => (if (x7_1 ++ (⟨#[32]⟩ : ByteArray)).size + t121.size ≤ 9223372036854775807 then (peerageref05_prepared.l0 k1 (x0_1.extract (t118 : Int).toNat x0_1.size) a1 a2 ((x7_1 ++ (⟨#[32]⟩ : ByteArray)) ++ t121) false false) else (none))) else (if (x7_1 ++ (⟨#[32]⟩ : ByteArray)).size + (x0_1.extract 0 (t118 : Int).toNat).size ≤ 9223372036854775807 then (peerageref05_prepared.l0 k1 (x0_1.extract (t118 : Int).toNat x0_1.size) a1 a2 ((x7_1 ++ (⟨#[32]⟩ : ByteArray)) ++ (x0_1.extract 0 (t118 : Int).toNat)) false false) else (none))) else (none)) else (if a2 = true then ((peerageref05_small.f k1 (x0_1.extract 0 (t118 : Int).toNat) t117).bind fun t122 => (if x7_1.size + t122.size ≤ 9223372036854775807 then (peerageref05_prepared.l0 k1 (x0_1.extract (t118 : Int).toNat x0_1.size) a1 a2 (x7_1 ++ t122) false false) else (none))) else (if x7_1.size + (x0_1.extract 0 (t118 : Int).toNat).size ≤ 9223372036854775807 then (peerageref05_prepared.l0 k1 (x0_1.extract (t118 : Int).toNat x0_1.size) a1 a2 (x7_1 ++ (x0_1.extract 0 (t118 : Int).toNat)) false false) else (none)))) = some r := by rw [if_pos rfl] at H; exact H
                      clear H
                      have H := H1
                      clear H1
                      by_cases c18 : a1 = true
                      · subst c18
                        have H1 : (if x7_1.size + 1 ≤ 9223372036854775807 then (if a2 = true then ((peerageref05_small.f k1 (x0_1.extract 0 (t118 : Int).toNat) t117).bind fun t121 => (if (x7_1 ++ (⟨#[32]⟩ : ByteArray)).size + t121.size ≤ 9223372036854775807 then (peerageref05_prepared.l0 k1 (x0_1.extract (t118 : Int).toNat x0_1.size) true a2 ((x7_1 ++ (⟨#[32]⟩ : ByteArray)) ++ t121) false false) else (none))) else (if (x7_1 ++ (⟨#[32]⟩ : ByteArray)).size + (x0_1.extract 0 (t118 : Int).toNat).size ≤ 9223372036854775807 then (peerageref05_prepared.l0 k1 (x0_1.extract (t118 : Int).toNat x0_1.size) true a2 ((x7_1 ++ (⟨#[32]⟩ : ByteArray)) ++ (x0_1.extract 0 (t118 : Int).toNat)) false false) else (none))) else (none)) = some r := by rw [if_pos rfl] at H; exact H
                        clear H
                        have H := H1
                        clear H1
                        by_cases c19 : x7_1.size + 1 ≤ 9223372036854775807
                        · rw [if_pos c19] at H
                          have c19b0 := eq_true c19
                          have c19b1 : decide (x7_1.size + 1 ≤ 9223372036854775807) = true := decide_eq_true c19
                          try have c19b2 : (9223372036854775807 < x7_1.size + 1) = False := eq_false (Nat.not_lt.2 c19)
                          by_cases c20 : a2 = true
                          · subst c20
                            have H1 : ((peerageref05_small.f k1 (x0_1.extract 0 (t118 : Int).toNat) t117).bind fun t121 => (if (x7_1 ++ (⟨#[32]⟩ : ByteArray)).size + t121.size ≤ 9223372036854775807 then (peerageref05_prepared.l0 k1 (x0_1.extract (t118 : Int).toNat x0_1.size) true true ((x7_1 ++ (⟨#[32]⟩ : ByteArray)) ++ t121) false false) else (none))) = some r := by rw [if_pos rfl] at H; exact H
                            clear H
                            have H := H1
                            clear H1
                            replace H := Option.bind_eq_some_iff.mp H
                            obtain ⟨t121, A210, H⟩ := H
                            replace H : (if (x7_1 ++ (⟨#[32]⟩ : ByteArray)).size + t121.size ≤ 9223372036854775807 then (peerageref05_prepared.l0 k1 (x0_1.extract (t118 : Int).toNat x0_1.size) true true ((x7_1 ++ (⟨#[32]⟩ : ByteArray)) ++ t121) false false) else (none)) = some r := H
                            have A21 := Aside0.mk A210
                            clear A210
                            by_cases c22 : (x7_1 ++ (⟨#[32]⟩ : ByteArray)).size + t121.size ≤ 9223372036854775807
                            · rw [if_pos c22] at H
                              have c22b0 := eq_true c22
                              have c22b1 : decide ((x7_1 ++ (⟨#[32]⟩ : ByteArray)).size + t121.size ≤ 9223372036854775807) = true := decide_eq_true c22
                              try have c22b2 : (9223372036854775807 < (x7_1 ++ (⟨#[32]⟩ : ByteArray)).size + t121.size) = False := eq_false (Nat.not_lt.2 c22)
                              have H' := Aside0.mk H
                              clear H
                              go_wp2_with (first | ((with_reducible refine gate_callee (f := 6) rfl ?_); refine goesL_ (some 22) rfl rfl Tryd.func6 (by kernel_rfl) rfl #[.string x0_1] rfl (by (try simp only [List.map_toArray, List.map_cons, List.map_nil]); first | done | rfl | (simp only [List.length_drop, List.length_take]; rfl)) ?_; (with_reducible refine (peerageref05_Next.calls k1 x0_1 t117 t118 _ A7.out).mono ?_); rintro e w' ⟨rfl, ⟨nd, rfl⟩⟩; refine ⟨_, rfl, ?_⟩) | ((with_reducible refine gate_callee (f := 31) rfl ?_); refine goesL_ (some 32) rfl rfl Tryd.func31 (by kernel_rfl) rfl #[.int .i32 t117] rfl (by (try simp only [List.map_toArray, List.map_cons, List.map_nil]); first | done | rfl | (simp only [List.length_drop, List.length_take]; rfl)) ?_; (with_reducible refine (peerageref05_nothing.calls t117 false _ A12.out).mono ?_); rintro e w' ⟨rfl, ⟨nd, rfl⟩⟩; refine ⟨_, rfl, ?_⟩) | ((with_reducible refine gate_callee (f := 32) rfl ?_); refine goesL_ (some 34) rfl rfl Tryd.func32 (by kernel_rfl) rfl #[.int .i32 t117] rfl (by (try simp only [List.map_toArray, List.map_cons, List.map_nil]); first | done | rfl | (simp only [List.length_drop, List.length_take]; rfl)) ?_; (with_reducible refine (peerageref05_blank.calls t117 false _ A14.out).mono ?_); rintro e w' ⟨rfl, ⟨nd, rfl⟩⟩; refine ⟨_, rfl, ?_⟩) | ((with_reducible refine gate_callee (f := 33) rfl ?_); refine goesL_ (some 48) rfl rfl Tryd.func33 (by kernel_rfl) rfl #[.string (x0_1.extract 0 (t118 : Int).toNat), .int .i32 t117] rfl (by (try simp only [List.map_toArray, List.map_cons, List.map_nil]); first | done | rfl | (simp only [List.length_drop, List.length_take]; rfl)) ?_; (with_reducible refine (peerageref05_small.calls k1 (x0_1.extract 0 (t118 : Int).toNat) t117 t121 _ A21.out).mono ?_); rintro e w23 ⟨rfl, hb⟩; refine ⟨_, rfl, ?_⟩; have n0_ := Aside0.mk (below_step (by repeat (first | (with_reducible first | exact HB.out | apply below_alloc | apply pw_below_drewN | apply below_drew1) | exact HB.out)) hb); clear HB; have HB := n0_; clear n0_; (try clear hb); (try clear hb2); (try clear hk); (try clear hi)))
                              go_roundg k1
                              case measure => have := HK1.out; omega
                              case rel => exact ⟨(x0_1.extract (t118 : Int).toNat x0_1.size), ((x7_1 ++ (⟨#[32]⟩ : ByteArray)) ++ t121), (false), (false), (by first | rfl | (simp; done) | (simp [*]; done)), (by first | rfl | (simp; done) | (simp [*]; done)), (by first | rfl | (simp; done) | (simp [*]; done)), (by first | rfl | (simp; done) | (simp [*]; done)), H', ⟨by have := HK1.out; omega⟩, ⟨by repeat (first | (with_reducible first | exact HB.out | apply below_alloc | apply pw_below_drewN | apply below_drew1) | exact HB.out)⟩⟩
                            · rw [if_neg c22] at H
                              exact absurd H (by simp)
                          · replace c20 := Bool.eq_false_iff.mpr c20
                            subst c20
                            have H1 : (if (x7_1 ++ (⟨#[32]⟩ : ByteArray)).size + (x0_1.extract 0 (t118 : Int).toNat).size ≤ 9223372036854775807 then (peerageref05_prepared.l0 k1 (x0_1.extract (t118 : Int).toNat x0_1.size) true false ((x7_1 ++ (⟨#[32]⟩ : ByteArray)) ++ (x0_1.extract 0 (t118 : Int).toNat)) false false) else (none)) = some r := by rw [if_neg (show ¬ (false = true) by decide)] at H; exact H
                            clear H
                            have H := H1
                            clear H1
                            by_cases c24 : (x7_1 ++ (⟨#[32]⟩ : ByteArray)).size + (x0_1.extract 0 (t118 : Int).toNat).size ≤ 9223372036854775807
                            · rw [if_pos c24] at H
                              have c24b0 := eq_true c24
                              have c24b1 : decide ((x7_1 ++ (⟨#[32]⟩ : ByteArray)).size + (x0_1.extract 0 (t118 : Int).toNat).size ≤ 9223372036854775807) = true := decide_eq_true c24
                              try have c24b2 : (9223372036854775807 < (x7_1 ++ (⟨#[32]⟩ : ByteArray)).size + (x0_1.extract 0 (t118 : Int).toNat).size) = False := eq_false (Nat.not_lt.2 c24)
                              have H' := Aside0.mk H
                              clear H
                              go_wp2_with (first | ((with_reducible refine gate_callee (f := 6) rfl ?_); refine goesL_ (some 22) rfl rfl Tryd.func6 (by kernel_rfl) rfl #[.string x0_1] rfl (by (try simp only [List.map_toArray, List.map_cons, List.map_nil]); first | done | rfl | (simp only [List.length_drop, List.length_take]; rfl)) ?_; (with_reducible refine (peerageref05_Next.calls k1 x0_1 t117 t118 _ A7.out).mono ?_); rintro e w' ⟨rfl, ⟨nd, rfl⟩⟩; refine ⟨_, rfl, ?_⟩) | ((with_reducible refine gate_callee (f := 31) rfl ?_); refine goesL_ (some 32) rfl rfl Tryd.func31 (by kernel_rfl) rfl #[.int .i32 t117] rfl (by (try simp only [List.map_toArray, List.map_cons, List.map_nil]); first | done | rfl | (simp only [List.length_drop, List.length_take]; rfl)) ?_; (with_reducible refine (peerageref05_nothing.calls t117 false _ A12.out).mono ?_); rintro e w' ⟨rfl, ⟨nd, rfl⟩⟩; refine ⟨_, rfl, ?_⟩) | ((with_reducible refine gate_callee (f := 32) rfl ?_); refine goesL_ (some 34) rfl rfl Tryd.func32 (by kernel_rfl) rfl #[.int .i32 t117] rfl (by (try simp only [List.map_toArray, List.map_cons, List.map_nil]); first | done | rfl | (simp only [List.length_drop, List.length_take]; rfl)) ?_; (with_reducible refine (peerageref05_blank.calls t117 false _ A14.out).mono ?_); rintro e w' ⟨rfl, ⟨nd, rfl⟩⟩; refine ⟨_, rfl, ?_⟩))
                              go_roundg k1
                              case measure => have := HK1.out; omega
                              case rel => exact ⟨(x0_1.extract (t118 : Int).toNat x0_1.size), ((x7_1 ++ (⟨#[32]⟩ : ByteArray)) ++ (x0_1.extract 0 (t118 : Int).toNat)), (false), (false), (by first | rfl | (simp; done) | (simp [*]; done)), (by first | rfl | (simp; done) | (simp [*]; done)), (by first | rfl | (simp; done) | (simp [*]; done)), (by first | rfl | (simp; done) | (simp [*]; done)), H', ⟨by have := HK1.out; omega⟩, ⟨by repeat (first | (with_reducible first | exact HB.out | apply below_alloc | apply pw_below_drewN | apply below_drew1) | exact HB.out)⟩⟩
                            · rw [if_neg c24] at H
                              exact absurd H (by simp)
                        · rw [if_neg c19] at H
                          exact absurd H (by simp)
                      · replace c18 := Bool.eq_false_iff.mpr c18
                        subst c18
                        have H1 : (if a2 = true then ((peerageref05_small.f k1 (x0_1.extract 0 (t118 : Int).toNat) t117).bind fun t122 => (if x7_1.size + t122.size ≤ 9223372036854775807 then (peerageref05_prepared.l0 k1 (x0_1.extract (t118 : Int).toNat x0_1.size) false a2 (x7_1 ++ t122) false false) else (none))) else (if x7_1.size + (x0_1.extract 0 (t118 : Int).toNat).size ≤ 9223372036854775807 then (peerageref05_prepared.l0 k1 (x0_1.extract (t118 : Int).toNat x0_1.size) false a2 (x7_1 ++ (x0_1.extract 0 (t118 : Int).toNat)) false false) else (none))) = some r := by rw [if_neg (show ¬ (false = true) by decide)] at H; exact H
                        clear H
                        have H := H1
                        clear H1
                        by_cases c25 : a2 = true
                        · subst c25
                          have H1 : ((peerageref05_small.f k1 (x0_1.extract 0 (t118 : Int).toNat) t117).bind fun t122 => (if x7_1.size + t122.size ≤ 9223372036854775807 then (peerageref05_prepared.l0 k1 (x0_1.extract (t118 : Int).toNat x0_1.size) false true (x7_1 ++ t122) false false) else (none))) = some r := by rw [if_pos rfl] at H; exact H
                          clear H
                          have H := H1
                          clear H1
                          replace H := Option.bind_eq_some_iff.mp H
                          obtain ⟨t122, A260, H⟩ := H
                          replace H : (if x7_1.size + t122.size ≤ 9223372036854775807 then (peerageref05_prepared.l0 k1 (x0_1.extract (t118 : Int).toNat x0_1.size) false true (x7_1 ++ t122) false false) else (none)) = some r := H
                          have A26 := Aside0.mk A260
                          clear A260
                          by_cases c27 : x7_1.size + t122.size ≤ 9223372036854775807
                          · rw [if_pos c27] at H
                            have c27b0 := eq_true c27
                            have c27b1 : decide (x7_1.size + t122.size ≤ 9223372036854775807) = true := decide_eq_true c27
                            try have c27b2 : (9223372036854775807 < x7_1.size + t122.size) = False := eq_false (Nat.not_lt.2 c27)
                            have H' := Aside0.mk H
                            clear H
                            go_wp2_with (first | ((with_reducible refine gate_callee (f := 6) rfl ?_); refine goesL_ (some 22) rfl rfl Tryd.func6 (by kernel_rfl) rfl #[.string x0_1] rfl (by (try simp only [List.map_toArray, List.map_cons, List.map_nil]); first | done | rfl | (simp only [List.length_drop, List.length_take]; rfl)) ?_; (with_reducible refine (peerageref05_Next.calls k1 x0_1 t117 t118 _ A7.out).mono ?_); rintro e w' ⟨rfl, ⟨nd, rfl⟩⟩; refine ⟨_, rfl, ?_⟩) | ((with_reducible refine gate_callee (f := 31) rfl ?_); refine goesL_ (some 32) rfl rfl Tryd.func31 (by kernel_rfl) rfl #[.int .i32 t117] rfl (by (try simp only [List.map_toArray, List.map_cons, List.map_nil]); first | done | rfl | (simp only [List.length_drop, List.length_take]; rfl)) ?_; (with_reducible refine (peerageref05_nothing.calls t117 false _ A12.out).mono ?_); rintro e w' ⟨rfl, ⟨nd, rfl⟩⟩; refine ⟨_, rfl, ?_⟩) | ((with_reducible refine gate_callee (f := 32) rfl ?_); refine goesL_ (some 34) rfl rfl Tryd.func32 (by kernel_rfl) rfl #[.int .i32 t117] rfl (by (try simp only [List.map_toArray, List.map_cons, List.map_nil]); first | done | rfl | (simp only [List.length_drop, List.length_take]; rfl)) ?_; (with_reducible refine (peerageref05_blank.calls t117 false _ A14.out).mono ?_); rintro e w' ⟨rfl, ⟨nd, rfl⟩⟩; refine ⟨_, rfl, ?_⟩) | ((with_reducible refine gate_callee (f := 33) rfl ?_); refine goesL_ (some 48) rfl rfl Tryd.func33 (by kernel_rfl) rfl #[.string (x0_1.extract 0 (t118 : Int).toNat), .int .i32 t117] rfl (by (try simp only [List.map_toArray, List.map_cons, List.map_nil]); first | done | rfl | (simp only [List.length_drop, List.length_take]; rfl)) ?_; (with_reducible refine (peerageref05_small.calls k1 (x0_1.extract 0 (t118 : Int).toNat) t117 t122 _ A26.out).mono ?_); rintro e w28 ⟨rfl, hb⟩; refine ⟨_, rfl, ?_⟩; have n0_ := Aside0.mk (below_step (by repeat (first | (with_reducible first | exact HB.out | apply below_alloc | apply pw_below_drewN | apply below_drew1) | exact HB.out)) hb); clear HB; have HB := n0_; clear n0_; (try clear hb); (try clear hb2); (try clear hk); (try clear hi)))
                            go_roundg k1
                            case measure => have := HK1.out; omega
                            case rel => exact ⟨(x0_1.extract (t118 : Int).toNat x0_1.size), (x7_1 ++ t122), (false), (false), (by first | rfl | (simp; done) | (simp [*]; done)), (by first | rfl | (simp; done) | (simp [*]; done)), (by first | rfl | (simp; done) | (simp [*]; done)), (by first | rfl | (simp; done) | (simp [*]; done)), H', ⟨by have := HK1.out; omega⟩, ⟨by repeat (first | (with_reducible first | exact HB.out | apply below_alloc | apply pw_below_drewN | apply below_drew1) | exact HB.out)⟩⟩
                          · rw [if_neg c27] at H
                            exact absurd H (by simp)
                        · replace c25 := Bool.eq_false_iff.mpr c25
                          subst c25
                          have H1 : (if x7_1.size + (x0_1.extract 0 (t118 : Int).toNat).size ≤ 9223372036854775807 then (peerageref05_prepared.l0 k1 (x0_1.extract (t118 : Int).toNat x0_1.size) false false (x7_1 ++ (x0_1.extract 0 (t118 : Int).toNat)) false false) else (none)) = some r := by rw [if_neg (show ¬ (false = true) by decide)] at H; exact H
                          clear H
                          have H := H1
                          clear H1
                          by_cases c29 : x7_1.size + (x0_1.extract 0 (t118 : Int).toNat).size ≤ 9223372036854775807
                          · rw [if_pos c29] at H
                            have c29b0 := eq_true c29
                            have c29b1 : decide (x7_1.size + (x0_1.extract 0 (t118 : Int).toNat).size ≤ 9223372036854775807) = true := decide_eq_true c29
                            try have c29b2 : (9223372036854775807 < x7_1.size + (x0_1.extract 0 (t118 : Int).toNat).size) = False := eq_false (Nat.not_lt.2 c29)
                            have H' := Aside0.mk H
                            clear H
                            go_wp2_with (first | ((with_reducible refine gate_callee (f := 6) rfl ?_); refine goesL_ (some 22) rfl rfl Tryd.func6 (by kernel_rfl) rfl #[.string x0_1] rfl (by (try simp only [List.map_toArray, List.map_cons, List.map_nil]); first | done | rfl | (simp only [List.length_drop, List.length_take]; rfl)) ?_; (with_reducible refine (peerageref05_Next.calls k1 x0_1 t117 t118 _ A7.out).mono ?_); rintro e w' ⟨rfl, ⟨nd, rfl⟩⟩; refine ⟨_, rfl, ?_⟩) | ((with_reducible refine gate_callee (f := 31) rfl ?_); refine goesL_ (some 32) rfl rfl Tryd.func31 (by kernel_rfl) rfl #[.int .i32 t117] rfl (by (try simp only [List.map_toArray, List.map_cons, List.map_nil]); first | done | rfl | (simp only [List.length_drop, List.length_take]; rfl)) ?_; (with_reducible refine (peerageref05_nothing.calls t117 false _ A12.out).mono ?_); rintro e w' ⟨rfl, ⟨nd, rfl⟩⟩; refine ⟨_, rfl, ?_⟩) | ((with_reducible refine gate_callee (f := 32) rfl ?_); refine goesL_ (some 34) rfl rfl Tryd.func32 (by kernel_rfl) rfl #[.int .i32 t117] rfl (by (try simp only [List.map_toArray, List.map_cons, List.map_nil]); first | done | rfl | (simp only [List.length_drop, List.length_take]; rfl)) ?_; (with_reducible refine (peerageref05_blank.calls t117 false _ A14.out).mono ?_); rintro e w' ⟨rfl, ⟨nd, rfl⟩⟩; refine ⟨_, rfl, ?_⟩))
                            go_roundg k1
                            case measure => have := HK1.out; omega
                            case rel => exact ⟨(x0_1.extract (t118 : Int).toNat x0_1.size), (x7_1 ++ (x0_1.extract 0 (t118 : Int).toNat)), (false), (false), (by first | rfl | (simp; done) | (simp [*]; done)), (by first | rfl | (simp; done) | (simp [*]; done)), (by first | rfl | (simp; done) | (simp [*]; done)), (by first | rfl | (simp; done) | (simp [*]; done)), H', ⟨by have := HK1.out; omega⟩, ⟨by repeat (first | (with_reducible first | exact HB.out | apply below_alloc | apply pw_below_drewN | apply below_drew1) | exact HB.out)⟩⟩
                          · rw [if_neg c29] at H
                            exact absurd H (by simp)
                    · replace c17 := Bool.eq_false_iff.mpr c17
                      subst c17
                      have H1 : (if x7_1.size + 1 ≤ 9223372036854775807 then (if a2 = true then ((peerageref05_small.f k1 (x0_1.extract 0 (t118 : Int).toNat) t117).bind fun t123 => (if (x7_1 ++ (⟨#[32]⟩ : ByteArray)).size + t123.size ≤ 9223372036854775807 then (peerageref05_prepared.l0 k1 (x0_1.extract (t118 : Int).toNat x0_1.size) a1 a2 ((x7_1 ++ (⟨#[32]⟩ : ByteArray)) ++ t123) false false) else (none))) else (if (x7_1 ++ (⟨#[32]⟩ : ByteArray)).size + (x0_1.extract 0 (t118 : Int).toNat).size ≤ 9223372036854775807 then (peerageref05_prepared.l0 k1 (x0_1.extract (t118 : Int).toNat x0_1.size) a1 a2 ((x7_1 ++ (⟨#[32]⟩ : ByteArray)) ++ (x0_1.extract 0 (t118 : Int).toNat)) false false) else (none))) else (none)) = some r := by rw [if_neg (show ¬ (false = true) by decide)] at H; exact H
                      clear H
                      have H := H1
                      clear H1
                      by_cases c30 : x7_1.size + 1 ≤ 9223372036854775807
                      · rw [if_pos c30] at H
                        have c30b0 := eq_true c30
                        have c30b1 : decide (x7_1.size + 1 ≤ 9223372036854775807) = true := decide_eq_true c30
                        try have c30b2 : (9223372036854775807 < x7_1.size + 1) = False := eq_false (Nat.not_lt.2 c30)
                        by_cases c31 : a2 = true
                        · subst c31
                          have H1 : ((peerageref05_small.f k1 (x0_1.extract 0 (t118 : Int).toNat) t117).bind fun t123 => (if (x7_1 ++ (⟨#[32]⟩ : ByteArray)).size + t123.size ≤ 9223372036854775807 then (peerageref05_prepared.l0 k1 (x0_1.extract (t118 : Int).toNat x0_1.size) a1 true ((x7_1 ++ (⟨#[32]⟩ : ByteArray)) ++ t123) false false) else (none))) = some r := by rw [if_pos rfl] at H; exact H
                          clear H
                          have H := H1
                          clear H1
                          replace H := Option.bind_eq_some_iff.mp H
                          obtain ⟨t123, A320, H⟩ := H
                          replace H : (if (x7_1 ++ (⟨#[32]⟩ : ByteArray)).size + t123.size ≤ 9223372036854775807 then (peerageref05_prepared.l0 k1 (x0_1.extract (t118 : Int).toNat x0_1.size) a1 true ((x7_1 ++ (⟨#[32]⟩ : ByteArray)) ++ t123) false false) else (none)) = some r := H
                          have A32 := Aside0.mk A320
                          clear A320
                          by_cases c33 : (x7_1 ++ (⟨#[32]⟩ : ByteArray)).size + t123.size ≤ 9223372036854775807
                          · rw [if_pos c33] at H
                            have c33b0 := eq_true c33
                            have c33b1 : decide ((x7_1 ++ (⟨#[32]⟩ : ByteArray)).size + t123.size ≤ 9223372036854775807) = true := decide_eq_true c33
                            try have c33b2 : (9223372036854775807 < (x7_1 ++ (⟨#[32]⟩ : ByteArray)).size + t123.size) = False := eq_false (Nat.not_lt.2 c33)
                            have H' := Aside0.mk H
                            clear H
                            go_wp2_with (first | ((with_reducible refine gate_callee (f := 6) rfl ?_); refine goesL_ (some 22) rfl rfl Tryd.func6 (by kernel_rfl) rfl #[.string x0_1] rfl (by (try simp only [List.map_toArray, List.map_cons, List.map_nil]); first | done | rfl | (simp only [List.length_drop, List.length_take]; rfl)) ?_; (with_reducible refine (peerageref05_Next.calls k1 x0_1 t117 t118 _ A7.out).mono ?_); rintro e w' ⟨rfl, ⟨nd, rfl⟩⟩; refine ⟨_, rfl, ?_⟩) | ((with_reducible refine gate_callee (f := 31) rfl ?_); refine goesL_ (some 32) rfl rfl Tryd.func31 (by kernel_rfl) rfl #[.int .i32 t117] rfl (by (try simp only [List.map_toArray, List.map_cons, List.map_nil]); first | done | rfl | (simp only [List.length_drop, List.length_take]; rfl)) ?_; (with_reducible refine (peerageref05_nothing.calls t117 false _ A12.out).mono ?_); rintro e w' ⟨rfl, ⟨nd, rfl⟩⟩; refine ⟨_, rfl, ?_⟩) | ((with_reducible refine gate_callee (f := 32) rfl ?_); refine goesL_ (some 34) rfl rfl Tryd.func32 (by kernel_rfl) rfl #[.int .i32 t117] rfl (by (try simp only [List.map_toArray, List.map_cons, List.map_nil]); first | done | rfl | (simp only [List.length_drop, List.length_take]; rfl)) ?_; (with_reducible refine (peerageref05_blank.calls t117 false _ A14.out).mono ?_); rintro e w' ⟨rfl, ⟨nd, rfl⟩⟩; refine ⟨_, rfl, ?_⟩) | ((with_reducible refine gate_callee (f := 33) rfl ?_); refine goesL_ (some 48) rfl rfl Tryd.func33 (by kernel_rfl) rfl #[.string (x0_1.extract 0 (t118 : Int).toNat), .int .i32 t117] rfl (by (try simp only [List.map_toArray, List.map_cons, List.map_nil]); first | done | rfl | (simp only [List.length_drop, List.length_take]; rfl)) ?_; (with_reducible refine (peerageref05_small.calls k1 (x0_1.extract 0 (t118 : Int).toNat) t117 t123 _ A32.out).mono ?_); rintro e w34 ⟨rfl, hb⟩; refine ⟨_, rfl, ?_⟩; have n0_ := Aside0.mk (below_step (by repeat (first | (with_reducible first | exact HB.out | apply below_alloc | apply pw_below_drewN | apply below_drew1) | exact HB.out)) hb); clear HB; have HB := n0_; clear n0_; (try clear hb); (try clear hb2); (try clear hk); (try clear hi)))
                            go_roundg k1
                            case measure => have := HK1.out; omega
                            case rel => exact ⟨(x0_1.extract (t118 : Int).toNat x0_1.size), ((x7_1 ++ (⟨#[32]⟩ : ByteArray)) ++ t123), (false), (false), (by first | rfl | (simp; done) | (simp [*]; done)), (by first | rfl | (simp; done) | (simp [*]; done)), (by first | rfl | (simp; done) | (simp [*]; done)), (by first | rfl | (simp; done) | (simp [*]; done)), H', ⟨by have := HK1.out; omega⟩, ⟨by repeat (first | (with_reducible first | exact HB.out | apply below_alloc | apply pw_below_drewN | apply below_drew1) | exact HB.out)⟩⟩
                          · rw [if_neg c33] at H
                            exact absurd H (by simp)
                        · replace c31 := Bool.eq_false_iff.mpr c31
                          subst c31
                          have H1 : (if (x7_1 ++ (⟨#[32]⟩ : ByteArray)).size + (x0_1.extract 0 (t118 : Int).toNat).size ≤ 9223372036854775807 then (peerageref05_prepared.l0 k1 (x0_1.extract (t118 : Int).toNat x0_1.size) a1 false ((x7_1 ++ (⟨#[32]⟩ : ByteArray)) ++ (x0_1.extract 0 (t118 : Int).toNat)) false false) else (none)) = some r := by rw [if_neg (show ¬ (false = true) by decide)] at H; exact H
                          clear H
                          have H := H1
                          clear H1
                          by_cases c35 : (x7_1 ++ (⟨#[32]⟩ : ByteArray)).size + (x0_1.extract 0 (t118 : Int).toNat).size ≤ 9223372036854775807
                          · rw [if_pos c35] at H
                            have c35b0 := eq_true c35
                            have c35b1 : decide ((x7_1 ++ (⟨#[32]⟩ : ByteArray)).size + (x0_1.extract 0 (t118 : Int).toNat).size ≤ 9223372036854775807) = true := decide_eq_true c35
                            try have c35b2 : (9223372036854775807 < (x7_1 ++ (⟨#[32]⟩ : ByteArray)).size + (x0_1.extract 0 (t118 : Int).toNat).size) = False := eq_false (Nat.not_lt.2 c35)
                            have H' := Aside0.mk H
                            clear H
                            go_wp2_with (first | ((with_reducible refine gate_callee (f := 6) rfl ?_); refine goesL_ (some 22) rfl rfl Tryd.func6 (by kernel_rfl) rfl #[.string x0_1] rfl (by (try simp only [List.map_toArray, List.map_cons, List.map_nil]); first | done | rfl | (simp only [List.length_drop, List.length_take]; rfl)) ?_; (with_reducible refine (peerageref05_Next.calls k1 x0_1 t117 t118 _ A7.out).mono ?_); rintro e w' ⟨rfl, ⟨nd, rfl⟩⟩; refine ⟨_, rfl, ?_⟩) | ((with_reducible refine gate_callee (f := 31) rfl ?_); refine goesL_ (some 32) rfl rfl Tryd.func31 (by kernel_rfl) rfl #[.int .i32 t117] rfl (by (try simp only [List.map_toArray, List.map_cons, List.map_nil]); first | done | rfl | (simp only [List.length_drop, List.length_take]; rfl)) ?_; (with_reducible refine (peerageref05_nothing.calls t117 false _ A12.out).mono ?_); rintro e w' ⟨rfl, ⟨nd, rfl⟩⟩; refine ⟨_, rfl, ?_⟩) | ((with_reducible refine gate_callee (f := 32) rfl ?_); refine goesL_ (some 34) rfl rfl Tryd.func32 (by kernel_rfl) rfl #[.int .i32 t117] rfl (by (try simp only [List.map_toArray, List.map_cons, List.map_nil]); first | done | rfl | (simp only [List.length_drop, List.length_take]; rfl)) ?_; (with_reducible refine (peerageref05_blank.calls t117 false _ A14.out).mono ?_); rintro e w' ⟨rfl, ⟨nd, rfl⟩⟩; refine ⟨_, rfl, ?_⟩))
                            go_roundg k1
                            case measure => have := HK1.out; omega
                            case rel => exact ⟨(x0_1.extract (t118 : Int).toNat x0_1.size), ((x7_1 ++ (⟨#[32]⟩ : ByteArray)) ++ (x0_1.extract 0 (t118 : Int).toNat)), (false), (false), (by first | rfl | (simp; done) | (simp [*]; done)), (by first | rfl | (simp; done) | (simp [*]; done)), (by first | rfl | (simp; done) | (simp [*]; done)), (by first | rfl | (simp; done) | (simp [*]; done)), H', ⟨by have := HK1.out; omega⟩, ⟨by repeat (first | (with_reducible first | exact HB.out | apply below_alloc | apply pw_below_drewN | apply below_drew1) | exact HB.out)⟩⟩
                          · rw [if_neg c35] at H
                            exact absurd H (by simp)
                      · rw [if_neg c30] at H
                        exact absurd H (by simp)
                  · replace c16 := Bool.eq_false_iff.mpr c16
                    subst c16
                    have H1 : (if a2 = true then ((peerageref05_small.f k1 (x0_1.extract 0 (t118 : Int).toNat) t117).bind fun t124 => (if x7_1.size + t124.size ≤ 9223372036854775807 then (peerageref05_prepared.l0 k1 (x0_1.extract (t118 : Int).toNat x0_1.size) a1 a2 (x7_1 ++ t124) false false) else (none))) else (if x7_1.size + (x0_1.extract 0 (t118 : Int).toNat).size ≤ 9223372036854775807 then (peerageref05_prepared.l0 k1 (x0_1.extract (t118 : Int).toNat x0_1.size) a1 a2 (x7_1 ++ (x0_1.extract 0 (t118 : Int).toNat)) false false) else (none))) = some r := by rw [if_neg (show ¬ (false = true) by decide)] at H; exact H
                    clear H
                    have H := H1
                    clear H1
                    by_cases c36 : a2 = true
                    · subst c36
                      have H1 : ((peerageref05_small.f k1 (x0_1.extract 0 (t118 : Int).toNat) t117).bind fun t124 => (if x7_1.size + t124.size ≤ 9223372036854775807 then (peerageref05_prepared.l0 k1 (x0_1.extract (t118 : Int).toNat x0_1.size) a1 true (x7_1 ++ t124) false false) else (none))) = some r := by rw [if_pos rfl] at H; exact H
                      clear H
                      have H := H1
                      clear H1
                      replace H := Option.bind_eq_some_iff.mp H
                      obtain ⟨t124, A370, H⟩ := H
                      replace H : (if x7_1.size + t124.size ≤ 9223372036854775807 then (peerageref05_prepared.l0 k1 (x0_1.extract (t118 : Int).toNat x0_1.size) a1 true (x7_1 ++ t124) false false) else (none)) = some r := H
                      have A37 := Aside0.mk A370
                      clear A370
                      by_cases c38 : x7_1.size + t124.size ≤ 9223372036854775807
                      · rw [if_pos c38] at H
                        have c38b0 := eq_true c38
                        have c38b1 : decide (x7_1.size + t124.size ≤ 9223372036854775807) = true := decide_eq_true c38
                        try have c38b2 : (9223372036854775807 < x7_1.size + t124.size) = False := eq_false (Nat.not_lt.2 c38)
                        have H' := Aside0.mk H
                        clear H
                        go_wp2_with (first | ((with_reducible refine gate_callee (f := 6) rfl ?_); refine goesL_ (some 22) rfl rfl Tryd.func6 (by kernel_rfl) rfl #[.string x0_1] rfl (by (try simp only [List.map_toArray, List.map_cons, List.map_nil]); first | done | rfl | (simp only [List.length_drop, List.length_take]; rfl)) ?_; (with_reducible refine (peerageref05_Next.calls k1 x0_1 t117 t118 _ A7.out).mono ?_); rintro e w' ⟨rfl, ⟨nd, rfl⟩⟩; refine ⟨_, rfl, ?_⟩) | ((with_reducible refine gate_callee (f := 31) rfl ?_); refine goesL_ (some 32) rfl rfl Tryd.func31 (by kernel_rfl) rfl #[.int .i32 t117] rfl (by (try simp only [List.map_toArray, List.map_cons, List.map_nil]); first | done | rfl | (simp only [List.length_drop, List.length_take]; rfl)) ?_; (with_reducible refine (peerageref05_nothing.calls t117 false _ A12.out).mono ?_); rintro e w' ⟨rfl, ⟨nd, rfl⟩⟩; refine ⟨_, rfl, ?_⟩) | ((with_reducible refine gate_callee (f := 32) rfl ?_); refine goesL_ (some 34) rfl rfl Tryd.func32 (by kernel_rfl) rfl #[.int .i32 t117] rfl (by (try simp only [List.map_toArray, List.map_cons, List.map_nil]); first | done | rfl | (simp only [List.length_drop, List.length_take]; rfl)) ?_; (with_reducible refine (peerageref05_blank.calls t117 false _ A14.out).mono ?_); rintro e w' ⟨rfl, ⟨nd, rfl⟩⟩; refine ⟨_, rfl, ?_⟩) | ((with_reducible refine gate_callee (f := 33) rfl ?_); refine goesL_ (some 48) rfl rfl Tryd.func33 (by kernel_rfl) rfl #[.string (x0_1.extract 0 (t118 : Int).toNat), .int .i32 t117] rfl (by (try simp only [List.map_toArray, List.map_cons, List.map_nil]); first | done | rfl | (simp only [List.length_drop, List.length_take]; rfl)) ?_; (with_reducible refine (peerageref05_small.calls k1 (x0_1.extract 0 (t118 : Int).toNat) t117 t124 _ A37.out).mono ?_); rintro e w39 ⟨rfl, hb⟩; refine ⟨_, rfl, ?_⟩; have n0_ := Aside0.mk (below_step (by repeat (first | (with_reducible first | exact HB.out | apply below_alloc | apply pw_below_drewN | apply below_drew1) | exact HB.out)) hb); clear HB; have HB := n0_; clear n0_; (try clear hb); (try clear hb2); (try clear hk); (try clear hi)))
                        go_roundg k1
                        case measure => have := HK1.out; omega
                        case rel => exact ⟨(x0_1.extract (t118 : Int).toNat x0_1.size), (x7_1 ++ t124), (false), (false), (by first | rfl | (simp; done) | (simp [*]; done)), (by first | rfl | (simp; done) | (simp [*]; done)), (by first | rfl | (simp; done) | (simp [*]; done)), (by first | rfl | (simp; done) | (simp [*]; done)), H', ⟨by have := HK1.out; omega⟩, ⟨by repeat (first | (with_reducible first | exact HB.out | apply below_alloc | apply pw_below_drewN | apply below_drew1) | exact HB.out)⟩⟩
                      · rw [if_neg c38] at H
                        exact absurd H (by simp)
                    · replace c36 := Bool.eq_false_iff.mpr c36
                      subst c36
                      have H1 : (if x7_1.size + (x0_1.extract 0 (t118 : Int).toNat).size ≤ 9223372036854775807 then (peerageref05_prepared.l0 k1 (x0_1.extract (t118 : Int).toNat x0_1.size) a1 false (x7_1 ++ (x0_1.extract 0 (t118 : Int).toNat)) false false) else (none)) = some r := by rw [if_neg (show ¬ (false = true) by decide)] at H; exact H
                      clear H
                      have H := H1
                      clear H1
                      by_cases c40 : x7_1.size + (x0_1.extract 0 (t118 : Int).toNat).size ≤ 9223372036854775807
                      · rw [if_pos c40] at H
                        have c40b0 := eq_true c40
                        have c40b1 : decide (x7_1.size + (x0_1.extract 0 (t118 : Int).toNat).size ≤ 9223372036854775807) = true := decide_eq_true c40
                        try have c40b2 : (9223372036854775807 < x7_1.size + (x0_1.extract 0 (t118 : Int).toNat).size) = False := eq_false (Nat.not_lt.2 c40)
                        have H' := Aside0.mk H
                        clear H
                        go_wp2_with (first | ((with_reducible refine gate_callee (f := 6) rfl ?_); refine goesL_ (some 22) rfl rfl Tryd.func6 (by kernel_rfl) rfl #[.string x0_1] rfl (by (try simp only [List.map_toArray, List.map_cons, List.map_nil]); first | done | rfl | (simp only [List.length_drop, List.length_take]; rfl)) ?_; (with_reducible refine (peerageref05_Next.calls k1 x0_1 t117 t118 _ A7.out).mono ?_); rintro e w' ⟨rfl, ⟨nd, rfl⟩⟩; refine ⟨_, rfl, ?_⟩) | ((with_reducible refine gate_callee (f := 31) rfl ?_); refine goesL_ (some 32) rfl rfl Tryd.func31 (by kernel_rfl) rfl #[.int .i32 t117] rfl (by (try simp only [List.map_toArray, List.map_cons, List.map_nil]); first | done | rfl | (simp only [List.length_drop, List.length_take]; rfl)) ?_; (with_reducible refine (peerageref05_nothing.calls t117 false _ A12.out).mono ?_); rintro e w' ⟨rfl, ⟨nd, rfl⟩⟩; refine ⟨_, rfl, ?_⟩) | ((with_reducible refine gate_callee (f := 32) rfl ?_); refine goesL_ (some 34) rfl rfl Tryd.func32 (by kernel_rfl) rfl #[.int .i32 t117] rfl (by (try simp only [List.map_toArray, List.map_cons, List.map_nil]); first | done | rfl | (simp only [List.length_drop, List.length_take]; rfl)) ?_; (with_reducible refine (peerageref05_blank.calls t117 false _ A14.out).mono ?_); rintro e w' ⟨rfl, ⟨nd, rfl⟩⟩; refine ⟨_, rfl, ?_⟩))
                        go_roundg k1
                        case measure => have := HK1.out; omega
                        case rel => exact ⟨(x0_1.extract (t118 : Int).toNat x0_1.size), (x7_1 ++ (x0_1.extract 0 (t118 : Int).toNat)), (false), (false), (by first | rfl | (simp; done) | (simp [*]; done)), (by first | rfl | (simp; done) | (simp [*]; done)), (by first | rfl | (simp; done) | (simp [*]; done)), (by first | rfl | (simp; done) | (simp [*]; done)), H', ⟨by have := HK1.out; omega⟩, ⟨by repeat (first | (with_reducible first | exact HB.out | apply below_alloc | apply pw_below_drewN | apply below_drew1) | exact HB.out)⟩⟩
                      · rw [if_neg c40] at H
                        exact absurd H (by simp)
            · rw [if_neg c9] at H
              exact absurd H (by simp)
          · rw [if_neg c8] at H
            exact absurd H (by simp)
        · rw [if_neg c6] at H
          have c6b0 : decide (0 < (x0_1.size : Int)) = false := decide_eq_false c6
          have c6b1 : decide (0 < x0_1.size) = false := decide_eq_false (by omega)
          clear c6
          by_cases c41 : x8_1 = true
          · subst c41
            have H1 : (if a1 = true then (if x7_1.size + 1 ≤ 9223372036854775807 then (some (x7_1 ++ (⟨#[32]⟩ : ByteArray))) else (none)) else (some x7_1)) = some r := by rw [if_pos rfl] at H; exact H
            clear H
            have H := H1
            clear H1
            by_cases c42 : a1 = true
            · subst c42
              have H1 : (if x7_1.size + 1 ≤ 9223372036854775807 then (some (x7_1 ++ (⟨#[32]⟩ : ByteArray))) else (none)) = some r := by rw [if_pos rfl] at H; exact H
              clear H
              have H := H1
              clear H1
              by_cases c43 : x7_1.size + 1 ≤ 9223372036854775807
              · rw [if_pos c43] at H
                have c43b0 := eq_true c43
                have c43b1 : decide (x7_1.size + 1 ≤ 9223372036854775807) = true := decide_eq_true c43
                try have c43b2 : (9223372036854775807 < x7_1.size + 1) = False := eq_false (Nat.not_lt.2 c43)
                obtain rfl := Option.some.inj H
                go_wp2
                go_ret
                exact ⟨by first | rfl | (simp [errW_none, errW_some] <;> rfl) | (simp [*, errW_none, errW_some] <;> rfl), by repeat (first | (with_reducible first | exact HB.out | apply below_alloc | apply pw_below_drewN | apply below_drew1) | exact HB.out)⟩
              · rw [if_neg c43] at H
                exact absurd H (by simp)
            · replace c42 := Bool.eq_false_iff.mpr c42
              subst c42
              have H1 : (some x7_1) = some r := by rw [if_neg (show ¬ (false = true) by decide)] at H; exact H
              clear H
              have H := H1
              clear H1
              obtain rfl := Option.some.inj H
              go_wp2
              go_ret
              exact ⟨by first | rfl | (simp [errW_none, errW_some] <;> rfl) | (simp [*, errW_none, errW_some] <;> rfl), by repeat (first | (with_reducible first | exact HB.out | apply below_alloc | apply pw_below_drewN | apply below_drew1) | exact HB.out)⟩
          · replace c41 := Bool.eq_false_iff.mpr c41
            subst c41
            have H1 : (some x7_1) = some r := by rw [if_neg (show ¬ (false = true) by decide)] at H; exact H
            clear H
            have H := H1
            clear H1
            obtain rfl := Option.some.inj H
            go_wp2
            go_ret
            exact ⟨by first | rfl | (simp [errW_none, errW_some] <;> rfl) | (simp [*, errW_none, errW_some] <;> rfl), by repeat (first | (with_reducible first | exact HB.out | apply below_alloc | apply pw_below_drewN | apply below_drew1) | exact HB.out)⟩

end Go.Proofs.YtmlihcknkgfhaaaDoor.PFold
