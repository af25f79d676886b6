/- Functions that a law calls, and the walk of the law itself, told by a program of this session (pp.py) over the kit printer; no condition beyond the statement itself; not trusted: Lean checks it. -/
import Derived.Test.YtmhjplbloeamiaaPRefx0
import Derived.Test.YtmhjplbloeamiaaPRefx1
namespace Go.Proofs.Ytmhjplbloeamiaa.PRef
open Go.RowKit Go.Proofs.Ytmhjplbloeamiaa.H Go.Proofs.Ytmhjplbloeamiaa.PEsc Go.Proofs.YtmhjplbloeamiaaW.PrintWords Go.Proofs.YtmhjplbloeamiaaW.PrintLast Go.Proofs.YtmhjplbloeamiaaW.PrintMore
attribute [local go_sem] max2_int min2_int max_two min_two max_three min_three max_four min_four   -- for this text's walks alone
set_option linter.unusedVariables false
set_option linter.unusedSimpArgs false

/-! ### peerageref10_Filter: function 11 -/
def peerageref10_Filter.l0 : Nat → ByteArray → Bool → ByteArray → Int → Option (ByteArray)
  | 0, _, _, _, _ => none
  | k + 1, x0, x3, x4, x5 => if x5 < (x0.size : Int) then (if 0 ≤ x5 then ((peerageref10_among.f k (⟨#[42, 40, 41, 92]⟩ : ByteArray) (bt x0 x5)).bind fun t104 => (if t104 = true then (if x4.size + 1 ≤ 9223372036854775807 then ((peerageref10_two.f (bt x0 x5)).bind fun t105 => (if (x4 ++ (⟨#[92]⟩ : ByteArray)).size + t105.size ≤ 9223372036854775807 then (peerageref10_Filter.l0 k x0 x3 ((x4 ++ (⟨#[92]⟩ : ByteArray)) ++ t105) (wrap64 (x5 + 1))) else (none))) else (none)) else (if (bt x0 x5) = 0 then (if x4.size + 1 ≤ 9223372036854775807 then ((peerageref10_two.f (bt x0 x5)).bind fun t106 => (if (x4 ++ (⟨#[92]⟩ : ByteArray)).size + t106.size ≤ 9223372036854775807 then (peerageref10_Filter.l0 k x0 x3 ((x4 ++ (⟨#[92]⟩ : ByteArray)) ++ t106) (wrap64 (x5 + 1))) else (none))) else (none)) else (if (bt x0 x5) > 127 then (if x3 = true then (if x5 ≤ (wrap64 (x5 + 1)) then (if (wrap64 (x5 + 1)) ≤ (x0.size : Int) then (if x4.size + (x0.extract (x5 : Int).toNat ((wrap64 (x5 + 1)) : Int).toNat).size ≤ 9223372036854775807 then (peerageref10_Filter.l0 k x0 x3 (x4 ++ (x0.extract (x5 : Int).toNat ((wrap64 (x5 + 1)) : Int).toNat)) (wrap64 (x5 + 1))) else (none)) else (none)) else (none)) else (if x4.size + 1 ≤ 9223372036854775807 then ((peerageref10_two.f (bt x0 x5)).bind fun t107 => (if (x4 ++ (⟨#[92]⟩ : ByteArray)).size + t107.size ≤ 9223372036854775807 then (peerageref10_Filter.l0 k x0 x3 ((x4 ++ (⟨#[92]⟩ : ByteArray)) ++ t107) (wrap64 (x5 + 1))) else (none))) else (none))) else (if x5 ≤ (wrap64 (x5 + 1)) then (if (wrap64 (x5 + 1)) ≤ (x0.size : Int) then (if x4.size + (x0.extract (x5 : Int).toNat ((wrap64 (x5 + 1)) : Int).toNat).size ≤ 9223372036854775807 then (peerageref10_Filter.l0 k x0 x3 (x4 ++ (x0.extract (x5 : Int).toNat ((wrap64 (x5 + 1)) : Int).toNat)) (wrap64 (x5 + 1))) else (none)) else (none)) else (none)))))) else (none)) else (some x4)
def peerageref10_Filter.f (k : Nat) (a0 : ByteArray) : Option (ByteArray) := (peerageref05_Count.f k a0).bind fun t103 => (peerageref10_Filter.l0 k a0 (decide (t103 ≥ 0)) (⟨#[]⟩ : ByteArray) 0)
theorem peerageref10_Filter.mono_l : ∀ k, (∀ y0 y1 y2 y3, LeO (peerageref10_Filter.l0 k y0 y1 y2 y3) (peerageref10_Filter.l0 (k + 1) y0 y1 y2 y3))
  | 0 => fun _ _ _ _ r h => by simp [peerageref10_Filter.l0] at h
  | k + 1 => by
    have ih0 := peerageref10_Filter.mono_l k
    · intro y0 y1 y2 y3
      unfold peerageref10_Filter.l0
      repeat' first
      | (with_reducible exact ih0 _ _ _ _)
      | (with_reducible exact peerageref05_Count.mono _ _)
      | (with_reducible exact peerageref10_among.mono _ _ _)
      | (with_reducible exact LeO.refl _)
      | (with_reducible exact LeO.none _)
      | (with_reducible refine LeO.ite ?_ ?_)
      | (with_reducible refine LeO.bind ?_ (fun _ => ?_))
      | exact ih0 _ _ _ _
      | exact peerageref05_Count.mono _ _
      | exact peerageref10_among.mono _ _ _
      | exact LeO.none _
      | refine LeO.ite ?_ ?_
      | refine LeO.bind ?_ (fun _ => ?_)
theorem peerageref10_Filter.mono : ∀ a0 k, LeO (peerageref10_Filter.f k a0) (peerageref10_Filter.f (k + 1) a0) := by
  intro a0 k
  have ih0 := peerageref10_Filter.mono_l k
  unfold peerageref10_Filter.f
  repeat' first
      | (with_reducible exact ih0 _ _ _ _)
      | (with_reducible exact peerageref05_Count.mono _ _)
      | (with_reducible exact peerageref10_among.mono _ _ _)
      | (with_reducible exact LeO.refl _)
      | (with_reducible exact LeO.none _)
      | (with_reducible refine LeO.ite ?_ ?_)
      | (with_reducible refine LeO.bind ?_ (fun _ => ?_))
      | exact ih0 _ _ _ _
      | exact peerageref05_Count.mono _ _
      | exact peerageref10_among.mono _ _ _
      | exact LeO.none _
      | refine LeO.ite ?_ ?_
      | refine LeO.bind ?_ (fun _ => ?_)
set_option maxHeartbeats 2000000 in
set_option maxRecDepth 100000 in
theorem peerageref10_Filter.calls (k : Nat) (a0 : ByteArray) (r : ByteArray) (w : World) (h : peerageref10_Filter.f k a0 = some r) :
    Calls Try.prog 11 #[.string a0] w fun e w' => e = .returned (.string r) ∧ Drawn0 w w' := by
  have H : ((peerageref05_Count.f k a0).bind fun t103 => (peerageref10_Filter.l0 k a0 (decide (t103 ≥ 0)) (⟨#[]⟩ : ByteArray) 0)) = some r := h
  clear h
  replace H := Option.bind_eq_some_iff.mp H
  obtain ⟨t103, A20, H⟩ := H
  replace H : (peerageref10_Filter.l0 k a0 (decide (t103 ≥ 0)) (⟨#[]⟩ : ByteArray) 0) = some r := H
  generalize hB_ : decide (t103 ≥ 0) = B_ at H
  have hB2_ : decide (0 ≤ t103) = B_ := hB_
  have A2 := Aside0.mk A20
  clear A20
  have H' := Aside0.mk H
  clear H
  go_enter Try.func11, Try.ntmps11
  go_wp2_with (first | ((with_reducible refine gate_callee (f := 25) rfl ?_); refine goesL_ (some 7) rfl rfl Try.func25 (by kernel_rfl) rfl #[.string a0] rfl (by (try simp only [List.map_toArray, List.map_cons, List.map_nil]); first | done | rfl | (simp only [List.length_drop, List.length_take]; rfl)) ?_; (with_reducible refine (peerageref05_Count.calls k a0 t103 _ A2.out).mono ?_); rintro e w' ⟨rfl, ⟨nd, rfl⟩⟩; refine ⟨_, rfl, ?_⟩))
  go_loopg [4, 5] k (fun kq v4 v5 w' => ∃ (x4_1 : ByteArray) (x5_1 : Int), v4 = .string x4_1 ∧ v5 = .int .i64 x5_1 ∧ Aside0 (peerageref10_Filter.l0 kq a0 B_ x4_1 x5_1 = some r) ∧ Aside0 (kq ≤ k) ∧ Drawn0 w w')
  case atStart => exact ⟨((⟨#[]⟩ : ByteArray)), (0), (by first | rfl | (simp; done) | (simp [*]; done)), (by first | rfl | (simp; done) | (simp [*]; done)), H', ⟨Nat.le_refl _⟩, by repeat (first | exact Drawn0.refl _ | apply Drawn0.step)⟩
  case round =>
    clear H'
    try clear c1
    try clear c2
    try clear p2
    obtain ⟨x4_1, x5_1, rfl, rfl, HA, HK1, ⟨m1, rfl⟩⟩ := hrel
    cases gk with
    | zero => exact absurd HA.out (by simp [peerageref10_Filter.l0])
    | succ k1 =>
      have H := HA.out
      clear HA
      simp only [peerageref10_Filter.l0] at H
      by_cases c3 : x5_1 < (a0.size : Int)
      · rw [if_pos c3] at H
        have c3b0 : decide (x5_1 < (a0.size : Int)) = true := decide_eq_true c3
        clear c3
        by_cases c4 : 0 ≤ x5_1
        · rw [if_pos c4] at H
          have c4b0 : decide (0 ≤ x5_1) = true := decide_eq_true c4
          clear c4
          replace H := Option.bind_eq_some_iff.mp H
          obtain ⟨t104, A60, H⟩ := H
          replace H : (if t104 = true then (if x4_1.size + 1 ≤ 9223372036854775807 then ((peerageref10_two.f (bt a0 x5_1)).bind fun t105 => (if (x4_1 ++ (⟨#[92]⟩ : ByteArray)).size + t105.size ≤ 9223372036854775807 then (peerageref10_Filter.l0 k1 a0 B_ ((x4_1 ++ (⟨#[92]⟩ : ByteArray)) ++ t105) (wrap64 (x5_1 + 1))) else (none))) else (none)) else (if (bt a0 x5_1) = 0 then (if x4_1.size + 1 ≤ 9223372036854775807 then ((peerageref10_two.f (bt a0 x5_1)).bind fun t106 => (if (x4_1 ++ (⟨#[92]⟩ : ByteArray)).size + t106.size ≤ 9223372036854775807 then (peerageref10_Filter.l0 k1 a0 B_ ((x4_1 ++ (⟨#[92]⟩ : ByteArray)) ++ t106) (wrap64 (x5_1 + 1))) else (none))) else (none)) else (if (bt a0 x5_1) > 127 then (if B_ = true then (if x5_1 ≤ (wrap64 (x5_1 + 1)) then (if (wrap64 (x5_1 + 1)) ≤ (a0.size : Int) then (if x4_1.size + (a0.extract (x5_1 : Int).toNat ((wrap64 (x5_1 + 1)) : Int).toNat).size ≤ 9223372036854775807 then (peerageref10_Filter.l0 k1 a0 B_ (x4_1 ++ (a0.extract (x5_1 : Int).toNat ((wrap64 (x5_1 + 1)) : Int).toNat)) (wrap64 (x5_1 + 1))) else (none)) else (none)) else (none)) else (if x4_1.size + 1 ≤ 9223372036854775807 then ((peerageref10_two.f (bt a0 x5_1)).bind fun t107 => (if (x4_1 ++ (⟨#[92]⟩ : ByteArray)).size + t107.size ≤ 9223372036854775807 then (peerageref10_Filter.l0 k1 a0 B_ ((x4_1 ++ (⟨#[92]⟩ : ByteArray)) ++ t107) (wrap64 (x5_1 + 1))) else (none))) else (none))) else (if x5_1 ≤ (wrap64 (x5_1 + 1)) then (if (wrap64 (x5_1 + 1)) ≤ (a0.size : Int) then (if x4_1.size + (a0.extract (x5_1 : Int).toNat ((wrap64 (x5_1 + 1)) : Int).toNat).size ≤ 9223372036854775807 then (peerageref10_Filter.l0 k1 a0 B_ (x4_1 ++ (a0.extract (x5_1 : Int).toNat ((wrap64 (x5_1 + 1)) : Int).toNat)) (wrap64 (x5_1 + 1))) else (none)) else (none)) else (none))))) = some r := H
          have A6 := Aside0.mk A60
          clear A60
          by_cases c7 : t104 = true
          · subst c7
            have H1 : (if x4_1.size + 1 ≤ 9223372036854775807 then ((peerageref10_two.f (bt a0 x5_1)).bind fun t105 => (if (x4_1 ++ (⟨#[92]⟩ : ByteArray)).size + t105.size ≤ 9223372036854775807 then (peerageref10_Filter.l0 k1 a0 B_ ((x4_1 ++ (⟨#[92]⟩ : ByteArray)) ++ t105) (wrap64 (x5_1 + 1))) else (none))) else (none)) = some r := by rw [if_pos rfl] at H; exact H
            clear H
            have H := H1
            clear H1
            by_cases c8 : x4_1.size + 1 ≤ 9223372036854775807
            · rw [if_pos c8] at H
              have c8b0 := eq_true c8
              have c8b1 : decide (x4_1.size + 1 ≤ 9223372036854775807) = true := decide_eq_true c8
              try have c8b2 : (9223372036854775807 < x4_1.size + 1) = False := eq_false (Nat.not_lt.2 c8)
              replace H := Option.bind_eq_some_iff.mp H
              obtain ⟨t105, A100, H⟩ := H
              replace H : (if (x4_1 ++ (⟨#[92]⟩ : ByteArray)).size + t105.size ≤ 9223372036854775807 then (peerageref10_Filter.l0 k1 a0 B_ ((x4_1 ++ (⟨#[92]⟩ : ByteArray)) ++ t105) (wrap64 (x5_1 + 1))) else (none)) = some r := H
              have A10 := Aside0.mk A100
              clear A100
              by_cases c11 : (x4_1 ++ (⟨#[92]⟩ : ByteArray)).size + t105.size ≤ 9223372036854775807
              · rw [if_pos c11] at H
                have c11b0 := eq_true c11
                have c11b1 : decide ((x4_1 ++ (⟨#[92]⟩ : ByteArray)).size + t105.size ≤ 9223372036854775807) = true := decide_eq_true c11
                try have c11b2 : (9223372036854775807 < (x4_1 ++ (⟨#[92]⟩ : ByteArray)).size + t105.size) = False := eq_false (Nat.not_lt.2 c11)
                have c11z : (9223372036854775807 < x4_1.size + 1 + t105.size) = False := eq_false (by have z_ := c11; rw [ByteArray.size_append] at z_; have z2_ : (⟨#[92]⟩ : ByteArray).size = 1 := rfl; omega)
                have H' := Aside0.mk H
                clear H
                have p5 : 0 ≤ (x5_1 : Int) := of_decide_eq_true (by first | (with_reducible assumption) | assumption)
                have q5 : x5_1 < (a0.size : Int) := of_decide_eq_true (by first | (with_reducible assumption) | assumption)
                have hx5 := bt_at a0 x5_1
                replace p5 := eq_true p5
                replace q5 := eq_true q5
                go_wp2_with (first | ((with_reducible refine gate_callee (f := 23) rfl ?_); refine goesL_ (some 18) rfl rfl Try.func23 (by kernel_rfl) rfl #[.string (⟨#[42, 40, 41, 92]⟩ : ByteArray), .int .u8 (bt a0 x5_1)] rfl (by (try simp only [List.map_toArray, List.map_cons, List.map_nil]); first | done | rfl | (simp only [List.length_drop, List.length_take]; rfl)) ?_; (with_reducible refine (peerageref10_among.calls k1 (⟨#[42, 40, 41, 92]⟩ : ByteArray) (bt a0 x5_1) true _ A6.out).mono ?_); rintro e w' ⟨rfl, ⟨nd, rfl⟩⟩; refine ⟨_, rfl, ?_⟩; have p9 : 0 ≤ (x5_1 : Int) := of_decide_eq_true (by first | (with_reducible assumption) | assumption); have q9 : x5_1 < (a0.size : Int) := of_decide_eq_true (by first | (with_reducible assumption) | assumption); have hx9 := bt_at a0 x5_1; replace p9 := eq_true p9; replace q9 := eq_true q9) | ((with_reducible refine gate_callee (f := 26) rfl ?_); refine goesL_ (some 40) rfl rfl Try.func26 (by kernel_rfl) rfl #[.int .u8 (bt a0 x5_1)] rfl (by (try simp only [List.map_toArray, List.map_cons, List.map_nil]); first | done | rfl | (simp only [List.length_drop, List.length_take]; rfl)) ?_; (with_reducible refine (peerageref10_two.calls (bt a0 x5_1) t105 _ A10.out).mono ?_); rintro e w' ⟨rfl, ⟨nd, rfl⟩⟩; refine ⟨_, rfl, ?_⟩))
                go_roundg k1
                case measure => have := HK1.out; omega
                case rel => exact ⟨((x4_1 ++ (⟨#[92]⟩ : ByteArray)) ++ t105), (wrap64 (x5_1 + 1)), (by first | rfl | (simp; done) | (simp [*]; done)), (by first | rfl | (simp; done) | (simp [*]; done)), H', ⟨by have := HK1.out; omega⟩, by repeat (first | exact Drawn0.refl _ | apply Drawn0.step)⟩
              · rw [if_neg c11] at H
                exact absurd H (by simp)
            · rw [if_neg c8] at H
              exact absurd H (by simp)
          · replace c7 := Bool.eq_false_iff.mpr c7
            subst c7
            have H1 : (if (bt a0 x5_1) = 0 then (if x4_1.size + 1 ≤ 9223372036854775807 then ((peerageref10_two.f (bt a0 x5_1)).bind fun t106 => (if (x4_1 ++ (⟨#[92]⟩ : ByteArray)).size + t106.size ≤ 9223372036854775807 then (peerageref10_Filter.l0 k1 a0 B_ ((x4_1 ++ (⟨#[92]⟩ : ByteArray)) ++ t106) (wrap64 (x5_1 + 1))) else (none))) else (none)) else (if (bt a0 x5_1) > 127 then (if B_ = true then (if x5_1 ≤ (wrap64 (x5_1 + 1)) then (if (wrap64 (x5_1 + 1)) ≤ (a0.size : Int) then (if x4_1.size + (a0.extract (x5_1 : Int).toNat ((wrap64 (x5_1 + 1)) : Int).toNat).size ≤ 9223372036854775807 then (peerageref10_Filter.l0 k1 a0 B_ (x4_1 ++ (a0.extract (x5_1 : Int).toNat ((wrap64 (x5_1 + 1)) : Int).toNat)) (wrap64 (x5_1 + 1))) else (none)) else (none)) else (none)) else (if x4_1.size + 1 ≤ 9223372036854775807 then ((peerageref10_two.f (bt a0 x5_1)).bind fun t107 => (if (x4_1 ++ (⟨#[92]⟩ : ByteArray)).size + t107.size ≤ 9223372036854775807 then (peerageref10_Filter.l0 k1 a0 B_ ((x4_1 ++ (⟨#[92]⟩ : ByteArray)) ++ t107) (wrap64 (x5_1 + 1))) else (none))) else (none))) else (if x5_1 ≤ (wrap64 (x5_1 + 1)) then (if (wrap64 (x5_1 + 1)) ≤ (a0.size : Int) then (if x4_1.size + (a0.extract (x5_1 : Int).toNat ((wrap64 (x5_1 + 1)) : Int).toNat).size ≤ 9223372036854775807 then (peerageref10_Filter.l0 k1 a0 B_ (x4_1 ++ (a0.extract (x5_1 : Int).toNat ((wrap64 (x5_1 + 1)) : Int).toNat)) (wrap64 (x5_1 + 1))) else (none)) else (none)) else (none)))) = some r := by rw [if_neg (show ¬ (false = true) by decide)] at H; exact H
            clear H
            have H := H1
            clear H1
            by_cases c13 : (bt a0 x5_1) = 0
            · rw [if_pos c13] at H
              have c13b0 : ((bt a0 x5_1) == 0) = true := beq_iff_eq.mpr c13
              have c13b1 : ((bt a0 x5_1) != 0) = false := bne_eq_false_iff_eq.mpr c13
              clear c13
              by_cases c14 : x4_1.size + 1 ≤ 9223372036854775807
              · rw [if_pos c14] at H
                have c14b0 := eq_true c14
                have c14b1 : decide (x4_1.size + 1 ≤ 9223372036854775807) = true := decide_eq_true c14
                try have c14b2 : (9223372036854775807 < x4_1.size + 1) = False := eq_false (Nat.not_lt.2 c14)
                replace H := Option.bind_eq_some_iff.mp H
                obtain ⟨t106, A160, H⟩ := H
                replace H : (if (x4_1 ++ (⟨#[92]⟩ : ByteArray)).size + t106.size ≤ 9223372036854775807 then (peerageref10_Filter.l0 k1 a0 B_ ((x4_1 ++ (⟨#[92]⟩ : ByteArray)) ++ t106) (wrap64 (x5_1 + 1))) else (none)) = some r := H
                have A16 := Aside0.mk A160
                clear A160
                by_cases c17 : (x4_1 ++ (⟨#[92]⟩ : ByteArray)).size + t106.size ≤ 9223372036854775807
                · rw [if_pos c17] at H
                  have c17b0 := eq_true c17
                  have c17b1 : decide ((x4_1 ++ (⟨#[92]⟩ : ByteArray)).size + t106.size ≤ 9223372036854775807) = true := decide_eq_true c17
                  try have c17b2 : (9223372036854775807 < (x4_1 ++ (⟨#[92]⟩ : ByteArray)).size + t106.size) = False := eq_false (Nat.not_lt.2 c17)
                  have c17z : (9223372036854775807 < x4_1.size + 1 + t106.size) = False := eq_false (by have z_ := c17; rw [ByteArray.size_append] at z_; have z2_ : (⟨#[92]⟩ : ByteArray).size = 1 := rfl; omega)
                  have H' := Aside0.mk H
                  clear H
                  have p5 : 0 ≤ (x5_1 : Int) := of_decide_eq_true (by first | (with_reducible assumption) | assumption)
                  have q5 : x5_1 < (a0.size : Int) := of_decide_eq_true (by first | (with_reducible assumption) | assumption)
                  have hx5 := bt_at a0 x5_1
                  replace p5 := eq_true p5
                  replace q5 := eq_true q5
                  go_wp2_with (first | ((with_reducible refine gate_callee (f := 23) rfl ?_); refine goesL_ (some 18) rfl rfl Try.func23 (by kernel_rfl) rfl #[.string (⟨#[42, 40, 41, 92]⟩ : ByteArray), .int .u8 (bt a0 x5_1)] rfl (by (try simp only [List.map_toArray, List.map_cons, List.map_nil]); first | done | rfl | (simp only [List.length_drop, List.length_take]; rfl)) ?_; (with_reducible refine (peerageref10_among.calls k1 (⟨#[42, 40, 41, 92]⟩ : ByteArray) (bt a0 x5_1) false _ A6.out).mono ?_); rintro e w' ⟨rfl, ⟨nd, rfl⟩⟩; refine ⟨_, rfl, ?_⟩; have p12 : 0 ≤ (x5_1 : Int) := of_decide_eq_true (by first | (with_reducible assumption) | assumption); have q12 : x5_1 < (a0.size : Int) := of_decide_eq_true (by first | (with_reducible assumption) | assumption); have hx12 := bt_at a0 x5_1; replace p12 := eq_true p12; replace q12 := eq_true q12; have p15 : 0 ≤ (x5_1 : Int) := of_decide_eq_true (by first | (with_reducible assumption) | assumption); have q15 : x5_1 < (a0.size : Int) := of_decide_eq_true (by first | (with_reducible assumption) | assumption); have hx15 := bt_at a0 x5_1; replace p15 := eq_true p15; replace q15 := eq_true q15) | ((with_reducible refine gate_callee (f := 26) rfl ?_); refine goesL_ (some 40) rfl rfl Try.func26 (by kernel_rfl) rfl #[.int .u8 (bt a0 x5_1)] rfl (by (try simp only [List.map_toArray, List.map_cons, List.map_nil]); first | done | rfl | (simp only [List.length_drop, List.length_take]; rfl)) ?_; (with_reducible refine (peerageref10_two.calls (bt a0 x5_1) t106 _ A16.out).mono ?_); rintro e w' ⟨rfl, ⟨nd, rfl⟩⟩; refine ⟨_, rfl, ?_⟩))
                  go_roundg k1
                  case measure => have := HK1.out; omega
                  case rel => exact ⟨((x4_1 ++ (⟨#[92]⟩ : ByteArray)) ++ t106), (wrap64 (x5_1 + 1)), (by first | rfl | (simp; done) | (simp [*]; done)), (by first | rfl | (simp; done) | (simp [*]; done)), H', ⟨by have := HK1.out; omega⟩, by repeat (first | exact Drawn0.refl _ | apply Drawn0.step)⟩
                · rw [if_neg c17] at H
                  exact absurd H (by simp)
              · rw [if_neg c14] at H
                exact absurd H (by simp)
            · rw [if_neg c13] at H
              have c13b0 : ((bt a0 x5_1) == 0) = false := beq_eq_false_iff_ne.mpr c13
              have c13b1 : ((bt a0 x5_1) != 0) = true := bne_iff_ne.mpr c13
              by_cases c19 : (bt a0 x5_1) > 127
              · rw [if_pos c19] at H
                have c19b0 : decide (127 < (bt a0 x5_1)) = true := decide_eq_true c19
                clear c19
                by_cases c20 : B_ = true
                · rw [if_pos c20] at H
                  have c20b0 : B_ = true := c20
                  subst c20b0
                  clear c20
                  have c21b0 := eq_true (of_decide_eq_true (by first | (with_reducible assumption) | assumption) : 0 ≤ x5_1)
                  by_cases c22 : x5_1 ≤ (wrap64 (x5_1 + 1))
                  · rw [if_pos c22] at H
                    have c22b0 := eq_true c22
                    have c22b1 : decide (x5_1 ≤ (wrap64 (x5_1 + 1))) = true := decide_eq_true c22
                    by_cases c23 : (wrap64 (x5_1 + 1)) ≤ (a0.size : Int)
                    · rw [if_pos c23] at H
                      have c23b0 := eq_true c23
                      have c23b1 : decide ((wrap64 (x5_1 + 1)) ≤ (a0.size : Int)) = true := decide_eq_true c23
                      by_cases c24 : x4_1.size + (a0.extract (x5_1 : Int).toNat ((wrap64 (x5_1 + 1)) : Int).toNat).size ≤ 9223372036854775807
                      · rw [if_pos c24] at H
                        have c24b0 := eq_true c24
                        have c24b1 : decide (x4_1.size + (a0.extract (x5_1 : Int).toNat ((wrap64 (x5_1 + 1)) : Int).toNat).size ≤ 9223372036854775807) = true := decide_eq_true c24
                        try have c24b2 : (9223372036854775807 < x4_1.size + (a0.extract (x5_1 : Int).toNat ((wrap64 (x5_1 + 1)) : Int).toNat).size) = False := eq_false (Nat.not_lt.2 c24)
                        have H' := Aside0.mk H
                        clear H
                        have p5 : 0 ≤ (x5_1 : Int) := of_decide_eq_true (by first | (with_reducible assumption) | assumption)
                        have q5 : x5_1 < (a0.size : Int) := of_decide_eq_true (by first | (with_reducible assumption) | assumption)
                        have hx5 := bt_at a0 x5_1
                        replace p5 := eq_true p5
                        replace q5 := eq_true q5
                        go_wp2_with (first | ((with_reducible refine gate_callee (f := 23) rfl ?_); refine goesL_ (some 18) rfl rfl Try.func23 (by kernel_rfl) rfl #[.string (⟨#[42, 40, 41, 92]⟩ : ByteArray), .int .u8 (bt a0 x5_1)] rfl (by (try simp only [List.map_toArray, List.map_cons, List.map_nil]); first | done | rfl | (simp only [List.length_drop, List.length_take]; rfl)) ?_; (with_reducible refine (peerageref10_among.calls k1 (⟨#[42, 40, 41, 92]⟩ : ByteArray) (bt a0 x5_1) false _ A6.out).mono ?_); rintro e w' ⟨rfl, ⟨nd, rfl⟩⟩; refine ⟨_, rfl, ?_⟩; have p12 : 0 ≤ (x5_1 : Int) := of_decide_eq_true (by first | (with_reducible assumption) | assumption); have q12 : x5_1 < (a0.size : Int) := of_decide_eq_true (by first | (with_reducible assumption) | assumption); have hx12 := bt_at a0 x5_1; replace p12 := eq_true p12; replace q12 := eq_true q12; have p18 : 0 ≤ (x5_1 : Int) := of_decide_eq_true (by first | (with_reducible assumption) | assumption); have q18 : x5_1 < (a0.size : Int) := of_decide_eq_true (by first | (with_reducible assumption) | assumption); have hx18 := bt_at a0 x5_1; replace p18 := eq_true p18; replace q18 := eq_true q18))
                        go_roundg k1
                        case measure => have := HK1.out; omega
                        case rel => exact ⟨(x4_1 ++ (a0.extract (x5_1 : Int).toNat ((wrap64 (x5_1 + 1)) : Int).toNat)), (wrap64 (x5_1 + 1)), (by first | rfl | (simp; done) | (simp [*]; done)), (by first | rfl | (simp; done) | (simp [*]; done)), H', ⟨by have := HK1.out; omega⟩, by repeat (first | exact Drawn0.refl _ | apply Drawn0.step)⟩
                      · rw [if_neg c24] at H
                        exact absurd H (by simp)
                    · rw [if_neg c23] at H
                      exact absurd H (by simp)
                  · rw [if_neg c22] at H
                    exact absurd H (by simp)
                · rw [if_neg c20] at H
                  have c20b0 : B_ = false := by simpa using c20
                  subst c20b0
                  clear c20
                  by_cases c25 : x4_1.size + 1 ≤ 9223372036854775807
                  · rw [if_pos c25] at H
                    have c25b0 := eq_true c25
                    have c25b1 : decide (x4_1.size + 1 ≤ 9223372036854775807) = true := decide_eq_true c25
                    try have c25b2 : (9223372036854775807 < x4_1.size + 1) = False := eq_false (Nat.not_lt.2 c25)
                    replace H := Option.bind_eq_some_iff.mp H
                    obtain ⟨t107, A270, H⟩ := H
                    replace H : (if (x4_1 ++ (⟨#[92]⟩ : ByteArray)).size + t107.size ≤ 9223372036854775807 then (peerageref10_Filter.l0 k1 a0 false ((x4_1 ++ (⟨#[92]⟩ : ByteArray)) ++ t107) (wrap64 (x5_1 + 1))) else (none)) = some r := H
                    have A27 := Aside0.mk A270
                    clear A270
                    by_cases c28 : (x4_1 ++ (⟨#[92]⟩ : ByteArray)).size + t107.size ≤ 9223372036854775807
                    · rw [if_pos c28] at H
                      have c28b0 := eq_true c28
                      have c28b1 : decide ((x4_1 ++ (⟨#[92]⟩ : ByteArray)).size + t107.size ≤ 9223372036854775807) = true := decide_eq_true c28
                      try have c28b2 : (9223372036854775807 < (x4_1 ++ (⟨#[92]⟩ : ByteArray)).size + t107.size) = False := eq_false (Nat.not_lt.2 c28)
                      have c28z : (9223372036854775807 < x4_1.size + 1 + t107.size) = False := eq_false (by have z_ := c28; rw [ByteArray.size_append] at z_; have z2_ : (⟨#[92]⟩ : ByteArray).size = 1 := rfl; omega)
                      have H' := Aside0.mk H
                      clear H
                      have p5 : 0 ≤ (x5_1 : Int) := of_decide_eq_true (by first | (with_reducible assumption) | assumption)
                      have q5 : x5_1 < (a0.size : Int) := of_decide_eq_true (by first | (with_reducible assumption) | assumption)
                      have hx5 := bt_at a0 x5_1
                      replace p5 := eq_true p5
                      replace q5 := eq_true q5
                      go_wp2_with (first | ((with_reducible refine gate_callee (f := 23) rfl ?_); refine goesL_ (some 18) rfl rfl Try.func23 (by kernel_rfl) rfl #[.string (⟨#[42, 40, 41, 92]⟩ : ByteArray), .int .u8 (bt a0 x5_1)] rfl (by (try simp only [List.map_toArray, List.map_cons, List.map_nil]); first | done | rfl | (simp only [List.length_drop, List.length_take]; rfl)) ?_; (with_reducible refine (peerageref10_among.calls k1 (⟨#[42, 40, 41, 92]⟩ : ByteArray) (bt a0 x5_1) false _ A6.out).mono ?_); rintro e w' ⟨rfl, ⟨nd, rfl⟩⟩; refine ⟨_, rfl, ?_⟩; have p12 : 0 ≤ (x5_1 : Int) := of_decide_eq_true (by first | (with_reducible assumption) | assumption); have q12 : x5_1 < (a0.size : Int) := of_decide_eq_true (by first | (with_reducible assumption) | assumption); have hx12 := bt_at a0 x5_1; replace p12 := eq_true p12; replace q12 := eq_true q12; have p18 : 0 ≤ (x5_1 : Int) := of_decide_eq_true (by first | (with_reducible assumption) | assumption); have q18 : x5_1 < (a0.size : Int) := of_decide_eq_true (by first | (with_reducible assumption) | assumption); have hx18 := bt_at a0 x5_1; replace p18 := eq_true p18; replace q18 := eq_true q18; have p26 : 0 ≤ (x5_1 : Int) := of_decide_eq_true (by first | (with_reducible assumption) | assumption); have q26 : x5_1 < (a0.size : Int) := of_decide_eq_true (by first | (with_reducible assumption) | assumption); have hx26 := bt_at a0 x5_1; replace p26 := eq_true p26; replace q26 := eq_true q26) | ((with_reducible refine gate_callee (f := 26) rfl ?_); refine goesL_ (some 40) rfl rfl Try.func26 (by kernel_rfl) rfl #[.int .u8 (bt a0 x5_1)] rfl (by (try simp only [List.map_toArray, List.map_cons, List.map_nil]); first | done | rfl | (simp only [List.length_drop, List.length_take]; rfl)) ?_; (with_reducible refine (peerageref10_two.calls (bt a0 x5_1) t107 _ A27.out).mono ?_); rintro e w' ⟨rfl, ⟨nd, rfl⟩⟩; refine ⟨_, rfl, ?_⟩))
                      go_roundg k1
                      case measure => have := HK1.out; omega
                      case rel => exact ⟨((x4_1 ++ (⟨#[92]⟩ : ByteArray)) ++ t107), (wrap64 (x5_1 + 1)), (by first | rfl | (simp; done) | (simp [*]; done)), (by first | rfl | (simp; done) | (simp [*]; done)), H', ⟨by have := HK1.out; omega⟩, by repeat (first | exact Drawn0.refl _ | apply Drawn0.step)⟩
                    · rw [if_neg c28] at H
                      exact absurd H (by simp)
                  · rw [if_neg c25] at H
                    exact absurd H (by simp)
              · rw [if_neg c19] at H
                have c19b0 : decide (127 < (bt a0 x5_1)) = false := decide_eq_false c19
                clear c19
                have c29b0 := eq_true (of_decide_eq_true (by first | (with_reducible assumption) | assumption) : 0 ≤ x5_1)
                by_cases c30 : x5_1 ≤ (wrap64 (x5_1 + 1))
                · rw [if_pos c30] at H
                  have c30b0 := eq_true c30
                  have c30b1 : decide (x5_1 ≤ (wrap64 (x5_1 + 1))) = true := decide_eq_true c30
                  by_cases c31 : (wrap64 (x5_1 + 1)) ≤ (a0.size : Int)
                  · rw [if_pos c31] at H
                    have c31b0 := eq_true c31
                    have c31b1 : decide ((wrap64 (x5_1 + 1)) ≤ (a0.size : Int)) = true := decide_eq_true c31
                    by_cases c32 : x4_1.size + (a0.extract (x5_1 : Int).toNat ((wrap64 (x5_1 + 1)) : Int).toNat).size ≤ 9223372036854775807
                    · rw [if_pos c32] at H
                      have c32b0 := eq_true c32
                      have c32b1 : decide (x4_1.size + (a0.extract (x5_1 : Int).toNat ((wrap64 (x5_1 + 1)) : Int).toNat).size ≤ 9223372036854775807) = true := decide_eq_true c32
                      try have c32b2 : (9223372036854775807 < x4_1.size + (a0.extract (x5_1 : Int).toNat ((wrap64 (x5_1 + 1)) : Int).toNat).size) = False := eq_false (Nat.not_lt.2 c32)
                      have H' := Aside0.mk H
                      clear H
                      have p5 : 0 ≤ (x5_1 : Int) := of_decide_eq_true (by first | (with_reducible assumption) | assumption)
                      have q5 : x5_1 < (a0.size : Int) := of_decide_eq_true (by first | (with_reducible assumption) | assumption)
                      have hx5 := bt_at a0 x5_1
                      replace p5 := eq_true p5
                      replace q5 := eq_true q5
                      go_wp2_with (first | ((with_reducible refine gate_callee (f := 23) rfl ?_); refine goesL_ (some 18) rfl rfl Try.func23 (by kernel_rfl) rfl #[.string (⟨#[42, 40, 41, 92]⟩ : ByteArray), .int .u8 (bt a0 x5_1)] rfl (by (try simp only [List.map_toArray, List.map_cons, List.map_nil]); first | done | rfl | (simp only [List.length_drop, List.length_take]; rfl)) ?_; (with_reducible refine (peerageref10_among.calls k1 (⟨#[42, 40, 41, 92]⟩ : ByteArray) (bt a0 x5_1) false _ A6.out).mono ?_); rintro e w' ⟨rfl, ⟨nd, rfl⟩⟩; refine ⟨_, rfl, ?_⟩; have p12 : 0 ≤ (x5_1 : Int) := of_decide_eq_true (by first | (with_reducible assumption) | assumption); have q12 : x5_1 < (a0.size : Int) := of_decide_eq_true (by first | (with_reducible assumption) | assumption); have hx12 := bt_at a0 x5_1; replace p12 := eq_true p12; replace q12 := eq_true q12; have p18 : 0 ≤ (x5_1 : Int) := of_decide_eq_true (by first | (with_reducible assumption) | assumption); have q18 : x5_1 < (a0.size : Int) := of_decide_eq_true (by first | (with_reducible assumption) | assumption); have hx18 := bt_at a0 x5_1; replace p18 := eq_true p18; replace q18 := eq_true q18))
                      go_roundg k1
                      case measure => have := HK1.out; omega
                      case rel => exact ⟨(x4_1 ++ (a0.extract (x5_1 : Int).toNat ((wrap64 (x5_1 + 1)) : Int).toNat)), (wrap64 (x5_1 + 1)), (by first | rfl | (simp; done) | (simp [*]; done)), (by first | rfl | (simp; done) | (simp [*]; done)), H', ⟨by have := HK1.out; omega⟩, by repeat (first | exact Drawn0.refl _ | apply Drawn0.step)⟩
                    · rw [if_neg c32] at H
                      exact absurd H (by simp)
                  · rw [if_neg c31] at H
                    exact absurd H (by simp)
                · rw [if_neg c30] at H
                  exact absurd H (by simp)
        · rw [if_neg c4] at H
          exact absurd H (by simp)
      · rw [if_neg c3] at H
        have c3b0 : decide (x5_1 < (a0.size : Int)) = false := decide_eq_false c3
        clear c3
        obtain rfl := Option.some.inj H
        go_wp2
        go_ret
        exact ⟨by first | rfl | (simp; done) | (simp [*]; done), by repeat (first | exact Drawn0.refl _ | apply Drawn0.step)⟩

end Go.Proofs.Ytmhjplbloeamiaa.PRef
