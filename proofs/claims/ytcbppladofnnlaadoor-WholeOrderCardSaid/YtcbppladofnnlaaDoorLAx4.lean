/- Functions that a law calls, and the walk of the law itself, told by a program of this session (pp.py) over the kit printer; no condition beyond the statement itself; not trusted: Lean checks it. -/
import Derived.Test.YtcbppladofnnlaaDoorLAx0
import Derived.Test.YtcbppladofnnlaaDoorLAx3
namespace Go.Proofs.YtcbppladofnnlaaDoor.LA
open Go.RowKit Go.Proofs.YtcbppladofnnlaaDoor.H Go.Proofs.YtcbppladofnnlaaDoorW.PrintWords Go.Proofs.YtcbppladofnnlaaDoorW.PrintLast Go.Proofs.YtcbppladofnnlaaDoorW.PrintMore
attribute [local go_sem] max2_int min2_int max_two min_two max_three min_three max_four min_four   -- for this text's walks alone
set_option linter.unusedVariables false
set_option linter.unusedSimpArgs false

/-! ### peerageref02_Compare: function 16 -/
def peerageref02_Compare.f (k : Nat) (a0 : ByteArray) (a1 : ByteArray) : Option (Int) := (peerageref02_Plain.f k a0).bind fun t128 => ((peerageref02_Plain.f k a1).bind fun t129 => (if t128.toList = t129.toList then (some 0) else (if t128.toList = ([] : List UInt8) then (some (-1)) else (if t129.toList = ([] : List UInt8) then (some 1) else (if 0 < (t128.size : Int) then (if 0 < (t129.size : Int) then (if (((bt t128 0) == 45) != ((bt t129 0) == 45)) = true then (if (bt t128 0) = 45 then (some (-1)) else (some 1)) else (if (t128.size : Int) < (t129.size : Int) then (if (true != ((bt t128 0) == 45)) = true then (some (-1)) else (some 1)) else (if (t128.size : Int) = (t129.size : Int) then (if ((Op.bytesLess t128.toList t129.toList) != ((bt t128 0) == 45)) = true then (some (-1)) else (some 1)) else (if (false != ((bt t128 0) == 45)) = true then (some (-1)) else (some 1))))) else (none)) else (none))))))
theorem peerageref02_Compare.mono : ∀ a0 a1 k, LeO (peerageref02_Compare.f k a0 a1) (peerageref02_Compare.f (k + 1) a0 a1) := by
  intro a0 a1 k
  unfold peerageref02_Compare.f
  repeat' first
      | (with_reducible exact peerageref02_Plain.mono _ _)
      | (with_reducible exact LeO.refl _)
      | (with_reducible exact LeO.none _)
      | (with_reducible refine LeO.ite ?_ ?_)
      | (with_reducible refine LeO.bind ?_ (fun _ => ?_))
      | exact peerageref02_Plain.mono _ _
      | exact LeO.none _
      | refine LeO.ite ?_ ?_
      | refine LeO.bind ?_ (fun _ => ?_)
set_option maxHeartbeats 2000000 in
set_option maxRecDepth 100000 in
theorem peerageref02_Compare.calls (k : Nat) (a0 : ByteArray) (a1 : ByteArray) (r : Int) (w : World) (h : peerageref02_Compare.f k a0 a1 = some r) :
    Calls Tryd.prog 16 #[.string a0, .string a1] w fun e w' => e = .returned (.int .i64 r) ∧ Drawn0 w w' := by
  have H : ((peerageref02_Plain.f k a0).bind fun t128 => ((peerageref02_Plain.f k a1).bind fun t129 => (if t128.toList = t129.toList then (some 0) else (if t128.toList = ([] : List UInt8) then (some (-1)) else (if t129.toList = ([] : List UInt8) then (some 1) else (if 0 < (t128.size : Int) then (if 0 < (t129.size : Int) then (if (((bt t128 0) == 45) != ((bt t129 0) == 45)) = true then (if (bt t128 0) = 45 then (some (-1)) else (some 1)) else (if (t128.size : Int) < (t129.size : Int) then (if (true != ((bt t128 0) == 45)) = true then (some (-1)) else (some 1)) else (if (t128.size : Int) = (t129.size : Int) then (if ((Op.bytesLess t128.toList t129.toList) != ((bt t128 0) == 45)) = true then (some (-1)) else (some 1)) else (if (false != ((bt t128 0) == 45)) = true then (some (-1)) else (some 1))))) else (none)) else (none))))))) = some r := h
  clear h
  replace H := Option.bind_eq_some_iff.mp H
  obtain ⟨t128, A30, H⟩ := H
  replace H : ((peerageref02_Plain.f k a1).bind fun t129 => (if t128.toList = t129.toList then (some 0) else (if t128.toList = ([] : List UInt8) then (some (-1)) else (if t129.toList = ([] : List UInt8) then (some 1) else (if 0 < (t128.size : Int) then (if 0 < (t129.size : Int) then (if (((bt t128 0) == 45) != ((bt t129 0) == 45)) = true then (if (bt t128 0) = 45 then (some (-1)) else (some 1)) else (if (t128.size : Int) < (t129.size : Int) then (if (true != ((bt t128 0) == 45)) = true then (some (-1)) else (some 1)) else (if (t128.size : Int) = (t129.size : Int) then (if ((Op.bytesLess t128.toList t129.toList) != ((bt t128 0) == 45)) = true then (some (-1)) else (some 1)) else (if (false != ((bt t128 0) == 45)) = true then (some (-1)) else (some 1))))) else (none)) else (none)))))) = some r := H
  have A3 := Aside0.mk A30
  clear A30
  replace H := Option.bind_eq_some_iff.mp H
  obtain ⟨t129, A40, H⟩ := H
  replace H : (if t128.toList = t129.toList then (some 0) else (if t128.toList = ([] : List UInt8) then (some (-1)) else (if t129.toList = ([] : List UInt8) then (some 1) else (if 0 < (t128.size : Int) then (if 0 < (t129.size : Int) then (if (((bt t128 0) == 45) != ((bt t129 0) == 45)) = true then (if (bt t128 0) = 45 then (some (-1)) else (some 1)) else (if (t128.size : Int) < (t129.size : Int) then (if (true != ((bt t128 0) == 45)) = true then (some (-1)) else (some 1)) else (if (t128.size : Int) = (t129.size : Int) then (if ((Op.bytesLess t128.toList t129.toList) != ((bt t128 0) == 45)) = true then (some (-1)) else (some 1)) else (if (false != ((bt t128 0) == 45)) = true then (some (-1)) else (some 1))))) else (none)) else (none))))) = some r := H
  have A4 := Aside0.mk A40
  clear A40
  by_cases c5 : t128.toList = t129.toList
  · rw [if_pos c5] at H
    have c5b0 : (t128.toList == t129.toList) = true := beq_iff_eq.mpr c5
    have c5b1 : (t128.toList != t129.toList) = false := bne_eq_false_iff_eq.mpr c5
    clear c5
    obtain rfl := Option.some.inj H
    go_enter Tryd.func16, Tryd.ntmps16
    go_wp2_with (first | ((with_reducible refine gate_callee (f := 15) rfl ?_); refine goesL_ (some 8) rfl rfl Tryd.func15 (by kernel_rfl) rfl #[.string a0] rfl (by (try simp only [List.map_toArray, List.map_cons, List.map_nil]); first | done | rfl | (simp only [List.length_drop, List.length_take]; rfl)) ?_; (with_reducible refine (peerageref02_Plain.calls k a0 t128 _ A3.out).mono ?_); rintro e w' ⟨rfl, ⟨nd, rfl⟩⟩; refine ⟨_, rfl, ?_⟩) | ((with_reducible refine gate_callee (f := 15) rfl ?_); refine goesL_ (some 10) rfl rfl Tryd.func15 (by kernel_rfl) rfl #[.string a1] rfl (by (try simp only [List.map_toArray, List.map_cons, List.map_nil]); first | done | rfl | (simp only [List.length_drop, List.length_take]; rfl)) ?_; (with_reducible refine (peerageref02_Plain.calls k a1 t129 _ A4.out).mono ?_); rintro e w' ⟨rfl, ⟨nd, rfl⟩⟩; refine ⟨_, rfl, ?_⟩))
    go_ret
    exact ⟨by first | rfl | (simp; done) | (simp [*]; done) | (simp; exact ne_nil_b _), by repeat (first | exact Drawn0.refl _ | apply Drawn0.step)⟩
  · rw [if_neg c5] at H
    have c5b0 : (t128.toList == t129.toList) = false := beq_eq_false_iff_ne.mpr c5
    have c5b1 : (t128.toList != t129.toList) = true := bne_iff_ne.mpr c5
    by_cases c6 : t128.toList = ([] : List UInt8)
    · rw [if_pos c6] at H
      have c6b0 : (t128.toList == ([] : List UInt8)) = true := beq_iff_eq.mpr c6
      have c6b1 : (t128.toList != ([] : List UInt8)) = false := bne_eq_false_iff_eq.mpr c6
      clear c6
      obtain rfl := Option.some.inj H
      go_enter Tryd.func16, Tryd.ntmps16
      go_wp2_with (first | ((with_reducible refine gate_callee (f := 15) rfl ?_); refine goesL_ (some 8) rfl rfl Tryd.func15 (by kernel_rfl) rfl #[.string a0] rfl (by (try simp only [List.map_toArray, List.map_cons, List.map_nil]); first | done | rfl | (simp only [List.length_drop, List.length_take]; rfl)) ?_; (with_reducible refine (peerageref02_Plain.calls k a0 t128 _ A3.out).mono ?_); rintro e w' ⟨rfl, ⟨nd, rfl⟩⟩; refine ⟨_, rfl, ?_⟩) | ((with_reducible refine gate_callee (f := 15) rfl ?_); refine goesL_ (some 10) rfl rfl Tryd.func15 (by kernel_rfl) rfl #[.string a1] rfl (by (try simp only [List.map_toArray, List.map_cons, List.map_nil]); first | done | rfl | (simp only [List.length_drop, List.length_take]; rfl)) ?_; (with_reducible refine (peerageref02_Plain.calls k a1 t129 _ A4.out).mono ?_); rintro e w' ⟨rfl, ⟨nd, rfl⟩⟩; refine ⟨_, rfl, ?_⟩))
      go_ret
      exact ⟨by first | rfl | (simp; done) | (simp [*]; done) | (simp; exact ne_nil_b _), by repeat (first | exact Drawn0.refl _ | apply Drawn0.step)⟩
    · rw [if_neg c6] at H
      have c6b0 : (t128.toList == ([] : List UInt8)) = false := beq_eq_false_iff_ne.mpr c6
      have c6b1 : (t128.toList != ([] : List UInt8)) = true := bne_iff_ne.mpr c6
      by_cases c7 : t129.toList = ([] : List UInt8)
      · rw [if_pos c7] at H
        have c7b0 : (t129.toList == ([] : List UInt8)) = true := beq_iff_eq.mpr c7
        have c7b1 : (t129.toList != ([] : List UInt8)) = false := bne_eq_false_iff_eq.mpr c7
        clear c7
        obtain rfl := Option.some.inj H
        go_enter Tryd.func16, Tryd.ntmps16
        go_wp2_with (first | ((with_reducible refine gate_callee (f := 15) rfl ?_); refine goesL_ (some 8) rfl rfl Tryd.func15 (by kernel_rfl) rfl #[.string a0] rfl (by (try simp only [List.map_toArray, List.map_cons, List.map_nil]); first | done | rfl | (simp only [List.length_drop, List.length_take]; rfl)) ?_; (with_reducible refine (peerageref02_Plain.calls k a0 t128 _ A3.out).mono ?_); rintro e w' ⟨rfl, ⟨nd, rfl⟩⟩; refine ⟨_, rfl, ?_⟩) | ((with_reducible refine gate_callee (f := 15) rfl ?_); refine goesL_ (some 10) rfl rfl Tryd.func15 (by kernel_rfl) rfl #[.string a1] rfl (by (try simp only [List.map_toArray, List.map_cons, List.map_nil]); first | done | rfl | (simp only [List.length_drop, List.length_take]; rfl)) ?_; (with_reducible refine (peerageref02_Plain.calls k a1 t129 _ A4.out).mono ?_); rintro e w' ⟨rfl, ⟨nd, rfl⟩⟩; refine ⟨_, rfl, ?_⟩))
        go_ret
        exact ⟨by first | rfl | (simp; done) | (simp [*]; done) | (simp; exact ne_nil_b _), by repeat (first | exact Drawn0.refl _ | apply Drawn0.step)⟩
      · rw [if_neg c7] at H
        have c7b0 : (t129.toList == ([] : List UInt8)) = false := beq_eq_false_iff_ne.mpr c7
        have c7b1 : (t129.toList != ([] : List UInt8)) = true := bne_iff_ne.mpr c7
        by_cases c8 : 0 < (t128.size : Int)
        · rw [if_pos c8] at H
          have c8b0 : decide (0 < (t128.size : Int)) = true := decide_eq_true c8
          have c8b1 : decide (0 < t128.size) = true := decide_eq_true (by omega)
          clear c8
          by_cases c10 : 0 < (t129.size : Int)
          · rw [if_pos c10] at H
            have c10b0 : decide (0 < (t129.size : Int)) = true := decide_eq_true c10
            have c10b1 : decide (0 < t129.size) = true := decide_eq_true (by omega)
            clear c10
            by_cases c12 : (((bt t128 0) == 45) != ((bt t129 0) == 45)) = true
            · rw [if_pos c12] at H
              have c12b0 : (((bt t128 0) == 45) != ((bt t129 0) == 45)) = true := c12
              (try (have c12b1 : decide (((bt t128 0) == 45) = ((bt t129 0) == 45)) = false := by simpa using c12))
              (try (have c12b2 : (((bt t128 0) == 45) == ((bt t129 0) == 45)) = false := by simpa using c12))
              (try (have c12b3 : ¬ (((bt t128 0) == 45) = ((bt t129 0) == 45)) := by simpa using c12))
              clear c12
              by_cases c13 : (bt t128 0) = 45
              · rw [if_pos c13] at H
                have c13b0 : ((bt t128 0) == 45) = true := beq_iff_eq.mpr c13
                have c13b1 : ((bt t128 0) != 45) = false := bne_eq_false_iff_eq.mpr c13
                (try (have c13z : ((bt t129 0) == 45) = true := by have z_ := c12b0; rw [c13b0] at z_; simpa using z_))
                (try (have c13y : ((bt t129 0) == 45) = false := by have z_ := c12b0; rw [c13b0] at z_; simpa using z_))
                clear c13
                obtain rfl := Option.some.inj H
                go_enter Tryd.func16, Tryd.ntmps16
                go_wp2_with (first | ((with_reducible refine gate_callee (f := 15) rfl ?_); refine goesL_ (some 8) rfl rfl Tryd.func15 (by kernel_rfl) rfl #[.string a0] rfl (by (try simp only [List.map_toArray, List.map_cons, List.map_nil]); first | done | rfl | (simp only [List.length_drop, List.length_take]; rfl)) ?_; (with_reducible refine (peerageref02_Plain.calls k a0 t128 _ A3.out).mono ?_); rintro e w' ⟨rfl, ⟨nd, rfl⟩⟩; refine ⟨_, rfl, ?_⟩) | ((with_reducible refine gate_callee (f := 15) rfl ?_); refine goesL_ (some 10) rfl rfl Tryd.func15 (by kernel_rfl) rfl #[.string a1] rfl (by (try simp only [List.map_toArray, List.map_cons, List.map_nil]); first | done | rfl | (simp only [List.length_drop, List.length_take]; rfl)) ?_; (with_reducible refine (peerageref02_Plain.calls k a1 t129 _ A4.out).mono ?_); rintro e w' ⟨rfl, ⟨nd, rfl⟩⟩; refine ⟨_, rfl, ?_⟩; have p9 : 0 ≤ (0 : Int) := (by omega); have q9 : 0 < t128.size := (by have : (0 : Int) < (t128.size : Int) := of_decide_eq_true (by first | (with_reducible assumption) | assumption); omega); have hx9 : ∀ h : 0 < t128.size, ((t128[0]'h).toNat : Int) = bt t128 0 := bt_at t128 0; clear p9; have qi9 : (0 < (t128.size : Int)) = True := eq_true (of_decide_eq_true (by first | (with_reducible assumption) | assumption)); replace q9 := eq_true q9; have p11 : 0 ≤ (0 : Int) := (by omega); have q11 : 0 < t129.size := (by have : (0 : Int) < (t129.size : Int) := of_decide_eq_true (by first | (with_reducible assumption) | assumption); omega); have hx11 : ∀ h : 0 < t129.size, ((t129[0]'h).toNat : Int) = bt t129 0 := bt_at t129 0; clear p11; have qi11 : (0 < (t129.size : Int)) = True := eq_true (of_decide_eq_true (by first | (with_reducible assumption) | assumption)); replace q11 := eq_true q11))
                go_ret
                exact ⟨by first | rfl | (simp; done) | (simp [*]; done) | (simp; exact ne_nil_b _), by repeat (first | exact Drawn0.refl _ | apply Drawn0.step)⟩
              · rw [if_neg c13] at H
                have c13b0 : ((bt t128 0) == 45) = false := beq_eq_false_iff_ne.mpr c13
                have c13b1 : ((bt t128 0) != 45) = true := bne_iff_ne.mpr c13
                (try (have c13z : ((bt t129 0) == 45) = true := by have z_ := c12b0; rw [c13b0] at z_; simpa using z_))
                (try (have c13y : ((bt t129 0) == 45) = false := by have z_ := c12b0; rw [c13b0] at z_; simpa using z_))
                obtain rfl := Option.some.inj H
                go_enter Tryd.func16, Tryd.ntmps16
                go_wp2_with (first | ((with_reducible refine gate_callee (f := 15) rfl ?_); refine goesL_ (some 8) rfl rfl Tryd.func15 (by kernel_rfl) rfl #[.string a0] rfl (by (try simp only [List.map_toArray, List.map_cons, List.map_nil]); first | done | rfl | (simp only [List.length_drop, List.length_take]; rfl)) ?_; (with_reducible refine (peerageref02_Plain.calls k a0 t128 _ A3.out).mono ?_); rintro e w' ⟨rfl, ⟨nd, rfl⟩⟩; refine ⟨_, rfl, ?_⟩) | ((with_reducible refine gate_callee (f := 15) rfl ?_); refine goesL_ (some 10) rfl rfl Tryd.func15 (by kernel_rfl) rfl #[.string a1] rfl (by (try simp only [List.map_toArray, List.map_cons, List.map_nil]); first | done | rfl | (simp only [List.length_drop, List.length_take]; rfl)) ?_; (with_reducible refine (peerageref02_Plain.calls k a1 t129 _ A4.out).mono ?_); rintro e w' ⟨rfl, ⟨nd, rfl⟩⟩; refine ⟨_, rfl, ?_⟩; have p9 : 0 ≤ (0 : Int) := (by omega); have q9 : 0 < t128.size := (by have : (0 : Int) < (t128.size : Int) := of_decide_eq_true (by first | (with_reducible assumption) | assumption); omega); have hx9 : ∀ h : 0 < t128.size, ((t128[0]'h).toNat : Int) = bt t128 0 := bt_at t128 0; clear p9; have qi9 : (0 < (t128.size : Int)) = True := eq_true (of_decide_eq_true (by first | (with_reducible assumption) | assumption)); replace q9 := eq_true q9; have p11 : 0 ≤ (0 : Int) := (by omega); have q11 : 0 < t129.size := (by have : (0 : Int) < (t129.size : Int) := of_decide_eq_true (by first | (with_reducible assumption) | assumption); omega); have hx11 : ∀ h : 0 < t129.size, ((t129[0]'h).toNat : Int) = bt t129 0 := bt_at t129 0; clear p11; have qi11 : (0 < (t129.size : Int)) = True := eq_true (of_decide_eq_true (by first | (with_reducible assumption) | assumption)); replace q11 := eq_true q11))
                go_ret
                exact ⟨by first | rfl | (simp; done) | (simp [*]; done) | (simp; exact ne_nil_b _), by repeat (first | exact Drawn0.refl _ | apply Drawn0.step)⟩
            · rw [if_neg c12] at H
              have c12b0 : (((bt t128 0) == 45) != ((bt t129 0) == 45)) = false := by simpa using c12
              (try (have c12b1 : decide (((bt t128 0) == 45) = ((bt t129 0) == 45)) = true := by simpa using c12))
              (try (have c12b2 : (((bt t128 0) == 45) == ((bt t129 0) == 45)) = true := by simpa using c12))
              clear c12
              by_cases c14 : (t128.size : Int) < (t129.size : Int)
              · rw [if_pos c14] at H
                have c14b0 : decide ((t128.size : Int) < (t129.size : Int)) = true := decide_eq_true c14
                have c14b1 : decide (t128.size < t129.size) = true := decide_eq_true (Int.ofNat_lt.mp c14)
                clear c14
                by_cases c15 : (true != ((bt t128 0) == 45)) = true
                · rw [if_pos c15] at H
                  have c15b0 : (true != ((bt t128 0) == 45)) = true := c15
                  (try (have c15b1 : decide (true = ((bt t128 0) == 45)) = false := by simpa using c15))
                  (try (have c15b2 : (true == ((bt t128 0) == 45)) = false := by simpa using c15))
                  (try (have c15b3 : ¬ (true = ((bt t128 0) == 45)) := by simpa using c15))
                  clear c15
                  obtain rfl := Option.some.inj H
                  go_enter Tryd.func16, Tryd.ntmps16
                  go_wp2_with (first | ((with_reducible refine gate_callee (f := 15) rfl ?_); refine goesL_ (some 8) rfl rfl Tryd.func15 (by kernel_rfl) rfl #[.string a0] rfl (by (try simp only [List.map_toArray, List.map_cons, List.map_nil]); first | done | rfl | (simp only [List.length_drop, List.length_take]; rfl)) ?_; (with_reducible refine (peerageref02_Plain.calls k a0 t128 _ A3.out).mono ?_); rintro e w' ⟨rfl, ⟨nd, rfl⟩⟩; refine ⟨_, rfl, ?_⟩) | ((with_reducible refine gate_callee (f := 15) rfl ?_); refine goesL_ (some 10) rfl rfl Tryd.func15 (by kernel_rfl) rfl #[.string a1] rfl (by (try simp only [List.map_toArray, List.map_cons, List.map_nil]); first | done | rfl | (simp only [List.length_drop, List.length_take]; rfl)) ?_; (with_reducible refine (peerageref02_Plain.calls k a1 t129 _ A4.out).mono ?_); rintro e w' ⟨rfl, ⟨nd, rfl⟩⟩; refine ⟨_, rfl, ?_⟩; have p9 : 0 ≤ (0 : Int) := (by omega); have q9 : 0 < t128.size := (by have : (0 : Int) < (t128.size : Int) := of_decide_eq_true (by first | (with_reducible assumption) | assumption); omega); have hx9 : ∀ h : 0 < t128.size, ((t128[0]'h).toNat : Int) = bt t128 0 := bt_at t128 0; clear p9; have qi9 : (0 < (t128.size : Int)) = True := eq_true (of_decide_eq_true (by first | (with_reducible assumption) | assumption)); replace q9 := eq_true q9; have p11 : 0 ≤ (0 : Int) := (by omega); have q11 : 0 < t129.size := (by have : (0 : Int) < (t129.size : Int) := of_decide_eq_true (by first | (with_reducible assumption) | assumption); omega); have hx11 : ∀ h : 0 < t129.size, ((t129[0]'h).toNat : Int) = bt t129 0 := bt_at t129 0; clear p11; have qi11 : (0 < (t129.size : Int)) = True := eq_true (of_decide_eq_true (by first | (with_reducible assumption) | assumption)); replace q11 := eq_true q11))
                  go_ret
                  exact ⟨by first | rfl | (simp; done) | (simp [*]; done) | (simp; exact ne_nil_b _), by repeat (first | exact Drawn0.refl _ | apply Drawn0.step)⟩
                · rw [if_neg c15] at H
                  have c15b0 : (true != ((bt t128 0) == 45)) = false := by simpa using c15
                  (try (have c15b1 : decide (true = ((bt t128 0) == 45)) = true := by simpa using c15))
                  (try (have c15b2 : (true == ((bt t128 0) == 45)) = true := by simpa using c15))
                  clear c15
                  obtain rfl := Option.some.inj H
                  go_enter Tryd.func16, Tryd.ntmps16
                  go_wp2_with (first | ((with_reducible refine gate_callee (f := 15) rfl ?_); refine goesL_ (some 8) rfl rfl Tryd.func15 (by kernel_rfl) rfl #[.string a0] rfl (by (try simp only [List.map_toArray, List.map_cons, List.map_nil]); first | done | rfl | (simp only [List.length_drop, List.length_take]; rfl)) ?_; (with_reducible refine (peerageref02_Plain.calls k a0 t128 _ A3.out).mono ?_); rintro e w' ⟨rfl, ⟨nd, rfl⟩⟩; refine ⟨_, rfl, ?_⟩) | ((with_reducible refine gate_callee (f := 15) rfl ?_); refine goesL_ (some 10) rfl rfl Tryd.func15 (by kernel_rfl) rfl #[.string a1] rfl (by (try simp only [List.map_toArray, List.map_cons, List.map_nil]); first | done | rfl | (simp only [List.length_drop, List.length_take]; rfl)) ?_; (with_reducible refine (peerageref02_Plain.calls k a1 t129 _ A4.out).mono ?_); rintro e w' ⟨rfl, ⟨nd, rfl⟩⟩; refine ⟨_, rfl, ?_⟩; have p9 : 0 ≤ (0 : Int) := (by omega); have q9 : 0 < t128.size := (by have : (0 : Int) < (t128.size : Int) := of_decide_eq_true (by first | (with_reducible assumption) | assumption); omega); have hx9 : ∀ h : 0 < t128.size, ((t128[0]'h).toNat : Int) = bt t128 0 := bt_at t128 0; clear p9; have qi9 : (0 < (t128.size : Int)) = True := eq_true (of_decide_eq_true (by first | (with_reducible assumption) | assumption)); replace q9 := eq_true q9; have p11 : 0 ≤ (0 : Int) := (by omega); have q11 : 0 < t129.size := (by have : (0 : Int) < (t129.size : Int) := of_decide_eq_true (by first | (with_reducible assumption) | assumption); omega); have hx11 : ∀ h : 0 < t129.size, ((t129[0]'h).toNat : Int) = bt t129 0 := bt_at t129 0; clear p11; have qi11 : (0 < (t129.size : Int)) = True := eq_true (of_decide_eq_true (by first | (with_reducible assumption) | assumption)); replace q11 := eq_true q11))
                  go_ret
                  exact ⟨by first | rfl | (simp; done) | (simp [*]; done) | (simp; exact ne_nil_b _), by repeat (first | exact Drawn0.refl _ | apply Drawn0.step)⟩
              · rw [if_neg c14] at H
                have c14b0 : decide ((t128.size : Int) < (t129.size : Int)) = false := decide_eq_false c14
                have c14b1 : decide (t128.size < t129.size) = false := decide_eq_false (fun h => c14 (Int.ofNat_lt.mpr h))
                clear c14
                by_cases c16 : (t128.size : Int) = (t129.size : Int)
                · rw [if_pos c16] at H
                  have c16b0 : ((t128.size : Int) == (t129.size : Int)) = true := beq_iff_eq.mpr c16
                  have c16b1 : ((t128.size : Int) != (t129.size : Int)) = false := bne_eq_false_iff_eq.mpr c16
                  have c16b2 : (t128.size == t129.size) = true := by first | simpa using c16 | (simp at c16 ⊢; omega)
                  clear c16
                  by_cases c17 : ((Op.bytesLess t128.toList t129.toList) != ((bt t128 0) == 45)) = true
                  · rw [if_pos c17] at H
                    have c17b0 : ((Op.bytesLess t128.toList t129.toList) != ((bt t128 0) == 45)) = true := c17
                    (try (have c17b1 : decide ((Op.bytesLess t128.toList t129.toList) = ((bt t128 0) == 45)) = false := by simpa using c17))
                    (try (have c17b2 : ((Op.bytesLess t128.toList t129.toList) == ((bt t128 0) == 45)) = false := by simpa using c17))
                    (try (have c17b3 : ¬ ((Op.bytesLess t128.toList t129.toList) = ((bt t128 0) == 45)) := by simpa using c17))
                    clear c17
                    obtain rfl := Option.some.inj H
                    go_enter Tryd.func16, Tryd.ntmps16
                    go_wp2_with (first | ((with_reducible refine gate_callee (f := 15) rfl ?_); refine goesL_ (some 8) rfl rfl Tryd.func15 (by kernel_rfl) rfl #[.string a0] rfl (by (try simp only [List.map_toArray, List.map_cons, List.map_nil]); first | done | rfl | (simp only [List.length_drop, List.length_take]; rfl)) ?_; (with_reducible refine (peerageref02_Plain.calls k a0 t128 _ A3.out).mono ?_); rintro e w' ⟨rfl, ⟨nd, rfl⟩⟩; refine ⟨_, rfl, ?_⟩) | ((with_reducible refine gate_callee (f := 15) rfl ?_); refine goesL_ (some 10) rfl rfl Tryd.func15 (by kernel_rfl) rfl #[.string a1] rfl (by (try simp only [List.map_toArray, List.map_cons, List.map_nil]); first | done | rfl | (simp only [List.length_drop, List.length_take]; rfl)) ?_; (with_reducible refine (peerageref02_Plain.calls k a1 t129 _ A4.out).mono ?_); rintro e w' ⟨rfl, ⟨nd, rfl⟩⟩; refine ⟨_, rfl, ?_⟩; have p9 : 0 ≤ (0 : Int) := (by omega); have q9 : 0 < t128.size := (by have : (0 : Int) < (t128.size : Int) := of_decide_eq_true (by first | (with_reducible assumption) | assumption); omega); have hx9 : ∀ h : 0 < t128.size, ((t128[0]'h).toNat : Int) = bt t128 0 := bt_at t128 0; clear p9; have qi9 : (0 < (t128.size : Int)) = True := eq_true (of_decide_eq_true (by first | (with_reducible assumption) | assumption)); replace q9 := eq_true q9; have p11 : 0 ≤ (0 : Int) := (by omega); have q11 : 0 < t129.size := (by have : (0 : Int) < (t129.size : Int) := of_decide_eq_true (by first | (with_reducible assumption) | assumption); omega); have hx11 : ∀ h : 0 < t129.size, ((t129[0]'h).toNat : Int) = bt t129 0 := bt_at t129 0; clear p11; have qi11 : (0 < (t129.size : Int)) = True := eq_true (of_decide_eq_true (by first | (with_reducible assumption) | assumption)); replace q11 := eq_true q11))
                    go_ret
                    exact ⟨by first | rfl | (simp; done) | (simp [*]; done) | (simp; exact ne_nil_b _), by repeat (first | exact Drawn0.refl _ | apply Drawn0.step)⟩
                  · rw [if_neg c17] at H
                    have c17b0 : ((Op.bytesLess t128.toList t129.toList) != ((bt t128 0) == 45)) = false := by simpa using c17
                    (try (have c17b1 : decide ((Op.bytesLess t128.toList t129.toList) = ((bt t128 0) == 45)) = true := by simpa using c17))
                    (try (have c17b2 : ((Op.bytesLess t128.toList t129.toList) == ((bt t128 0) == 45)) = true := by simpa using c17))
                    clear c17
                    obtain rfl := Option.some.inj H
                    go_enter Tryd.func16, Tryd.ntmps16
                    go_wp2_with (first | ((with_reducible refine gate_callee (f := 15) rfl ?_); refine goesL_ (some 8) rfl rfl Tryd.func15 (by kernel_rfl) rfl #[.string a0] rfl (by (try simp only [List.map_toArray, List.map_cons, List.map_nil]); first | done | rfl | (simp only [List.length_drop, List.length_take]; rfl)) ?_; (with_reducible refine (peerageref02_Plain.calls k a0 t128 _ A3.out).mono ?_); rintro e w' ⟨rfl, ⟨nd, rfl⟩⟩; refine ⟨_, rfl, ?_⟩) | ((with_reducible refine gate_callee (f := 15) rfl ?_); refine goesL_ (some 10) rfl rfl Tryd.func15 (by kernel_rfl) rfl #[.string a1] rfl (by (try simp only [List.map_toArray, List.map_cons, List.map_nil]); first | done | rfl | (simp only [List.length_drop, List.length_take]; rfl)) ?_; (with_reducible refine (peerageref02_Plain.calls k a1 t129 _ A4.out).mono ?_); rintro e w' ⟨rfl, ⟨nd, rfl⟩⟩; refine ⟨_, rfl, ?_⟩; have p9 : 0 ≤ (0 : Int) := (by omega); have q9 : 0 < t128.size := (by have : (0 : Int) < (t128.size : Int) := of_decide_eq_true (by first | (with_reducible assumption) | assumption); omega); have hx9 : ∀ h : 0 < t128.size, ((t128[0]'h).toNat : Int) = bt t128 0 := bt_at t128 0; clear p9; have qi9 : (0 < (t128.size : Int)) = True := eq_true (of_decide_eq_true (by first | (with_reducible assumption) | assumption)); replace q9 := eq_true q9; have p11 : 0 ≤ (0 : Int) := (by omega); have q11 : 0 < t129.size := (by have : (0 : Int) < (t129.size : Int) := of_decide_eq_true (by first | (with_reducible assumption) | assumption); omega); have hx11 : ∀ h : 0 < t129.size, ((t129[0]'h).toNat : Int) = bt t129 0 := bt_at t129 0; clear p11; have qi11 : (0 < (t129.size : Int)) = True := eq_true (of_decide_eq_true (by first | (with_reducible assumption) | assumption)); replace q11 := eq_true q11))
                    go_ret
                    exact ⟨by first | rfl | (simp; done) | (simp [*]; done) | (simp; exact ne_nil_b _), by repeat (first | exact Drawn0.refl _ | apply Drawn0.step)⟩
                · rw [if_neg c16] at H
                  have c16b0 : ((t128.size : Int) == (t129.size : Int)) = false := beq_eq_false_iff_ne.mpr c16
                  have c16b1 : ((t128.size : Int) != (t129.size : Int)) = true := bne_iff_ne.mpr c16
                  have c16b2 : (t128.size == t129.size) = false := by first | simpa using c16 | (simp at c16 ⊢; omega)
                  by_cases c18 : (false != ((bt t128 0) == 45)) = true
                  · rw [if_pos c18] at H
                    have c18b0 : (false != ((bt t128 0) == 45)) = true := c18
                    (try (have c18b1 : decide (false = ((bt t128 0) == 45)) = false := by simpa using c18))
                    (try (have c18b2 : (false == ((bt t128 0) == 45)) = false := by simpa using c18))
                    (try (have c18b3 : ¬ (false = ((bt t128 0) == 45)) := by simpa using c18))
                    clear c18
                    obtain rfl := Option.some.inj H
                    go_enter Tryd.func16, Tryd.ntmps16
                    go_wp2_with (first | ((with_reducible refine gate_callee (f := 15) rfl ?_); refine goesL_ (some 8) rfl rfl Tryd.func15 (by kernel_rfl) rfl #[.string a0] rfl (by (try simp only [List.map_toArray, List.map_cons, List.map_nil]); first | done | rfl | (simp only [List.length_drop, List.length_take]; rfl)) ?_; (with_reducible refine (peerageref02_Plain.calls k a0 t128 _ A3.out).mono ?_); rintro e w' ⟨rfl, ⟨nd, rfl⟩⟩; refine ⟨_, rfl, ?_⟩) | ((with_reducible refine gate_callee (f := 15) rfl ?_); refine goesL_ (some 10) rfl rfl Tryd.func15 (by kernel_rfl) rfl #[.string a1] rfl (by (try simp only [List.map_toArray, List.map_cons, List.map_nil]); first | done | rfl | (simp only [List.length_drop, List.length_take]; rfl)) ?_; (with_reducible refine (peerageref02_Plain.calls k a1 t129 _ A4.out).mono ?_); rintro e w' ⟨rfl, ⟨nd, rfl⟩⟩; refine ⟨_, rfl, ?_⟩; have p9 : 0 ≤ (0 : Int) := (by omega); have q9 : 0 < t128.size := (by have : (0 : Int) < (t128.size : Int) := of_decide_eq_true (by first | (with_reducible assumption) | assumption); omega); have hx9 : ∀ h : 0 < t128.size, ((t128[0]'h).toNat : Int) = bt t128 0 := bt_at t128 0; clear p9; have qi9 : (0 < (t128.size : Int)) = True := eq_true (of_decide_eq_true (by first | (with_reducible assumption) | assumption)); replace q9 := eq_true q9; have p11 : 0 ≤ (0 : Int) := (by omega); have q11 : 0 < t129.size := (by have : (0 : Int) < (t129.size : Int) := of_decide_eq_true (by first | (with_reducible assumption) | assumption); omega); have hx11 : ∀ h : 0 < t129.size, ((t129[0]'h).toNat : Int) = bt t129 0 := bt_at t129 0; clear p11; have qi11 : (0 < (t129.size : Int)) = True := eq_true (of_decide_eq_true (by first | (with_reducible assumption) | assumption)); replace q11 := eq_true q11))
                    go_ret
                    exact ⟨by first | rfl | (simp; done) | (simp [*]; done) | (simp; exact ne_nil_b _), by repeat (first | exact Drawn0.refl _ | apply Drawn0.step)⟩
                  · rw [if_neg c18] at H
                    have c18b0 : (false != ((bt t128 0) == 45)) = false := by simpa using c18
                    (try (have c18b1 : decide (false = ((bt t128 0) == 45)) = true := by simpa using c18))
                    (try (have c18b2 : (false == ((bt t128 0) == 45)) = true := by simpa using c18))
                    clear c18
                    obtain rfl := Option.some.inj H
                    go_enter Tryd.func16, Tryd.ntmps16
                    go_wp2_with (first | ((with_reducible refine gate_callee (f := 15) rfl ?_); refine goesL_ (some 8) rfl rfl Tryd.func15 (by kernel_rfl) rfl #[.string a0] rfl (by (try simp only [List.map_toArray, List.map_cons, List.map_nil]); first | done | rfl | (simp only [List.length_drop, List.length_take]; rfl)) ?_; (with_reducible refine (peerageref02_Plain.calls k a0 t128 _ A3.out).mono ?_); rintro e w' ⟨rfl, ⟨nd, rfl⟩⟩; refine ⟨_, rfl, ?_⟩) | ((with_reducible refine gate_callee (f := 15) rfl ?_); refine goesL_ (some 10) rfl rfl Tryd.func15 (by kernel_rfl) rfl #[.string a1] rfl (by (try simp only [List.map_toArray, List.map_cons, List.map_nil]); first | done | rfl | (simp only [List.length_drop, List.length_take]; rfl)) ?_; (with_reducible refine (peerageref02_Plain.calls k a1 t129 _ A4.out).mono ?_); rintro e w' ⟨rfl, ⟨nd, rfl⟩⟩; refine ⟨_, rfl, ?_⟩; have p9 : 0 ≤ (0 : Int) := (by omega); have q9 : 0 < t128.size := (by have : (0 : Int) < (t128.size : Int) := of_decide_eq_true (by first | (with_reducible assumption) | assumption); omega); have hx9 : ∀ h : 0 < t128.size, ((t128[0]'h).toNat : Int) = bt t128 0 := bt_at t128 0; clear p9; have qi9 : (0 < (t128.size : Int)) = True := eq_true (of_decide_eq_true (by first | (with_reducible assumption) | assumption)); replace q9 := eq_true q9; have p11 : 0 ≤ (0 : Int) := (by omega); have q11 : 0 < t129.size := (by have : (0 : Int) < (t129.size : Int) := of_decide_eq_true (by first | (with_reducible assumption) | assumption); omega); have hx11 : ∀ h : 0 < t129.size, ((t129[0]'h).toNat : Int) = bt t129 0 := bt_at t129 0; clear p11; have qi11 : (0 < (t129.size : Int)) = True := eq_true (of_decide_eq_true (by first | (with_reducible assumption) | assumption)); replace q11 := eq_true q11))
                    go_ret
                    exact ⟨by first | rfl | (simp; done) | (simp [*]; done) | (simp; exact ne_nil_b _), by repeat (first | exact Drawn0.refl _ | apply Drawn0.step)⟩
          · rw [if_neg c10] at H
            exact absurd H (by simp)
        · rw [if_neg c8] at H
          exact absurd H (by simp)

-- NOT PRINTED: function 5 (peeragelaw02_WholeTexts)

end Go.Proofs.YtcbppladofnnlaaDoor.LA
