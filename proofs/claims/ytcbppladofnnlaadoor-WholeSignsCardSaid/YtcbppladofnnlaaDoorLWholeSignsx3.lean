/- Functions that a law calls, and the walk of the law itself, told by a program of this session (pp.py) over the kit printer; no condition beyond the statement itself; not trusted: Lean checks it. -/
import Derived.Test.YtcbppladofnnlaaDoorLWholeSignsx0
namespace Go.Proofs.YtcbppladofnnlaaDoor.LWholeSigns
open Go.RowKit Go.Proofs.YtcbppladofnnlaaDoor.H Go.Proofs.YtcbppladofnnlaaDoor.LA Go.Proofs.YtcbppladofnnlaaDoor.LWholeTexts Go.Proofs.YtcbppladofnnlaaDoorW.PrintWords Go.Proofs.YtcbppladofnnlaaDoorW.PrintLast Go.Proofs.YtcbppladofnnlaaDoorW.PrintMore
attribute [local go_sem] max2_int min2_int max_two min_two max_three min_three max_four min_four   -- for this text's walks alone
set_option linter.unusedVariables false
set_option linter.unusedSimpArgs false

/-! ### peeragelaw02_WholeSigns: function 4 -/
def peeragelaw02_WholeSigns.l0 : Nat → ByteArray → Int → ByteArray → Int → Option (Bool)
  | 0, _, _, _, _ => none
  | k + 1, x1, x2, x7, x8 => if x8 < (Go.bits .and .i64 x2 7) then (if 0 < (x7.size : Int) then (if (bt x7 0) = 45 then (if 1 ≤ (x7.size : Int) then (if 2 + (x7.extract 1 x7.size).size ≤ 9223372036854775807 then (peeragelaw02_WholeSigns.l0 k x1 x2 ((⟨#[45, 48]⟩ : ByteArray) ++ (x7.extract 1 x7.size)) (wrap64 (x8 + 1))) else (none)) else (none)) else (if 1 + x7.size ≤ 9223372036854775807 then (peeragelaw02_WholeSigns.l0 k x1 x2 ((⟨#[48]⟩ : ByteArray) ++ x7) (wrap64 (x8 + 1))) else (none))) else (none)) else ((whole_Plain.f k x7).bind fun t147 => ((whole_Plain.f k x1).bind fun t148 => (if t147.toList = t148.toList then ((whole_Compare.f k x7 x1).bind fun t149 => (if t149 = 0 then ((whole_Valid.f k x7).bind fun t150 => (some t150)) else (some false))) else (some false))))
def peeragelaw02_WholeSigns.f (k : Nat) (a0 : Int) (a1 : ByteArray) (a2 : Int) : Option (Bool) := if (a1.size : Int) > 300 then (if 0 ≤ 300 then (if 300 ≤ (a1.size : Int) then (if a0 > 0 then ((whole_Digits.f k (wrap64 (-a0))).bind fun t143 => ((whole_Digits.f k a0).bind fun t144 => (if 1 + t144.size ≤ 9223372036854775807 then (if t143.toList = ((⟨#[45]⟩ : ByteArray) ++ t144).toList then ((whole_Digits.f k 0).bind fun t145 => (if t145.toList = ([48] : List UInt8) then ((whole_Valid.f k (a1.extract 0 300)).bind fun t146 => (if t146 = true then (peeragelaw02_WholeSigns.l0 k (a1.extract 0 300) a2 (a1.extract 0 300) 0) else ((whole_Plain.f k (a1.extract 0 300)).bind fun t151 => (if t151.toList = ([] : List UInt8) then ((whole_Compare.f k (a1.extract 0 300) (⟨#[48]⟩ : ByteArray)).bind fun t152 => (some (t152 == (-1)))) else (some false))))) else (some false))) else (some false)) else (none)))) else ((whole_Digits.f k 0).bind fun t153 => (if t153.toList = ([48] : List UInt8) then ((whole_Valid.f k (a1.extract 0 300)).bind fun t154 => (if t154 = true then (peeragelaw02_WholeSigns.l0 k (a1.extract 0 300) a2 (a1.extract 0 300) 0) else ((whole_Plain.f k (a1.extract 0 300)).bind fun t155 => (if t155.toList = ([] : List UInt8) then ((whole_Compare.f k (a1.extract 0 300) (⟨#[48]⟩ : ByteArray)).bind fun t156 => (some (t156 == (-1)))) else (some false))))) else (some false)))) else (none)) else (none)) else (if a0 > 0 then ((whole_Digits.f k (wrap64 (-a0))).bind fun t157 => ((whole_Digits.f k a0).bind fun t158 => (if 1 + t158.size ≤ 9223372036854775807 then (if t157.toList = ((⟨#[45]⟩ : ByteArray) ++ t158).toList then ((whole_Digits.f k 0).bind fun t159 => (if t159.toList = ([48] : List UInt8) then ((whole_Valid.f k a1).bind fun t160 => (if t160 = true then (peeragelaw02_WholeSigns.l0 k a1 a2 a1 0) else ((whole_Plain.f k a1).bind fun t161 => (if t161.toList = ([] : List UInt8) then ((whole_Compare.f k a1 (⟨#[48]⟩ : ByteArray)).bind fun t162 => (some (t162 == (-1)))) else (some false))))) else (some false))) else (some false)) else (none)))) else ((whole_Digits.f k 0).bind fun t163 => (if t163.toList = ([48] : List UInt8) then ((whole_Valid.f k a1).bind fun t164 => (if t164 = true then (peeragelaw02_WholeSigns.l0 k a1 a2 a1 0) else ((whole_Plain.f k a1).bind fun t165 => (if t165.toList = ([] : List UInt8) then ((whole_Compare.f k a1 (⟨#[48]⟩ : ByteArray)).bind fun t166 => (some (t166 == (-1)))) else (some false))))) else (some false))))
theorem peeragelaw02_WholeSigns.mono_l : ∀ k, (∀ y0 y1 y2 y3, LeO (peeragelaw02_WholeSigns.l0 k y0 y1 y2 y3) (peeragelaw02_WholeSigns.l0 (k + 1) y0 y1 y2 y3))
  | 0 => fun _ _ _ _ r h => by simp [peeragelaw02_WholeSigns.l0] at h
  | k + 1 => by
    have ih0 := peeragelaw02_WholeSigns.mono_l k
    · intro y0 y1 y2 y3
      unfold peeragelaw02_WholeSigns.l0
      repeat' first
      | (with_reducible exact ih0 _ _ _ _)
      | (with_reducible exact whole_Compare.mono _ _ _)
      | (with_reducible exact whole_Digits.mono _ _)
      | (with_reducible exact whole_Plain.mono _ _)
      | (with_reducible exact whole_Valid.mono _ _)
      | (with_reducible exact LeO.refl _)
      | (with_reducible exact LeO.none _)
      | (with_reducible refine LeO.ite ?_ ?_)
      | (with_reducible refine LeO.bind ?_ (fun _ => ?_))
      | exact ih0 _ _ _ _
      | exact whole_Compare.mono _ _ _
      | exact whole_Digits.mono _ _
      | exact whole_Plain.mono _ _
      | exact whole_Valid.mono _ _
      | exact LeO.none _
      | refine LeO.ite ?_ ?_
      | refine LeO.bind ?_ (fun _ => ?_)
theorem peeragelaw02_WholeSigns.mono : ∀ a0 a1 a2 k, LeO (peeragelaw02_WholeSigns.f k a0 a1 a2) (peeragelaw02_WholeSigns.f (k + 1) a0 a1 a2) := by
  intro a0 a1 a2 k
  have ih0 := peeragelaw02_WholeSigns.mono_l k
  unfold peeragelaw02_WholeSigns.f
  repeat' first
      | (with_reducible exact ih0 _ _ _ _)
      | (with_reducible exact whole_Compare.mono _ _ _)
      | (with_reducible exact whole_Digits.mono _ _)
      | (with_reducible exact whole_Plain.mono _ _)
      | (with_reducible exact whole_Valid.mono _ _)
      | (with_reducible exact LeO.refl _)
      | (with_reducible exact LeO.none _)
      | (with_reducible refine LeO.ite ?_ ?_)
      | (with_reducible refine LeO.bind ?_ (fun _ => ?_))
      | exact ih0 _ _ _ _
      | exact whole_Compare.mono _ _ _
      | exact whole_Digits.mono _ _
      | exact whole_Plain.mono _ _
      | exact whole_Valid.mono _ _
      | exact LeO.none _
      | refine LeO.ite ?_ ?_
      | refine LeO.bind ?_ (fun _ => ?_)
set_option maxHeartbeats 2000000 in
set_option maxRecDepth 100000 in
theorem peeragelaw02_WholeSigns.calls (k : Nat) (a0 : Int) (a1 : ByteArray) (a2 : Int) (r : Bool) (w : World) (h : peeragelaw02_WholeSigns.f k a0 a1 a2 = some r) :
    Calls Tryd.prog 4 #[.int .i64 a0, .string a1, .int .i64 a2] w fun e w' => e = .returned (.bool r) ∧ Below w.heap.size w w' := by
  have HB := Aside0.mk (Below.refl w.heap.size w)
  have H : (if (a1.size : Int) > 300 then (if 0 ≤ 300 then (if 300 ≤ (a1.size : Int) then (if a0 > 0 then ((whole_Digits.f k (wrap64 (-a0))).bind fun t143 => ((whole_Digits.f k a0).bind fun t144 => (if 1 + t144.size ≤ 9223372036854775807 then (if t143.toList = ((⟨#[45]⟩ : ByteArray) ++ t144).toList then ((whole_Digits.f k 0).bind fun t145 => (if t145.toList = ([48] : List UInt8) then ((whole_Valid.f k (a1.extract 0 300)).bind fun t146 => (if t146 = true then (peeragelaw02_WholeSigns.l0 k (a1.extract 0 300) a2 (a1.extract 0 300) 0) else ((whole_Plain.f k (a1.extract 0 300)).bind fun t151 => (if t151.toList = ([] : List UInt8) then ((whole_Compare.f k (a1.extract 0 300) (⟨#[48]⟩ : ByteArray)).bind fun t152 => (some (t152 == (-1)))) else (some false))))) else (some false))) else (some false)) else (none)))) else ((whole_Digits.f k 0).bind fun t153 => (if t153.toList = ([48] : List UInt8) then ((whole_Valid.f k (a1.extract 0 300)).bind fun t154 => (if t154 = true then (peeragelaw02_WholeSigns.l0 k (a1.extract 0 300) a2 (a1.extract 0 300) 0) else ((whole_Plain.f k (a1.extract 0 300)).bind fun t155 => (if t155.toList = ([] : List UInt8) then ((whole_Compare.f k (a1.extract 0 300) (⟨#[48]⟩ : ByteArray)).bind fun t156 => (some (t156 == (-1)))) else (some false))))) else (some false)))) else (none)) else (none)) else (if a0 > 0 then ((whole_Digits.f k (wrap64 (-a0))).bind fun t157 => ((whole_Digits.f k a0).bind fun t158 => (if 1 + t158.size ≤ 9223372036854775807 then (if t157.toList = ((⟨#[45]⟩ : ByteArray) ++ t158).toList then ((whole_Digits.f k 0).bind fun t159 => (if t159.toList = ([48] : List UInt8) then ((whole_Valid.f k a1).bind fun t160 => (if t160 = true then (peeragelaw02_WholeSigns.l0 k a1 a2 a1 0) else ((whole_Plain.f k a1).bind fun t161 => (if t161.toList = ([] : List UInt8) then ((whole_Compare.f k a1 (⟨#[48]⟩ : ByteArray)).bind fun t162 => (some (t162 == (-1)))) else (some false))))) else (some false))) else (some false)) else (none)))) else ((whole_Digits.f k 0).bind fun t163 => (if t163.toList = ([48] : List UInt8) then ((whole_Valid.f k a1).bind fun t164 => (if t164 = true then (peeragelaw02_WholeSigns.l0 k a1 a2 a1 0) else ((whole_Plain.f k a1).bind fun t165 => (if t165.toList = ([] : List UInt8) then ((whole_Compare.f k a1 (⟨#[48]⟩ : ByteArray)).bind fun t166 => (some (t166 == (-1)))) else (some false))))) else (some false))))) = some r := h
  clear h
  by_cases c4 : (a1.size : Int) > 300
  · rw [if_pos c4] at H
    have c4b0 : decide (300 < (a1.size : Int)) = true := decide_eq_true c4
    have c4b1 : decide (300 < a1.size) = true := decide_eq_true (by omega)
    clear c4
    by_cases c5 : 0 ≤ 300
    · rw [if_pos c5] at H
      have c5b0 := eq_true c5
      have c5b1 : decide (0 ≤ 300) = true := decide_eq_true c5
      clear c5
      by_cases c6 : 300 ≤ (a1.size : Int)
      · rw [if_pos c6] at H
        have c6b0 := eq_true c6
        have c6b1 : decide (300 ≤ (a1.size : Int)) = true := decide_eq_true c6
        clear c6
        by_cases c7 : a0 > 0
        · rw [if_pos c7] at H
          have c7b0 : decide (0 < a0) = true := decide_eq_true c7
          clear c7
          replace H := Option.bind_eq_some_iff.mp H
          obtain ⟨t143, A80, H⟩ := H
          replace H : ((whole_Digits.f k a0).bind fun t144 => (if 1 + t144.size ≤ 9223372036854775807 then (if t143.toList = ((⟨#[45]⟩ : ByteArray) ++ t144).toList then ((whole_Digits.f k 0).bind fun t145 => (if t145.toList = ([48] : List UInt8) then ((whole_Valid.f k (a1.extract 0 300)).bind fun t146 => (if t146 = true then (peeragelaw02_WholeSigns.l0 k (a1.extract 0 300) a2 (a1.extract 0 300) 0) else ((whole_Plain.f k (a1.extract 0 300)).bind fun t151 => (if t151.toList = ([] : List UInt8) then ((whole_Compare.f k (a1.extract 0 300) (⟨#[48]⟩ : ByteArray)).bind fun t152 => (some (t152 == (-1)))) else (some false))))) else (some false))) else (some false)) else (none))) = some r := H
          have A8 := Aside0.mk A80
          clear A80
          replace H := Option.bind_eq_some_iff.mp H
          obtain ⟨t144, A90, H⟩ := H
          replace H : (if 1 + t144.size ≤ 9223372036854775807 then (if t143.toList = ((⟨#[45]⟩ : ByteArray) ++ t144).toList then ((whole_Digits.f k 0).bind fun t145 => (if t145.toList = ([48] : List UInt8) then ((whole_Valid.f k (a1.extract 0 300)).bind fun t146 => (if t146 = true then (peeragelaw02_WholeSigns.l0 k (a1.extract 0 300) a2 (a1.extract 0 300) 0) else ((whole_Plain.f k (a1.extract 0 300)).bind fun t151 => (if t151.toList = ([] : List UInt8) then ((whole_Compare.f k (a1.extract 0 300) (⟨#[48]⟩ : ByteArray)).bind fun t152 => (some (t152 == (-1)))) else (some false))))) else (some false))) else (some false)) else (none)) = some r := H
          have A9 := Aside0.mk A90
          clear A90
          by_cases c10 : 1 + t144.size ≤ 9223372036854775807
          · rw [if_pos c10] at H
            have c10b0 := eq_true c10
            have c10b1 : decide (1 + t144.size ≤ 9223372036854775807) = true := decide_eq_true c10
            try have c10b2 : (9223372036854775807 < 1 + t144.size) = False := eq_false (Nat.not_lt.2 c10)
            by_cases c11 : t143.toList = ((⟨#[45]⟩ : ByteArray) ++ t144).toList
            · rw [if_pos c11] at H
              have c11b0 : (t143.toList == ((⟨#[45]⟩ : ByteArray) ++ t144).toList) = true := beq_iff_eq.mpr c11
              have c11b1 : (t143.toList != ((⟨#[45]⟩ : ByteArray) ++ t144).toList) = false := bne_eq_false_iff_eq.mpr c11
              clear c11
              replace H := Option.bind_eq_some_iff.mp H
              obtain ⟨t145, A120, H⟩ := H
              replace H : (if t145.toList = ([48] : List UInt8) then ((whole_Valid.f k (a1.extract 0 300)).bind fun t146 => (if t146 = true then (peeragelaw02_WholeSigns.l0 k (a1.extract 0 300) a2 (a1.extract 0 300) 0) else ((whole_Plain.f k (a1.extract 0 300)).bind fun t151 => (if t151.toList = ([] : List UInt8) then ((whole_Compare.f k (a1.extract 0 300) (⟨#[48]⟩ : ByteArray)).bind fun t152 => (some (t152 == (-1)))) else (some false))))) else (some false)) = some r := H
              have A12 := Aside0.mk A120
              clear A120
              by_cases c13 : t145.toList = ([48] : List UInt8)
              · rw [if_pos c13] at H
                have c13b0 : (t145.toList == ([48] : List UInt8)) = true := beq_iff_eq.mpr c13
                have c13b1 : (t145.toList != ([48] : List UInt8)) = false := bne_eq_false_iff_eq.mpr c13
                clear c13
                replace H := Option.bind_eq_some_iff.mp H
                obtain ⟨t146, A140, H⟩ := H
                replace H : (if t146 = true then (peeragelaw02_WholeSigns.l0 k (a1.extract 0 300) a2 (a1.extract 0 300) 0) else ((whole_Plain.f k (a1.extract 0 300)).bind fun t151 => (if t151.toList = ([] : List UInt8) then ((whole_Compare.f k (a1.extract 0 300) (⟨#[48]⟩ : ByteArray)).bind fun t152 => (some (t152 == (-1)))) else (some false)))) = some r := H
                have A14 := Aside0.mk A140
                clear A140
                by_cases c15 : t146 = true
                · subst c15
                  have H1 : (peeragelaw02_WholeSigns.l0 k (a1.extract 0 300) a2 (a1.extract 0 300) 0) = some r := by rw [if_pos rfl] at H; exact H
                  clear H
                  have H := H1
                  clear H1
                  have H' := Aside0.mk H
                  clear H
                  go_enter Tryd.func4, Tryd.ntmps4
                  go_wp2_with (first | (go_at_call 7; (with_reducible refine (whole_Digits.calls k (wrap64 (-a0)) t143 _ A8.out).mono ?_); rintro e w16 ⟨rfl, hb⟩; have n0_ := Aside0.mk (below_step (by repeat (first | (with_reducible first | exact HB.out | apply below_alloc | apply pw_below_drewN | apply below_drew1) | exact HB.out)) hb); clear HB; have HB := n0_; clear n0_; (try clear hb); (try clear hb2); (try clear hk); (try clear hi)) | (go_at_call 7; (with_reducible refine (whole_Digits.calls k a0 t144 _ A9.out).mono ?_); rintro e w17 ⟨rfl, hb⟩; have n0_ := Aside0.mk (below_step (by repeat (first | (with_reducible first | exact HB.out | apply below_alloc | apply pw_below_drewN | apply below_drew1) | exact HB.out)) hb); clear HB; have HB := n0_; clear n0_; (try clear hb); (try clear hb2); (try clear hk); (try clear hi)) | (go_at_call 7; (with_reducible refine (whole_Digits.calls k 0 t145 _ A12.out).mono ?_); rintro e w18 ⟨rfl, hb⟩; have n0_ := Aside0.mk (below_step (by repeat (first | (with_reducible first | exact HB.out | apply below_alloc | apply pw_below_drewN | apply below_drew1) | exact HB.out)) hb); clear HB; have HB := n0_; clear n0_; (try clear hb); (try clear hb2); (try clear hk); (try clear hi)) | ((with_reducible refine gate_callee (f := 10) rfl ?_); refine goesL_ (some 30) rfl rfl Tryd.func10 (by kernel_rfl) rfl #[.string (a1.extract 0 300)] rfl (by (try simp only [List.map_toArray, List.map_cons, List.map_nil]); first | done | rfl | (simp only [List.length_drop, List.length_take]; rfl)) ?_; (with_reducible refine (whole_Valid.calls k (a1.extract 0 300) true _ A14.out).mono ?_); rintro e w19 ⟨rfl, hb⟩; refine ⟨_, rfl, ?_⟩; have n0_ := Aside0.mk (below_step (by repeat (first | (with_reducible first | exact HB.out | apply below_alloc | apply pw_below_drewN | apply below_drew1) | exact HB.out)) hb); clear HB; have HB := n0_; clear n0_; (try clear hb); (try clear hb2); (try clear hk); (try clear hi)))
                  go_loopg [7, 8] k (fun kq v7 v8 w' => ∃ (x7_1 : ByteArray) (x8_1 : Int), v7 = .string x7_1 ∧ v8 = .int .i64 x8_1 ∧ Aside0 (peeragelaw02_WholeSigns.l0 kq (a1.extract 0 300) a2 x7_1 x8_1 = some r) ∧ Aside0 (kq ≤ k) ∧ Aside0 (Below w.heap.size w w'))
                  case atStart => exact ⟨(a1.extract 0 300), (0), (by first | rfl | (simp; done) | (simp [*]; done)), (by first | rfl | (simp; done) | (simp [*]; done)), H', ⟨Nat.le_refl _⟩, ⟨by repeat (first | (with_reducible first | exact HB.out | apply below_alloc | apply pw_below_drewN | apply below_drew1) | exact HB.out)⟩⟩
                  case round =>
                    clear H'
                    try clear c1
                    try clear p2
                    try clear c4
                    try clear c4b0
                    try clear c4b1
                    try clear c5
                    try clear c5b0
                    try clear c5b1
                    try clear c6
                    try clear c6b0
                    try clear c6b1
                    try clear p6
                    try clear c7
                    try clear c7b0
                    try clear c10
                    try clear c10b0
                    try clear c10b1
                    try clear c10b2
                    try clear c11
                    try clear c11b0
                    try clear c11b1
                    try clear c13
                    try clear c13b0
                    try clear c13b1
                    try clear c15
                    obtain ⟨x7_1, x8_1, rfl, rfl, HA, HK1, HB⟩ := hrel
                    cases gk with
                    | zero => exact absurd HA.out (by simp [peeragelaw02_WholeSigns.l0])
                    | succ k1 =>
                      have H := HA.out
                      clear HA
                      simp only [peeragelaw02_WholeSigns.l0] at H
                      by_cases c20 : x8_1 < (Go.bits .and .i64 a2 7)
                      · rw [if_pos c20] at H
                        have c20b0 : decide (x8_1 < (Go.bits .and .i64 a2 7)) = true := decide_eq_true c20
                        clear c20
                        by_cases c21 : 0 < (x7_1.size : Int)
                        · rw [if_pos c21] at H
                          have c21b0 : decide (0 < (x7_1.size : Int)) = true := decide_eq_true c21
                          have c21b1 : decide (0 < x7_1.size) = true := decide_eq_true (by omega)
                          clear c21
                          by_cases c23 : (bt x7_1 0) = 45
                          · rw [if_pos c23] at H
                            have c23b0 : ((bt x7_1 0) == 45) = true := beq_iff_eq.mpr c23
                            have c23b1 : ((bt x7_1 0) != 45) = false := bne_eq_false_iff_eq.mpr c23
                            clear c23
                            by_cases c24 : 1 ≤ (x7_1.size : Int)
                            · rw [if_pos c24] at H
                              have c24b0 := eq_true c24
                              have c24b1 : decide (1 ≤ (x7_1.size : Int)) = true := decide_eq_true c24
                              clear c24
                              by_cases c25 : 2 + (x7_1.extract 1 x7_1.size).size ≤ 9223372036854775807
                              · rw [if_pos c25] at H
                                have c25b0 := eq_true c25
                                have c25b1 : decide (2 + (x7_1.extract 1 x7_1.size).size ≤ 9223372036854775807) = true := decide_eq_true c25
                                try have c25b2 : (9223372036854775807 < 2 + (x7_1.extract 1 x7_1.size).size) = False := eq_false (Nat.not_lt.2 c25)
                                have c25e : (x7_1.extract 1 x7_1.size).size = x7_1.size - 1 := by simp
                                have c25b3 : (9223372036854775807 < 2 + (x7_1.size - 1)) = False := eq_false (by omega)
                                have c25b4 : 2 + (x7_1.size - 1) ≤ 9223372036854775807 := by omega
                                clear c25e
                                have H' := Aside0.mk H
                                clear H
                                have p22 : 0 ≤ (0 : Int) := (by omega)
                                have q22 : 0 < x7_1.size := (by have : (0 : Int) < (x7_1.size : Int) := of_decide_eq_true (by first | (with_reducible assumption) | assumption); omega)
                                have hx22 : ∀ h : 0 < x7_1.size, ((x7_1[0]'h).toNat : Int) = bt x7_1 0 := bt_at x7_1 0
                                clear p22
                                have qi22 : (0 < (x7_1.size : Int)) = True := eq_true (of_decide_eq_true (by first | (with_reducible assumption) | assumption))
                                replace q22 := eq_true q22
                                go_wp2
                                go_roundg k1
                                case measure => have := HK1.out; omega
                                case rel => exact ⟨((⟨#[45, 48]⟩ : ByteArray) ++ (x7_1.extract 1 x7_1.size)), (wrap64 (x8_1 + 1)), (by first | rfl | (simp; done) | (simp [*]; done)), (by first | rfl | (simp; done) | (simp [*]; done)), H', ⟨by have := HK1.out; omega⟩, ⟨by repeat (first | (with_reducible first | exact HB.out | apply below_alloc | apply pw_below_drewN | apply below_drew1) | exact HB.out)⟩⟩
                              · rw [if_neg c25] at H
                                exact absurd H (by simp)
                            · rw [if_neg c24] at H
                              exact absurd H (by simp)
                          · rw [if_neg c23] at H
                            have c23b0 : ((bt x7_1 0) == 45) = false := beq_eq_false_iff_ne.mpr c23
                            have c23b1 : ((bt x7_1 0) != 45) = true := bne_iff_ne.mpr c23
                            by_cases c26 : 1 + x7_1.size ≤ 9223372036854775807
                            · rw [if_pos c26] at H
                              have c26b0 := eq_true c26
                              have c26b1 : decide (1 + x7_1.size ≤ 9223372036854775807) = true := decide_eq_true c26
                              try have c26b2 : (9223372036854775807 < 1 + x7_1.size) = False := eq_false (Nat.not_lt.2 c26)
                              have H' := Aside0.mk H
                              clear H
                              have p22 : 0 ≤ (0 : Int) := (by omega)
                              have q22 : 0 < x7_1.size := (by have : (0 : Int) < (x7_1.size : Int) := of_decide_eq_true (by first | (with_reducible assumption) | assumption); omega)
                              have hx22 : ∀ h : 0 < x7_1.size, ((x7_1[0]'h).toNat : Int) = bt x7_1 0 := bt_at x7_1 0
                              clear p22
                              have qi22 : (0 < (x7_1.size : Int)) = True := eq_true (of_decide_eq_true (by first | (with_reducible assumption) | assumption))
                              replace q22 := eq_true q22
                              go_wp2
                              go_roundg k1
                              case measure => have := HK1.out; omega
                              case rel => exact ⟨((⟨#[48]⟩ : ByteArray) ++ x7_1), (wrap64 (x8_1 + 1)), (by first | rfl | (simp; done) | (simp [*]; done)), (by first | rfl | (simp; done) | (simp [*]; done)), H', ⟨by have := HK1.out; omega⟩, ⟨by repeat (first | (with_reducible first | exact HB.out | apply below_alloc | apply pw_below_drewN | apply below_drew1) | exact HB.out)⟩⟩
                            · rw [if_neg c26] at H
                              exact absurd H (by simp)
                        · rw [if_neg c21] at H
                          exact absurd H (by simp)
                      · rw [if_neg c20] at H
                        have c20b0 : decide (x8_1 < (Go.bits .and .i64 a2 7)) = false := decide_eq_false c20
                        clear c20
                        replace H := Option.bind_eq_some_iff.mp H
                        obtain ⟨t147, A270, H⟩ := H
                        replace H : ((whole_Plain.f k1 (a1.extract 0 300)).bind fun t148 => (if t147.toList = t148.toList then ((whole_Compare.f k1 x7_1 (a1.extract 0 300)).bind fun t149 => (if t149 = 0 then ((whole_Valid.f k1 x7_1).bind fun t150 => (some t150)) else (some false))) else (some false))) = some r := H
                        have A27 := Aside0.mk A270
                        clear A270
                        replace H := Option.bind_eq_some_iff.mp H
                        obtain ⟨t148, A280, H⟩ := H
                        replace H : (if t147.toList = t148.toList then ((whole_Compare.f k1 x7_1 (a1.extract 0 300)).bind fun t149 => (if t149 = 0 then ((whole_Valid.f k1 x7_1).bind fun t150 => (some t150)) else (some false))) else (some false)) = some r := H
                        have A28 := Aside0.mk A280
                        clear A280
                        by_cases c29 : t147.toList = t148.toList
                        · rw [if_pos c29] at H
                          have c29b0 : (t147.toList == t148.toList) = true := beq_iff_eq.mpr c29
                          have c29b1 : (t147.toList != t148.toList) = false := bne_eq_false_iff_eq.mpr c29
                          clear c29
                          replace H := Option.bind_eq_some_iff.mp H
                          obtain ⟨t149, A300, H⟩ := H
                          replace H : (if t149 = 0 then ((whole_Valid.f k1 x7_1).bind fun t150 => (some t150)) else (some false)) = some r := H
                          have A30 := Aside0.mk A300
                          clear A300
                          by_cases c31 : t149 = 0
                          · rw [if_pos c31] at H
                            have c31b0 : (t149 == 0) = true := beq_iff_eq.mpr c31
                            have c31b1 : (t149 != 0) = false := bne_eq_false_iff_eq.mpr c31
                            clear c31
                            replace H := Option.bind_eq_some_iff.mp H
                            obtain ⟨t150, A320, H⟩ := H
                            replace H : (some t150) = some r := H
                            have A32 := Aside0.mk A320
                            clear A320
                            obtain rfl := Option.some.inj H
                            go_wp2_with (first | ((with_reducible refine gate_callee (f := 9) rfl ?_); refine goesL_ (some 56) rfl rfl Tryd.func9 (by kernel_rfl) rfl #[.string x7_1] rfl (by (try simp only [List.map_toArray, List.map_cons, List.map_nil]); first | done | rfl | (simp only [List.length_drop, List.length_take]; rfl)) ?_; (with_reducible refine (whole_Plain.calls k1 x7_1 t147 _ A27.out).mono ?_); rintro e w33 ⟨rfl, hb⟩; refine ⟨_, rfl, ?_⟩; have n0_ := Aside0.mk (below_step (by repeat (first | (with_reducible first | exact HB.out | apply below_alloc | apply pw_below_drewN | apply below_drew1) | exact HB.out)) hb); clear HB; have HB := n0_; clear n0_; (try clear hb); (try clear hb2); (try clear hk); (try clear hi)) | ((with_reducible refine gate_callee (f := 9) rfl ?_); refine goesL_ (some 58) rfl rfl Tryd.func9 (by kernel_rfl) rfl #[.string (a1.extract 0 300)] rfl (by (try simp only [List.map_toArray, List.map_cons, List.map_nil]); first | done | rfl | (simp only [List.length_drop, List.length_take]; rfl)) ?_; (with_reducible refine (whole_Plain.calls k1 (a1.extract 0 300) t148 _ A28.out).mono ?_); rintro e w34 ⟨rfl, hb⟩; refine ⟨_, rfl, ?_⟩; have n0_ := Aside0.mk (below_step (by repeat (first | (with_reducible first | exact HB.out | apply below_alloc | apply pw_below_drewN | apply below_drew1) | exact HB.out)) hb); clear HB; have HB := n0_; clear n0_; (try clear hb); (try clear hb2); (try clear hk); (try clear hi)) | (go_at_call 8; (with_reducible refine (whole_Compare.calls k1 x7_1 (a1.extract 0 300) t149 _ A30.out).mono ?_); rintro e w35 ⟨rfl, hb⟩; have n0_ := Aside0.mk (below_step (by repeat (first | (with_reducible first | exact HB.out | apply below_alloc | apply pw_below_drewN | apply below_drew1) | exact HB.out)) hb); clear HB; have HB := n0_; clear n0_; (try clear hb); (try clear hb2); (try clear hk); (try clear hi)) | (go_at_call 10; (with_reducible refine (whole_Valid.calls k1 x7_1 t150 _ A32.out).mono ?_); rintro e w36 ⟨rfl, hb⟩; have n0_ := Aside0.mk (below_step (by repeat (first | (with_reducible first | exact HB.out | apply below_alloc | apply pw_below_drewN | apply below_drew1) | exact HB.out)) hb); clear HB; have HB := n0_; clear n0_; (try clear hb); (try clear hb2); (try clear hk); (try clear hi)))
                            go_ret
                            exact ⟨by first | rfl | (simp [errW_none, errW_some] <;> rfl) | (simp [*, errW_none, errW_some] <;> rfl), by repeat (first | (with_reducible first | exact HB.out | apply below_alloc | apply pw_below_drewN | apply below_drew1) | exact HB.out)⟩
                          · rw [if_neg c31] at H
                            have c31b0 : (t149 == 0) = false := beq_eq_false_iff_ne.mpr c31
                            have c31b1 : (t149 != 0) = true := bne_iff_ne.mpr c31
                            obtain rfl := Option.some.inj H
                            go_wp2_with (first | ((with_reducible refine gate_callee (f := 9) rfl ?_); refine goesL_ (some 56) rfl rfl Tryd.func9 (by kernel_rfl) rfl #[.string x7_1] rfl (by (try simp only [List.map_toArray, List.map_cons, List.map_nil]); first | done | rfl | (simp only [List.length_drop, List.length_take]; rfl)) ?_; (with_reducible refine (whole_Plain.calls k1 x7_1 t147 _ A27.out).mono ?_); rintro e w37 ⟨rfl, hb⟩; refine ⟨_, rfl, ?_⟩; have n0_ := Aside0.mk (below_step (by repeat (first | (with_reducible first | exact HB.out | apply below_alloc | apply pw_below_drewN | apply below_drew1) | exact HB.out)) hb); clear HB; have HB := n0_; clear n0_; (try clear hb); (try clear hb2); (try clear hk); (try clear hi)) | ((with_reducible refine gate_callee (f := 9) rfl ?_); refine goesL_ (some 58) rfl rfl Tryd.func9 (by kernel_rfl) rfl #[.string (a1.extract 0 300)] rfl (by (try simp only [List.map_toArray, List.map_cons, List.map_nil]); first | done | rfl | (simp only [List.length_drop, List.length_take]; rfl)) ?_; (with_reducible refine (whole_Plain.calls k1 (a1.extract 0 300) t148 _ A28.out).mono ?_); rintro e w38 ⟨rfl, hb⟩; refine ⟨_, rfl, ?_⟩; have n0_ := Aside0.mk (below_step (by repeat (first | (with_reducible first | exact HB.out | apply below_alloc | apply pw_below_drewN | apply below_drew1) | exact HB.out)) hb); clear HB; have HB := n0_; clear n0_; (try clear hb); (try clear hb2); (try clear hk); (try clear hi)) | (go_at_call 8; (with_reducible refine (whole_Compare.calls k1 x7_1 (a1.extract 0 300) t149 _ A30.out).mono ?_); rintro e w39 ⟨rfl, hb⟩; have n0_ := Aside0.mk (below_step (by repeat (first | (with_reducible first | exact HB.out | apply below_alloc | apply pw_below_drewN | apply below_drew1) | exact HB.out)) hb); clear HB; have HB := n0_; clear n0_; (try clear hb); (try clear hb2); (try clear hk); (try clear hi)))
                            go_ret
                            exact ⟨by first | rfl | (simp [errW_none, errW_some] <;> rfl) | (simp [*, errW_none, errW_some] <;> rfl), by repeat (first | (with_reducible first | exact HB.out | apply below_alloc | apply pw_below_drewN | apply below_drew1) | exact HB.out)⟩
                        · rw [if_neg c29] at H
                          have c29b0 : (t147.toList == t148.toList) = false := beq_eq_false_iff_ne.mpr c29
                          have c29b1 : (t147.toList != t148.toList) = true := bne_iff_ne.mpr c29
                          obtain rfl := Option.some.inj H
                          go_wp2_with (first | ((with_reducible refine gate_callee (f := 9) rfl ?_); refine goesL_ (some 56) rfl rfl Tryd.func9 (by kernel_rfl) rfl #[.string x7_1] rfl (by (try simp only [List.map_toArray, List.map_cons, List.map_nil]); first | done | rfl | (simp only [List.length_drop, List.length_take]; rfl)) ?_; (with_reducible refine (whole_Plain.calls k1 x7_1 t147 _ A27.out).mono ?_); rintro e w40 ⟨rfl, hb⟩; refine ⟨_, rfl, ?_⟩; have n0_ := Aside0.mk (below_step (by repeat (first | (with_reducible first | exact HB.out | apply below_alloc | apply pw_below_drewN | apply below_drew1) | exact HB.out)) hb); clear HB; have HB := n0_; clear n0_; (try clear hb); (try clear hb2); (try clear hk); (try clear hi)) | ((with_reducible refine gate_callee (f := 9) rfl ?_); refine goesL_ (some 58) rfl rfl Tryd.func9 (by kernel_rfl) rfl #[.string (a1.extract 0 300)] rfl (by (try simp only [List.map_toArray, List.map_cons, List.map_nil]); first | done | rfl | (simp only [List.length_drop, List.length_take]; rfl)) ?_; (with_reducible refine (whole_Plain.calls k1 (a1.extract 0 300) t148 _ A28.out).mono ?_); rintro e w41 ⟨rfl, hb⟩; refine ⟨_, rfl, ?_⟩; have n0_ := Aside0.mk (below_step (by repeat (first | (with_reducible first | exact HB.out | apply below_alloc | apply pw_below_drewN | apply below_drew1) | exact HB.out)) hb); clear HB; have HB := n0_; clear n0_; (try clear hb); (try clear hb2); (try clear hk); (try clear hi)))
                          go_ret
                          exact ⟨by first | rfl | (simp [errW_none, errW_some] <;> rfl) | (simp [*, errW_none, errW_some] <;> rfl), by repeat (first | (with_reducible first | exact HB.out | apply below_alloc | apply pw_below_drewN | apply below_drew1) | exact HB.out)⟩
                · replace c15 := Bool.eq_false_iff.mpr c15
                  subst c15
                  have H1 : ((whole_Plain.f k (a1.extract 0 300)).bind fun t151 => (if t151.toList = ([] : List UInt8) then ((whole_Compare.f k (a1.extract 0 300) (⟨#[48]⟩ : ByteArray)).bind fun t152 => (some (t152 == (-1)))) else (some false))) = some r := by rw [if_neg (show ¬ (false = true) by decide)] at H; exact H
                  clear H
                  have H := H1
                  clear H1
                  replace H := Option.bind_eq_some_iff.mp H
                  obtain ⟨t151, A420, H⟩ := H
                  replace H : (if t151.toList = ([] : List UInt8) then ((whole_Compare.f k (a1.extract 0 300) (⟨#[48]⟩ : ByteArray)).bind fun t152 => (some (t152 == (-1)))) else (some false)) = some r := H
                  have A42 := Aside0.mk A420
                  clear A420
                  by_cases c43 : t151.toList = ([] : List UInt8)
                  · rw [if_pos c43] at H
                    have c43b0 : (t151.toList == ([] : List UInt8)) = true := beq_iff_eq.mpr c43
                    have c43b1 : (t151.toList != ([] : List UInt8)) = false := bne_eq_false_iff_eq.mpr c43
                    clear c43
                    replace H := Option.bind_eq_some_iff.mp H
                    obtain ⟨t152, A440, H⟩ := H
                    replace H : (some (t152 == (-1))) = some r := H
                    have A44 := Aside0.mk A440
                    clear A440
                    obtain rfl := Option.some.inj H
                    go_enter Tryd.func4, Tryd.ntmps4
                    go_wp2_with (first | (go_at_call 7; (with_reducible refine (whole_Digits.calls k (wrap64 (-a0)) t143 _ A8.out).mono ?_); rintro e w45 ⟨rfl, hb⟩; have n0_ := Aside0.mk (below_step (by repeat (first | (with_reducible first | exact HB.out | apply below_alloc | apply pw_below_drewN | apply below_drew1) | exact HB.out)) hb); clear HB; have HB := n0_; clear n0_; (try clear hb); (try clear hb2); (try clear hk); (try clear hi)) | (go_at_call 7; (with_reducible refine (whole_Digits.calls k a0 t144 _ A9.out).mono ?_); rintro e w46 ⟨rfl, hb⟩; have n0_ := Aside0.mk (below_step (by repeat (first | (with_reducible first | exact HB.out | apply below_alloc | apply pw_below_drewN | apply below_drew1) | exact HB.out)) hb); clear HB; have HB := n0_; clear n0_; (try clear hb); (try clear hb2); (try clear hk); (try clear hi)) | (go_at_call 7; (with_reducible refine (whole_Digits.calls k 0 t145 _ A12.out).mono ?_); rintro e w47 ⟨rfl, hb⟩; have n0_ := Aside0.mk (below_step (by repeat (first | (with_reducible first | exact HB.out | apply below_alloc | apply pw_below_drewN | apply below_drew1) | exact HB.out)) hb); clear HB; have HB := n0_; clear n0_; (try clear hb); (try clear hb2); (try clear hk); (try clear hi)) | ((with_reducible refine gate_callee (f := 10) rfl ?_); refine goesL_ (some 30) rfl rfl Tryd.func10 (by kernel_rfl) rfl #[.string (a1.extract 0 300)] rfl (by (try simp only [List.map_toArray, List.map_cons, List.map_nil]); first | done | rfl | (simp only [List.length_drop, List.length_take]; rfl)) ?_; (with_reducible refine (whole_Valid.calls k (a1.extract 0 300) false _ A14.out).mono ?_); rintro e w48 ⟨rfl, hb⟩; refine ⟨_, rfl, ?_⟩; have n0_ := Aside0.mk (below_step (by repeat (first | (with_reducible first | exact HB.out | apply below_alloc | apply pw_below_drewN | apply below_drew1) | exact HB.out)) hb); clear HB; have HB := n0_; clear n0_; (try clear hb); (try clear hb2); (try clear hk); (try clear hi)) | ((with_reducible refine gate_callee (f := 9) rfl ?_); refine goesL_ (some 33) rfl rfl Tryd.func9 (by kernel_rfl) rfl #[.string (a1.extract 0 300)] rfl (by (try simp only [List.map_toArray, List.map_cons, List.map_nil]); first | done | rfl | (simp only [List.length_drop, List.length_take]; rfl)) ?_; (with_reducible refine (whole_Plain.calls k (a1.extract 0 300) t151 _ A42.out).mono ?_); rintro e w49 ⟨rfl, hb⟩; refine ⟨_, rfl, ?_⟩; have n0_ := Aside0.mk (below_step (by repeat (first | (with_reducible first | exact HB.out | apply below_alloc | apply pw_below_drewN | apply below_drew1) | exact HB.out)) hb); clear HB; have HB := n0_; clear n0_; (try clear hb); (try clear hb2); (try clear hk); (try clear hi)) | (go_at_call 8; (with_reducible refine (whole_Compare.calls k (a1.extract 0 300) (⟨#[48]⟩ : ByteArray) t152 _ A44.out).mono ?_); rintro e w50 ⟨rfl, hb⟩; have n0_ := Aside0.mk (below_step (by repeat (first | (with_reducible first | exact HB.out | apply below_alloc | apply pw_below_drewN | apply below_drew1) | exact HB.out)) hb); clear HB; have HB := n0_; clear n0_; (try clear hb); (try clear hb2); (try clear hk); (try clear hi)))
                    go_ret
                    exact ⟨by first | rfl | (simp [errW_none, errW_some] <;> rfl) | (simp [*, errW_none, errW_some] <;> rfl), by repeat (first | (with_reducible first | exact HB.out | apply below_alloc | apply pw_below_drewN | apply below_drew1) | exact HB.out)⟩
                  · rw [if_neg c43] at H
                    have c43b0 : (t151.toList == ([] : List UInt8)) = false := beq_eq_false_iff_ne.mpr c43
                    have c43b1 : (t151.toList != ([] : List UInt8)) = true := bne_iff_ne.mpr c43
                    obtain rfl := Option.some.inj H
                    go_enter Tryd.func4, Tryd.ntmps4
                    go_wp2_with (first | (go_at_call 7; (with_reducible refine (whole_Digits.calls k (wrap64 (-a0)) t143 _ A8.out).mono ?_); rintro e w51 ⟨rfl, hb⟩; have n0_ := Aside0.mk (below_step (by repeat (first | (with_reducible first | exact HB.out | apply below_alloc | apply pw_below_drewN | apply below_drew1) | exact HB.out)) hb); clear HB; have HB := n0_; clear n0_; (try clear hb); (try clear hb2); (try clear hk); (try clear hi)) | (go_at_call 7; (with_reducible refine (whole_Digits.calls k a0 t144 _ A9.out).mono ?_); rintro e w52 ⟨rfl, hb⟩; have n0_ := Aside0.mk (below_step (by repeat (first | (with_reducible first | exact HB.out | apply below_alloc | apply pw_below_drewN | apply below_drew1) | exact HB.out)) hb); clear HB; have HB := n0_; clear n0_; (try clear hb); (try clear hb2); (try clear hk); (try clear hi)) | (go_at_call 7; (with_reducible refine (whole_Digits.calls k 0 t145 _ A12.out).mono ?_); rintro e w53 ⟨rfl, hb⟩; have n0_ := Aside0.mk (below_step (by repeat (first | (with_reducible first | exact HB.out | apply below_alloc | apply pw_below_drewN | apply below_drew1) | exact HB.out)) hb); clear HB; have HB := n0_; clear n0_; (try clear hb); (try clear hb2); (try clear hk); (try clear hi)) | ((with_reducible refine gate_callee (f := 10) rfl ?_); refine goesL_ (some 30) rfl rfl Tryd.func10 (by kernel_rfl) rfl #[.string (a1.extract 0 300)] rfl (by (try simp only [List.map_toArray, List.map_cons, List.map_nil]); first | done | rfl | (simp only [List.length_drop, List.length_take]; rfl)) ?_; (with_reducible refine (whole_Valid.calls k (a1.extract 0 300) false _ A14.out).mono ?_); rintro e w54 ⟨rfl, hb⟩; refine ⟨_, rfl, ?_⟩; have n0_ := Aside0.mk (below_step (by repeat (first | (with_reducible first | exact HB.out | apply below_alloc | apply pw_below_drewN | apply below_drew1) | exact HB.out)) hb); clear HB; have HB := n0_; clear n0_; (try clear hb); (try clear hb2); (try clear hk); (try clear hi)) | ((with_reducible refine gate_callee (f := 9) rfl ?_); refine goesL_ (some 33) rfl rfl Tryd.func9 (by kernel_rfl) rfl #[.string (a1.extract 0 300)] rfl (by (try simp only [List.map_toArray, List.map_cons, List.map_nil]); first | done | rfl | (simp only [List.length_drop, List.length_take]; rfl)) ?_; (with_reducible refine (whole_Plain.calls k (a1.extract 0 300) t151 _ A42.out).mono ?_); rintro e w55 ⟨rfl, hb⟩; refine ⟨_, rfl, ?_⟩; have n0_ := Aside0.mk (below_step (by repeat (first | (with_reducible first | exact HB.out | apply below_alloc | apply pw_below_drewN | apply below_drew1) | exact HB.out)) hb); clear HB; have HB := n0_; clear n0_; (try clear hb); (try clear hb2); (try clear hk); (try clear hi)))
                    go_ret
                    exact ⟨by first | rfl | (simp [errW_none, errW_some] <;> rfl) | (simp [*, errW_none, errW_some] <;> rfl), by repeat (first | (with_reducible first | exact HB.out | apply below_alloc | apply pw_below_drewN | apply below_drew1) | exact HB.out)⟩
              · rw [if_neg c13] at H
                have c13b0 : (t145.toList == ([48] : List UInt8)) = false := beq_eq_false_iff_ne.mpr c13
                have c13b1 : (t145.toList != ([48] : List UInt8)) = true := bne_iff_ne.mpr c13
                obtain rfl := Option.some.inj H
                go_enter Tryd.func4, Tryd.ntmps4
                go_wp2_with (first | ((with_reducible refine gate_dst (N := 19) rfl ?_); (refine gate_guard (by rfl) ?_; dsimp only); refine goesL_ (some 19) rfl rfl Tryd.func7 (by kernel_rfl) rfl #[.int .i64 (wrap64 (-a0))] rfl (by (try simp only [List.map_toArray, List.map_cons, List.map_nil]); first | done | rfl | (simp only [List.length_drop, List.length_take]; rfl)) ?_; (with_reducible refine (whole_Digits.calls k (wrap64 (-a0)) t143 _ A8.out).mono ?_); rintro e w56 ⟨rfl, hb⟩; refine ⟨_, rfl, ?_⟩; have n0_ := Aside0.mk (below_step (by repeat (first | (with_reducible first | exact HB.out | apply below_alloc | apply pw_below_drewN | apply below_drew1) | exact HB.out)) hb); clear HB; have HB := n0_; clear n0_; (try clear hb); (try clear hb2); (try clear hk); (try clear hi)) | ((with_reducible refine gate_dst (N := 21) rfl ?_); (refine gate_guard (by rfl) ?_; dsimp only); refine goesL_ (some 21) rfl rfl Tryd.func7 (by kernel_rfl) rfl #[.int .i64 a0] rfl (by (try simp only [List.map_toArray, List.map_cons, List.map_nil]); first | done | rfl | (simp only [List.length_drop, List.length_take]; rfl)) ?_; (with_reducible refine (whole_Digits.calls k a0 t144 _ A9.out).mono ?_); rintro e w57 ⟨rfl, hb⟩; refine ⟨_, rfl, ?_⟩; have n0_ := Aside0.mk (below_step (by repeat (first | (with_reducible first | exact HB.out | apply below_alloc | apply pw_below_drewN | apply below_drew1) | exact HB.out)) hb); clear HB; have HB := n0_; clear n0_; (try clear hb); (try clear hb2); (try clear hk); (try clear hi)) | ((with_reducible refine gate_dst (N := 26) rfl ?_); (refine gate_guard (by rfl) ?_; dsimp only); refine goesL_ (some 26) rfl rfl Tryd.func7 (by kernel_rfl) rfl #[.int .i64 0] rfl (by (try simp only [List.map_toArray, List.map_cons, List.map_nil]); first | done | rfl | (simp only [List.length_drop, List.length_take]; rfl)) ?_; (with_reducible refine (whole_Digits.calls k 0 t145 _ A12.out).mono ?_); rintro e w58 ⟨rfl, hb⟩; refine ⟨_, rfl, ?_⟩; have n0_ := Aside0.mk (below_step (by repeat (first | (with_reducible first | exact HB.out | apply below_alloc | apply pw_below_drewN | apply below_drew1) | exact HB.out)) hb); clear HB; have HB := n0_; clear n0_; (try clear hb); (try clear hb2); (try clear hk); (try clear hi)))
                go_ret
                exact ⟨by first | rfl | (simp [errW_none, errW_some] <;> rfl) | (simp [*, errW_none, errW_some] <;> rfl), by repeat (first | (with_reducible first | exact HB.out | apply below_alloc | apply pw_below_drewN | apply below_drew1) | exact HB.out)⟩
            · rw [if_neg c11] at H
              have c11b0 : (t143.toList == ((⟨#[45]⟩ : ByteArray) ++ t144).toList) = false := beq_eq_false_iff_ne.mpr c11
              have c11b1 : (t143.toList != ((⟨#[45]⟩ : ByteArray) ++ t144).toList) = true := bne_iff_ne.mpr c11
              obtain rfl := Option.some.inj H
              go_enter Tryd.func4, Tryd.ntmps4
              go_wp2_with (first | ((with_reducible refine gate_dst (N := 19) rfl ?_); (refine gate_guard (by rfl) ?_; dsimp only); refine goesL_ (some 19) rfl rfl Tryd.func7 (by kernel_rfl) rfl #[.int .i64 (wrap64 (-a0))] rfl (by (try simp only [List.map_toArray, List.map_cons, List.map_nil]); first | done | rfl | (simp only [List.length_drop, List.length_take]; rfl)) ?_; (with_reducible refine (whole_Digits.calls k (wrap64 (-a0)) t143 _ A8.out).mono ?_); rintro e w59 ⟨rfl, hb⟩; refine ⟨_, rfl, ?_⟩; have n0_ := Aside0.mk (below_step (by repeat (first | (with_reducible first | exact HB.out | apply below_alloc | apply pw_below_drewN | apply below_drew1) | exact HB.out)) hb); clear HB; have HB := n0_; clear n0_; (try clear hb); (try clear hb2); (try clear hk); (try clear hi)) | ((with_reducible refine gate_dst (N := 21) rfl ?_); (refine gate_guard (by rfl) ?_; dsimp only); refine goesL_ (some 21) rfl rfl Tryd.func7 (by kernel_rfl) rfl #[.int .i64 a0] rfl (by (try simp only [List.map_toArray, List.map_cons, List.map_nil]); first | done | rfl | (simp only [List.length_drop, List.length_take]; rfl)) ?_; (with_reducible refine (whole_Digits.calls k a0 t144 _ A9.out).mono ?_); rintro e w60 ⟨rfl, hb⟩; refine ⟨_, rfl, ?_⟩; have n0_ := Aside0.mk (below_step (by repeat (first | (with_reducible first | exact HB.out | apply below_alloc | apply pw_below_drewN | apply below_drew1) | exact HB.out)) hb); clear HB; have HB := n0_; clear n0_; (try clear hb); (try clear hb2); (try clear hk); (try clear hi)))
              go_ret
              exact ⟨by first | rfl | (simp [errW_none, errW_some] <;> rfl) | (simp [*, errW_none, errW_some] <;> rfl), by repeat (first | (with_reducible first | exact HB.out | apply below_alloc | apply pw_below_drewN | apply below_drew1) | exact HB.out)⟩
          · rw [if_neg c10] at H
            exact absurd H (by simp)
        · rw [if_neg c7] at H
          have c7b0 : decide (0 < a0) = false := decide_eq_false c7
          clear c7
          replace H := Option.bind_eq_some_iff.mp H
          obtain ⟨t153, A610, H⟩ := H
          replace H : (if t153.toList = ([48] : List UInt8) then ((whole_Valid.f k (a1.extract 0 300)).bind fun t154 => (if t154 = true then (peeragelaw02_WholeSigns.l0 k (a1.extract 0 300) a2 (a1.extract 0 300) 0) else ((whole_Plain.f k (a1.extract 0 300)).bind fun t155 => (if t155.toList = ([] : List UInt8) then ((whole_Compare.f k (a1.extract 0 300) (⟨#[48]⟩ : ByteArray)).bind fun t156 => (some (t156 == (-1)))) else (some false))))) else (some false)) = some r := H
          have A61 := Aside0.mk A610
          clear A610
          by_cases c62 : t153.toList = ([48] : List UInt8)
          · rw [if_pos c62] at H
            have c62b0 : (t153.toList == ([48] : List UInt8)) = true := beq_iff_eq.mpr c62
            have c62b1 : (t153.toList != ([48] : List UInt8)) = false := bne_eq_false_iff_eq.mpr c62
            clear c62
            replace H := Option.bind_eq_some_iff.mp H
            obtain ⟨t154, A630, H⟩ := H
            replace H : (if t154 = true then (peeragelaw02_WholeSigns.l0 k (a1.extract 0 300) a2 (a1.extract 0 300) 0) else ((whole_Plain.f k (a1.extract 0 300)).bind fun t155 => (if t155.toList = ([] : List UInt8) then ((whole_Compare.f k (a1.extract 0 300) (⟨#[48]⟩ : ByteArray)).bind fun t156 => (some (t156 == (-1)))) else (some false)))) = some r := H
            have A63 := Aside0.mk A630
            clear A630
            by_cases c64 : t154 = true
            · subst c64
              have H1 : (peeragelaw02_WholeSigns.l0 k (a1.extract 0 300) a2 (a1.extract 0 300) 0) = some r := by rw [if_pos rfl] at H; exact H
              clear H
              have H := H1
              clear H1
              have H' := Aside0.mk H
              clear H
              go_enter Tryd.func4, Tryd.ntmps4
              go_wp2_with (first | (go_at_call 7; (with_reducible refine (whole_Digits.calls k 0 t153 _ A61.out).mono ?_); rintro e w65 ⟨rfl, hb⟩; have n0_ := Aside0.mk (below_step (by repeat (first | (with_reducible first | exact HB.out | apply below_alloc | apply pw_below_drewN | apply below_drew1) | exact HB.out)) hb); clear HB; have HB := n0_; clear n0_; (try clear hb); (try clear hb2); (try clear hk); (try clear hi)) | ((with_reducible refine gate_callee (f := 10) rfl ?_); refine goesL_ (some 30) rfl rfl Tryd.func10 (by kernel_rfl) rfl #[.string (a1.extract 0 300)] rfl (by (try simp only [List.map_toArray, List.map_cons, List.map_nil]); first | done | rfl | (simp only [List.length_drop, List.length_take]; rfl)) ?_; (with_reducible refine (whole_Valid.calls k (a1.extract 0 300) true _ A63.out).mono ?_); rintro e w66 ⟨rfl, hb⟩; refine ⟨_, rfl, ?_⟩; have n0_ := Aside0.mk (below_step (by repeat (first | (with_reducible first | exact HB.out | apply below_alloc | apply pw_below_drewN | apply below_drew1) | exact HB.out)) hb); clear HB; have HB := n0_; clear n0_; (try clear hb); (try clear hb2); (try clear hk); (try clear hi)))
              go_loopg [7, 8] k (fun kq v7 v8 w' => ∃ (x7_1 : ByteArray) (x8_1 : Int), v7 = .string x7_1 ∧ v8 = .int .i64 x8_1 ∧ Aside0 (peeragelaw02_WholeSigns.l0 kq (a1.extract 0 300) a2 x7_1 x8_1 = some r) ∧ Aside0 (kq ≤ k) ∧ Aside0 (Below w.heap.size w w'))
              case atStart => exact ⟨(a1.extract 0 300), (0), (by first | rfl | (simp; done) | (simp [*]; done)), (by first | rfl | (simp; done) | (simp [*]; done)), H', ⟨Nat.le_refl _⟩, ⟨by repeat (first | (with_reducible first | exact HB.out | apply below_alloc | apply pw_below_drewN | apply below_drew1) | exact HB.out)⟩⟩
              case round =>
                clear H'
                try clear c1
                try clear c2
                try clear p2
                try clear q2
                try clear hx2
                try clear qi2
                try clear c3
                try clear c4
                try clear c4b0
                try clear c4b1
                try clear c5
                try clear c5b0
                try clear c5b1
                try clear c6
                try clear c6b0
                try clear c6b1
                try clear p6
                try clear c7
                try clear c7b0
                try clear c9
                try clear c10
                try clear c10b0
                try clear c10b1
                try clear c10b2
                try clear c11
                try clear c11b0
                try clear c11b1
                try clear c13
                try clear c13b0
                try clear c13b1
                try clear c15
                try clear c20
                try clear c20b0
                try clear c21
                try clear c21b0
                try clear c21b1
                try clear p22
                try clear q22
                try clear hx22
                try clear qi22
                try clear c23
                try clear c23b0
                try clear c23b1
                try clear c24
                try clear c24b0
                try clear c24b1
                try clear c25
                try clear c25b0
                try clear c25b1
                try clear c25b2
                try clear c26
                try clear c26b0
                try clear c26b1
                try clear c26b2
                try clear c29
                try clear c29b0
                try clear c29b1
                try clear c31
                try clear c31b0
                try clear c31b1
                try clear c43
                try clear c43b0
                try clear c43b1
                try clear c62
                try clear c62b0
                try clear c62b1
                try clear c64
                try clear p64
                try clear p2
                try clear p22
                try clear p6
                try clear q22
                obtain ⟨x7_1, x8_1, rfl, rfl, HA, HK1, HB⟩ := hrel
                cases gk with
                | zero => exact absurd HA.out (by simp [peeragelaw02_WholeSigns.l0])
                | succ k1 =>
                  have H := HA.out
                  clear HA
                  simp only [peeragelaw02_WholeSigns.l0] at H
                  by_cases c67 : x8_1 < (Go.bits .and .i64 a2 7)
                  · rw [if_pos c67] at H
                    have c67b0 : decide (x8_1 < (Go.bits .and .i64 a2 7)) = true := decide_eq_true c67
                    clear c67
                    by_cases c68 : 0 < (x7_1.size : Int)
                    · rw [if_pos c68] at H
                      have c68b0 : decide (0 < (x7_1.size : Int)) = true := decide_eq_true c68
                      have c68b1 : decide (0 < x7_1.size) = true := decide_eq_true (by omega)
                      clear c68
                      by_cases c70 : (bt x7_1 0) = 45
                      · rw [if_pos c70] at H
                        have c70b0 : ((bt x7_1 0) == 45) = true := beq_iff_eq.mpr c70
                        have c70b1 : ((bt x7_1 0) != 45) = false := bne_eq_false_iff_eq.mpr c70
                        clear c70
                        by_cases c71 : 1 ≤ (x7_1.size : Int)
                        · rw [if_pos c71] at H
                          have c71b0 := eq_true c71
                          have c71b1 : decide (1 ≤ (x7_1.size : Int)) = true := decide_eq_true c71
                          clear c71
                          by_cases c72 : 2 + (x7_1.extract 1 x7_1.size).size ≤ 9223372036854775807
                          · rw [if_pos c72] at H
                            have c72b0 := eq_true c72
                            have c72b1 : decide (2 + (x7_1.extract 1 x7_1.size).size ≤ 9223372036854775807) = true := decide_eq_true c72
                            try have c72b2 : (9223372036854775807 < 2 + (x7_1.extract 1 x7_1.size).size) = False := eq_false (Nat.not_lt.2 c72)
                            have c72e : (x7_1.extract 1 x7_1.size).size = x7_1.size - 1 := by simp
                            have c72b3 : (9223372036854775807 < 2 + (x7_1.size - 1)) = False := eq_false (by omega)
                            have c72b4 : 2 + (x7_1.size - 1) ≤ 9223372036854775807 := by omega
                            clear c72e
                            have H' := Aside0.mk H
                            clear H
                            have p69 : 0 ≤ (0 : Int) := (by omega)
                            have q69 : 0 < x7_1.size := (by have : (0 : Int) < (x7_1.size : Int) := of_decide_eq_true (by first | (with_reducible assumption) | assumption); omega)
                            have hx69 : ∀ h : 0 < x7_1.size, ((x7_1[0]'h).toNat : Int) = bt x7_1 0 := bt_at x7_1 0
                            clear p69
                            have qi69 : (0 < (x7_1.size : Int)) = True := eq_true (of_decide_eq_true (by first | (with_reducible assumption) | assumption))
                            replace q69 := eq_true q69
                            go_wp2
                            go_roundg k1
                            case measure => have := HK1.out; omega
                            case rel => exact ⟨((⟨#[45, 48]⟩ : ByteArray) ++ (x7_1.extract 1 x7_1.size)), (wrap64 (x8_1 + 1)), (by first | rfl | (simp; done) | (simp [*]; done)), (by first | rfl | (simp; done) | (simp [*]; done)), H', ⟨by have := HK1.out; omega⟩, ⟨by repeat (first | (with_reducible first | exact HB.out | apply below_alloc | apply pw_below_drewN | apply below_drew1) | exact HB.out)⟩⟩
                          · rw [if_neg c72] at H
                            exact absurd H (by simp)
                        · rw [if_neg c71] at H
                          exact absurd H (by simp)
                      · rw [if_neg c70] at H
                        have c70b0 : ((bt x7_1 0) == 45) = false := beq_eq_false_iff_ne.mpr c70
                        have c70b1 : ((bt x7_1 0) != 45) = true := bne_iff_ne.mpr c70
                        by_cases c73 : 1 + x7_1.size ≤ 9223372036854775807
                        · rw [if_pos c73] at H
                          have c73b0 := eq_true c73
                          have c73b1 : decide (1 + x7_1.size ≤ 9223372036854775807) = true := decide_eq_true c73
                          try have c73b2 : (9223372036854775807 < 1 + x7_1.size) = False := eq_false (Nat.not_lt.2 c73)
                          have H' := Aside0.mk H
                          clear H
                          have p69 : 0 ≤ (0 : Int) := (by omega)
                          have q69 : 0 < x7_1.size := (by have : (0 : Int) < (x7_1.size : Int) := of_decide_eq_true (by first | (with_reducible assumption) | assumption); omega)
                          have hx69 : ∀ h : 0 < x7_1.size, ((x7_1[0]'h).toNat : Int) = bt x7_1 0 := bt_at x7_1 0
                          clear p69
                          have qi69 : (0 < (x7_1.size : Int)) = True := eq_true (of_decide_eq_true (by first | (with_reducible assumption) | assumption))
                          replace q69 := eq_true q69
                          go_wp2
                          go_roundg k1
                          case measure => have := HK1.out; omega
                          case rel => exact ⟨((⟨#[48]⟩ : ByteArray) ++ x7_1), (wrap64 (x8_1 + 1)), (by first | rfl | (simp; done) | (simp [*]; done)), (by first | rfl | (simp; done) | (simp [*]; done)), H', ⟨by have := HK1.out; omega⟩, ⟨by repeat (first | (with_reducible first | exact HB.out | apply below_alloc | apply pw_below_drewN | apply below_drew1) | exact HB.out)⟩⟩
                        · rw [if_neg c73] at H
                          exact absurd H (by simp)
                    · rw [if_neg c68] at H
                      exact absurd H (by simp)
                  · rw [if_neg c67] at H
                    have c67b0 : decide (x8_1 < (Go.bits .and .i64 a2 7)) = false := decide_eq_false c67
                    clear c67
                    replace H := Option.bind_eq_some_iff.mp H
                    obtain ⟨t147, A740, H⟩ := H
                    replace H : ((whole_Plain.f k1 (a1.extract 0 300)).bind fun t148 => (if t147.toList = t148.toList then ((whole_Compare.f k1 x7_1 (a1.extract 0 300)).bind fun t149 => (if t149 = 0 then ((whole_Valid.f k1 x7_1).bind fun t150 => (some t150)) else (some false))) else (some false))) = some r := H
                    have A74 := Aside0.mk A740
                    clear A740
                    replace H := Option.bind_eq_some_iff.mp H
                    obtain ⟨t148, A750, H⟩ := H
                    replace H : (if t147.toList = t148.toList then ((whole_Compare.f k1 x7_1 (a1.extract 0 300)).bind fun t149 => (if t149 = 0 then ((whole_Valid.f k1 x7_1).bind fun t150 => (some t150)) else (some false))) else (some false)) = some r := H
                    have A75 := Aside0.mk A750
                    clear A750
                    by_cases c76 : t147.toList = t148.toList
                    · rw [if_pos c76] at H
                      have c76b0 : (t147.toList == t148.toList) = true := beq_iff_eq.mpr c76
                      have c76b1 : (t147.toList != t148.toList) = false := bne_eq_false_iff_eq.mpr c76
                      clear c76
                      replace H := Option.bind_eq_some_iff.mp H
                      obtain ⟨t149, A770, H⟩ := H
                      replace H : (if t149 = 0 then ((whole_Valid.f k1 x7_1).bind fun t150 => (some t150)) else (some false)) = some r := H
                      have A77 := Aside0.mk A770
                      clear A770
                      by_cases c78 : t149 = 0
                      · rw [if_pos c78] at H
                        have c78b0 : (t149 == 0) = true := beq_iff_eq.mpr c78
                        have c78b1 : (t149 != 0) = false := bne_eq_false_iff_eq.mpr c78
                        clear c78
                        replace H := Option.bind_eq_some_iff.mp H
                        obtain ⟨t150, A790, H⟩ := H
                        replace H : (some t150) = some r := H
                        have A79 := Aside0.mk A790
                        clear A790
                        obtain rfl := Option.some.inj H
                        go_wp2_with (first | ((with_reducible refine gate_callee (f := 9) rfl ?_); refine goesL_ (some 56) rfl rfl Tryd.func9 (by kernel_rfl) rfl #[.string x7_1] rfl (by (try simp only [List.map_toArray, List.map_cons, List.map_nil]); first | done | rfl | (simp only [List.length_drop, List.length_take]; rfl)) ?_; (with_reducible refine (whole_Plain.calls k1 x7_1 t147 _ A74.out).mono ?_); rintro e w80 ⟨rfl, hb⟩; refine ⟨_, rfl, ?_⟩; have n0_ := Aside0.mk (below_step (by repeat (first | (with_reducible first | exact HB.out | apply below_alloc | apply pw_below_drewN | apply below_drew1) | exact HB.out)) hb); clear HB; have HB := n0_; clear n0_; (try clear hb); (try clear hb2); (try clear hk); (try clear hi)) | ((with_reducible refine gate_callee (f := 9) rfl ?_); refine goesL_ (some 58) rfl rfl Tryd.func9 (by kernel_rfl) rfl #[.string (a1.extract 0 300)] rfl (by (try simp only [List.map_toArray, List.map_cons, List.map_nil]); first | done | rfl | (simp only [List.length_drop, List.length_take]; rfl)) ?_; (with_reducible refine (whole_Plain.calls k1 (a1.extract 0 300) t148 _ A75.out).mono ?_); rintro e w81 ⟨rfl, hb⟩; refine ⟨_, rfl, ?_⟩; have n0_ := Aside0.mk (below_step (by repeat (first | (with_reducible first | exact HB.out | apply below_alloc | apply pw_below_drewN | apply below_drew1) | exact HB.out)) hb); clear HB; have HB := n0_; clear n0_; (try clear hb); (try clear hb2); (try clear hk); (try clear hi)) | (go_at_call 8; (with_reducible refine (whole_Compare.calls k1 x7_1 (a1.extract 0 300) t149 _ A77.out).mono ?_); rintro e w82 ⟨rfl, hb⟩; have n0_ := Aside0.mk (below_step (by repeat (first | (with_reducible first | exact HB.out | apply below_alloc | apply pw_below_drewN | apply below_drew1) | exact HB.out)) hb); clear HB; have HB := n0_; clear n0_; (try clear hb); (try clear hb2); (try clear hk); (try clear hi)) | (go_at_call 10; (with_reducible refine (whole_Valid.calls k1 x7_1 t150 _ A79.out).mono ?_); rintro e w83 ⟨rfl, hb⟩; have n0_ := Aside0.mk (below_step (by repeat (first | (with_reducible first | exact HB.out | apply below_alloc | apply pw_below_drewN | apply below_drew1) | exact HB.out)) hb); clear HB; have HB := n0_; clear n0_; (try clear hb); (try clear hb2); (try clear hk); (try clear hi)))
                        go_ret
                        exact ⟨by first | rfl | (simp [errW_none, errW_some] <;> rfl) | (simp [*, errW_none, errW_some] <;> rfl), by repeat (first | (with_reducible first | exact HB.out | apply below_alloc | apply pw_below_drewN | apply below_drew1) | exact HB.out)⟩
                      · rw [if_neg c78] at H
                        have c78b0 : (t149 == 0) = false := beq_eq_false_iff_ne.mpr c78
                        have c78b1 : (t149 != 0) = true := bne_iff_ne.mpr c78
                        obtain rfl := Option.some.inj H
                        go_wp2_with (first | ((with_reducible refine gate_callee (f := 9) rfl ?_); refine goesL_ (some 56) rfl rfl Tryd.func9 (by kernel_rfl) rfl #[.string x7_1] rfl (by (try simp only [List.map_toArray, List.map_cons, List.map_nil]); first | done | rfl | (simp only [List.length_drop, List.length_take]; rfl)) ?_; (with_reducible refine (whole_Plain.calls k1 x7_1 t147 _ A74.out).mono ?_); rintro e w84 ⟨rfl, hb⟩; refine ⟨_, rfl, ?_⟩; have n0_ := Aside0.mk (below_step (by repeat (first | (with_reducible first | exact HB.out | apply below_alloc | apply pw_below_drewN | apply below_drew1) | exact HB.out)) hb); clear HB; have HB := n0_; clear n0_; (try clear hb); (try clear hb2); (try clear hk); (try clear hi)) | ((with_reducible refine gate_callee (f := 9) rfl ?_); refine goesL_ (some 58) rfl rfl Tryd.func9 (by kernel_rfl) rfl #[.string (a1.extract 0 300)] rfl (by (try simp only [List.map_toArray, List.map_cons, List.map_nil]); first | done | rfl | (simp only [List.length_drop, List.length_take]; rfl)) ?_; (with_reducible refine (whole_Plain.calls k1 (a1.extract 0 300) t148 _ A75.out).mono ?_); rintro e w85 ⟨rfl, hb⟩; refine ⟨_, rfl, ?_⟩; have n0_ := Aside0.mk (below_step (by repeat (first | (with_reducible first | exact HB.out | apply below_alloc | apply pw_below_drewN | apply below_drew1) | exact HB.out)) hb); clear HB; have HB := n0_; clear n0_; (try clear hb); (try clear hb2); (try clear hk); (try clear hi)) | (go_at_call 8; (with_reducible refine (whole_Compare.calls k1 x7_1 (a1.extract 0 300) t149 _ A77.out).mono ?_); rintro e w86 ⟨rfl, hb⟩; have n0_ := Aside0.mk (below_step (by repeat (first | (with_reducible first | exact HB.out | apply below_alloc | apply pw_below_drewN | apply below_drew1) | exact HB.out)) hb); clear HB; have HB := n0_; clear n0_; (try clear hb); (try clear hb2); (try clear hk); (try clear hi)))
                        go_ret
                        exact ⟨by first | rfl | (simp [errW_none, errW_some] <;> rfl) | (simp [*, errW_none, errW_some] <;> rfl), by repeat (first | (with_reducible first | exact HB.out | apply below_alloc | apply pw_below_drewN | apply below_drew1) | exact HB.out)⟩
                    · rw [if_neg c76] at H
                      have c76b0 : (t147.toList == t148.toList) = false := beq_eq_false_iff_ne.mpr c76
                      have c76b1 : (t147.toList != t148.toList) = true := bne_iff_ne.mpr c76
                      obtain rfl := Option.some.inj H
                      go_wp2_with (first | ((with_reducible refine gate_callee (f := 9) rfl ?_); refine goesL_ (some 56) rfl rfl Tryd.func9 (by kernel_rfl) rfl #[.string x7_1] rfl (by (try simp only [List.map_toArray, List.map_cons, List.map_nil]); first | done | rfl | (simp only [List.length_drop, List.length_take]; rfl)) ?_; (with_reducible refine (whole_Plain.calls k1 x7_1 t147 _ A74.out).mono ?_); rintro e w87 ⟨rfl, hb⟩; refine ⟨_, rfl, ?_⟩; have n0_ := Aside0.mk (below_step (by repeat (first | (with_reducible first | exact HB.out | apply below_alloc | apply pw_below_drewN | apply below_drew1) | exact HB.out)) hb); clear HB; have HB := n0_; clear n0_; (try clear hb); (try clear hb2); (try clear hk); (try clear hi)) | ((with_reducible refine gate_callee (f := 9) rfl ?_); refine goesL_ (some 58) rfl rfl Tryd.func9 (by kernel_rfl) rfl #[.string (a1.extract 0 300)] rfl (by (try simp only [List.map_toArray, List.map_cons, List.map_nil]); first | done | rfl | (simp only [List.length_drop, List.length_take]; rfl)) ?_; (with_reducible refine (whole_Plain.calls k1 (a1.extract 0 300) t148 _ A75.out).mono ?_); rintro e w88 ⟨rfl, hb⟩; refine ⟨_, rfl, ?_⟩; have n0_ := Aside0.mk (below_step (by repeat (first | (with_reducible first | exact HB.out | apply below_alloc | apply pw_below_drewN | apply below_drew1) | exact HB.out)) hb); clear HB; have HB := n0_; clear n0_; (try clear hb); (try clear hb2); (try clear hk); (try clear hi)))
                      go_ret
                      exact ⟨by first | rfl | (simp [errW_none, errW_some] <;> rfl) | (simp [*, errW_none, errW_some] <;> rfl), by repeat (first | (with_reducible first | exact HB.out | apply below_alloc | apply pw_below_drewN | apply below_drew1) | exact HB.out)⟩
            · replace c64 := Bool.eq_false_iff.mpr c64
              subst c64
              have H1 : ((whole_Plain.f k (a1.extract 0 300)).bind fun t155 => (if t155.toList = ([] : List UInt8) then ((whole_Compare.f k (a1.extract 0 300) (⟨#[48]⟩ : ByteArray)).bind fun t156 => (some (t156 == (-1)))) else (some false))) = some r := by rw [if_neg (show ¬ (false = true) by decide)] at H; exact H
              clear H
              have H := H1
              clear H1
              replace H := Option.bind_eq_some_iff.mp H
              obtain ⟨t155, A890, H⟩ := H
              replace H : (if t155.toList = ([] : List UInt8) then ((whole_Compare.f k (a1.extract 0 300) (⟨#[48]⟩ : ByteArray)).bind fun t156 => (some (t156 == (-1)))) else (some false)) = some r := H
              have A89 := Aside0.mk A890
              clear A890
              by_cases c90 : t155.toList = ([] : List UInt8)
              · rw [if_pos c90] at H
                have c90b0 : (t155.toList == ([] : List UInt8)) = true := beq_iff_eq.mpr c90
                have c90b1 : (t155.toList != ([] : List UInt8)) = false := bne_eq_false_iff_eq.mpr c90
                clear c90
                replace H := Option.bind_eq_some_iff.mp H
                obtain ⟨t156, A910, H⟩ := H
                replace H : (some (t156 == (-1))) = some r := H
                have A91 := Aside0.mk A910
                clear A910
                obtain rfl := Option.some.inj H
                go_enter Tryd.func4, Tryd.ntmps4
                go_wp2_with (first | (go_at_call 7; (with_reducible refine (whole_Digits.calls k 0 t153 _ A61.out).mono ?_); rintro e w92 ⟨rfl, hb⟩; have n0_ := Aside0.mk (below_step (by repeat (first | (with_reducible first | exact HB.out | apply below_alloc | apply pw_below_drewN | apply below_drew1) | exact HB.out)) hb); clear HB; have HB := n0_; clear n0_; (try clear hb); (try clear hb2); (try clear hk); (try clear hi)) | ((with_reducible refine gate_callee (f := 10) rfl ?_); refine goesL_ (some 30) rfl rfl Tryd.func10 (by kernel_rfl) rfl #[.string (a1.extract 0 300)] rfl (by (try simp only [List.map_toArray, List.map_cons, List.map_nil]); first | done | rfl | (simp only [List.length_drop, List.length_take]; rfl)) ?_; (with_reducible refine (whole_Valid.calls k (a1.extract 0 300) false _ A63.out).mono ?_); rintro e w93 ⟨rfl, hb⟩; refine ⟨_, rfl, ?_⟩; have n0_ := Aside0.mk (below_step (by repeat (first | (with_reducible first | exact HB.out | apply below_alloc | apply pw_below_drewN | apply below_drew1) | exact HB.out)) hb); clear HB; have HB := n0_; clear n0_; (try clear hb); (try clear hb2); (try clear hk); (try clear hi)) | ((with_reducible refine gate_callee (f := 9) rfl ?_); refine goesL_ (some 33) rfl rfl Tryd.func9 (by kernel_rfl) rfl #[.string (a1.extract 0 300)] rfl (by (try simp only [List.map_toArray, List.map_cons, List.map_nil]); first | done | rfl | (simp only [List.length_drop, List.length_take]; rfl)) ?_; (with_reducible refine (whole_Plain.calls k (a1.extract 0 300) t155 _ A89.out).mono ?_); rintro e w94 ⟨rfl, hb⟩; refine ⟨_, rfl, ?_⟩; have n0_ := Aside0.mk (below_step (by repeat (first | (with_reducible first | exact HB.out | apply below_alloc | apply pw_below_drewN | apply below_drew1) | exact HB.out)) hb); clear HB; have HB := n0_; clear n0_; (try clear hb); (try clear hb2); (try clear hk); (try clear hi)) | (go_at_call 8; (with_reducible refine (whole_Compare.calls k (a1.extract 0 300) (⟨#[48]⟩ : ByteArray) t156 _ A91.out).mono ?_); rintro e w95 ⟨rfl, hb⟩; have n0_ := Aside0.mk (below_step (by repeat (first | (with_reducible first | exact HB.out | apply below_alloc | apply pw_below_drewN | apply below_drew1) | exact HB.out)) hb); clear HB; have HB := n0_; clear n0_; (try clear hb); (try clear hb2); (try clear hk); (try clear hi)))
                go_ret
                exact ⟨by first | rfl | (simp [errW_none, errW_some] <;> rfl) | (simp [*, errW_none, errW_some] <;> rfl), by repeat (first | (with_reducible first | exact HB.out | apply below_alloc | apply pw_below_drewN | apply below_drew1) | exact HB.out)⟩
              · rw [if_neg c90] at H
                have c90b0 : (t155.toList == ([] : List UInt8)) = false := beq_eq_false_iff_ne.mpr c90
                have c90b1 : (t155.toList != ([] : List UInt8)) = true := bne_iff_ne.mpr c90
                obtain rfl := Option.some.inj H
                go_enter Tryd.func4, Tryd.ntmps4
                go_wp2_with (first | (go_at_call 7; (with_reducible refine (whole_Digits.calls k 0 t153 _ A61.out).mono ?_); rintro e w96 ⟨rfl, hb⟩; have n0_ := Aside0.mk (below_step (by repeat (first | (with_reducible first | exact HB.out | apply below_alloc | apply pw_below_drewN | apply below_drew1) | exact HB.out)) hb); clear HB; have HB := n0_; clear n0_; (try clear hb); (try clear hb2); (try clear hk); (try clear hi)) | ((with_reducible refine gate_callee (f := 10) rfl ?_); refine goesL_ (some 30) rfl rfl Tryd.func10 (by kernel_rfl) rfl #[.string (a1.extract 0 300)] rfl (by (try simp only [List.map_toArray, List.map_cons, List.map_nil]); first | done | rfl | (simp only [List.length_drop, List.length_take]; rfl)) ?_; (with_reducible refine (whole_Valid.calls k (a1.extract 0 300) false _ A63.out).mono ?_); rintro e w97 ⟨rfl, hb⟩; refine ⟨_, rfl, ?_⟩; have n0_ := Aside0.mk (below_step (by repeat (first | (with_reducible first | exact HB.out | apply below_alloc | apply pw_below_drewN | apply below_drew1) | exact HB.out)) hb); clear HB; have HB := n0_; clear n0_; (try clear hb); (try clear hb2); (try clear hk); (try clear hi)) | ((with_reducible refine gate_callee (f := 9) rfl ?_); refine goesL_ (some 33) rfl rfl Tryd.func9 (by kernel_rfl) rfl #[.string (a1.extract 0 300)] rfl (by (try simp only [List.map_toArray, List.map_cons, List.map_nil]); first | done | rfl | (simp only [List.length_drop, List.length_take]; rfl)) ?_; (with_reducible refine (whole_Plain.calls k (a1.extract 0 300) t155 _ A89.out).mono ?_); rintro e w98 ⟨rfl, hb⟩; refine ⟨_, rfl, ?_⟩; have n0_ := Aside0.mk (below_step (by repeat (first | (with_reducible first | exact HB.out | apply below_alloc | apply pw_below_drewN | apply below_drew1) | exact HB.out)) hb); clear HB; have HB := n0_; clear n0_; (try clear hb); (try clear hb2); (try clear hk); (try clear hi)))
                go_ret
                exact ⟨by first | rfl | (simp [errW_none, errW_some] <;> rfl) | (simp [*, errW_none, errW_some] <;> rfl), by repeat (first | (with_reducible first | exact HB.out | apply below_alloc | apply pw_below_drewN | apply below_drew1) | exact HB.out)⟩
          · rw [if_neg c62] at H
            have c62b0 : (t153.toList == ([48] : List UInt8)) = false := beq_eq_false_iff_ne.mpr c62
            have c62b1 : (t153.toList != ([48] : List UInt8)) = true := bne_iff_ne.mpr c62
            obtain rfl := Option.some.inj H
            go_enter Tryd.func4, Tryd.ntmps4
            go_wp2_with (first | ((with_reducible refine gate_dst (N := 26) rfl ?_); (refine gate_guard (by rfl) ?_; dsimp only); refine goesL_ (some 26) rfl rfl Tryd.func7 (by kernel_rfl) rfl #[.int .i64 0] rfl (by (try simp only [List.map_toArray, List.map_cons, List.map_nil]); first | done | rfl | (simp only [List.length_drop, List.length_take]; rfl)) ?_; (with_reducible refine (whole_Digits.calls k 0 t153 _ A61.out).mono ?_); rintro e w99 ⟨rfl, hb⟩; refine ⟨_, rfl, ?_⟩; have n0_ := Aside0.mk (below_step (by repeat (first | (with_reducible first | exact HB.out | apply below_alloc | apply pw_below_drewN | apply below_drew1) | exact HB.out)) hb); clear HB; have HB := n0_; clear n0_; (try clear hb); (try clear hb2); (try clear hk); (try clear hi)))
            go_ret
            exact ⟨by first | rfl | (simp [errW_none, errW_some] <;> rfl) | (simp [*, errW_none, errW_some] <;> rfl), by repeat (first | (with_reducible first | exact HB.out | apply below_alloc | apply pw_below_drewN | apply below_drew1) | exact HB.out)⟩
      · rw [if_neg c6] at H
        exact absurd H (by simp)
    · rw [if_neg c5] at H
      exact absurd H (by simp)
  · rw [if_neg c4] at H
    have c4b0 : decide (300 < (a1.size : Int)) = false := decide_eq_false c4
    have c4b1 : decide (300 < a1.size) = false := decide_eq_false (by omega)
    clear c4
    by_cases c100 : a0 > 0
    · rw [if_pos c100] at H
      have c100b0 : decide (0 < a0) = true := decide_eq_true c100
      clear c100
      replace H := Option.bind_eq_some_iff.mp H
      obtain ⟨t157, A1010, H⟩ := H
      replace H : ((whole_Digits.f k a0).bind fun t158 => (if 1 + t158.size ≤ 9223372036854775807 then (if t157.toList = ((⟨#[45]⟩ : ByteArray) ++ t158).toList then ((whole_Digits.f k 0).bind fun t159 => (if t159.toList = ([48] : List UInt8) then ((whole_Valid.f k a1).bind fun t160 => (if t160 = true then (peeragelaw02_WholeSigns.l0 k a1 a2 a1 0) else ((whole_Plain.f k a1).bind fun t161 => (if t161.toList = ([] : List UInt8) then ((whole_Compare.f k a1 (⟨#[48]⟩ : ByteArray)).bind fun t162 => (some (t162 == (-1)))) else (some false))))) else (some false))) else (some false)) else (none))) = some r := H
      have A101 := Aside0.mk A1010
      clear A1010
      replace H := Option.bind_eq_some_iff.mp H
      obtain ⟨t158, A1020, H⟩ := H
      replace H : (if 1 + t158.size ≤ 9223372036854775807 then (if t157.toList = ((⟨#[45]⟩ : ByteArray) ++ t158).toList then ((whole_Digits.f k 0).bind fun t159 => (if t159.toList = ([48] : List UInt8) then ((whole_Valid.f k a1).bind fun t160 => (if t160 = true then (peeragelaw02_WholeSigns.l0 k a1 a2 a1 0) else ((whole_Plain.f k a1).bind fun t161 => (if t161.toList = ([] : List UInt8) then ((whole_Compare.f k a1 (⟨#[48]⟩ : ByteArray)).bind fun t162 => (some (t162 == (-1)))) else (some false))))) else (some false))) else (some false)) else (none)) = some r := H
      have A102 := Aside0.mk A1020
      clear A1020
      by_cases c103 : 1 + t158.size ≤ 9223372036854775807
      · rw [if_pos c103] at H
        have c103b0 := eq_true c103
        have c103b1 : decide (1 + t158.size ≤ 9223372036854775807) = true := decide_eq_true c103
        try have c103b2 : (9223372036854775807 < 1 + t158.size) = False := eq_false (Nat.not_lt.2 c103)
        by_cases c104 : t157.toList = ((⟨#[45]⟩ : ByteArray) ++ t158).toList
        · rw [if_pos c104] at H
          have c104b0 : (t157.toList == ((⟨#[45]⟩ : ByteArray) ++ t158).toList) = true := beq_iff_eq.mpr c104
          have c104b1 : (t157.toList != ((⟨#[45]⟩ : ByteArray) ++ t158).toList) = false := bne_eq_false_iff_eq.mpr c104
          clear c104
          replace H := Option.bind_eq_some_iff.mp H
          obtain ⟨t159, A1050, H⟩ := H
          replace H : (if t159.toList = ([48] : List UInt8) then ((whole_Valid.f k a1).bind fun t160 => (if t160 = true then (peeragelaw02_WholeSigns.l0 k a1 a2 a1 0) else ((whole_Plain.f k a1).bind fun t161 => (if t161.toList = ([] : List UInt8) then ((whole_Compare.f k a1 (⟨#[48]⟩ : ByteArray)).bind fun t162 => (some (t162 == (-1)))) else (some false))))) else (some false)) = some r := H
          have A105 := Aside0.mk A1050
          clear A1050
          by_cases c106 : t159.toList = ([48] : List UInt8)
          · rw [if_pos c106] at H
            have c106b0 : (t159.toList == ([48] : List UInt8)) = true := beq_iff_eq.mpr c106
            have c106b1 : (t159.toList != ([48] : List UInt8)) = false := bne_eq_false_iff_eq.mpr c106
            clear c106
            replace H := Option.bind_eq_some_iff.mp H
            obtain ⟨t160, A1070, H⟩ := H
            replace H : (if t160 = true then (peeragelaw02_WholeSigns.l0 k a1 a2 a1 0) else ((whole_Plain.f k a1).bind fun t161 => (if t161.toList = ([] : List UInt8) then ((whole_Compare.f k a1 (⟨#[48]⟩ : ByteArray)).bind fun t162 => (some (t162 == (-1)))) else (some false)))) = some r := H
            have A107 := Aside0.mk A1070
            clear A1070
            by_cases c108 : t160 = true
            · subst c108
              have H1 : (peeragelaw02_WholeSigns.l0 k a1 a2 a1 0) = some r := by rw [if_pos rfl] at H; exact H
              clear H
              have H := H1
              clear H1
              have H' := Aside0.mk H
              clear H
              go_enter Tryd.func4, Tryd.ntmps4
              go_wp2_with (first | (go_at_call 7; (with_reducible refine (whole_Digits.calls k (wrap64 (-a0)) t157 _ A101.out).mono ?_); rintro e w109 ⟨rfl, hb⟩; have n0_ := Aside0.mk (below_step (by repeat (first | (with_reducible first | exact HB.out | apply below_alloc | apply pw_below_drewN | apply below_drew1) | exact HB.out)) hb); clear HB; have HB := n0_; clear n0_; (try clear hb); (try clear hb2); (try clear hk); (try clear hi)) | (go_at_call 7; (with_reducible refine (whole_Digits.calls k a0 t158 _ A102.out).mono ?_); rintro e w110 ⟨rfl, hb⟩; have n0_ := Aside0.mk (below_step (by repeat (first | (with_reducible first | exact HB.out | apply below_alloc | apply pw_below_drewN | apply below_drew1) | exact HB.out)) hb); clear HB; have HB := n0_; clear n0_; (try clear hb); (try clear hb2); (try clear hk); (try clear hi)) | (go_at_call 7; (with_reducible refine (whole_Digits.calls k 0 t159 _ A105.out).mono ?_); rintro e w111 ⟨rfl, hb⟩; have n0_ := Aside0.mk (below_step (by repeat (first | (with_reducible first | exact HB.out | apply below_alloc | apply pw_below_drewN | apply below_drew1) | exact HB.out)) hb); clear HB; have HB := n0_; clear n0_; (try clear hb); (try clear hb2); (try clear hk); (try clear hi)) | ((with_reducible refine gate_callee (f := 10) rfl ?_); refine goesL_ (some 30) rfl rfl Tryd.func10 (by kernel_rfl) rfl #[.string a1] rfl (by (try simp only [List.map_toArray, List.map_cons, List.map_nil]); first | done | rfl | (simp only [List.length_drop, List.length_take]; rfl)) ?_; (with_reducible refine (whole_Valid.calls k a1 true _ A107.out).mono ?_); rintro e w112 ⟨rfl, hb⟩; refine ⟨_, rfl, ?_⟩; have n0_ := Aside0.mk (below_step (by repeat (first | (with_reducible first | exact HB.out | apply below_alloc | apply pw_below_drewN | apply below_drew1) | exact HB.out)) hb); clear HB; have HB := n0_; clear n0_; (try clear hb); (try clear hb2); (try clear hk); (try clear hi)))
              go_loopg [7, 8] k (fun kq v7 v8 w' => ∃ (x7_1 : ByteArray) (x8_1 : Int), v7 = .string x7_1 ∧ v8 = .int .i64 x8_1 ∧ Aside0 (peeragelaw02_WholeSigns.l0 kq a1 a2 x7_1 x8_1 = some r) ∧ Aside0 (kq ≤ k) ∧ Aside0 (Below w.heap.size w w'))
              case atStart => exact ⟨(a1), (0), (by first | rfl | (simp; done) | (simp [*]; done)), (by first | rfl | (simp; done) | (simp [*]; done)), H', ⟨Nat.le_refl _⟩, ⟨by repeat (first | (with_reducible first | exact HB.out | apply below_alloc | apply pw_below_drewN | apply below_drew1) | exact HB.out)⟩⟩
              case round =>
                clear H'
                try clear c1
                try clear c2
                try clear p2
                try clear q2
                try clear hx2
                try clear qi2
                try clear c3
                try clear c4
                try clear c4b0
                try clear c4b1
                try clear c5
                try clear c5b0
                try clear c5b1
                try clear c6
                try clear c6b0
                try clear c6b1
                try clear p6
                try clear q6
                try clear hx6
                try clear qi6
                try clear c7
                try clear c7b0
                try clear c9
                try clear c10
                try clear c10b0
                try clear c10b1
                try clear c10b2
                try clear c11
                try clear c11b0
                try clear c11b1
                try clear c13
                try clear c13b0
                try clear c13b1
                try clear c15
                try clear c20
                try clear c20b0
                try clear c21
                try clear c21b0
                try clear c21b1
                try clear p22
                try clear q22
                try clear hx22
                try clear qi22
                try clear c23
                try clear c23b0
                try clear c23b1
                try clear c24
                try clear c24b0
                try clear c24b1
                try clear c25
                try clear c25b0
                try clear c25b1
                try clear c25b2
                try clear c26
                try clear c26b0
                try clear c26b1
                try clear c26b2
                try clear c29
                try clear c29b0
                try clear c29b1
                try clear c31
                try clear c31b0
                try clear c31b1
                try clear c43
                try clear c43b0
                try clear c43b1
                try clear c62
                try clear c62b0
                try clear c62b1
                try clear c64
                try clear p64
                try clear c67
                try clear c67b0
                try clear c68
                try clear c68b0
                try clear c68b1
                try clear p69
                try clear q69
                try clear hx69
                try clear qi69
                try clear c70
                try clear c70b0
                try clear c70b1
                try clear c71
                try clear c71b0
                try clear c71b1
                try clear c72
                try clear c72b0
                try clear c72b1
                try clear c72b2
                try clear c73
                try clear c73b0
                try clear c73b1
                try clear c73b2
                try clear c76
                try clear c76b0
                try clear c76b1
                try clear c78
                try clear c78b0
                try clear c78b1
                try clear c90
                try clear c90b0
                try clear c90b1
                try clear c100
                try clear c100b0
                try clear c103
                try clear c103b0
                try clear c103b1
                try clear c103b2
                try clear c104
                try clear c104b0
                try clear c104b1
                try clear c106
                try clear c106b0
                try clear c106b1
                try clear c108
                try clear p2
                try clear p22
                try clear p6
                try clear p64
                try clear p69
                try clear q2
                try clear q22
                try clear q69
                obtain ⟨x7_1, x8_1, rfl, rfl, HA, HK1, HB⟩ := hrel
                cases gk with
                | zero => exact absurd HA.out (by simp [peeragelaw02_WholeSigns.l0])
                | succ k1 =>
                  have H := HA.out
                  clear HA
                  simp only [peeragelaw02_WholeSigns.l0] at H
                  by_cases c113 : x8_1 < (Go.bits .and .i64 a2 7)
                  · rw [if_pos c113] at H
                    have c113b0 : decide (x8_1 < (Go.bits .and .i64 a2 7)) = true := decide_eq_true c113
                    clear c113
                    by_cases c114 : 0 < (x7_1.size : Int)
                    · rw [if_pos c114] at H
                      have c114b0 : decide (0 < (x7_1.size : Int)) = true := decide_eq_true c114
                      have c114b1 : decide (0 < x7_1.size) = true := decide_eq_true (by omega)
                      clear c114
                      by_cases c116 : (bt x7_1 0) = 45
                      · rw [if_pos c116] at H
                        have c116b0 : ((bt x7_1 0) == 45) = true := beq_iff_eq.mpr c116
                        have c116b1 : ((bt x7_1 0) != 45) = false := bne_eq_false_iff_eq.mpr c116
                        clear c116
                        by_cases c117 : 1 ≤ (x7_1.size : Int)
                        · rw [if_pos c117] at H
                          have c117b0 := eq_true c117
                          have c117b1 : decide (1 ≤ (x7_1.size : Int)) = true := decide_eq_true c117
                          clear c117
                          by_cases c118 : 2 + (x7_1.extract 1 x7_1.size).size ≤ 9223372036854775807
                          · rw [if_pos c118] at H
                            have c118b0 := eq_true c118
                            have c118b1 : decide (2 + (x7_1.extract 1 x7_1.size).size ≤ 9223372036854775807) = true := decide_eq_true c118
                            try have c118b2 : (9223372036854775807 < 2 + (x7_1.extract 1 x7_1.size).size) = False := eq_false (Nat.not_lt.2 c118)
                            have c118e : (x7_1.extract 1 x7_1.size).size = x7_1.size - 1 := by simp
                            have c118b3 : (9223372036854775807 < 2 + (x7_1.size - 1)) = False := eq_false (by omega)
                            have c118b4 : 2 + (x7_1.size - 1) ≤ 9223372036854775807 := by omega
                            clear c118e
                            have H' := Aside0.mk H
                            clear H
                            have p115 : 0 ≤ (0 : Int) := (by omega)
                            have q115 : 0 < x7_1.size := (by have : (0 : Int) < (x7_1.size : Int) := of_decide_eq_true (by first | (with_reducible assumption) | assumption); omega)
                            have hx115 : ∀ h : 0 < x7_1.size, ((x7_1[0]'h).toNat : Int) = bt x7_1 0 := bt_at x7_1 0
                            clear p115
                            have qi115 : (0 < (x7_1.size : Int)) = True := eq_true (of_decide_eq_true (by first | (with_reducible assumption) | assumption))
                            replace q115 := eq_true q115
                            go_wp2
                            go_roundg k1
                            case measure => have := HK1.out; omega
                            case rel => exact ⟨((⟨#[45, 48]⟩ : ByteArray) ++ (x7_1.extract 1 x7_1.size)), (wrap64 (x8_1 + 1)), (by first | rfl | (simp; done) | (simp [*]; done)), (by first | rfl | (simp; done) | (simp [*]; done)), H', ⟨by have := HK1.out; omega⟩, ⟨by repeat (first | (with_reducible first | exact HB.out | apply below_alloc | apply pw_below_drewN | apply below_drew1) | exact HB.out)⟩⟩
                          · rw [if_neg c118] at H
                            exact absurd H (by simp)
                        · rw [if_neg c117] at H
                          exact absurd H (by simp)
                      · rw [if_neg c116] at H
                        have c116b0 : ((bt x7_1 0) == 45) = false := beq_eq_false_iff_ne.mpr c116
                        have c116b1 : ((bt x7_1 0) != 45) = true := bne_iff_ne.mpr c116
                        by_cases c119 : 1 + x7_1.size ≤ 9223372036854775807
                        · rw [if_pos c119] at H
                          have c119b0 := eq_true c119
                          have c119b1 : decide (1 + x7_1.size ≤ 9223372036854775807) = true := decide_eq_true c119
                          try have c119b2 : (9223372036854775807 < 1 + x7_1.size) = False := eq_false (Nat.not_lt.2 c119)
                          have H' := Aside0.mk H
                          clear H
                          have p115 : 0 ≤ (0 : Int) := (by omega)
                          have q115 : 0 < x7_1.size := (by have : (0 : Int) < (x7_1.size : Int) := of_decide_eq_true (by first | (with_reducible assumption) | assumption); omega)
                          have hx115 : ∀ h : 0 < x7_1.size, ((x7_1[0]'h).toNat : Int) = bt x7_1 0 := bt_at x7_1 0
                          clear p115
                          have qi115 : (0 < (x7_1.size : Int)) = True := eq_true (of_decide_eq_true (by first | (with_reducible assumption) | assumption))
                          replace q115 := eq_true q115
                          go_wp2
                          go_roundg k1
                          case measure => have := HK1.out; omega
                          case rel => exact ⟨((⟨#[48]⟩ : ByteArray) ++ x7_1), (wrap64 (x8_1 + 1)), (by first | rfl | (simp; done) | (simp [*]; done)), (by first | rfl | (simp; done) | (simp [*]; done)), H', ⟨by have := HK1.out; omega⟩, ⟨by repeat (first | (with_reducible first | exact HB.out | apply below_alloc | apply pw_below_drewN | apply below_drew1) | exact HB.out)⟩⟩
                        · rw [if_neg c119] at H
                          exact absurd H (by simp)
                    · rw [if_neg c114] at H
                      exact absurd H (by simp)
                  · rw [if_neg c113] at H
                    have c113b0 : decide (x8_1 < (Go.bits .and .i64 a2 7)) = false := decide_eq_false c113
                    clear c113
                    replace H := Option.bind_eq_some_iff.mp H
                    obtain ⟨t147, A1200, H⟩ := H
                    replace H : ((whole_Plain.f k1 a1).bind fun t148 => (if t147.toList = t148.toList then ((whole_Compare.f k1 x7_1 a1).bind fun t149 => (if t149 = 0 then ((whole_Valid.f k1 x7_1).bind fun t150 => (some t150)) else (some false))) else (some false))) = some r := H
                    have A120 := Aside0.mk A1200
                    clear A1200
                    replace H := Option.bind_eq_some_iff.mp H
                    obtain ⟨t148, A1210, H⟩ := H
                    replace H : (if t147.toList = t148.toList then ((whole_Compare.f k1 x7_1 a1).bind fun t149 => (if t149 = 0 then ((whole_Valid.f k1 x7_1).bind fun t150 => (some t150)) else (some false))) else (some false)) = some r := H
                    have A121 := Aside0.mk A1210
                    clear A1210
                    by_cases c122 : t147.toList = t148.toList
                    · rw [if_pos c122] at H
                      have c122b0 : (t147.toList == t148.toList) = true := beq_iff_eq.mpr c122
                      have c122b1 : (t147.toList != t148.toList) = false := bne_eq_false_iff_eq.mpr c122
                      clear c122
                      replace H := Option.bind_eq_some_iff.mp H
                      obtain ⟨t149, A1230, H⟩ := H
                      replace H : (if t149 = 0 then ((whole_Valid.f k1 x7_1).bind fun t150 => (some t150)) else (some false)) = some r := H
                      have A123 := Aside0.mk A1230
                      clear A1230
                      by_cases c124 : t149 = 0
                      · rw [if_pos c124] at H
                        have c124b0 : (t149 == 0) = true := beq_iff_eq.mpr c124
                        have c124b1 : (t149 != 0) = false := bne_eq_false_iff_eq.mpr c124
                        clear c124
                        replace H := Option.bind_eq_some_iff.mp H
                        obtain ⟨t150, A1250, H⟩ := H
                        replace H : (some t150) = some r := H
                        have A125 := Aside0.mk A1250
                        clear A1250
                        obtain rfl := Option.some.inj H
                        go_wp2_with (first | ((with_reducible refine gate_callee (f := 9) rfl ?_); refine goesL_ (some 56) rfl rfl Tryd.func9 (by kernel_rfl) rfl #[.string x7_1] rfl (by (try simp only [List.map_toArray, List.map_cons, List.map_nil]); first | done | rfl | (simp only [List.length_drop, List.length_take]; rfl)) ?_; (with_reducible refine (whole_Plain.calls k1 x7_1 t147 _ A120.out).mono ?_); rintro e w126 ⟨rfl, hb⟩; refine ⟨_, rfl, ?_⟩; have n0_ := Aside0.mk (below_step (by repeat (first | (with_reducible first | exact HB.out | apply below_alloc | apply pw_below_drewN | apply below_drew1) | exact HB.out)) hb); clear HB; have HB := n0_; clear n0_; (try clear hb); (try clear hb2); (try clear hk); (try clear hi)) | ((with_reducible refine gate_callee (f := 9) rfl ?_); refine goesL_ (some 58) rfl rfl Tryd.func9 (by kernel_rfl) rfl #[.string a1] rfl (by (try simp only [List.map_toArray, List.map_cons, List.map_nil]); first | done | rfl | (simp only [List.length_drop, List.length_take]; rfl)) ?_; (with_reducible refine (whole_Plain.calls k1 a1 t148 _ A121.out).mono ?_); rintro e w127 ⟨rfl, hb⟩; refine ⟨_, rfl, ?_⟩; have n0_ := Aside0.mk (below_step (by repeat (first | (with_reducible first | exact HB.out | apply below_alloc | apply pw_below_drewN | apply below_drew1) | exact HB.out)) hb); clear HB; have HB := n0_; clear n0_; (try clear hb); (try clear hb2); (try clear hk); (try clear hi)) | (go_at_call 8; (with_reducible refine (whole_Compare.calls k1 x7_1 a1 t149 _ A123.out).mono ?_); rintro e w128 ⟨rfl, hb⟩; have n0_ := Aside0.mk (below_step (by repeat (first | (with_reducible first | exact HB.out | apply below_alloc | apply pw_below_drewN | apply below_drew1) | exact HB.out)) hb); clear HB; have HB := n0_; clear n0_; (try clear hb); (try clear hb2); (try clear hk); (try clear hi)) | (go_at_call 10; (with_reducible refine (whole_Valid.calls k1 x7_1 t150 _ A125.out).mono ?_); rintro e w129 ⟨rfl, hb⟩; have n0_ := Aside0.mk (below_step (by repeat (first | (with_reducible first | exact HB.out | apply below_alloc | apply pw_below_drewN | apply below_drew1) | exact HB.out)) hb); clear HB; have HB := n0_; clear n0_; (try clear hb); (try clear hb2); (try clear hk); (try clear hi)))
                        go_ret
                        exact ⟨by first | rfl | (simp [errW_none, errW_some] <;> rfl) | (simp [*, errW_none, errW_some] <;> rfl), by repeat (first | (with_reducible first | exact HB.out | apply below_alloc | apply pw_below_drewN | apply below_drew1) | exact HB.out)⟩
                      · rw [if_neg c124] at H
                        have c124b0 : (t149 == 0) = false := beq_eq_false_iff_ne.mpr c124
                        have c124b1 : (t149 != 0) = true := bne_iff_ne.mpr c124
                        obtain rfl := Option.some.inj H
                        go_wp2_with (first | ((with_reducible refine gate_callee (f := 9) rfl ?_); refine goesL_ (some 56) rfl rfl Tryd.func9 (by kernel_rfl) rfl #[.string x7_1] rfl (by (try simp only [List.map_toArray, List.map_cons, List.map_nil]); first | done | rfl | (simp only [List.length_drop, List.length_take]; rfl)) ?_; (with_reducible refine (whole_Plain.calls k1 x7_1 t147 _ A120.out).mono ?_); rintro e w130 ⟨rfl, hb⟩; refine ⟨_, rfl, ?_⟩; have n0_ := Aside0.mk (below_step (by repeat (first | (with_reducible first | exact HB.out | apply below_alloc | apply pw_below_drewN | apply below_drew1) | exact HB.out)) hb); clear HB; have HB := n0_; clear n0_; (try clear hb); (try clear hb2); (try clear hk); (try clear hi)) | ((with_reducible refine gate_callee (f := 9) rfl ?_); refine goesL_ (some 58) rfl rfl Tryd.func9 (by kernel_rfl) rfl #[.string a1] rfl (by (try simp only [List.map_toArray, List.map_cons, List.map_nil]); first | done | rfl | (simp only [List.length_drop, List.length_take]; rfl)) ?_; (with_reducible refine (whole_Plain.calls k1 a1 t148 _ A121.out).mono ?_); rintro e w131 ⟨rfl, hb⟩; refine ⟨_, rfl, ?_⟩; have n0_ := Aside0.mk (below_step (by repeat (first | (with_reducible first | exact HB.out | apply below_alloc | apply pw_below_drewN | apply below_drew1) | exact HB.out)) hb); clear HB; have HB := n0_; clear n0_; (try clear hb); (try clear hb2); (try clear hk); (try clear hi)) | (go_at_call 8; (with_reducible refine (whole_Compare.calls k1 x7_1 a1 t149 _ A123.out).mono ?_); rintro e w132 ⟨rfl, hb⟩; have n0_ := Aside0.mk (below_step (by repeat (first | (with_reducible first | exact HB.out | apply below_alloc | apply pw_below_drewN | apply below_drew1) | exact HB.out)) hb); clear HB; have HB := n0_; clear n0_; (try clear hb); (try clear hb2); (try clear hk); (try clear hi)))
                        go_ret
                        exact ⟨by first | rfl | (simp [errW_none, errW_some] <;> rfl) | (simp [*, errW_none, errW_some] <;> rfl), by repeat (first | (with_reducible first | exact HB.out | apply below_alloc | apply pw_below_drewN | apply below_drew1) | exact HB.out)⟩
                    · rw [if_neg c122] at H
                      have c122b0 : (t147.toList == t148.toList) = false := beq_eq_false_iff_ne.mpr c122
                      have c122b1 : (t147.toList != t148.toList) = true := bne_iff_ne.mpr c122
                      obtain rfl := Option.some.inj H
                      go_wp2_with (first | ((with_reducible refine gate_callee (f := 9) rfl ?_); refine goesL_ (some 56) rfl rfl Tryd.func9 (by kernel_rfl) rfl #[.string x7_1] rfl (by (try simp only [List.map_toArray, List.map_cons, List.map_nil]); first | done | rfl | (simp only [List.length_drop, List.length_take]; rfl)) ?_; (with_reducible refine (whole_Plain.calls k1 x7_1 t147 _ A120.out).mono ?_); rintro e w133 ⟨rfl, hb⟩; refine ⟨_, rfl, ?_⟩; have n0_ := Aside0.mk (below_step (by repeat (first | (with_reducible first | exact HB.out | apply below_alloc | apply pw_below_drewN | apply below_drew1) | exact HB.out)) hb); clear HB; have HB := n0_; clear n0_; (try clear hb); (try clear hb2); (try clear hk); (try clear hi)) | ((with_reducible refine gate_callee (f := 9) rfl ?_); refine goesL_ (some 58) rfl rfl Tryd.func9 (by kernel_rfl) rfl #[.string a1] rfl (by (try simp only [List.map_toArray, List.map_cons, List.map_nil]); first | done | rfl | (simp only [List.length_drop, List.length_take]; rfl)) ?_; (with_reducible refine (whole_Plain.calls k1 a1 t148 _ A121.out).mono ?_); rintro e w134 ⟨rfl, hb⟩; refine ⟨_, rfl, ?_⟩; have n0_ := Aside0.mk (below_step (by repeat (first | (with_reducible first | exact HB.out | apply below_alloc | apply pw_below_drewN | apply below_drew1) | exact HB.out)) hb); clear HB; have HB := n0_; clear n0_; (try clear hb); (try clear hb2); (try clear hk); (try clear hi)))
                      go_ret
                      exact ⟨by first | rfl | (simp [errW_none, errW_some] <;> rfl) | (simp [*, errW_none, errW_some] <;> rfl), by repeat (first | (with_reducible first | exact HB.out | apply below_alloc | apply pw_below_drewN | apply below_drew1) | exact HB.out)⟩
            · replace c108 := Bool.eq_false_iff.mpr c108
              subst c108
              have H1 : ((whole_Plain.f k a1).bind fun t161 => (if t161.toList = ([] : List UInt8) then ((whole_Compare.f k a1 (⟨#[48]⟩ : ByteArray)).bind fun t162 => (some (t162 == (-1)))) else (some false))) = some r := by rw [if_neg (show ¬ (false = true) by decide)] at H; exact H
              clear H
              have H := H1
              clear H1
              replace H := Option.bind_eq_some_iff.mp H
              obtain ⟨t161, A1350, H⟩ := H
              replace H : (if t161.toList = ([] : List UInt8) then ((whole_Compare.f k a1 (⟨#[48]⟩ : ByteArray)).bind fun t162 => (some (t162 == (-1)))) else (some false)) = some r := H
              have A135 := Aside0.mk A1350
              clear A1350
              by_cases c136 : t161.toList = ([] : List UInt8)
              · rw [if_pos c136] at H
                have c136b0 : (t161.toList == ([] : List UInt8)) = true := beq_iff_eq.mpr c136
                have c136b1 : (t161.toList != ([] : List UInt8)) = false := bne_eq_false_iff_eq.mpr c136
                clear c136
                replace H := Option.bind_eq_some_iff.mp H
                obtain ⟨t162, A1370, H⟩ := H
                replace H : (some (t162 == (-1))) = some r := H
                have A137 := Aside0.mk A1370
                clear A1370
                obtain rfl := Option.some.inj H
                go_enter Tryd.func4, Tryd.ntmps4
                go_wp2_with (first | (go_at_call 7; (with_reducible refine (whole_Digits.calls k (wrap64 (-a0)) t157 _ A101.out).mono ?_); rintro e w138 ⟨rfl, hb⟩; have n0_ := Aside0.mk (below_step (by repeat (first | (with_reducible first | exact HB.out | apply below_alloc | apply pw_below_drewN | apply below_drew1) | exact HB.out)) hb); clear HB; have HB := n0_; clear n0_; (try clear hb); (try clear hb2); (try clear hk); (try clear hi)) | (go_at_call 7; (with_reducible refine (whole_Digits.calls k a0 t158 _ A102.out).mono ?_); rintro e w139 ⟨rfl, hb⟩; have n0_ := Aside0.mk (below_step (by repeat (first | (with_reducible first | exact HB.out | apply below_alloc | apply pw_below_drewN | apply below_drew1) | exact HB.out)) hb); clear HB; have HB := n0_; clear n0_; (try clear hb); (try clear hb2); (try clear hk); (try clear hi)) | (go_at_call 7; (with_reducible refine (whole_Digits.calls k 0 t159 _ A105.out).mono ?_); rintro e w140 ⟨rfl, hb⟩; have n0_ := Aside0.mk (below_step (by repeat (first | (with_reducible first | exact HB.out | apply below_alloc | apply pw_below_drewN | apply below_drew1) | exact HB.out)) hb); clear HB; have HB := n0_; clear n0_; (try clear hb); (try clear hb2); (try clear hk); (try clear hi)) | ((with_reducible refine gate_callee (f := 10) rfl ?_); refine goesL_ (some 30) rfl rfl Tryd.func10 (by kernel_rfl) rfl #[.string a1] rfl (by (try simp only [List.map_toArray, List.map_cons, List.map_nil]); first | done | rfl | (simp only [List.length_drop, List.length_take]; rfl)) ?_; (with_reducible refine (whole_Valid.calls k a1 false _ A107.out).mono ?_); rintro e w141 ⟨rfl, hb⟩; refine ⟨_, rfl, ?_⟩; have n0_ := Aside0.mk (below_step (by repeat (first | (with_reducible first | exact HB.out | apply below_alloc | apply pw_below_drewN | apply below_drew1) | exact HB.out)) hb); clear HB; have HB := n0_; clear n0_; (try clear hb); (try clear hb2); (try clear hk); (try clear hi)) | ((with_reducible refine gate_callee (f := 9) rfl ?_); refine goesL_ (some 33) rfl rfl Tryd.func9 (by kernel_rfl) rfl #[.string a1] rfl (by (try simp only [List.map_toArray, List.map_cons, List.map_nil]); first | done | rfl | (simp only [List.length_drop, List.length_take]; rfl)) ?_; (with_reducible refine (whole_Plain.calls k a1 t161 _ A135.out).mono ?_); rintro e w142 ⟨rfl, hb⟩; refine ⟨_, rfl, ?_⟩; have n0_ := Aside0.mk (below_step (by repeat (first | (with_reducible first | exact HB.out | apply below_alloc | apply pw_below_drewN | apply below_drew1) | exact HB.out)) hb); clear HB; have HB := n0_; clear n0_; (try clear hb); (try clear hb2); (try clear hk); (try clear hi)) | (go_at_call 8; (with_reducible refine (whole_Compare.calls k a1 (⟨#[48]⟩ : ByteArray) t162 _ A137.out).mono ?_); rintro e w143 ⟨rfl, hb⟩; have n0_ := Aside0.mk (below_step (by repeat (first | (with_reducible first | exact HB.out | apply below_alloc | apply pw_below_drewN | apply below_drew1) | exact HB.out)) hb); clear HB; have HB := n0_; clear n0_; (try clear hb); (try clear hb2); (try clear hk); (try clear hi)))
                go_ret
                exact ⟨by first | rfl | (simp [errW_none, errW_some] <;> rfl) | (simp [*, errW_none, errW_some] <;> rfl), by repeat (first | (with_reducible first | exact HB.out | apply below_alloc | apply pw_below_drewN | apply below_drew1) | exact HB.out)⟩
              · rw [if_neg c136] at H
                have c136b0 : (t161.toList == ([] : List UInt8)) = false := beq_eq_false_iff_ne.mpr c136
                have c136b1 : (t161.toList != ([] : List UInt8)) = true := bne_iff_ne.mpr c136
                obtain rfl := Option.some.inj H
                go_enter Tryd.func4, Tryd.ntmps4
                go_wp2_with (first | (go_at_call 7; (with_reducible refine (whole_Digits.calls k (wrap64 (-a0)) t157 _ A101.out).mono ?_); rintro e w144 ⟨rfl, hb⟩; have n0_ := Aside0.mk (below_step (by repeat (first | (with_reducible first | exact HB.out | apply below_alloc | apply pw_below_drewN | apply below_drew1) | exact HB.out)) hb); clear HB; have HB := n0_; clear n0_; (try clear hb); (try clear hb2); (try clear hk); (try clear hi)) | (go_at_call 7; (with_reducible refine (whole_Digits.calls k a0 t158 _ A102.out).mono ?_); rintro e w145 ⟨rfl, hb⟩; have n0_ := Aside0.mk (below_step (by repeat (first | (with_reducible first | exact HB.out | apply below_alloc | apply pw_below_drewN | apply below_drew1) | exact HB.out)) hb); clear HB; have HB := n0_; clear n0_; (try clear hb); (try clear hb2); (try clear hk); (try clear hi)) | (go_at_call 7; (with_reducible refine (whole_Digits.calls k 0 t159 _ A105.out).mono ?_); rintro e w146 ⟨rfl, hb⟩; have n0_ := Aside0.mk (below_step (by repeat (first | (with_reducible first | exact HB.out | apply below_alloc | apply pw_below_drewN | apply below_drew1) | exact HB.out)) hb); clear HB; have HB := n0_; clear n0_; (try clear hb); (try clear hb2); (try clear hk); (try clear hi)) | ((with_reducible refine gate_callee (f := 10) rfl ?_); refine goesL_ (some 30) rfl rfl Tryd.func10 (by kernel_rfl) rfl #[.string a1] rfl (by (try simp only [List.map_toArray, List.map_cons, List.map_nil]); first | done | rfl | (simp only [List.length_drop, List.length_take]; rfl)) ?_; (with_reducible refine (whole_Valid.calls k a1 false _ A107.out).mono ?_); rintro e w147 ⟨rfl, hb⟩; refine ⟨_, rfl, ?_⟩; have n0_ := Aside0.mk (below_step (by repeat (first | (with_reducible first | exact HB.out | apply below_alloc | apply pw_below_drewN | apply below_drew1) | exact HB.out)) hb); clear HB; have HB := n0_; clear n0_; (try clear hb); (try clear hb2); (try clear hk); (try clear hi)) | ((with_reducible refine gate_callee (f := 9) rfl ?_); refine goesL_ (some 33) rfl rfl Tryd.func9 (by kernel_rfl) rfl #[.string a1] rfl (by (try simp only [List.map_toArray, List.map_cons, List.map_nil]); first | done | rfl | (simp only [List.length_drop, List.length_take]; rfl)) ?_; (with_reducible refine (whole_Plain.calls k a1 t161 _ A135.out).mono ?_); rintro e w148 ⟨rfl, hb⟩; refine ⟨_, rfl, ?_⟩; have n0_ := Aside0.mk (below_step (by repeat (first | (with_reducible first | exact HB.out | apply below_alloc | apply pw_below_drewN | apply below_drew1) | exact HB.out)) hb); clear HB; have HB := n0_; clear n0_; (try clear hb); (try clear hb2); (try clear hk); (try clear hi)))
                go_ret
                exact ⟨by first | rfl | (simp [errW_none, errW_some] <;> rfl) | (simp [*, errW_none, errW_some] <;> rfl), by repeat (first | (with_reducible first | exact HB.out | apply below_alloc | apply pw_below_drewN | apply below_drew1) | exact HB.out)⟩
          · rw [if_neg c106] at H
            have c106b0 : (t159.toList == ([48] : List UInt8)) = false := beq_eq_false_iff_ne.mpr c106
            have c106b1 : (t159.toList != ([48] : List UInt8)) = true := bne_iff_ne.mpr c106
            obtain rfl := Option.some.inj H
            go_enter Tryd.func4, Tryd.ntmps4
            go_wp2_with (first | ((with_reducible refine gate_dst (N := 19) rfl ?_); (refine gate_guard (by rfl) ?_; dsimp only); refine goesL_ (some 19) rfl rfl Tryd.func7 (by kernel_rfl) rfl #[.int .i64 (wrap64 (-a0))] rfl (by (try simp only [List.map_toArray, List.map_cons, List.map_nil]); first | done | rfl | (simp only [List.length_drop, List.length_take]; rfl)) ?_; (with_reducible refine (whole_Digits.calls k (wrap64 (-a0)) t157 _ A101.out).mono ?_); rintro e w149 ⟨rfl, hb⟩; refine ⟨_, rfl, ?_⟩; have n0_ := Aside0.mk (below_step (by repeat (first | (with_reducible first | exact HB.out | apply below_alloc | apply pw_below_drewN | apply below_drew1) | exact HB.out)) hb); clear HB; have HB := n0_; clear n0_; (try clear hb); (try clear hb2); (try clear hk); (try clear hi)) | ((with_reducible refine gate_dst (N := 21) rfl ?_); (refine gate_guard (by rfl) ?_; dsimp only); refine goesL_ (some 21) rfl rfl Tryd.func7 (by kernel_rfl) rfl #[.int .i64 a0] rfl (by (try simp only [List.map_toArray, List.map_cons, List.map_nil]); first | done | rfl | (simp only [List.length_drop, List.length_take]; rfl)) ?_; (with_reducible refine (whole_Digits.calls k a0 t158 _ A102.out).mono ?_); rintro e w150 ⟨rfl, hb⟩; refine ⟨_, rfl, ?_⟩; have n0_ := Aside0.mk (below_step (by repeat (first | (with_reducible first | exact HB.out | apply below_alloc | apply pw_below_drewN | apply below_drew1) | exact HB.out)) hb); clear HB; have HB := n0_; clear n0_; (try clear hb); (try clear hb2); (try clear hk); (try clear hi)) | ((with_reducible refine gate_dst (N := 26) rfl ?_); (refine gate_guard (by rfl) ?_; dsimp only); refine goesL_ (some 26) rfl rfl Tryd.func7 (by kernel_rfl) rfl #[.int .i64 0] rfl (by (try simp only [List.map_toArray, List.map_cons, List.map_nil]); first | done | rfl | (simp only [List.length_drop, List.length_take]; rfl)) ?_; (with_reducible refine (whole_Digits.calls k 0 t159 _ A105.out).mono ?_); rintro e w151 ⟨rfl, hb⟩; refine ⟨_, rfl, ?_⟩; have n0_ := Aside0.mk (below_step (by repeat (first | (with_reducible first | exact HB.out | apply below_alloc | apply pw_below_drewN | apply below_drew1) | exact HB.out)) hb); clear HB; have HB := n0_; clear n0_; (try clear hb); (try clear hb2); (try clear hk); (try clear hi)))
            go_ret
            exact ⟨by first | rfl | (simp [errW_none, errW_some] <;> rfl) | (simp [*, errW_none, errW_some] <;> rfl), by repeat (first | (with_reducible first | exact HB.out | apply below_alloc | apply pw_below_drewN | apply below_drew1) | exact HB.out)⟩
        · rw [if_neg c104] at H
          have c104b0 : (t157.toList == ((⟨#[45]⟩ : ByteArray) ++ t158).toList) = false := beq_eq_false_iff_ne.mpr c104
          have c104b1 : (t157.toList != ((⟨#[45]⟩ : ByteArray) ++ t158).toList) = true := bne_iff_ne.mpr c104
          obtain rfl := Option.some.inj H
          go_enter Tryd.func4, Tryd.ntmps4
          go_wp2_with (first | ((with_reducible refine gate_dst (N := 19) rfl ?_); (refine gate_guard (by rfl) ?_; dsimp only); refine goesL_ (some 19) rfl rfl Tryd.func7 (by kernel_rfl) rfl #[.int .i64 (wrap64 (-a0))] rfl (by (try simp only [List.map_toArray, List.map_cons, List.map_nil]); first | done | rfl | (simp only [List.length_drop, List.length_take]; rfl)) ?_; (with_reducible refine (whole_Digits.calls k (wrap64 (-a0)) t157 _ A101.out).mono ?_); rintro e w152 ⟨rfl, hb⟩; refine ⟨_, rfl, ?_⟩; have n0_ := Aside0.mk (below_step (by repeat (first | (with_reducible first | exact HB.out | apply below_alloc | apply pw_below_drewN | apply below_drew1) | exact HB.out)) hb); clear HB; have HB := n0_; clear n0_; (try clear hb); (try clear hb2); (try clear hk); (try clear hi)) | ((with_reducible refine gate_dst (N := 21) rfl ?_); (refine gate_guard (by rfl) ?_; dsimp only); refine goesL_ (some 21) rfl rfl Tryd.func7 (by kernel_rfl) rfl #[.int .i64 a0] rfl (by (try simp only [List.map_toArray, List.map_cons, List.map_nil]); first | done | rfl | (simp only [List.length_drop, List.length_take]; rfl)) ?_; (with_reducible refine (whole_Digits.calls k a0 t158 _ A102.out).mono ?_); rintro e w153 ⟨rfl, hb⟩; refine ⟨_, rfl, ?_⟩; have n0_ := Aside0.mk (below_step (by repeat (first | (with_reducible first | exact HB.out | apply below_alloc | apply pw_below_drewN | apply below_drew1) | exact HB.out)) hb); clear HB; have HB := n0_; clear n0_; (try clear hb); (try clear hb2); (try clear hk); (try clear hi)))
          go_ret
          exact ⟨by first | rfl | (simp [errW_none, errW_some] <;> rfl) | (simp [*, errW_none, errW_some] <;> rfl), by repeat (first | (with_reducible first | exact HB.out | apply below_alloc | apply pw_below_drewN | apply below_drew1) | exact HB.out)⟩
      · rw [if_neg c103] at H
        exact absurd H (by simp)
    · rw [if_neg c100] at H
      have c100b0 : decide (0 < a0) = false := decide_eq_false c100
      clear c100
      replace H := Option.bind_eq_some_iff.mp H
      obtain ⟨t163, A1540, H⟩ := H
      replace H : (if t163.toList = ([48] : List UInt8) then ((whole_Valid.f k a1).bind fun t164 => (if t164 = true then (peeragelaw02_WholeSigns.l0 k a1 a2 a1 0) else ((whole_Plain.f k a1).bind fun t165 => (if t165.toList = ([] : List UInt8) then ((whole_Compare.f k a1 (⟨#[48]⟩ : ByteArray)).bind fun t166 => (some (t166 == (-1)))) else (some false))))) else (some false)) = some r := H
      have A154 := Aside0.mk A1540
      clear A1540
      by_cases c155 : t163.toList = ([48] : List UInt8)
      · rw [if_pos c155] at H
        have c155b0 : (t163.toList == ([48] : List UInt8)) = true := beq_iff_eq.mpr c155
        have c155b1 : (t163.toList != ([48] : List UInt8)) = false := bne_eq_false_iff_eq.mpr c155
        clear c155
        replace H := Option.bind_eq_some_iff.mp H
        obtain ⟨t164, A1560, H⟩ := H
        replace H : (if t164 = true then (peeragelaw02_WholeSigns.l0 k a1 a2 a1 0) else ((whole_Plain.f k a1).bind fun t165 => (if t165.toList = ([] : List UInt8) then ((whole_Compare.f k a1 (⟨#[48]⟩ : ByteArray)).bind fun t166 => (some (t166 == (-1)))) else (some false)))) = some r := H
        have A156 := Aside0.mk A1560
        clear A1560
        by_cases c157 : t164 = true
        · subst c157
          have H1 : (peeragelaw02_WholeSigns.l0 k a1 a2 a1 0) = some r := by rw [if_pos rfl] at H; exact H
          clear H
          have H := H1
          clear H1
          have H' := Aside0.mk H
          clear H
          go_enter Tryd.func4, Tryd.ntmps4
          go_wp2_with (first | (go_at_call 7; (with_reducible refine (whole_Digits.calls k 0 t163 _ A154.out).mono ?_); rintro e w158 ⟨rfl, hb⟩; have n0_ := Aside0.mk (below_step (by repeat (first | (with_reducible first | exact HB.out | apply below_alloc | apply pw_below_drewN | apply below_drew1) | exact HB.out)) hb); clear HB; have HB := n0_; clear n0_; (try clear hb); (try clear hb2); (try clear hk); (try clear hi)) | ((with_reducible refine gate_callee (f := 10) rfl ?_); refine goesL_ (some 30) rfl rfl Tryd.func10 (by kernel_rfl) rfl #[.string a1] rfl (by (try simp only [List.map_toArray, List.map_cons, List.map_nil]); first | done | rfl | (simp only [List.length_drop, List.length_take]; rfl)) ?_; (with_reducible refine (whole_Valid.calls k a1 true _ A156.out).mono ?_); rintro e w159 ⟨rfl, hb⟩; refine ⟨_, rfl, ?_⟩; have n0_ := Aside0.mk (below_step (by repeat (first | (with_reducible first | exact HB.out | apply below_alloc | apply pw_below_drewN | apply below_drew1) | exact HB.out)) hb); clear HB; have HB := n0_; clear n0_; (try clear hb); (try clear hb2); (try clear hk); (try clear hi)))
          go_loopg [7, 8] k (fun kq v7 v8 w' => ∃ (x7_1 : ByteArray) (x8_1 : Int), v7 = .string x7_1 ∧ v8 = .int .i64 x8_1 ∧ Aside0 (peeragelaw02_WholeSigns.l0 kq a1 a2 x7_1 x8_1 = some r) ∧ Aside0 (kq ≤ k) ∧ Aside0 (Below w.heap.size w w'))
          case atStart => exact ⟨(a1), (0), (by first | rfl | (simp; done) | (simp [*]; done)), (by first | rfl | (simp; done) | (simp [*]; done)), H', ⟨Nat.le_refl _⟩, ⟨by repeat (first | (with_reducible first | exact HB.out | apply below_alloc | apply pw_below_drewN | apply below_drew1) | exact HB.out)⟩⟩
          case round =>
            clear H'
            try clear c1
            try clear p1
            try clear q1
            try clear hx1
            try clear qi1
            try clear c2
            try clear p2
            try clear q2
            try clear hx2
            try clear qi2
            try clear c3
            try clear c4
            try clear c4b0
            try clear c4b1
            try clear c5
            try clear c5b0
            try clear c5b1
            try clear c6
            try clear c6b0
            try clear c6b1
            try clear p6
            try clear q6
            try clear hx6
            try clear qi6
            try clear c7
            try clear c7b0
            try clear c9
            try clear c10
            try clear c10b0
            try clear c10b1
            try clear c10b2
            try clear c11
            try clear c11b0
            try clear c11b1
            try clear p11
            try clear q11
            try clear hx11
            try clear qi11
            try clear c12
            try clear c13
            try clear c13b0
            try clear c13b1
            try clear c15
            try clear c20
            try clear c20b0
            try clear c21
            try clear c21b0
            try clear c21b1
            try clear p22
            try clear q22
            try clear hx22
            try clear qi22
            try clear c23
            try clear c23b0
            try clear c23b1
            try clear c24
            try clear c24b0
            try clear c24b1
            try clear c25
            try clear c25b0
            try clear c25b1
            try clear c25b2
            try clear c26
            try clear c26b0
            try clear c26b1
            try clear c26b2
            try clear c29
            try clear c29b0
            try clear c29b1
            try clear c31
            try clear c31b0
            try clear c31b1
            try clear c43
            try clear c43b0
            try clear c43b1
            try clear c62
            try clear c62b0
            try clear c62b1
            try clear c64
            try clear p64
            try clear c67
            try clear c67b0
            try clear c68
            try clear c68b0
            try clear c68b1
            try clear p69
            try clear q69
            try clear hx69
            try clear qi69
            try clear c70
            try clear c70b0
            try clear c70b1
            try clear c71
            try clear c71b0
            try clear c71b1
            try clear c72
            try clear c72b0
            try clear c72b1
            try clear c72b2
            try clear c73
            try clear c73b0
            try clear c73b1
            try clear c73b2
            try clear c76
            try clear c76b0
            try clear c76b1
            try clear c78
            try clear c78b0
            try clear c78b1
            try clear c90
            try clear c90b0
            try clear c90b1
            try clear c100
            try clear c100b0
            try clear c103
            try clear c103b0
            try clear c103b1
            try clear c103b2
            try clear c104
            try clear c104b0
            try clear c104b1
            try clear c106
            try clear c106b0
            try clear c106b1
            try clear c108
            try clear c113
            try clear c113b0
            try clear c114
            try clear c114b0
            try clear c114b1
            try clear p115
            try clear q115
            try clear hx115
            try clear qi115
            try clear c116
            try clear c116b0
            try clear c116b1
            try clear c117
            try clear c117b0
            try clear c117b1
            try clear c118
            try clear c118b0
            try clear c118b1
            try clear c118b2
            try clear c119
            try clear c119b0
            try clear c119b1
            try clear c119b2
            try clear c122
            try clear c122b0
            try clear c122b1
            try clear c124
            try clear c124b0
            try clear c124b1
            try clear c136
            try clear c136b0
            try clear c136b1
            try clear c155
            try clear c155b0
            try clear c155b1
            try clear c157
            try clear p115
            try clear p2
            try clear p22
            try clear p6
            try clear p64
            try clear p69
            try clear q115
            try clear q2
            try clear q22
            try clear q6
            try clear q69
            obtain ⟨x7_1, x8_1, rfl, rfl, HA, HK1, HB⟩ := hrel
            cases gk with
            | zero => exact absurd HA.out (by simp [peeragelaw02_WholeSigns.l0])
            | succ k1 =>
              have H := HA.out
              clear HA
              simp only [peeragelaw02_WholeSigns.l0] at H
              by_cases c160 : x8_1 < (Go.bits .and .i64 a2 7)
              · rw [if_pos c160] at H
                have c160b0 : decide (x8_1 < (Go.bits .and .i64 a2 7)) = true := decide_eq_true c160
                clear c160
                by_cases c161 : 0 < (x7_1.size : Int)
                · rw [if_pos c161] at H
                  have c161b0 : decide (0 < (x7_1.size : Int)) = true := decide_eq_true c161
                  have c161b1 : decide (0 < x7_1.size) = true := decide_eq_true (by omega)
                  clear c161
                  by_cases c163 : (bt x7_1 0) = 45
                  · rw [if_pos c163] at H
                    have c163b0 : ((bt x7_1 0) == 45) = true := beq_iff_eq.mpr c163
                    have c163b1 : ((bt x7_1 0) != 45) = false := bne_eq_false_iff_eq.mpr c163
                    clear c163
                    by_cases c164 : 1 ≤ (x7_1.size : Int)
                    · rw [if_pos c164] at H
                      have c164b0 := eq_true c164
                      have c164b1 : decide (1 ≤ (x7_1.size : Int)) = true := decide_eq_true c164
                      clear c164
                      by_cases c165 : 2 + (x7_1.extract 1 x7_1.size).size ≤ 9223372036854775807
                      · rw [if_pos c165] at H
                        have c165b0 := eq_true c165
                        have c165b1 : decide (2 + (x7_1.extract 1 x7_1.size).size ≤ 9223372036854775807) = true := decide_eq_true c165
                        try have c165b2 : (9223372036854775807 < 2 + (x7_1.extract 1 x7_1.size).size) = False := eq_false (Nat.not_lt.2 c165)
                        have c165e : (x7_1.extract 1 x7_1.size).size = x7_1.size - 1 := by simp
                        have c165b3 : (9223372036854775807 < 2 + (x7_1.size - 1)) = False := eq_false (by omega)
                        have c165b4 : 2 + (x7_1.size - 1) ≤ 9223372036854775807 := by omega
                        clear c165e
                        have H' := Aside0.mk H
                        clear H
                        have p162 : 0 ≤ (0 : Int) := (by omega)
                        have q162 : 0 < x7_1.size := (by have : (0 : Int) < (x7_1.size : Int) := of_decide_eq_true (by first | (with_reducible assumption) | assumption); omega)
                        have hx162 : ∀ h : 0 < x7_1.size, ((x7_1[0]'h).toNat : Int) = bt x7_1 0 := bt_at x7_1 0
                        clear p162
                        have qi162 : (0 < (x7_1.size : Int)) = True := eq_true (of_decide_eq_true (by first | (with_reducible assumption) | assumption))
                        replace q162 := eq_true q162
                        go_wp2
                        go_roundg k1
                        case measure => have := HK1.out; omega
                        case rel => exact ⟨((⟨#[45, 48]⟩ : ByteArray) ++ (x7_1.extract 1 x7_1.size)), (wrap64 (x8_1 + 1)), (by first | rfl | (simp; done) | (simp [*]; done)), (by first | rfl | (simp; done) | (simp [*]; done)), H', ⟨by have := HK1.out; omega⟩, ⟨by repeat (first | (with_reducible first | exact HB.out | apply below_alloc | apply pw_below_drewN | apply below_drew1) | exact HB.out)⟩⟩
                      · rw [if_neg c165] at H
                        exact absurd H (by simp)
                    · rw [if_neg c164] at H
                      exact absurd H (by simp)
                  · rw [if_neg c163] at H
                    have c163b0 : ((bt x7_1 0) == 45) = false := beq_eq_false_iff_ne.mpr c163
                    have c163b1 : ((bt x7_1 0) != 45) = true := bne_iff_ne.mpr c163
                    by_cases c166 : 1 + x7_1.size ≤ 9223372036854775807
                    · rw [if_pos c166] at H
                      have c166b0 := eq_true c166
                      have c166b1 : decide (1 + x7_1.size ≤ 9223372036854775807) = true := decide_eq_true c166
                      try have c166b2 : (9223372036854775807 < 1 + x7_1.size) = False := eq_false (Nat.not_lt.2 c166)
                      have H' := Aside0.mk H
                      clear H
                      have p162 : 0 ≤ (0 : Int) := (by omega)
                      have q162 : 0 < x7_1.size := (by have : (0 : Int) < (x7_1.size : Int) := of_decide_eq_true (by first | (with_reducible assumption) | assumption); omega)
                      have hx162 : ∀ h : 0 < x7_1.size, ((x7_1[0]'h).toNat : Int) = bt x7_1 0 := bt_at x7_1 0
                      clear p162
                      have qi162 : (0 < (x7_1.size : Int)) = True := eq_true (of_decide_eq_true (by first | (with_reducible assumption) | assumption))
                      replace q162 := eq_true q162
                      go_wp2
                      go_roundg k1
                      case measure => have := HK1.out; omega
                      case rel => exact ⟨((⟨#[48]⟩ : ByteArray) ++ x7_1), (wrap64 (x8_1 + 1)), (by first | rfl | (simp; done) | (simp [*]; done)), (by first | rfl | (simp; done) | (simp [*]; done)), H', ⟨by have := HK1.out; omega⟩, ⟨by repeat (first | (with_reducible first | exact HB.out | apply below_alloc | apply pw_below_drewN | apply below_drew1) | exact HB.out)⟩⟩
                    · rw [if_neg c166] at H
                      exact absurd H (by simp)
                · rw [if_neg c161] at H
                  exact absurd H (by simp)
              · rw [if_neg c160] at H
                have c160b0 : decide (x8_1 < (Go.bits .and .i64 a2 7)) = false := decide_eq_false c160
                clear c160
                replace H := Option.bind_eq_some_iff.mp H
                obtain ⟨t147, A1670, H⟩ := H
                replace H : ((whole_Plain.f k1 a1).bind fun t148 => (if t147.toList = t148.toList then ((whole_Compare.f k1 x7_1 a1).bind fun t149 => (if t149 = 0 then ((whole_Valid.f k1 x7_1).bind fun t150 => (some t150)) else (some false))) else (some false))) = some r := H
                have A167 := Aside0.mk A1670
                clear A1670
                replace H := Option.bind_eq_some_iff.mp H
                obtain ⟨t148, A1680, H⟩ := H
                replace H : (if t147.toList = t148.toList then ((whole_Compare.f k1 x7_1 a1).bind fun t149 => (if t149 = 0 then ((whole_Valid.f k1 x7_1).bind fun t150 => (some t150)) else (some false))) else (some false)) = some r := H
                have A168 := Aside0.mk A1680
                clear A1680
                by_cases c169 : t147.toList = t148.toList
                · rw [if_pos c169] at H
                  have c169b0 : (t147.toList == t148.toList) = true := beq_iff_eq.mpr c169
                  have c169b1 : (t147.toList != t148.toList) = false := bne_eq_false_iff_eq.mpr c169
                  clear c169
                  replace H := Option.bind_eq_some_iff.mp H
                  obtain ⟨t149, A1700, H⟩ := H
                  replace H : (if t149 = 0 then ((whole_Valid.f k1 x7_1).bind fun t150 => (some t150)) else (some false)) = some r := H
                  have A170 := Aside0.mk A1700
                  clear A1700
                  by_cases c171 : t149 = 0
                  · rw [if_pos c171] at H
                    have c171b0 : (t149 == 0) = true := beq_iff_eq.mpr c171
                    have c171b1 : (t149 != 0) = false := bne_eq_false_iff_eq.mpr c171
                    clear c171
                    replace H := Option.bind_eq_some_iff.mp H
                    obtain ⟨t150, A1720, H⟩ := H
                    replace H : (some t150) = some r := H
                    have A172 := Aside0.mk A1720
                    clear A1720
                    obtain rfl := Option.some.inj H
                    go_wp2_with (first | ((with_reducible refine gate_callee (f := 9) rfl ?_); refine goesL_ (some 56) rfl rfl Tryd.func9 (by kernel_rfl) rfl #[.string x7_1] rfl (by (try simp only [List.map_toArray, List.map_cons, List.map_nil]); first | done | rfl | (simp only [List.length_drop, List.length_take]; rfl)) ?_; (with_reducible refine (whole_Plain.calls k1 x7_1 t147 _ A167.out).mono ?_); rintro e w173 ⟨rfl, hb⟩; refine ⟨_, rfl, ?_⟩; have n0_ := Aside0.mk (below_step (by repeat (first | (with_reducible first | exact HB.out | apply below_alloc | apply pw_below_drewN | apply below_drew1) | exact HB.out)) hb); clear HB; have HB := n0_; clear n0_; (try clear hb); (try clear hb2); (try clear hk); (try clear hi)) | ((with_reducible refine gate_callee (f := 9) rfl ?_); refine goesL_ (some 58) rfl rfl Tryd.func9 (by kernel_rfl) rfl #[.string a1] rfl (by (try simp only [List.map_toArray, List.map_cons, List.map_nil]); first | done | rfl | (simp only [List.length_drop, List.length_take]; rfl)) ?_; (with_reducible refine (whole_Plain.calls k1 a1 t148 _ A168.out).mono ?_); rintro e w174 ⟨rfl, hb⟩; refine ⟨_, rfl, ?_⟩; have n0_ := Aside0.mk (below_step (by repeat (first | (with_reducible first | exact HB.out | apply below_alloc | apply pw_below_drewN | apply below_drew1) | exact HB.out)) hb); clear HB; have HB := n0_; clear n0_; (try clear hb); (try clear hb2); (try clear hk); (try clear hi)) | (go_at_call 8; (with_reducible refine (whole_Compare.calls k1 x7_1 a1 t149 _ A170.out).mono ?_); rintro e w175 ⟨rfl, hb⟩; have n0_ := Aside0.mk (below_step (by repeat (first | (with_reducible first | exact HB.out | apply below_alloc | apply pw_below_drewN | apply below_drew1) | exact HB.out)) hb); clear HB; have HB := n0_; clear n0_; (try clear hb); (try clear hb2); (try clear hk); (try clear hi)) | (go_at_call 10; (with_reducible refine (whole_Valid.calls k1 x7_1 t150 _ A172.out).mono ?_); rintro e w176 ⟨rfl, hb⟩; have n0_ := Aside0.mk (below_step (by repeat (first | (with_reducible first | exact HB.out | apply below_alloc | apply pw_below_drewN | apply below_drew1) | exact HB.out)) hb); clear HB; have HB := n0_; clear n0_; (try clear hb); (try clear hb2); (try clear hk); (try clear hi)))
                    go_ret
                    exact ⟨by first | rfl | (simp [errW_none, errW_some] <;> rfl) | (simp [*, errW_none, errW_some] <;> rfl), by repeat (first | (with_reducible first | exact HB.out | apply below_alloc | apply pw_below_drewN | apply below_drew1) | exact HB.out)⟩
                  · rw [if_neg c171] at H
                    have c171b0 : (t149 == 0) = false := beq_eq_false_iff_ne.mpr c171
                    have c171b1 : (t149 != 0) = true := bne_iff_ne.mpr c171
                    obtain rfl := Option.some.inj H
                    go_wp2_with (first | ((with_reducible refine gate_callee (f := 9) rfl ?_); refine goesL_ (some 56) rfl rfl Tryd.func9 (by kernel_rfl) rfl #[.string x7_1] rfl (by (try simp only [List.map_toArray, List.map_cons, List.map_nil]); first | done | rfl | (simp only [List.length_drop, List.length_take]; rfl)) ?_; (with_reducible refine (whole_Plain.calls k1 x7_1 t147 _ A167.out).mono ?_); rintro e w177 ⟨rfl, hb⟩; refine ⟨_, rfl, ?_⟩; have n0_ := Aside0.mk (below_step (by repeat (first | (with_reducible first | exact HB.out | apply below_alloc | apply pw_below_drewN | apply below_drew1) | exact HB.out)) hb); clear HB; have HB := n0_; clear n0_; (try clear hb); (try clear hb2); (try clear hk); (try clear hi)) | ((with_reducible refine gate_callee (f := 9) rfl ?_); refine goesL_ (some 58) rfl rfl Tryd.func9 (by kernel_rfl) rfl #[.string a1] rfl (by (try simp only [List.map_toArray, List.map_cons, List.map_nil]); first | done | rfl | (simp only [List.length_drop, List.length_take]; rfl)) ?_; (with_reducible refine (whole_Plain.calls k1 a1 t148 _ A168.out).mono ?_); rintro e w178 ⟨rfl, hb⟩; refine ⟨_, rfl, ?_⟩; have n0_ := Aside0.mk (below_step (by repeat (first | (with_reducible first | exact HB.out | apply below_alloc | apply pw_below_drewN | apply below_drew1) | exact HB.out)) hb); clear HB; have HB := n0_; clear n0_; (try clear hb); (try clear hb2); (try clear hk); (try clear hi)) | (go_at_call 8; (with_reducible refine (whole_Compare.calls k1 x7_1 a1 t149 _ A170.out).mono ?_); rintro e w179 ⟨rfl, hb⟩; have n0_ := Aside0.mk (below_step (by repeat (first | (with_reducible first | exact HB.out | apply below_alloc | apply pw_below_drewN | apply below_drew1) | exact HB.out)) hb); clear HB; have HB := n0_; clear n0_; (try clear hb); (try clear hb2); (try clear hk); (try clear hi)))
                    go_ret
                    exact ⟨by first | rfl | (simp [errW_none, errW_some] <;> rfl) | (simp [*, errW_none, errW_some] <;> rfl), by repeat (first | (with_reducible first | exact HB.out | apply below_alloc | apply pw_below_drewN | apply below_drew1) | exact HB.out)⟩
                · rw [if_neg c169] at H
                  have c169b0 : (t147.toList == t148.toList) = false := beq_eq_false_iff_ne.mpr c169
                  have c169b1 : (t147.toList != t148.toList) = true := bne_iff_ne.mpr c169
                  obtain rfl := Option.some.inj H
                  go_wp2_with (first | ((with_reducible refine gate_callee (f := 9) rfl ?_); refine goesL_ (some 56) rfl rfl Tryd.func9 (by kernel_rfl) rfl #[.string x7_1] rfl (by (try simp only [List.map_toArray, List.map_cons, List.map_nil]); first | done | rfl | (simp only [List.length_drop, List.length_take]; rfl)) ?_; (with_reducible refine (whole_Plain.calls k1 x7_1 t147 _ A167.out).mono ?_); rintro e w180 ⟨rfl, hb⟩; refine ⟨_, rfl, ?_⟩; have n0_ := Aside0.mk (below_step (by repeat (first | (with_reducible first | exact HB.out | apply below_alloc | apply pw_below_drewN | apply below_drew1) | exact HB.out)) hb); clear HB; have HB := n0_; clear n0_; (try clear hb); (try clear hb2); (try clear hk); (try clear hi)) | ((with_reducible refine gate_callee (f := 9) rfl ?_); refine goesL_ (some 58) rfl rfl Tryd.func9 (by kernel_rfl) rfl #[.string a1] rfl (by (try simp only [List.map_toArray, List.map_cons, List.map_nil]); first | done | rfl | (simp only [List.length_drop, List.length_take]; rfl)) ?_; (with_reducible refine (whole_Plain.calls k1 a1 t148 _ A168.out).mono ?_); rintro e w181 ⟨rfl, hb⟩; refine ⟨_, rfl, ?_⟩; have n0_ := Aside0.mk (below_step (by repeat (first | (with_reducible first | exact HB.out | apply below_alloc | apply pw_below_drewN | apply below_drew1) | exact HB.out)) hb); clear HB; have HB := n0_; clear n0_; (try clear hb); (try clear hb2); (try clear hk); (try clear hi)))
                  go_ret
                  exact ⟨by first | rfl | (simp [errW_none, errW_some] <;> rfl) | (simp [*, errW_none, errW_some] <;> rfl), by repeat (first | (with_reducible first | exact HB.out | apply below_alloc | apply pw_below_drewN | apply below_drew1) | exact HB.out)⟩
        · replace c157 := Bool.eq_false_iff.mpr c157
          subst c157
          have H1 : ((whole_Plain.f k a1).bind fun t165 => (if t165.toList = ([] : List UInt8) then ((whole_Compare.f k a1 (⟨#[48]⟩ : ByteArray)).bind fun t166 => (some (t166 == (-1)))) else (some false))) = some r := by rw [if_neg (show ¬ (false = true) by decide)] at H; exact H
          clear H
          have H := H1
          clear H1
          replace H := Option.bind_eq_some_iff.mp H
          obtain ⟨t165, A1820, H⟩ := H
          replace H : (if t165.toList = ([] : List UInt8) then ((whole_Compare.f k a1 (⟨#[48]⟩ : ByteArray)).bind fun t166 => (some (t166 == (-1)))) else (some false)) = some r := H
          have A182 := Aside0.mk A1820
          clear A1820
          by_cases c183 : t165.toList = ([] : List UInt8)
          · rw [if_pos c183] at H
            have c183b0 : (t165.toList == ([] : List UInt8)) = true := beq_iff_eq.mpr c183
            have c183b1 : (t165.toList != ([] : List UInt8)) = false := bne_eq_false_iff_eq.mpr c183
            clear c183
            replace H := Option.bind_eq_some_iff.mp H
            obtain ⟨t166, A1840, H⟩ := H
            replace H : (some (t166 == (-1))) = some r := H
            have A184 := Aside0.mk A1840
            clear A1840
            obtain rfl := Option.some.inj H
            go_enter Tryd.func4, Tryd.ntmps4
            go_wp2_with (first | (go_at_call 7; (with_reducible refine (whole_Digits.calls k 0 t163 _ A154.out).mono ?_); rintro e w185 ⟨rfl, hb⟩; have n0_ := Aside0.mk (below_step (by repeat (first | (with_reducible first | exact HB.out | apply below_alloc | apply pw_below_drewN | apply below_drew1) | exact HB.out)) hb); clear HB; have HB := n0_; clear n0_; (try clear hb); (try clear hb2); (try clear hk); (try clear hi)) | ((with_reducible refine gate_callee (f := 10) rfl ?_); refine goesL_ (some 30) rfl rfl Tryd.func10 (by kernel_rfl) rfl #[.string a1] rfl (by (try simp only [List.map_toArray, List.map_cons, List.map_nil]); first | done | rfl | (simp only [List.length_drop, List.length_take]; rfl)) ?_; (with_reducible refine (whole_Valid.calls k a1 false _ A156.out).mono ?_); rintro e w186 ⟨rfl, hb⟩; refine ⟨_, rfl, ?_⟩; have n0_ := Aside0.mk (below_step (by repeat (first | (with_reducible first | exact HB.out | apply below_alloc | apply pw_below_drewN | apply below_drew1) | exact HB.out)) hb); clear HB; have HB := n0_; clear n0_; (try clear hb); (try clear hb2); (try clear hk); (try clear hi)) | ((with_reducible refine gate_callee (f := 9) rfl ?_); refine goesL_ (some 33) rfl rfl Tryd.func9 (by kernel_rfl) rfl #[.string a1] rfl (by (try simp only [List.map_toArray, List.map_cons, List.map_nil]); first | done | rfl | (simp only [List.length_drop, List.length_take]; rfl)) ?_; (with_reducible refine (whole_Plain.calls k a1 t165 _ A182.out).mono ?_); rintro e w187 ⟨rfl, hb⟩; refine ⟨_, rfl, ?_⟩; have n0_ := Aside0.mk (below_step (by repeat (first | (with_reducible first | exact HB.out | apply below_alloc | apply pw_below_drewN | apply below_drew1) | exact HB.out)) hb); clear HB; have HB := n0_; clear n0_; (try clear hb); (try clear hb2); (try clear hk); (try clear hi)) | (go_at_call 8; (with_reducible refine (whole_Compare.calls k a1 (⟨#[48]⟩ : ByteArray) t166 _ A184.out).mono ?_); rintro e w188 ⟨rfl, hb⟩; have n0_ := Aside0.mk (below_step (by repeat (first | (with_reducible first | exact HB.out | apply below_alloc | apply pw_below_drewN | apply below_drew1) | exact HB.out)) hb); clear HB; have HB := n0_; clear n0_; (try clear hb); (try clear hb2); (try clear hk); (try clear hi)))
            go_ret
            exact ⟨by first | rfl | (simp [errW_none, errW_some] <;> rfl) | (simp [*, errW_none, errW_some] <;> rfl), by repeat (first | (with_reducible first | exact HB.out | apply below_alloc | apply pw_below_drewN | apply below_drew1) | exact HB.out)⟩
          · rw [if_neg c183] at H
            have c183b0 : (t165.toList == ([] : List UInt8)) = false := beq_eq_false_iff_ne.mpr c183
            have c183b1 : (t165.toList != ([] : List UInt8)) = true := bne_iff_ne.mpr c183
            obtain rfl := Option.some.inj H
            go_enter Tryd.func4, Tryd.ntmps4
            go_wp2_with (first | (go_at_call 7; (with_reducible refine (whole_Digits.calls k 0 t163 _ A154.out).mono ?_); rintro e w189 ⟨rfl, hb⟩; have n0_ := Aside0.mk (below_step (by repeat (first | (with_reducible first | exact HB.out | apply below_alloc | apply pw_below_drewN | apply below_drew1) | exact HB.out)) hb); clear HB; have HB := n0_; clear n0_; (try clear hb); (try clear hb2); (try clear hk); (try clear hi)) | ((with_reducible refine gate_callee (f := 10) rfl ?_); refine goesL_ (some 30) rfl rfl Tryd.func10 (by kernel_rfl) rfl #[.string a1] rfl (by (try simp only [List.map_toArray, List.map_cons, List.map_nil]); first | done | rfl | (simp only [List.length_drop, List.length_take]; rfl)) ?_; (with_reducible refine (whole_Valid.calls k a1 false _ A156.out).mono ?_); rintro e w190 ⟨rfl, hb⟩; refine ⟨_, rfl, ?_⟩; have n0_ := Aside0.mk (below_step (by repeat (first | (with_reducible first | exact HB.out | apply below_alloc | apply pw_below_drewN | apply below_drew1) | exact HB.out)) hb); clear HB; have HB := n0_; clear n0_; (try clear hb); (try clear hb2); (try clear hk); (try clear hi)) | ((with_reducible refine gate_callee (f := 9) rfl ?_); refine goesL_ (some 33) rfl rfl Tryd.func9 (by kernel_rfl) rfl #[.string a1] rfl (by (try simp only [List.map_toArray, List.map_cons, List.map_nil]); first | done | rfl | (simp only [List.length_drop, List.length_take]; rfl)) ?_; (with_reducible refine (whole_Plain.calls k a1 t165 _ A182.out).mono ?_); rintro e w191 ⟨rfl, hb⟩; refine ⟨_, rfl, ?_⟩; have n0_ := Aside0.mk (below_step (by repeat (first | (with_reducible first | exact HB.out | apply below_alloc | apply pw_below_drewN | apply below_drew1) | exact HB.out)) hb); clear HB; have HB := n0_; clear n0_; (try clear hb); (try clear hb2); (try clear hk); (try clear hi)))
            go_ret
            exact ⟨by first | rfl | (simp [errW_none, errW_some] <;> rfl) | (simp [*, errW_none, errW_some] <;> rfl), by repeat (first | (with_reducible first | exact HB.out | apply below_alloc | apply pw_below_drewN | apply below_drew1) | exact HB.out)⟩
      · rw [if_neg c155] at H
        have c155b0 : (t163.toList == ([48] : List UInt8)) = false := beq_eq_false_iff_ne.mpr c155
        have c155b1 : (t163.toList != ([48] : List UInt8)) = true := bne_iff_ne.mpr c155
        obtain rfl := Option.some.inj H
        go_enter Tryd.func4, Tryd.ntmps4
        go_wp2_with (first | ((with_reducible refine gate_dst (N := 26) rfl ?_); (refine gate_guard (by rfl) ?_; dsimp only); refine goesL_ (some 26) rfl rfl Tryd.func7 (by kernel_rfl) rfl #[.int .i64 0] rfl (by (try simp only [List.map_toArray, List.map_cons, List.map_nil]); first | done | rfl | (simp only [List.length_drop, List.length_take]; rfl)) ?_; (with_reducible refine (whole_Digits.calls k 0 t163 _ A154.out).mono ?_); rintro e w192 ⟨rfl, hb⟩; refine ⟨_, rfl, ?_⟩; have n0_ := Aside0.mk (below_step (by repeat (first | (with_reducible first | exact HB.out | apply below_alloc | apply pw_below_drewN | apply below_drew1) | exact HB.out)) hb); clear HB; have HB := n0_; clear n0_; (try clear hb); (try clear hb2); (try clear hk); (try clear hi)))
        go_ret
        exact ⟨by first | rfl | (simp [errW_none, errW_some] <;> rfl) | (simp [*, errW_none, errW_some] <;> rfl), by repeat (first | (with_reducible first | exact HB.out | apply below_alloc | apply pw_below_drewN | apply below_drew1) | exact HB.out)⟩

/-- THE ONE PURE STATEMENT of peeragelaw02_WholeSigns: yours. -/
def peeragelaw02_WholeSigns.Pure : Prop := ∀ (a0 : Int) (a1 : ByteArray) (a2 : Int), (Lit.int .i64 a0).wf = true → a1.size ≤ 140737488351232 → (Lit.int .i64 a2).wf = true → ∃ k, peeragelaw02_WholeSigns.f k a0 a1 a2 = some true
theorem peeragelaw02_WholeSigns.walk (P : peeragelaw02_WholeSigns.Pure) (a0 : Int) (a1 : ByteArray) (a2 : Int) (w : World) (w0 : (Lit.int .i64 a0).wf = true) (w1 : a1.size ≤ 140737488351232) (w2 : (Lit.int .i64 a2).wf = true) :
    Calls Tryd.prog 4 #[.int .i64 a0, .string a1, .int .i64 a2] w fun e w' => e = .returned (.bool true) ∧ Below w.heap.size w w' := by
  obtain ⟨k, h⟩ := P a0 a1 a2 w0 w1 w2
  refine (peeragelaw02_WholeSigns.calls k a0 a1 a2 true w h).mono ?_
  rintro e w' ⟨rfl, hd⟩
  exact ⟨rfl, hd⟩

end Go.Proofs.YtcbppladofnnlaaDoor.LWholeSigns
