/- Functions that a law calls, and the walk of the law itself, told by a program of this session (pp.py) over the kit printer; no condition beyond the statement itself; not trusted: Lean checks it. -/
import Derived.Test.YtmhjplbloeamiaaLEscapePlainx0
namespace Go.Proofs.Ytmhjplbloeamiaa.LEscapePlain
open Go.RowKit Go.Proofs.Ytmhjplbloeamiaa.H Go.Proofs.YtmhjplbloeamiaaW.PrintWords Go.Proofs.YtmhjplbloeamiaaW.PrintLast Go.Proofs.YtmhjplbloeamiaaW.PrintMore
attribute [local go_sem] max2_int min2_int max_two min_two max_three min_three max_four min_four   -- for this text's walks alone
set_option linter.unusedVariables false
set_option linter.unusedSimpArgs false

/-! ### peeragelaw10_EscapePlain: function 3 -/
mutual
def peeragelaw10_EscapePlain.l0 : Nat → ByteArray → ByteArray → Int → Option (Bool)
  | 0, _, _, _ => none
  | k + 1, x0, x3, x4 => if x4 < (x3.size : Int) then (if 0 ≤ x4 then (if (bt x3 x4) = 92 then (peeragelaw10_EscapePlain.l0 k x0 x3 (wrap64 ((wrap64 (x4 + 1)) + 1))) else (if (bt x3 x4) = 34 then (some false) else (if (bt x3 x4) = 43 then (some false) else (if (bt x3 x4) = 44 then (some false) else (if (bt x3 x4) = 59 then (some false) else (if (bt x3 x4) = 60 then (some false) else (if (bt x3 x4) = 62 then (some false) else (if (bt x3 x4) = 61 then (some false) else (if (bt x3 x4) < 32 then (some false) else (if (bt x3 x4) = 127 then (some false) else (peeragelaw10_EscapePlain.l0 k x0 x3 (wrap64 (x4 + 1))))))))))))) else (none)) else ((escape_Filter.f x0).bind fun t111 => (peeragelaw10_EscapePlain.l1 k x0 x3 t111 0))
def peeragelaw10_EscapePlain.l1 : Nat → ByteArray → ByteArray → ByteArray → Int → Option (Bool)
  | 0, _, _, _, _ => none
  | k + 1, x0, x3, x6, x7 => if x7 < (x6.size : Int) then (if 0 ≤ x7 then (if (bt x6 x7) = 42 then (some false) else (if (bt x6 x7) = 40 then (some false) else (if (bt x6 x7) = 41 then (some false) else (if (bt x6 x7) = 0 then (some false) else (peeragelaw10_EscapePlain.l1 k x0 x3 x6 (wrap64 (x7 + 1))))))) else (none)) else (if (x3.size : Int) ≥ (x0.size : Int) then (if (x6.size : Int) ≥ (x0.size : Int) then ((escape_Hex.f x0).bind fun t112 => (if (t112.size : Int) = (wrap64 (2 * (x0.size : Int))) then ((escape_Put.f (⟨#[97]⟩ : ByteArray)).bind fun t113 => (some (t113.toList == ([97] : List UInt8)))) else (some false))) else (some false)) else (some false))
end
def peeragelaw10_EscapePlain.f (k : Nat) (a0 : ByteArray) : Option (Bool) := if (a0.size : Int) > 600 then (if 0 ≤ 600 then (if 600 ≤ (a0.size : Int) then ((escape_Put.f (a0.extract 0 600)).bind fun t110 => (peeragelaw10_EscapePlain.l0 k (a0.extract 0 600) t110 0)) else (none)) else (none)) else ((escape_Put.f a0).bind fun t114 => (peeragelaw10_EscapePlain.l0 k a0 t114 0))
theorem peeragelaw10_EscapePlain.mono_l : ∀ k, (∀ y0 y1 y2, LeO (peeragelaw10_EscapePlain.l0 k y0 y1 y2) (peeragelaw10_EscapePlain.l0 (k + 1) y0 y1 y2)) ∧ (∀ y0 y1 y2 y3, LeO (peeragelaw10_EscapePlain.l1 k y0 y1 y2 y3) (peeragelaw10_EscapePlain.l1 (k + 1) y0 y1 y2 y3))
  | 0 => ⟨fun _ _ _ r h => by simp [peeragelaw10_EscapePlain.l0] at h, fun _ _ _ _ r h => by simp [peeragelaw10_EscapePlain.l1] at h⟩
  | k + 1 => by
    obtain ⟨ih0, ih1⟩ := peeragelaw10_EscapePlain.mono_l k
    refine ⟨?_, ?_⟩
    · intro y0 y1 y2
      unfold peeragelaw10_EscapePlain.l0
      repeat' first
      | (with_reducible exact ih0 _ _ _)
      | (with_reducible exact ih1 _ _ _ _)
      | (with_reducible exact LeO.refl _)
      | (with_reducible exact LeO.none _)
      | (with_reducible refine LeO.ite ?_ ?_)
      | (with_reducible refine LeO.bind ?_ (fun _ => ?_))
      | exact ih0 _ _ _
      | exact ih1 _ _ _ _
      | exact LeO.none _
      | refine LeO.ite ?_ ?_
      | refine LeO.bind ?_ (fun _ => ?_)
    · intro y0 y1 y2 y3
      unfold peeragelaw10_EscapePlain.l1
      repeat' first
      | (with_reducible exact ih0 _ _ _)
      | (with_reducible exact ih1 _ _ _ _)
      | (with_reducible exact LeO.refl _)
      | (with_reducible exact LeO.none _)
      | (with_reducible refine LeO.ite ?_ ?_)
      | (with_reducible refine LeO.bind ?_ (fun _ => ?_))
      | exact ih0 _ _ _
      | exact ih1 _ _ _ _
      | exact LeO.none _
      | refine LeO.ite ?_ ?_
      | refine LeO.bind ?_ (fun _ => ?_)
theorem peeragelaw10_EscapePlain.mono : ∀ a0 k, LeO (peeragelaw10_EscapePlain.f k a0) (peeragelaw10_EscapePlain.f (k + 1) a0) := by
  intro a0 k
  obtain ⟨ih0, ih1⟩ := peeragelaw10_EscapePlain.mono_l k
  unfold peeragelaw10_EscapePlain.f
  repeat' first
      | (with_reducible exact ih0 _ _ _)
      | (with_reducible exact ih1 _ _ _ _)
      | (with_reducible exact LeO.refl _)
      | (with_reducible exact LeO.none _)
      | (with_reducible refine LeO.ite ?_ ?_)
      | (with_reducible refine LeO.bind ?_ (fun _ => ?_))
      | exact ih0 _ _ _
      | exact ih1 _ _ _ _
      | exact LeO.none _
      | refine LeO.ite ?_ ?_
      | refine LeO.bind ?_ (fun _ => ?_)
set_option maxHeartbeats 2000000 in
set_option maxRecDepth 100000 in
theorem peeragelaw10_EscapePlain.calls (k : Nat) (a0 : ByteArray) (r : Bool) (w : World) (h : peeragelaw10_EscapePlain.f k a0 = some r) :
    Calls Try.prog 3 #[.string a0] w fun e w' => e = .returned (.bool r) ∧ Below w.heap.size w w' := by
  have HB := Aside0.mk (Below.refl w.heap.size w)
  have H : (if (a0.size : Int) > 600 then (if 0 ≤ 600 then (if 600 ≤ (a0.size : Int) then ((escape_Put.f (a0.extract 0 600)).bind fun t110 => (peeragelaw10_EscapePlain.l0 k (a0.extract 0 600) t110 0)) else (none)) else (none)) else ((escape_Put.f a0).bind fun t114 => (peeragelaw10_EscapePlain.l0 k a0 t114 0))) = some r := h
  clear h
  by_cases c2 : (a0.size : Int) > 600
  · rw [if_pos c2] at H
    have c2b0 : decide (600 < (a0.size : Int)) = true := decide_eq_true c2
    have c2b1 : decide (600 < a0.size) = true := decide_eq_true (by omega)
    clear c2
    by_cases c3 : 0 ≤ 600
    · rw [if_pos c3] at H
      have c3b0 := eq_true c3
      have c3b1 : decide (0 ≤ 600) = true := decide_eq_true c3
      clear c3
      by_cases c4 : 600 ≤ (a0.size : Int)
      · rw [if_pos c4] at H
        have c4b0 := eq_true c4
        have c4b1 : decide (600 ≤ (a0.size : Int)) = true := decide_eq_true c4
        clear c4
        replace H := Option.bind_eq_some_iff.mp H
        obtain ⟨t110, A50, H⟩ := H
        replace H : (peeragelaw10_EscapePlain.l0 k (a0.extract 0 600) t110 0) = some r := H
        have A5 := Aside0.mk A50
        clear A50
        have H' := Aside0.mk H
        clear H
        go_enter Try.func3, Try.ntmps3
        go_wp2_with (first | ((with_reducible refine gate_callee (f := 6) rfl ?_); refine goesL_ (some 14) rfl rfl Try.func6 (by kernel_rfl) rfl #[.string (a0.extract 0 600)] rfl (by (try simp only [List.map_toArray, List.map_cons, List.map_nil]); first | done | rfl | (simp only [List.length_drop, List.length_take]; rfl)) ?_; (with_reducible refine (escape_Put.calls (a0.extract 0 600) t110 _ A5.out).mono ?_); rintro e w6 ⟨rfl, hb⟩; refine ⟨_, rfl, ?_⟩; have n0_ := Aside0.mk (below_step (by repeat (first | (with_reducible first | exact HB.out | apply below_alloc | apply pw_below_drewN | apply below_drew1) | exact HB.out)) hb); clear HB; have HB := n0_; clear n0_; (try clear hb); (try clear hb2); (try clear hk); (try clear hi)))
        go_loopg [4] k (fun kq v4 w' => ∃ (x4_1 : Int), v4 = .int .i64 x4_1 ∧ Aside0 (peeragelaw10_EscapePlain.l0 kq (a0.extract 0 600) t110 x4_1 = some r) ∧ Aside0 (kq ≤ k) ∧ Aside0 (Below w.heap.size w w'))
        case atStart => exact ⟨(0), (by first | rfl | (simp; done) | (simp [*]; done)), H', ⟨Nat.le_refl _⟩, ⟨by repeat (first | (with_reducible first | exact HB.out | apply below_alloc | apply pw_below_drewN | apply below_drew1) | exact HB.out)⟩⟩
        case round =>
          clear H'
          try clear c2
          try clear c2b0
          try clear c2b1
          try clear p2
          try clear c3
          try clear c3b0
          try clear c3b1
          try clear c4
          try clear c4b0
          try clear c4b1
          try clear c6
          obtain ⟨x4_1, rfl, HA, HK1, HB⟩ := hrel
          cases gk with
          | zero => exact absurd HA.out (by simp [peeragelaw10_EscapePlain.l0])
          | succ k1 =>
            have H := HA.out
            clear HA
            simp only [peeragelaw10_EscapePlain.l0] at H
            by_cases c7 : x4_1 < (t110.size : Int)
            · rw [if_pos c7] at H
              have c7b0 : decide (x4_1 < (t110.size : Int)) = true := decide_eq_true c7
              clear c7
              by_cases c8 : 0 ≤ x4_1
              · rw [if_pos c8] at H
                have c8b0 : decide (0 ≤ x4_1) = true := decide_eq_true c8
                clear c8
                by_cases c10 : (bt t110 x4_1) = 92
                · rw [if_pos c10] at H
                  have c10b0 : ((bt t110 x4_1) == 92) = true := beq_iff_eq.mpr c10
                  have c10b1 : ((bt t110 x4_1) != 92) = false := bne_eq_false_iff_eq.mpr c10
                  clear c10
                  have H' := Aside0.mk H
                  clear H
                  have p9 : 0 ≤ (x4_1 : Int) := of_decide_eq_true (by first | (with_reducible assumption) | assumption)
                  have q9 : x4_1 < (t110.size : Int) := of_decide_eq_true (by first | (with_reducible assumption) | assumption)
                  have hx9 := bt_at t110 x4_1
                  replace p9 := eq_true p9
                  replace q9 := eq_true q9
                  go_wp2
                  go_roundg k1
                  case measure => have := HK1.out; omega
                  case rel => exact ⟨(wrap64 ((wrap64 (x4_1 + 1)) + 1)), (by first | rfl | (simp; done) | (simp [*]; done)), H', ⟨by have := HK1.out; omega⟩, ⟨by repeat (first | (with_reducible first | exact HB.out | apply below_alloc | apply pw_below_drewN | apply below_drew1) | exact HB.out)⟩⟩
                · rw [if_neg c10] at H
                  have c10b0 : ((bt t110 x4_1) == 92) = false := beq_eq_false_iff_ne.mpr c10
                  have c10b1 : ((bt t110 x4_1) != 92) = true := bne_iff_ne.mpr c10
                  by_cases c12 : (bt t110 x4_1) = 34
                  · rw [if_pos c12] at H
                    have c12b0 : ((bt t110 x4_1) == 34) = true := beq_iff_eq.mpr c12
                    have c12b1 : ((bt t110 x4_1) != 34) = false := bne_eq_false_iff_eq.mpr c12
                    clear c12
                    obtain rfl := Option.some.inj H
                    have p9 : 0 ≤ (x4_1 : Int) := of_decide_eq_true (by first | (with_reducible assumption) | assumption)
                    have q9 : x4_1 < (t110.size : Int) := of_decide_eq_true (by first | (with_reducible assumption) | assumption)
                    have hx9 := bt_at t110 x4_1
                    replace p9 := eq_true p9
                    replace q9 := eq_true q9
                    have p11 : 0 ≤ (x4_1 : Int) := of_decide_eq_true (by first | (with_reducible assumption) | assumption)
                    have q11 : x4_1 < (t110.size : Int) := of_decide_eq_true (by first | (with_reducible assumption) | assumption)
                    have hx11 := bt_at t110 x4_1
                    replace p11 := eq_true p11
                    replace q11 := eq_true q11
                    go_wp2
                    go_ret
                    exact ⟨by first | rfl | (simp [errW_none, errW_some] <;> rfl) | (simp [*, errW_none, errW_some] <;> rfl), by repeat (first | (with_reducible first | exact HB.out | apply below_alloc | apply pw_below_drewN | apply below_drew1) | exact HB.out)⟩
                  · rw [if_neg c12] at H
                    have c12b0 : ((bt t110 x4_1) == 34) = false := beq_eq_false_iff_ne.mpr c12
                    have c12b1 : ((bt t110 x4_1) != 34) = true := bne_iff_ne.mpr c12
                    by_cases c13 : (bt t110 x4_1) = 43
                    · rw [if_pos c13] at H
                      have c13b0 : ((bt t110 x4_1) == 43) = true := beq_iff_eq.mpr c13
                      have c13b1 : ((bt t110 x4_1) != 43) = false := bne_eq_false_iff_eq.mpr c13
                      clear c13
                      obtain rfl := Option.some.inj H
                      have p9 : 0 ≤ (x4_1 : Int) := of_decide_eq_true (by first | (with_reducible assumption) | assumption)
                      have q9 : x4_1 < (t110.size : Int) := of_decide_eq_true (by first | (with_reducible assumption) | assumption)
                      have hx9 := bt_at t110 x4_1
                      replace p9 := eq_true p9
                      replace q9 := eq_true q9
                      have p11 : 0 ≤ (x4_1 : Int) := of_decide_eq_true (by first | (with_reducible assumption) | assumption)
                      have q11 : x4_1 < (t110.size : Int) := of_decide_eq_true (by first | (with_reducible assumption) | assumption)
                      have hx11 := bt_at t110 x4_1
                      replace p11 := eq_true p11
                      replace q11 := eq_true q11
                      go_wp2
                      go_ret
                      exact ⟨by first | rfl | (simp [errW_none, errW_some] <;> rfl) | (simp [*, errW_none, errW_some] <;> rfl), by repeat (first | (with_reducible first | exact HB.out | apply below_alloc | apply pw_below_drewN | apply below_drew1) | exact HB.out)⟩
                    · rw [if_neg c13] at H
                      have c13b0 : ((bt t110 x4_1) == 43) = false := beq_eq_false_iff_ne.mpr c13
                      have c13b1 : ((bt t110 x4_1) != 43) = true := bne_iff_ne.mpr c13
                      by_cases c14 : (bt t110 x4_1) = 44
                      · rw [if_pos c14] at H
                        have c14b0 : ((bt t110 x4_1) == 44) = true := beq_iff_eq.mpr c14
                        have c14b1 : ((bt t110 x4_1) != 44) = false := bne_eq_false_iff_eq.mpr c14
                        clear c14
                        obtain rfl := Option.some.inj H
                        have p9 : 0 ≤ (x4_1 : Int) := of_decide_eq_true (by first | (with_reducible assumption) | assumption)
                        have q9 : x4_1 < (t110.size : Int) := of_decide_eq_true (by first | (with_reducible assumption) | assumption)
                        have hx9 := bt_at t110 x4_1
                        replace p9 := eq_true p9
                        replace q9 := eq_true q9
                        have p11 : 0 ≤ (x4_1 : Int) := of_decide_eq_true (by first | (with_reducible assumption) | assumption)
                        have q11 : x4_1 < (t110.size : Int) := of_decide_eq_true (by first | (with_reducible assumption) | assumption)
                        have hx11 := bt_at t110 x4_1
                        replace p11 := eq_true p11
                        replace q11 := eq_true q11
                        go_wp2
                        go_ret
                        exact ⟨by first | rfl | (simp [errW_none, errW_some] <;> rfl) | (simp [*, errW_none, errW_some] <;> rfl), by repeat (first | (with_reducible first | exact HB.out | apply below_alloc | apply pw_below_drewN | apply below_drew1) | exact HB.out)⟩
                      · rw [if_neg c14] at H
                        have c14b0 : ((bt t110 x4_1) == 44) = false := beq_eq_false_iff_ne.mpr c14
                        have c14b1 : ((bt t110 x4_1) != 44) = true := bne_iff_ne.mpr c14
                        by_cases c15 : (bt t110 x4_1) = 59
                        · rw [if_pos c15] at H
                          have c15b0 : ((bt t110 x4_1) == 59) = true := beq_iff_eq.mpr c15
                          have c15b1 : ((bt t110 x4_1) != 59) = false := bne_eq_false_iff_eq.mpr c15
                          clear c15
                          obtain rfl := Option.some.inj H
                          have p9 : 0 ≤ (x4_1 : Int) := of_decide_eq_true (by first | (with_reducible assumption) | assumption)
                          have q9 : x4_1 < (t110.size : Int) := of_decide_eq_true (by first | (with_reducible assumption) | assumption)
                          have hx9 := bt_at t110 x4_1
                          replace p9 := eq_true p9
                          replace q9 := eq_true q9
                          have p11 : 0 ≤ (x4_1 : Int) := of_decide_eq_true (by first | (with_reducible assumption) | assumption)
                          have q11 : x4_1 < (t110.size : Int) := of_decide_eq_true (by first | (with_reducible assumption) | assumption)
                          have hx11 := bt_at t110 x4_1
                          replace p11 := eq_true p11
                          replace q11 := eq_true q11
                          go_wp2
                          go_ret
                          exact ⟨by first | rfl | (simp [errW_none, errW_some] <;> rfl) | (simp [*, errW_none, errW_some] <;> rfl), by repeat (first | (with_reducible first | exact HB.out | apply below_alloc | apply pw_below_drewN | apply below_drew1) | exact HB.out)⟩
                        · rw [if_neg c15] at H
                          have c15b0 : ((bt t110 x4_1) == 59) = false := beq_eq_false_iff_ne.mpr c15
                          have c15b1 : ((bt t110 x4_1) != 59) = true := bne_iff_ne.mpr c15
                          by_cases c16 : (bt t110 x4_1) = 60
                          · rw [if_pos c16] at H
                            have c16b0 : ((bt t110 x4_1) == 60) = true := beq_iff_eq.mpr c16
                            have c16b1 : ((bt t110 x4_1) != 60) = false := bne_eq_false_iff_eq.mpr c16
                            clear c16
                            obtain rfl := Option.some.inj H
                            have p9 : 0 ≤ (x4_1 : Int) := of_decide_eq_true (by first | (with_reducible assumption) | assumption)
                            have q9 : x4_1 < (t110.size : Int) := of_decide_eq_true (by first | (with_reducible assumption) | assumption)
                            have hx9 := bt_at t110 x4_1
                            replace p9 := eq_true p9
                            replace q9 := eq_true q9
                            have p11 : 0 ≤ (x4_1 : Int) := of_decide_eq_true (by first | (with_reducible assumption) | assumption)
                            have q11 : x4_1 < (t110.size : Int) := of_decide_eq_true (by first | (with_reducible assumption) | assumption)
                            have hx11 := bt_at t110 x4_1
                            replace p11 := eq_true p11
                            replace q11 := eq_true q11
                            go_wp2
                            go_ret
                            exact ⟨by first | rfl | (simp [errW_none, errW_some] <;> rfl) | (simp [*, errW_none, errW_some] <;> rfl), by repeat (first | (with_reducible first | exact HB.out | apply below_alloc | apply pw_below_drewN | apply below_drew1) | exact HB.out)⟩
                          · rw [if_neg c16] at H
                            have c16b0 : ((bt t110 x4_1) == 60) = false := beq_eq_false_iff_ne.mpr c16
                            have c16b1 : ((bt t110 x4_1) != 60) = true := bne_iff_ne.mpr c16
                            by_cases c17 : (bt t110 x4_1) = 62
                            · rw [if_pos c17] at H
                              have c17b0 : ((bt t110 x4_1) == 62) = true := beq_iff_eq.mpr c17
                              have c17b1 : ((bt t110 x4_1) != 62) = false := bne_eq_false_iff_eq.mpr c17
                              clear c17
                              obtain rfl := Option.some.inj H
                              have p9 : 0 ≤ (x4_1 : Int) := of_decide_eq_true (by first | (with_reducible assumption) | assumption)
                              have q9 : x4_1 < (t110.size : Int) := of_decide_eq_true (by first | (with_reducible assumption) | assumption)
                              have hx9 := bt_at t110 x4_1
                              replace p9 := eq_true p9
                              replace q9 := eq_true q9
                              have p11 : 0 ≤ (x4_1 : Int) := of_decide_eq_true (by first | (with_reducible assumption) | assumption)
                              have q11 : x4_1 < (t110.size : Int) := of_decide_eq_true (by first | (with_reducible assumption) | assumption)
                              have hx11 := bt_at t110 x4_1
                              replace p11 := eq_true p11
                              replace q11 := eq_true q11
                              go_wp2
                              go_ret
                              exact ⟨by first | rfl | (simp [errW_none, errW_some] <;> rfl) | (simp [*, errW_none, errW_some] <;> rfl), by repeat (first | (with_reducible first | exact HB.out | apply below_alloc | apply pw_below_drewN | apply below_drew1) | exact HB.out)⟩
                            · rw [if_neg c17] at H
                              have c17b0 : ((bt t110 x4_1) == 62) = false := beq_eq_false_iff_ne.mpr c17
                              have c17b1 : ((bt t110 x4_1) != 62) = true := bne_iff_ne.mpr c17
                              by_cases c18 : (bt t110 x4_1) = 61
                              · rw [if_pos c18] at H
                                have c18b0 : ((bt t110 x4_1) == 61) = true := beq_iff_eq.mpr c18
                                have c18b1 : ((bt t110 x4_1) != 61) = false := bne_eq_false_iff_eq.mpr c18
                                clear c18
                                obtain rfl := Option.some.inj H
                                have p9 : 0 ≤ (x4_1 : Int) := of_decide_eq_true (by first | (with_reducible assumption) | assumption)
                                have q9 : x4_1 < (t110.size : Int) := of_decide_eq_true (by first | (with_reducible assumption) | assumption)
                                have hx9 := bt_at t110 x4_1
                                replace p9 := eq_true p9
                                replace q9 := eq_true q9
                                have p11 : 0 ≤ (x4_1 : Int) := of_decide_eq_true (by first | (with_reducible assumption) | assumption)
                                have q11 : x4_1 < (t110.size : Int) := of_decide_eq_true (by first | (with_reducible assumption) | assumption)
                                have hx11 := bt_at t110 x4_1
                                replace p11 := eq_true p11
                                replace q11 := eq_true q11
                                go_wp2
                                go_ret
                                exact ⟨by first | rfl | (simp [errW_none, errW_some] <;> rfl) | (simp [*, errW_none, errW_some] <;> rfl), by repeat (first | (with_reducible first | exact HB.out | apply below_alloc | apply pw_below_drewN | apply below_drew1) | exact HB.out)⟩
                              · rw [if_neg c18] at H
                                have c18b0 : ((bt t110 x4_1) == 61) = false := beq_eq_false_iff_ne.mpr c18
                                have c18b1 : ((bt t110 x4_1) != 61) = true := bne_iff_ne.mpr c18
                                by_cases c19 : (bt t110 x4_1) < 32
                                · rw [if_pos c19] at H
                                  have c19b0 : decide ((bt t110 x4_1) < 32) = true := decide_eq_true c19
                                  clear c19
                                  obtain rfl := Option.some.inj H
                                  have p9 : 0 ≤ (x4_1 : Int) := of_decide_eq_true (by first | (with_reducible assumption) | assumption)
                                  have q9 : x4_1 < (t110.size : Int) := of_decide_eq_true (by first | (with_reducible assumption) | assumption)
                                  have hx9 := bt_at t110 x4_1
                                  replace p9 := eq_true p9
                                  replace q9 := eq_true q9
                                  have p11 : 0 ≤ (x4_1 : Int) := of_decide_eq_true (by first | (with_reducible assumption) | assumption)
                                  have q11 : x4_1 < (t110.size : Int) := of_decide_eq_true (by first | (with_reducible assumption) | assumption)
                                  have hx11 := bt_at t110 x4_1
                                  replace p11 := eq_true p11
                                  replace q11 := eq_true q11
                                  go_wp2
                                  go_ret
                                  exact ⟨by first | rfl | (simp [errW_none, errW_some] <;> rfl) | (simp [*, errW_none, errW_some] <;> rfl), by repeat (first | (with_reducible first | exact HB.out | apply below_alloc | apply pw_below_drewN | apply below_drew1) | exact HB.out)⟩
                                · rw [if_neg c19] at H
                                  have c19b0 : decide ((bt t110 x4_1) < 32) = false := decide_eq_false c19
                                  clear c19
                                  by_cases c20 : (bt t110 x4_1) = 127
                                  · rw [if_pos c20] at H
                                    have c20b0 : ((bt t110 x4_1) == 127) = true := beq_iff_eq.mpr c20
                                    have c20b1 : ((bt t110 x4_1) != 127) = false := bne_eq_false_iff_eq.mpr c20
                                    clear c20
                                    obtain rfl := Option.some.inj H
                                    have p9 : 0 ≤ (x4_1 : Int) := of_decide_eq_true (by first | (with_reducible assumption) | assumption)
                                    have q9 : x4_1 < (t110.size : Int) := of_decide_eq_true (by first | (with_reducible assumption) | assumption)
                                    have hx9 := bt_at t110 x4_1
                                    replace p9 := eq_true p9
                                    replace q9 := eq_true q9
                                    have p11 : 0 ≤ (x4_1 : Int) := of_decide_eq_true (by first | (with_reducible assumption) | assumption)
                                    have q11 : x4_1 < (t110.size : Int) := of_decide_eq_true (by first | (with_reducible assumption) | assumption)
                                    have hx11 := bt_at t110 x4_1
                                    replace p11 := eq_true p11
                                    replace q11 := eq_true q11
                                    go_wp2
                                    go_ret
                                    exact ⟨by first | rfl | (simp [errW_none, errW_some] <;> rfl) | (simp [*, errW_none, errW_some] <;> rfl), by repeat (first | (with_reducible first | exact HB.out | apply below_alloc | apply pw_below_drewN | apply below_drew1) | exact HB.out)⟩
                                  · rw [if_neg c20] at H
                                    have c20b0 : ((bt t110 x4_1) == 127) = false := beq_eq_false_iff_ne.mpr c20
                                    have c20b1 : ((bt t110 x4_1) != 127) = true := bne_iff_ne.mpr c20
                                    have H' := Aside0.mk H
                                    clear H
                                    have p9 : 0 ≤ (x4_1 : Int) := of_decide_eq_true (by first | (with_reducible assumption) | assumption)
                                    have q9 : x4_1 < (t110.size : Int) := of_decide_eq_true (by first | (with_reducible assumption) | assumption)
                                    have hx9 := bt_at t110 x4_1
                                    replace p9 := eq_true p9
                                    replace q9 := eq_true q9
                                    have p11 : 0 ≤ (x4_1 : Int) := of_decide_eq_true (by first | (with_reducible assumption) | assumption)
                                    have q11 : x4_1 < (t110.size : Int) := of_decide_eq_true (by first | (with_reducible assumption) | assumption)
                                    have hx11 := bt_at t110 x4_1
                                    replace p11 := eq_true p11
                                    replace q11 := eq_true q11
                                    go_wp2
                                    go_roundg k1
                                    case measure => have := HK1.out; omega
                                    case rel => exact ⟨(wrap64 (x4_1 + 1)), (by first | rfl | (simp; done) | (simp [*]; done)), H', ⟨by have := HK1.out; omega⟩, ⟨by repeat (first | (with_reducible first | exact HB.out | apply below_alloc | apply pw_below_drewN | apply below_drew1) | exact HB.out)⟩⟩
              · rw [if_neg c8] at H
                exact absurd H (by simp)
            · rw [if_neg c7] at H
              have c7b0 : decide (x4_1 < (t110.size : Int)) = false := decide_eq_false c7
              clear c7
              replace H := Option.bind_eq_some_iff.mp H
              obtain ⟨t111, A210, H⟩ := H
              replace H : (peeragelaw10_EscapePlain.l1 k1 (a0.extract 0 600) t110 t111 0) = some r := H
              have A21 := Aside0.mk A210
              clear A210
              have H' := Aside0.mk H
              clear H
              go_wp2_with (first | ((with_reducible refine gate_callee (f := 7) rfl ?_); refine goesL_ (some 65) rfl rfl Try.func7 (by kernel_rfl) rfl #[.string (a0.extract 0 600)] rfl (by (try simp only [List.map_toArray, List.map_cons, List.map_nil]); first | done | rfl | (simp only [List.length_drop, List.length_take]; rfl)) ?_; (with_reducible refine (escape_Filter.calls (a0.extract 0 600) t111 _ A21.out).mono ?_); rintro e w22 ⟨rfl, hb⟩; refine ⟨_, rfl, ?_⟩; have n0_ := Aside0.mk (below_step (by repeat (first | (with_reducible first | exact HB.out | apply below_alloc | apply pw_below_drewN | apply below_drew1) | exact HB.out)) hb); clear HB; have HB := n0_; clear n0_; (try clear hb); (try clear hb2); (try clear hk); (try clear hi)))
              go_loopg [7] k1 (fun kq v7 w' => ∃ (x7_2 : Int), v7 = .int .i64 x7_2 ∧ Aside0 (peeragelaw10_EscapePlain.l1 kq (a0.extract 0 600) t110 t111 x7_2 = some r) ∧ Aside0 (kq ≤ k1) ∧ Aside0 (Below w.heap.size w w'))
              case atStart => exact ⟨(0), (by first | rfl | (simp; done) | (simp [*]; done)), H', ⟨Nat.le_refl _⟩, ⟨by repeat (first | (with_reducible first | exact HB.out | apply below_alloc | apply pw_below_drewN | apply below_drew1) | exact HB.out)⟩⟩
              case round =>
                clear H'
                try clear c1
                try clear p1
                try clear q1
                try clear hx1
                try clear c2
                try clear c2b0
                try clear c2b1
                try clear p2
                try clear c3
                try clear c3b0
                try clear c3b1
                try clear c4
                try clear c4b0
                try clear c4b1
                try clear c6
                try clear p6
                try clear c7
                try clear c7b0
                try clear c8
                try clear c8b0
                try clear p9
                try clear q9
                try clear hx9
                try clear c10
                try clear c10b0
                try clear c10b1
                try clear p11
                try clear q11
                try clear hx11
                try clear c12
                try clear c12b0
                try clear c12b1
                try clear c13
                try clear c13b0
                try clear c13b1
                try clear c14
                try clear c14b0
                try clear c14b1
                try clear c15
                try clear c15b0
                try clear c15b1
                try clear c16
                try clear c16b0
                try clear c16b1
                try clear c17
                try clear c17b0
                try clear c17b1
                try clear c18
                try clear c18b0
                try clear c18b1
                try clear c19
                try clear c19b0
                try clear c20
                try clear c20b0
                try clear c20b1
                try clear p11
                try clear p2
                try clear p9
                try clear q11
                try clear q9
                obtain ⟨x7_2, rfl, HA, HK2, HB⟩ := hrel
                cases gk with
                | zero => exact absurd HA.out (by simp [peeragelaw10_EscapePlain.l1])
                | succ k2 =>
                  have H := HA.out
                  clear HA
                  simp only [peeragelaw10_EscapePlain.l1] at H
                  by_cases c23 : x7_2 < (t111.size : Int)
                  · rw [if_pos c23] at H
                    have c23b0 : decide (x7_2 < (t111.size : Int)) = true := decide_eq_true c23
                    clear c23
                    by_cases c24 : 0 ≤ x7_2
                    · rw [if_pos c24] at H
                      have c24b0 : decide (0 ≤ x7_2) = true := decide_eq_true c24
                      clear c24
                      by_cases c26 : (bt t111 x7_2) = 42
                      · rw [if_pos c26] at H
                        have c26b0 : ((bt t111 x7_2) == 42) = true := beq_iff_eq.mpr c26
                        have c26b1 : ((bt t111 x7_2) != 42) = false := bne_eq_false_iff_eq.mpr c26
                        clear c26
                        obtain rfl := Option.some.inj H
                        have p25 : 0 ≤ (x7_2 : Int) := of_decide_eq_true (by first | (with_reducible assumption) | assumption)
                        have q25 : x7_2 < (t111.size : Int) := of_decide_eq_true (by first | (with_reducible assumption) | assumption)
                        have hx25 := bt_at t111 x7_2
                        replace p25 := eq_true p25
                        replace q25 := eq_true q25
                        go_wp2
                        go_ret
                        exact ⟨by first | rfl | (simp [errW_none, errW_some] <;> rfl) | (simp [*, errW_none, errW_some] <;> rfl), by repeat (first | (with_reducible first | exact HB.out | apply below_alloc | apply pw_below_drewN | apply below_drew1) | exact HB.out)⟩
                      · rw [if_neg c26] at H
                        have c26b0 : ((bt t111 x7_2) == 42) = false := beq_eq_false_iff_ne.mpr c26
                        have c26b1 : ((bt t111 x7_2) != 42) = true := bne_iff_ne.mpr c26
                        by_cases c28 : (bt t111 x7_2) = 40
                        · rw [if_pos c28] at H
                          have c28b0 : ((bt t111 x7_2) == 40) = true := beq_iff_eq.mpr c28
                          have c28b1 : ((bt t111 x7_2) != 40) = false := bne_eq_false_iff_eq.mpr c28
                          clear c28
                          obtain rfl := Option.some.inj H
                          have p25 : 0 ≤ (x7_2 : Int) := of_decide_eq_true (by first | (with_reducible assumption) | assumption)
                          have q25 : x7_2 < (t111.size : Int) := of_decide_eq_true (by first | (with_reducible assumption) | assumption)
                          have hx25 := bt_at t111 x7_2
                          replace p25 := eq_true p25
                          replace q25 := eq_true q25
                          have p27 : 0 ≤ (x7_2 : Int) := of_decide_eq_true (by first | (with_reducible assumption) | assumption)
                          have q27 : x7_2 < (t111.size : Int) := of_decide_eq_true (by first | (with_reducible assumption) | assumption)
                          have hx27 := bt_at t111 x7_2
                          replace p27 := eq_true p27
                          replace q27 := eq_true q27
                          go_wp2
                          go_ret
                          exact ⟨by first | rfl | (simp [errW_none, errW_some] <;> rfl) | (simp [*, errW_none, errW_some] <;> rfl), by repeat (first | (with_reducible first | exact HB.out | apply below_alloc | apply pw_below_drewN | apply below_drew1) | exact HB.out)⟩
                        · rw [if_neg c28] at H
                          have c28b0 : ((bt t111 x7_2) == 40) = false := beq_eq_false_iff_ne.mpr c28
                          have c28b1 : ((bt t111 x7_2) != 40) = true := bne_iff_ne.mpr c28
                          by_cases c30 : (bt t111 x7_2) = 41
                          · rw [if_pos c30] at H
                            have c30b0 : ((bt t111 x7_2) == 41) = true := beq_iff_eq.mpr c30
                            have c30b1 : ((bt t111 x7_2) != 41) = false := bne_eq_false_iff_eq.mpr c30
                            clear c30
                            obtain rfl := Option.some.inj H
                            have p25 : 0 ≤ (x7_2 : Int) := of_decide_eq_true (by first | (with_reducible assumption) | assumption)
                            have q25 : x7_2 < (t111.size : Int) := of_decide_eq_true (by first | (with_reducible assumption) | assumption)
                            have hx25 := bt_at t111 x7_2
                            replace p25 := eq_true p25
                            replace q25 := eq_true q25
                            have p27 : 0 ≤ (x7_2 : Int) := of_decide_eq_true (by first | (with_reducible assumption) | assumption)
                            have q27 : x7_2 < (t111.size : Int) := of_decide_eq_true (by first | (with_reducible assumption) | assumption)
                            have hx27 := bt_at t111 x7_2
                            replace p27 := eq_true p27
                            replace q27 := eq_true q27
                            have p29 : 0 ≤ (x7_2 : Int) := of_decide_eq_true (by first | (with_reducible assumption) | assumption)
                            have q29 : x7_2 < (t111.size : Int) := of_decide_eq_true (by first | (with_reducible assumption) | assumption)
                            have hx29 := bt_at t111 x7_2
                            replace p29 := eq_true p29
                            replace q29 := eq_true q29
                            go_wp2
                            go_ret
                            exact ⟨by first | rfl | (simp [errW_none, errW_some] <;> rfl) | (simp [*, errW_none, errW_some] <;> rfl), by repeat (first | (with_reducible first | exact HB.out | apply below_alloc | apply pw_below_drewN | apply below_drew1) | exact HB.out)⟩
                          · rw [if_neg c30] at H
                            have c30b0 : ((bt t111 x7_2) == 41) = false := beq_eq_false_iff_ne.mpr c30
                            have c30b1 : ((bt t111 x7_2) != 41) = true := bne_iff_ne.mpr c30
                            by_cases c32 : (bt t111 x7_2) = 0
                            · rw [if_pos c32] at H
                              have c32b0 : ((bt t111 x7_2) == 0) = true := beq_iff_eq.mpr c32
                              have c32b1 : ((bt t111 x7_2) != 0) = false := bne_eq_false_iff_eq.mpr c32
                              clear c32
                              obtain rfl := Option.some.inj H
                              have p25 : 0 ≤ (x7_2 : Int) := of_decide_eq_true (by first | (with_reducible assumption) | assumption)
                              have q25 : x7_2 < (t111.size : Int) := of_decide_eq_true (by first | (with_reducible assumption) | assumption)
                              have hx25 := bt_at t111 x7_2
                              replace p25 := eq_true p25
                              replace q25 := eq_true q25
                              have p27 : 0 ≤ (x7_2 : Int) := of_decide_eq_true (by first | (with_reducible assumption) | assumption)
                              have q27 : x7_2 < (t111.size : Int) := of_decide_eq_true (by first | (with_reducible assumption) | assumption)
                              have hx27 := bt_at t111 x7_2
                              replace p27 := eq_true p27
                              replace q27 := eq_true q27
                              have p29 : 0 ≤ (x7_2 : Int) := of_decide_eq_true (by first | (with_reducible assumption) | assumption)
                              have q29 : x7_2 < (t111.size : Int) := of_decide_eq_true (by first | (with_reducible assumption) | assumption)
                              have hx29 := bt_at t111 x7_2
                              replace p29 := eq_true p29
                              replace q29 := eq_true q29
                              have p31 : 0 ≤ (x7_2 : Int) := of_decide_eq_true (by first | (with_reducible assumption) | assumption)
                              have q31 : x7_2 < (t111.size : Int) := of_decide_eq_true (by first | (with_reducible assumption) | assumption)
                              have hx31 := bt_at t111 x7_2
                              replace p31 := eq_true p31
                              replace q31 := eq_true q31
                              go_wp2
                              go_ret
                              exact ⟨by first | rfl | (simp [errW_none, errW_some] <;> rfl) | (simp [*, errW_none, errW_some] <;> rfl), by repeat (first | (with_reducible first | exact HB.out | apply below_alloc | apply pw_below_drewN | apply below_drew1) | exact HB.out)⟩
                            · rw [if_neg c32] at H
                              have c32b0 : ((bt t111 x7_2) == 0) = false := beq_eq_false_iff_ne.mpr c32
                              have c32b1 : ((bt t111 x7_2) != 0) = true := bne_iff_ne.mpr c32
                              have H' := Aside0.mk H
                              clear H
                              have p25 : 0 ≤ (x7_2 : Int) := of_decide_eq_true (by first | (with_reducible assumption) | assumption)
                              have q25 : x7_2 < (t111.size : Int) := of_decide_eq_true (by first | (with_reducible assumption) | assumption)
                              have hx25 := bt_at t111 x7_2
                              replace p25 := eq_true p25
                              replace q25 := eq_true q25
                              have p27 : 0 ≤ (x7_2 : Int) := of_decide_eq_true (by first | (with_reducible assumption) | assumption)
                              have q27 : x7_2 < (t111.size : Int) := of_decide_eq_true (by first | (with_reducible assumption) | assumption)
                              have hx27 := bt_at t111 x7_2
                              replace p27 := eq_true p27
                              replace q27 := eq_true q27
                              have p29 : 0 ≤ (x7_2 : Int) := of_decide_eq_true (by first | (with_reducible assumption) | assumption)
                              have q29 : x7_2 < (t111.size : Int) := of_decide_eq_true (by first | (with_reducible assumption) | assumption)
                              have hx29 := bt_at t111 x7_2
                              replace p29 := eq_true p29
                              replace q29 := eq_true q29
                              have p31 : 0 ≤ (x7_2 : Int) := of_decide_eq_true (by first | (with_reducible assumption) | assumption)
                              have q31 : x7_2 < (t111.size : Int) := of_decide_eq_true (by first | (with_reducible assumption) | assumption)
                              have hx31 := bt_at t111 x7_2
                              replace p31 := eq_true p31
                              replace q31 := eq_true q31
                              go_wp2
                              go_roundg k2
                              case measure => have := HK1.out; have := HK2.out; omega
                              case rel => exact ⟨(wrap64 (x7_2 + 1)), (by first | rfl | (simp; done) | (simp [*]; done)), H', ⟨by have := HK1.out; have := HK2.out; omega⟩, ⟨by repeat (first | (with_reducible first | exact HB.out | apply below_alloc | apply pw_below_drewN | apply below_drew1) | exact HB.out)⟩⟩
                    · rw [if_neg c24] at H
                      exact absurd H (by simp)
                  · rw [if_neg c23] at H
                    have c23b0 : decide (x7_2 < (t111.size : Int)) = false := decide_eq_false c23
                    clear c23
                    by_cases c33 : (t110.size : Int) ≥ ((a0.extract 0 600).size : Int)
                    · rw [if_pos c33] at H
                      have c33b0 : decide (((a0.extract 0 600).size : Int) ≤ (t110.size : Int)) = true := decide_eq_true c33
                      have c33b1 : decide ((a0.extract 0 600).size ≤ t110.size) = true := decide_eq_true (Int.ofNat_le.mp c33)
                      have c33z : decide (min 600 a0.size ≤ t110.size) = true := by have z_ := c33b1; rw [show (a0.extract 0 600).size = min 600 a0.size by simp] at z_; exact z_
                      clear c33
                      by_cases c34 : (t111.size : Int) ≥ ((a0.extract 0 600).size : Int)
                      · rw [if_pos c34] at H
                        have c34b0 : decide (((a0.extract 0 600).size : Int) ≤ (t111.size : Int)) = true := decide_eq_true c34
                        have c34b1 : decide ((a0.extract 0 600).size ≤ t111.size) = true := decide_eq_true (Int.ofNat_le.mp c34)
                        have c34z : decide (min 600 a0.size ≤ t111.size) = true := by have z_ := c34b1; rw [show (a0.extract 0 600).size = min 600 a0.size by simp] at z_; exact z_
                        clear c34
                        replace H := Option.bind_eq_some_iff.mp H
                        obtain ⟨t112, A350, H⟩ := H
                        replace H : (if (t112.size : Int) = (wrap64 (2 * ((a0.extract 0 600).size : Int))) then ((escape_Put.f (⟨#[97]⟩ : ByteArray)).bind fun t113 => (some (t113.toList == ([97] : List UInt8)))) else (some false)) = some r := H
                        have A35 := Aside0.mk A350
                        clear A350
                        by_cases c36 : (t112.size : Int) = (wrap64 (2 * ((a0.extract 0 600).size : Int)))
                        · rw [if_pos c36] at H
                          have c36b0 : ((t112.size : Int) == (wrap64 (2 * ((a0.extract 0 600).size : Int)))) = true := beq_iff_eq.mpr c36
                          have c36z : ((t112.size : Int) == 2 * ((min 600 a0.size : Nat) : Int)) = true := by have z_ := c36b0; rw [show (a0.extract 0 600).size = min 600 a0.size by simp, show wrap64 (2 * ((min 600 a0.size : Nat) : Int)) = 2 * ((min 600 a0.size : Nat) : Int) by unfold wrap64; omega] at z_; exact z_
                          have c36b1 : ((t112.size : Int) != (wrap64 (2 * ((a0.extract 0 600).size : Int)))) = false := bne_eq_false_iff_eq.mpr c36
                          clear c36
                          replace H := Option.bind_eq_some_iff.mp H
                          obtain ⟨t113, A370, H⟩ := H
                          replace H : (some (t113.toList == ([97] : List UInt8))) = some r := H
                          have A37 := Aside0.mk A370
                          clear A370
                          obtain rfl := Option.some.inj H
                          go_wp2_with (first | (go_at_call 8; (with_reducible refine (escape_Hex.calls (a0.extract 0 600) t112 _ A35.out).mono ?_); rintro e w38 ⟨rfl, hb⟩; have n0_ := Aside0.mk (below_step (by repeat (first | (with_reducible first | exact HB.out | apply below_alloc | apply pw_below_drewN | apply below_drew1) | exact HB.out)) hb); clear HB; have HB := n0_; clear n0_; (try clear hb); (try clear hb2); (try clear hk); (try clear hi)) | (go_at_call 6; (with_reducible refine (escape_Put.calls (⟨#[97]⟩ : ByteArray) t113 _ A37.out).mono ?_); rintro e w39 ⟨rfl, hb⟩; have n0_ := Aside0.mk (below_step (by repeat (first | (with_reducible first | exact HB.out | apply below_alloc | apply pw_below_drewN | apply below_drew1) | exact HB.out)) hb); clear HB; have HB := n0_; clear n0_; (try clear hb); (try clear hb2); (try clear hk); (try clear hi)))
                          go_ret
                          exact ⟨by first | rfl | (simp [errW_none, errW_some] <;> rfl) | (simp [*, errW_none, errW_some] <;> rfl), by repeat (first | (with_reducible first | exact HB.out | apply below_alloc | apply pw_below_drewN | apply below_drew1) | exact HB.out)⟩
                        · rw [if_neg c36] at H
                          have c36b0 : ((t112.size : Int) == (wrap64 (2 * ((a0.extract 0 600).size : Int)))) = false := beq_eq_false_iff_ne.mpr c36
                          have c36z : ((t112.size : Int) == 2 * ((min 600 a0.size : Nat) : Int)) = false := by have z_ := c36b0; rw [show (a0.extract 0 600).size = min 600 a0.size by simp, show wrap64 (2 * ((min 600 a0.size : Nat) : Int)) = 2 * ((min 600 a0.size : Nat) : Int) by unfold wrap64; omega] at z_; exact z_
                          have c36b1 : ((t112.size : Int) != (wrap64 (2 * ((a0.extract 0 600).size : Int)))) = true := bne_iff_ne.mpr c36
                          obtain rfl := Option.some.inj H
                          go_wp2_with (first | (go_at_call 8; (with_reducible refine (escape_Hex.calls (a0.extract 0 600) t112 _ A35.out).mono ?_); rintro e w40 ⟨rfl, hb⟩; have n0_ := Aside0.mk (below_step (by repeat (first | (with_reducible first | exact HB.out | apply below_alloc | apply pw_below_drewN | apply below_drew1) | exact HB.out)) hb); clear HB; have HB := n0_; clear n0_; (try clear hb); (try clear hb2); (try clear hk); (try clear hi)))
                          go_ret
                          exact ⟨by first | rfl | (simp [errW_none, errW_some] <;> rfl) | (simp [*, errW_none, errW_some] <;> rfl), by repeat (first | (with_reducible first | exact HB.out | apply below_alloc | apply pw_below_drewN | apply below_drew1) | exact HB.out)⟩
                      · rw [if_neg c34] at H
                        have c34b0 : decide (((a0.extract 0 600).size : Int) ≤ (t111.size : Int)) = false := decide_eq_false c34
                        have c34b1 : decide ((a0.extract 0 600).size ≤ t111.size) = false := decide_eq_false (fun h => c34 (Int.ofNat_le.mpr h))
                        have c34z : decide (min 600 a0.size ≤ t111.size) = false := by have z_ := c34b1; rw [show (a0.extract 0 600).size = min 600 a0.size by simp] at z_; exact z_
                        clear c34
                        obtain rfl := Option.some.inj H
                        go_wp2
                        go_ret
                        exact ⟨by first | rfl | (simp [errW_none, errW_some] <;> rfl) | (simp [*, errW_none, errW_some] <;> rfl), by repeat (first | (with_reducible first | exact HB.out | apply below_alloc | apply pw_below_drewN | apply below_drew1) | exact HB.out)⟩
                    · rw [if_neg c33] at H
                      have c33b0 : decide (((a0.extract 0 600).size : Int) ≤ (t110.size : Int)) = false := decide_eq_false c33
                      have c33b1 : decide ((a0.extract 0 600).size ≤ t110.size) = false := decide_eq_false (fun h => c33 (Int.ofNat_le.mpr h))
                      have c33z : decide (min 600 a0.size ≤ t110.size) = false := by have z_ := c33b1; rw [show (a0.extract 0 600).size = min 600 a0.size by simp] at z_; exact z_
                      clear c33
                      obtain rfl := Option.some.inj H
                      go_wp2
                      go_ret
                      exact ⟨by first | rfl | (simp [errW_none, errW_some] <;> rfl) | (simp [*, errW_none, errW_some] <;> rfl), by repeat (first | (with_reducible first | exact HB.out | apply below_alloc | apply pw_below_drewN | apply below_drew1) | exact HB.out)⟩
      · rw [if_neg c4] at H
        exact absurd H (by simp)
    · rw [if_neg c3] at H
      exact absurd H (by simp)
  · rw [if_neg c2] at H
    have c2b0 : decide (600 < (a0.size : Int)) = false := decide_eq_false c2
    have c2b1 : decide (600 < a0.size) = false := decide_eq_false (by omega)
    clear c2
    replace H := Option.bind_eq_some_iff.mp H
    obtain ⟨t114, A410, H⟩ := H
    replace H : (peeragelaw10_EscapePlain.l0 k a0 t114 0) = some r := H
    have A41 := Aside0.mk A410
    clear A410
    have H' := Aside0.mk H
    clear H
    go_enter Try.func3, Try.ntmps3
    go_wp2_with (first | ((with_reducible refine gate_callee (f := 6) rfl ?_); refine goesL_ (some 14) rfl rfl Try.func6 (by kernel_rfl) rfl #[.string a0] rfl (by (try simp only [List.map_toArray, List.map_cons, List.map_nil]); first | done | rfl | (simp only [List.length_drop, List.length_take]; rfl)) ?_; (with_reducible refine (escape_Put.calls a0 t114 _ A41.out).mono ?_); rintro e w42 ⟨rfl, hb⟩; refine ⟨_, rfl, ?_⟩; have n0_ := Aside0.mk (below_step (by repeat (first | (with_reducible first | exact HB.out | apply below_alloc | apply pw_below_drewN | apply below_drew1) | exact HB.out)) hb); clear HB; have HB := n0_; clear n0_; (try clear hb); (try clear hb2); (try clear hk); (try clear hi)))
    go_loopg [4] k (fun kq v4 w' => ∃ (x4_1 : Int), v4 = .int .i64 x4_1 ∧ Aside0 (peeragelaw10_EscapePlain.l0 kq a0 t114 x4_1 = some r) ∧ Aside0 (kq ≤ k) ∧ Aside0 (Below w.heap.size w w'))
    case atStart => exact ⟨(0), (by first | rfl | (simp; done) | (simp [*]; done)), H', ⟨Nat.le_refl _⟩, ⟨by repeat (first | (with_reducible first | exact HB.out | apply below_alloc | apply pw_below_drewN | apply below_drew1) | exact HB.out)⟩⟩
    case round =>
      clear H'
      try clear c1
      try clear p1
      try clear q1
      try clear hx1
      try clear c2
      try clear c2b0
      try clear c2b1
      try clear p2
      try clear q2
      try clear hx2
      try clear c3
      try clear c3b0
      try clear c3b1
      try clear p3
      try clear q3
      try clear hx3
      try clear c4
      try clear c4b0
      try clear c4b1
      try clear c6
      try clear p6
      try clear c7
      try clear c7b0
      try clear c8
      try clear c8b0
      try clear p9
      try clear q9
      try clear hx9
      try clear c10
      try clear c10b0
      try clear c10b1
      try clear p11
      try clear q11
      try clear hx11
      try clear c12
      try clear c12b0
      try clear c12b1
      try clear c13
      try clear c13b0
      try clear c13b1
      try clear c14
      try clear c14b0
      try clear c14b1
      try clear c15
      try clear c15b0
      try clear c15b1
      try clear c16
      try clear c16b0
      try clear c16b1
      try clear c17
      try clear c17b0
      try clear c17b1
      try clear c18
      try clear c18b0
      try clear c18b1
      try clear c19
      try clear c19b0
      try clear c20
      try clear c20b0
      try clear c20b1
      try clear c23
      try clear c23b0
      try clear c24
      try clear c24b0
      try clear p25
      try clear q25
      try clear hx25
      try clear c26
      try clear c26b0
      try clear c26b1
      try clear p27
      try clear q27
      try clear hx27
      try clear c28
      try clear c28b0
      try clear c28b1
      try clear p29
      try clear q29
      try clear hx29
      try clear c30
      try clear c30b0
      try clear c30b1
      try clear p31
      try clear q31
      try clear hx31
      try clear c32
      try clear c32b0
      try clear c32b1
      try clear c33
      try clear c33b0
      try clear c33b1
      try clear c34
      try clear c34b0
      try clear c34b1
      try clear c36
      try clear c36b0
      try clear c36b1
      try clear p1
      try clear p11
      try clear p2
      try clear p25
      try clear p27
      try clear p29
      try clear p31
      try clear p6
      try clear p9
      try clear q1
      try clear q11
      try clear q25
      try clear q27
      try clear q29
      try clear q31
      try clear q9
      obtain ⟨x4_1, rfl, HA, HK1, HB⟩ := hrel
      cases gk with
      | zero => exact absurd HA.out (by simp [peeragelaw10_EscapePlain.l0])
      | succ k1 =>
        have H := HA.out
        clear HA
        simp only [peeragelaw10_EscapePlain.l0] at H
        by_cases c43 : x4_1 < (t114.size : Int)
        · rw [if_pos c43] at H
          have c43b0 : decide (x4_1 < (t114.size : Int)) = true := decide_eq_true c43
          clear c43
          by_cases c44 : 0 ≤ x4_1
          · rw [if_pos c44] at H
            have c44b0 : decide (0 ≤ x4_1) = true := decide_eq_true c44
            clear c44
            by_cases c46 : (bt t114 x4_1) = 92
            · rw [if_pos c46] at H
              have c46b0 : ((bt t114 x4_1) == 92) = true := beq_iff_eq.mpr c46
              have c46b1 : ((bt t114 x4_1) != 92) = false := bne_eq_false_iff_eq.mpr c46
              clear c46
              have H' := Aside0.mk H
              clear H
              have p45 : 0 ≤ (x4_1 : Int) := of_decide_eq_true (by first | (with_reducible assumption) | assumption)
              have q45 : x4_1 < (t114.size : Int) := of_decide_eq_true (by first | (with_reducible assumption) | assumption)
              have hx45 := bt_at t114 x4_1
              replace p45 := eq_true p45
              replace q45 := eq_true q45
              go_wp2
              go_roundg k1
              case measure => have := HK1.out; omega
              case rel => exact ⟨(wrap64 ((wrap64 (x4_1 + 1)) + 1)), (by first | rfl | (simp; done) | (simp [*]; done)), H', ⟨by have := HK1.out; omega⟩, ⟨by repeat (first | (with_reducible first | exact HB.out | apply below_alloc | apply pw_below_drewN | apply below_drew1) | exact HB.out)⟩⟩
            · rw [if_neg c46] at H
              have c46b0 : ((bt t114 x4_1) == 92) = false := beq_eq_false_iff_ne.mpr c46
              have c46b1 : ((bt t114 x4_1) != 92) = true := bne_iff_ne.mpr c46
              by_cases c48 : (bt t114 x4_1) = 34
              · rw [if_pos c48] at H
                have c48b0 : ((bt t114 x4_1) == 34) = true := beq_iff_eq.mpr c48
                have c48b1 : ((bt t114 x4_1) != 34) = false := bne_eq_false_iff_eq.mpr c48
                clear c48
                obtain rfl := Option.some.inj H
                have p45 : 0 ≤ (x4_1 : Int) := of_decide_eq_true (by first | (with_reducible assumption) | assumption)
                have q45 : x4_1 < (t114.size : Int) := of_decide_eq_true (by first | (with_reducible assumption) | assumption)
                have hx45 := bt_at t114 x4_1
                replace p45 := eq_true p45
                replace q45 := eq_true q45
                have p47 : 0 ≤ (x4_1 : Int) := of_decide_eq_true (by first | (with_reducible assumption) | assumption)
                have q47 : x4_1 < (t114.size : Int) := of_decide_eq_true (by first | (with_reducible assumption) | assumption)
                have hx47 := bt_at t114 x4_1
                replace p47 := eq_true p47
                replace q47 := eq_true q47
                go_wp2
                go_ret
                exact ⟨by first | rfl | (simp [errW_none, errW_some] <;> rfl) | (simp [*, errW_none, errW_some] <;> rfl), by repeat (first | (with_reducible first | exact HB.out | apply below_alloc | apply pw_below_drewN | apply below_drew1) | exact HB.out)⟩
              · rw [if_neg c48] at H
                have c48b0 : ((bt t114 x4_1) == 34) = false := beq_eq_false_iff_ne.mpr c48
                have c48b1 : ((bt t114 x4_1) != 34) = true := bne_iff_ne.mpr c48
                by_cases c49 : (bt t114 x4_1) = 43
                · rw [if_pos c49] at H
                  have c49b0 : ((bt t114 x4_1) == 43) = true := beq_iff_eq.mpr c49
                  have c49b1 : ((bt t114 x4_1) != 43) = false := bne_eq_false_iff_eq.mpr c49
                  clear c49
                  obtain rfl := Option.some.inj H
                  have p45 : 0 ≤ (x4_1 : Int) := of_decide_eq_true (by first | (with_reducible assumption) | assumption)
                  have q45 : x4_1 < (t114.size : Int) := of_decide_eq_true (by first | (with_reducible assumption) | assumption)
                  have hx45 := bt_at t114 x4_1
                  replace p45 := eq_true p45
                  replace q45 := eq_true q45
                  have p47 : 0 ≤ (x4_1 : Int) := of_decide_eq_true (by first | (with_reducible assumption) | assumption)
                  have q47 : x4_1 < (t114.size : Int) := of_decide_eq_true (by first | (with_reducible assumption) | assumption)
                  have hx47 := bt_at t114 x4_1
                  replace p47 := eq_true p47
                  replace q47 := eq_true q47
                  go_wp2
                  go_ret
                  exact ⟨by first | rfl | (simp [errW_none, errW_some] <;> rfl) | (simp [*, errW_none, errW_some] <;> rfl), by repeat (first | (with_reducible first | exact HB.out | apply below_alloc | apply pw_below_drewN | apply below_drew1) | exact HB.out)⟩
                · rw [if_neg c49] at H
                  have c49b0 : ((bt t114 x4_1) == 43) = false := beq_eq_false_iff_ne.mpr c49
                  have c49b1 : ((bt t114 x4_1) != 43) = true := bne_iff_ne.mpr c49
                  by_cases c50 : (bt t114 x4_1) = 44
                  · rw [if_pos c50] at H
                    have c50b0 : ((bt t114 x4_1) == 44) = true := beq_iff_eq.mpr c50
                    have c50b1 : ((bt t114 x4_1) != 44) = false := bne_eq_false_iff_eq.mpr c50
                    clear c50
                    obtain rfl := Option.some.inj H
                    have p45 : 0 ≤ (x4_1 : Int) := of_decide_eq_true (by first | (with_reducible assumption) | assumption)
                    have q45 : x4_1 < (t114.size : Int) := of_decide_eq_true (by first | (with_reducible assumption) | assumption)
                    have hx45 := bt_at t114 x4_1
                    replace p45 := eq_true p45
                    replace q45 := eq_true q45
                    have p47 : 0 ≤ (x4_1 : Int) := of_decide_eq_true (by first | (with_reducible assumption) | assumption)
                    have q47 : x4_1 < (t114.size : Int) := of_decide_eq_true (by first | (with_reducible assumption) | assumption)
                    have hx47 := bt_at t114 x4_1
                    replace p47 := eq_true p47
                    replace q47 := eq_true q47
                    go_wp2
                    go_ret
                    exact ⟨by first | rfl | (simp [errW_none, errW_some] <;> rfl) | (simp [*, errW_none, errW_some] <;> rfl), by repeat (first | (with_reducible first | exact HB.out | apply below_alloc | apply pw_below_drewN | apply below_drew1) | exact HB.out)⟩
                  · rw [if_neg c50] at H
                    have c50b0 : ((bt t114 x4_1) == 44) = false := beq_eq_false_iff_ne.mpr c50
                    have c50b1 : ((bt t114 x4_1) != 44) = true := bne_iff_ne.mpr c50
                    by_cases c51 : (bt t114 x4_1) = 59
                    · rw [if_pos c51] at H
                      have c51b0 : ((bt t114 x4_1) == 59) = true := beq_iff_eq.mpr c51
                      have c51b1 : ((bt t114 x4_1) != 59) = false := bne_eq_false_iff_eq.mpr c51
                      clear c51
                      obtain rfl := Option.some.inj H
                      have p45 : 0 ≤ (x4_1 : Int) := of_decide_eq_true (by first | (with_reducible assumption) | assumption)
                      have q45 : x4_1 < (t114.size : Int) := of_decide_eq_true (by first | (with_reducible assumption) | assumption)
                      have hx45 := bt_at t114 x4_1
                      replace p45 := eq_true p45
                      replace q45 := eq_true q45
                      have p47 : 0 ≤ (x4_1 : Int) := of_decide_eq_true (by first | (with_reducible assumption) | assumption)
                      have q47 : x4_1 < (t114.size : Int) := of_decide_eq_true (by first | (with_reducible assumption) | assumption)
                      have hx47 := bt_at t114 x4_1
                      replace p47 := eq_true p47
                      replace q47 := eq_true q47
                      go_wp2
                      go_ret
                      exact ⟨by first | rfl | (simp [errW_none, errW_some] <;> rfl) | (simp [*, errW_none, errW_some] <;> rfl), by repeat (first | (with_reducible first | exact HB.out | apply below_alloc | apply pw_below_drewN | apply below_drew1) | exact HB.out)⟩
                    · rw [if_neg c51] at H
                      have c51b0 : ((bt t114 x4_1) == 59) = false := beq_eq_false_iff_ne.mpr c51
                      have c51b1 : ((bt t114 x4_1) != 59) = true := bne_iff_ne.mpr c51
                      by_cases c52 : (bt t114 x4_1) = 60
                      · rw [if_pos c52] at H
                        have c52b0 : ((bt t114 x4_1) == 60) = true := beq_iff_eq.mpr c52
                        have c52b1 : ((bt t114 x4_1) != 60) = false := bne_eq_false_iff_eq.mpr c52
                        clear c52
                        obtain rfl := Option.some.inj H
                        have p45 : 0 ≤ (x4_1 : Int) := of_decide_eq_true (by first | (with_reducible assumption) | assumption)
                        have q45 : x4_1 < (t114.size : Int) := of_decide_eq_true (by first | (with_reducible assumption) | assumption)
                        have hx45 := bt_at t114 x4_1
                        replace p45 := eq_true p45
                        replace q45 := eq_true q45
                        have p47 : 0 ≤ (x4_1 : Int) := of_decide_eq_true (by first | (with_reducible assumption) | assumption)
                        have q47 : x4_1 < (t114.size : Int) := of_decide_eq_true (by first | (with_reducible assumption) | assumption)
                        have hx47 := bt_at t114 x4_1
                        replace p47 := eq_true p47
                        replace q47 := eq_true q47
                        go_wp2
                        go_ret
                        exact ⟨by first | rfl | (simp [errW_none, errW_some] <;> rfl) | (simp [*, errW_none, errW_some] <;> rfl), by repeat (first | (with_reducible first | exact HB.out | apply below_alloc | apply pw_below_drewN | apply below_drew1) | exact HB.out)⟩
                      · rw [if_neg c52] at H
                        have c52b0 : ((bt t114 x4_1) == 60) = false := beq_eq_false_iff_ne.mpr c52
                        have c52b1 : ((bt t114 x4_1) != 60) = true := bne_iff_ne.mpr c52
                        by_cases c53 : (bt t114 x4_1) = 62
                        · rw [if_pos c53] at H
                          have c53b0 : ((bt t114 x4_1) == 62) = true := beq_iff_eq.mpr c53
                          have c53b1 : ((bt t114 x4_1) != 62) = false := bne_eq_false_iff_eq.mpr c53
                          clear c53
                          obtain rfl := Option.some.inj H
                          have p45 : 0 ≤ (x4_1 : Int) := of_decide_eq_true (by first | (with_reducible assumption) | assumption)
                          have q45 : x4_1 < (t114.size : Int) := of_decide_eq_true (by first | (with_reducible assumption) | assumption)
                          have hx45 := bt_at t114 x4_1
                          replace p45 := eq_true p45
                          replace q45 := eq_true q45
                          have p47 : 0 ≤ (x4_1 : Int) := of_decide_eq_true (by first | (with_reducible assumption) | assumption)
                          have q47 : x4_1 < (t114.size : Int) := of_decide_eq_true (by first | (with_reducible assumption) | assumption)
                          have hx47 := bt_at t114 x4_1
                          replace p47 := eq_true p47
                          replace q47 := eq_true q47
                          go_wp2
                          go_ret
                          exact ⟨by first | rfl | (simp [errW_none, errW_some] <;> rfl) | (simp [*, errW_none, errW_some] <;> rfl), by repeat (first | (with_reducible first | exact HB.out | apply below_alloc | apply pw_below_drewN | apply below_drew1) | exact HB.out)⟩
                        · rw [if_neg c53] at H
                          have c53b0 : ((bt t114 x4_1) == 62) = false := beq_eq_false_iff_ne.mpr c53
                          have c53b1 : ((bt t114 x4_1) != 62) = true := bne_iff_ne.mpr c53
                          by_cases c54 : (bt t114 x4_1) = 61
                          · rw [if_pos c54] at H
                            have c54b0 : ((bt t114 x4_1) == 61) = true := beq_iff_eq.mpr c54
                            have c54b1 : ((bt t114 x4_1) != 61) = false := bne_eq_false_iff_eq.mpr c54
                            clear c54
                            obtain rfl := Option.some.inj H
                            have p45 : 0 ≤ (x4_1 : Int) := of_decide_eq_true (by first | (with_reducible assumption) | assumption)
                            have q45 : x4_1 < (t114.size : Int) := of_decide_eq_true (by first | (with_reducible assumption) | assumption)
                            have hx45 := bt_at t114 x4_1
                            replace p45 := eq_true p45
                            replace q45 := eq_true q45
                            have p47 : 0 ≤ (x4_1 : Int) := of_decide_eq_true (by first | (with_reducible assumption) | assumption)
                            have q47 : x4_1 < (t114.size : Int) := of_decide_eq_true (by first | (with_reducible assumption) | assumption)
                            have hx47 := bt_at t114 x4_1
                            replace p47 := eq_true p47
                            replace q47 := eq_true q47
                            go_wp2
                            go_ret
                            exact ⟨by first | rfl | (simp [errW_none, errW_some] <;> rfl) | (simp [*, errW_none, errW_some] <;> rfl), by repeat (first | (with_reducible first | exact HB.out | apply below_alloc | apply pw_below_drewN | apply below_drew1) | exact HB.out)⟩
                          · rw [if_neg c54] at H
                            have c54b0 : ((bt t114 x4_1) == 61) = false := beq_eq_false_iff_ne.mpr c54
                            have c54b1 : ((bt t114 x4_1) != 61) = true := bne_iff_ne.mpr c54
                            by_cases c55 : (bt t114 x4_1) < 32
                            · rw [if_pos c55] at H
                              have c55b0 : decide ((bt t114 x4_1) < 32) = true := decide_eq_true c55
                              clear c55
                              obtain rfl := Option.some.inj H
                              have p45 : 0 ≤ (x4_1 : Int) := of_decide_eq_true (by first | (with_reducible assumption) | assumption)
                              have q45 : x4_1 < (t114.size : Int) := of_decide_eq_true (by first | (with_reducible assumption) | assumption)
                              have hx45 := bt_at t114 x4_1
                              replace p45 := eq_true p45
                              replace q45 := eq_true q45
                              have p47 : 0 ≤ (x4_1 : Int) := of_decide_eq_true (by first | (with_reducible assumption) | assumption)
                              have q47 : x4_1 < (t114.size : Int) := of_decide_eq_true (by first | (with_reducible assumption) | assumption)
                              have hx47 := bt_at t114 x4_1
                              replace p47 := eq_true p47
                              replace q47 := eq_true q47
                              go_wp2
                              go_ret
                              exact ⟨by first | rfl | (simp [errW_none, errW_some] <;> rfl) | (simp [*, errW_none, errW_some] <;> rfl), by repeat (first | (with_reducible first | exact HB.out | apply below_alloc | apply pw_below_drewN | apply below_drew1) | exact HB.out)⟩
                            · rw [if_neg c55] at H
                              have c55b0 : decide ((bt t114 x4_1) < 32) = false := decide_eq_false c55
                              clear c55
                              by_cases c56 : (bt t114 x4_1) = 127
                              · rw [if_pos c56] at H
                                have c56b0 : ((bt t114 x4_1) == 127) = true := beq_iff_eq.mpr c56
                                have c56b1 : ((bt t114 x4_1) != 127) = false := bne_eq_false_iff_eq.mpr c56
                                clear c56
                                obtain rfl := Option.some.inj H
                                have p45 : 0 ≤ (x4_1 : Int) := of_decide_eq_true (by first | (with_reducible assumption) | assumption)
                                have q45 : x4_1 < (t114.size : Int) := of_decide_eq_true (by first | (with_reducible assumption) | assumption)
                                have hx45 := bt_at t114 x4_1
                                replace p45 := eq_true p45
                                replace q45 := eq_true q45
                                have p47 : 0 ≤ (x4_1 : Int) := of_decide_eq_true (by first | (with_reducible assumption) | assumption)
                                have q47 : x4_1 < (t114.size : Int) := of_decide_eq_true (by first | (with_reducible assumption) | assumption)
                                have hx47 := bt_at t114 x4_1
                                replace p47 := eq_true p47
                                replace q47 := eq_true q47
                                go_wp2
                                go_ret
                                exact ⟨by first | rfl | (simp [errW_none, errW_some] <;> rfl) | (simp [*, errW_none, errW_some] <;> rfl), by repeat (first | (with_reducible first | exact HB.out | apply below_alloc | apply pw_below_drewN | apply below_drew1) | exact HB.out)⟩
                              · rw [if_neg c56] at H
                                have c56b0 : ((bt t114 x4_1) == 127) = false := beq_eq_false_iff_ne.mpr c56
                                have c56b1 : ((bt t114 x4_1) != 127) = true := bne_iff_ne.mpr c56
                                have H' := Aside0.mk H
                                clear H
                                have p45 : 0 ≤ (x4_1 : Int) := of_decide_eq_true (by first | (with_reducible assumption) | assumption)
                                have q45 : x4_1 < (t114.size : Int) := of_decide_eq_true (by first | (with_reducible assumption) | assumption)
                                have hx45 := bt_at t114 x4_1
                                replace p45 := eq_true p45
                                replace q45 := eq_true q45
                                have p47 : 0 ≤ (x4_1 : Int) := of_decide_eq_true (by first | (with_reducible assumption) | assumption)
                                have q47 : x4_1 < (t114.size : Int) := of_decide_eq_true (by first | (with_reducible assumption) | assumption)
                                have hx47 := bt_at t114 x4_1
                                replace p47 := eq_true p47
                                replace q47 := eq_true q47
                                go_wp2
                                go_roundg k1
                                case measure => have := HK1.out; omega
                                case rel => exact ⟨(wrap64 (x4_1 + 1)), (by first | rfl | (simp; done) | (simp [*]; done)), H', ⟨by have := HK1.out; omega⟩, ⟨by repeat (first | (with_reducible first | exact HB.out | apply below_alloc | apply pw_below_drewN | apply below_drew1) | exact HB.out)⟩⟩
          · rw [if_neg c44] at H
            exact absurd H (by simp)
        · rw [if_neg c43] at H
          have c43b0 : decide (x4_1 < (t114.size : Int)) = false := decide_eq_false c43
          clear c43
          replace H := Option.bind_eq_some_iff.mp H
          obtain ⟨t111, A570, H⟩ := H
          replace H : (peeragelaw10_EscapePlain.l1 k1 a0 t114 t111 0) = some r := H
          have A57 := Aside0.mk A570
          clear A570
          have H' := Aside0.mk H
          clear H
          go_wp2_with (first | ((with_reducible refine gate_callee (f := 7) rfl ?_); refine goesL_ (some 65) rfl rfl Try.func7 (by kernel_rfl) rfl #[.string a0] rfl (by (try simp only [List.map_toArray, List.map_cons, List.map_nil]); first | done | rfl | (simp only [List.length_drop, List.length_take]; rfl)) ?_; (with_reducible refine (escape_Filter.calls a0 t111 _ A57.out).mono ?_); rintro e w58 ⟨rfl, hb⟩; refine ⟨_, rfl, ?_⟩; have n0_ := Aside0.mk (below_step (by repeat (first | (with_reducible first | exact HB.out | apply below_alloc | apply pw_below_drewN | apply below_drew1) | exact HB.out)) hb); clear HB; have HB := n0_; clear n0_; (try clear hb); (try clear hb2); (try clear hk); (try clear hi)))
          go_loopg [7] k1 (fun kq v7 w' => ∃ (x7_2 : Int), v7 = .int .i64 x7_2 ∧ Aside0 (peeragelaw10_EscapePlain.l1 kq a0 t114 t111 x7_2 = some r) ∧ Aside0 (kq ≤ k1) ∧ Aside0 (Below w.heap.size w w'))
          case atStart => exact ⟨(0), (by first | rfl | (simp; done) | (simp [*]; done)), H', ⟨Nat.le_refl _⟩, ⟨by repeat (first | (with_reducible first | exact HB.out | apply below_alloc | apply pw_below_drewN | apply below_drew1) | exact HB.out)⟩⟩
          case round =>
            clear H'
            try clear c1
            try clear p1
            try clear q1
            try clear hx1
            try clear c2
            try clear c2b0
            try clear c2b1
            try clear p2
            try clear q2
            try clear hx2
            try clear c3
            try clear c3b0
            try clear c3b1
            try clear p3
            try clear q3
            try clear hx3
            try clear c4
            try clear c4b0
            try clear c4b1
            try clear p4
            try clear q4
            try clear hx4
            try clear c5
            try clear c6
            try clear p6
            try clear c7
            try clear c7b0
            try clear c8
            try clear c8b0
            try clear p9
            try clear q9
            try clear hx9
            try clear c10
            try clear c10b0
            try clear c10b1
            try clear p11
            try clear q11
            try clear hx11
            try clear c12
            try clear c12b0
            try clear c12b1
            try clear c13
            try clear c13b0
            try clear c13b1
            try clear c14
            try clear c14b0
            try clear c14b1
            try clear c15
            try clear c15b0
            try clear c15b1
            try clear c16
            try clear c16b0
            try clear c16b1
            try clear c17
            try clear c17b0
            try clear c17b1
            try clear c18
            try clear c18b0
            try clear c18b1
            try clear c19
            try clear c19b0
            try clear c20
            try clear c20b0
            try clear c20b1
            try clear c23
            try clear c23b0
            try clear c24
            try clear c24b0
            try clear p25
            try clear q25
            try clear hx25
            try clear c26
            try clear c26b0
            try clear c26b1
            try clear p27
            try clear q27
            try clear hx27
            try clear c28
            try clear c28b0
            try clear c28b1
            try clear p29
            try clear q29
            try clear hx29
            try clear c30
            try clear c30b0
            try clear c30b1
            try clear p31
            try clear q31
            try clear hx31
            try clear c32
            try clear c32b0
            try clear c32b1
            try clear c33
            try clear c33b0
            try clear c33b1
            try clear c34
            try clear c34b0
            try clear c34b1
            try clear c36
            try clear c36b0
            try clear c36b1
            try clear c43
            try clear c43b0
            try clear c44
            try clear c44b0
            try clear p45
            try clear q45
            try clear hx45
            try clear c46
            try clear c46b0
            try clear c46b1
            try clear p47
            try clear q47
            try clear hx47
            try clear c48
            try clear c48b0
            try clear c48b1
            try clear c49
            try clear c49b0
            try clear c49b1
            try clear c50
            try clear c50b0
            try clear c50b1
            try clear c51
            try clear c51b0
            try clear c51b1
            try clear c52
            try clear c52b0
            try clear c52b1
            try clear c53
            try clear c53b0
            try clear c53b1
            try clear c54
            try clear c54b0
            try clear c54b1
            try clear c55
            try clear c55b0
            try clear c56
            try clear c56b0
            try clear c56b1
            try clear p1
            try clear p11
            try clear p2
            try clear p25
            try clear p27
            try clear p29
            try clear p3
            try clear p31
            try clear p45
            try clear p47
            try clear p6
            try clear p9
            try clear q1
            try clear q11
            try clear q2
            try clear q25
            try clear q27
            try clear q29
            try clear q3
            try clear q31
            try clear q45
            try clear q47
            try clear q9
            obtain ⟨x7_2, rfl, HA, HK2, HB⟩ := hrel
            cases gk with
            | zero => exact absurd HA.out (by simp [peeragelaw10_EscapePlain.l1])
            | succ k2 =>
              have H := HA.out
              clear HA
              simp only [peeragelaw10_EscapePlain.l1] at H
              by_cases c59 : x7_2 < (t111.size : Int)
              · rw [if_pos c59] at H
                have c59b0 : decide (x7_2 < (t111.size : Int)) = true := decide_eq_true c59
                clear c59
                by_cases c60 : 0 ≤ x7_2
                · rw [if_pos c60] at H
                  have c60b0 : decide (0 ≤ x7_2) = true := decide_eq_true c60
                  clear c60
                  by_cases c62 : (bt t111 x7_2) = 42
                  · rw [if_pos c62] at H
                    have c62b0 : ((bt t111 x7_2) == 42) = true := beq_iff_eq.mpr c62
                    have c62b1 : ((bt t111 x7_2) != 42) = false := bne_eq_false_iff_eq.mpr c62
                    clear c62
                    obtain rfl := Option.some.inj H
                    have p61 : 0 ≤ (x7_2 : Int) := of_decide_eq_true (by first | (with_reducible assumption) | assumption)
                    have q61 : x7_2 < (t111.size : Int) := of_decide_eq_true (by first | (with_reducible assumption) | assumption)
                    have hx61 := bt_at t111 x7_2
                    replace p61 := eq_true p61
                    replace q61 := eq_true q61
                    go_wp2
                    go_ret
                    exact ⟨by first | rfl | (simp [errW_none, errW_some] <;> rfl) | (simp [*, errW_none, errW_some] <;> rfl), by repeat (first | (with_reducible first | exact HB.out | apply below_alloc | apply pw_below_drewN | apply below_drew1) | exact HB.out)⟩
                  · rw [if_neg c62] at H
                    have c62b0 : ((bt t111 x7_2) == 42) = false := beq_eq_false_iff_ne.mpr c62
                    have c62b1 : ((bt t111 x7_2) != 42) = true := bne_iff_ne.mpr c62
                    by_cases c64 : (bt t111 x7_2) = 40
                    · rw [if_pos c64] at H
                      have c64b0 : ((bt t111 x7_2) == 40) = true := beq_iff_eq.mpr c64
                      have c64b1 : ((bt t111 x7_2) != 40) = false := bne_eq_false_iff_eq.mpr c64
                      clear c64
                      obtain rfl := Option.some.inj H
                      have p61 : 0 ≤ (x7_2 : Int) := of_decide_eq_true (by first | (with_reducible assumption) | assumption)
                      have q61 : x7_2 < (t111.size : Int) := of_decide_eq_true (by first | (with_reducible assumption) | assumption)
                      have hx61 := bt_at t111 x7_2
                      replace p61 := eq_true p61
                      replace q61 := eq_true q61
                      have p63 : 0 ≤ (x7_2 : Int) := of_decide_eq_true (by first | (with_reducible assumption) | assumption)
                      have q63 : x7_2 < (t111.size : Int) := of_decide_eq_true (by first | (with_reducible assumption) | assumption)
                      have hx63 := bt_at t111 x7_2
                      replace p63 := eq_true p63
                      replace q63 := eq_true q63
                      go_wp2
                      go_ret
                      exact ⟨by first | rfl | (simp [errW_none, errW_some] <;> rfl) | (simp [*, errW_none, errW_some] <;> rfl), by repeat (first | (with_reducible first | exact HB.out | apply below_alloc | apply pw_below_drewN | apply below_drew1) | exact HB.out)⟩
                    · rw [if_neg c64] at H
                      have c64b0 : ((bt t111 x7_2) == 40) = false := beq_eq_false_iff_ne.mpr c64
                      have c64b1 : ((bt t111 x7_2) != 40) = true := bne_iff_ne.mpr c64
                      by_cases c66 : (bt t111 x7_2) = 41
                      · rw [if_pos c66] at H
                        have c66b0 : ((bt t111 x7_2) == 41) = true := beq_iff_eq.mpr c66
                        have c66b1 : ((bt t111 x7_2) != 41) = false := bne_eq_false_iff_eq.mpr c66
                        clear c66
                        obtain rfl := Option.some.inj H
                        have p61 : 0 ≤ (x7_2 : Int) := of_decide_eq_true (by first | (with_reducible assumption) | assumption)
                        have q61 : x7_2 < (t111.size : Int) := of_decide_eq_true (by first | (with_reducible assumption) | assumption)
                        have hx61 := bt_at t111 x7_2
                        replace p61 := eq_true p61
                        replace q61 := eq_true q61
                        have p63 : 0 ≤ (x7_2 : Int) := of_decide_eq_true (by first | (with_reducible assumption) | assumption)
                        have q63 : x7_2 < (t111.size : Int) := of_decide_eq_true (by first | (with_reducible assumption) | assumption)
                        have hx63 := bt_at t111 x7_2
                        replace p63 := eq_true p63
                        replace q63 := eq_true q63
                        have p65 : 0 ≤ (x7_2 : Int) := of_decide_eq_true (by first | (with_reducible assumption) | assumption)
                        have q65 : x7_2 < (t111.size : Int) := of_decide_eq_true (by first | (with_reducible assumption) | assumption)
                        have hx65 := bt_at t111 x7_2
                        replace p65 := eq_true p65
                        replace q65 := eq_true q65
                        go_wp2
                        go_ret
                        exact ⟨by first | rfl | (simp [errW_none, errW_some] <;> rfl) | (simp [*, errW_none, errW_some] <;> rfl), by repeat (first | (with_reducible first | exact HB.out | apply below_alloc | apply pw_below_drewN | apply below_drew1) | exact HB.out)⟩
                      · rw [if_neg c66] at H
                        have c66b0 : ((bt t111 x7_2) == 41) = false := beq_eq_false_iff_ne.mpr c66
                        have c66b1 : ((bt t111 x7_2) != 41) = true := bne_iff_ne.mpr c66
                        by_cases c68 : (bt t111 x7_2) = 0
                        · rw [if_pos c68] at H
                          have c68b0 : ((bt t111 x7_2) == 0) = true := beq_iff_eq.mpr c68
                          have c68b1 : ((bt t111 x7_2) != 0) = false := bne_eq_false_iff_eq.mpr c68
                          clear c68
                          obtain rfl := Option.some.inj H
                          have p61 : 0 ≤ (x7_2 : Int) := of_decide_eq_true (by first | (with_reducible assumption) | assumption)
                          have q61 : x7_2 < (t111.size : Int) := of_decide_eq_true (by first | (with_reducible assumption) | assumption)
                          have hx61 := bt_at t111 x7_2
                          replace p61 := eq_true p61
                          replace q61 := eq_true q61
                          have p63 : 0 ≤ (x7_2 : Int) := of_decide_eq_true (by first | (with_reducible assumption) | assumption)
                          have q63 : x7_2 < (t111.size : Int) := of_decide_eq_true (by first | (with_reducible assumption) | assumption)
                          have hx63 := bt_at t111 x7_2
                          replace p63 := eq_true p63
                          replace q63 := eq_true q63
                          have p65 : 0 ≤ (x7_2 : Int) := of_decide_eq_true (by first | (with_reducible assumption) | assumption)
                          have q65 : x7_2 < (t111.size : Int) := of_decide_eq_true (by first | (with_reducible assumption) | assumption)
                          have hx65 := bt_at t111 x7_2
                          replace p65 := eq_true p65
                          replace q65 := eq_true q65
                          have p67 : 0 ≤ (x7_2 : Int) := of_decide_eq_true (by first | (with_reducible assumption) | assumption)
                          have q67 : x7_2 < (t111.size : Int) := of_decide_eq_true (by first | (with_reducible assumption) | assumption)
                          have hx67 := bt_at t111 x7_2
                          replace p67 := eq_true p67
                          replace q67 := eq_true q67
                          go_wp2
                          go_ret
                          exact ⟨by first | rfl | (simp [errW_none, errW_some] <;> rfl) | (simp [*, errW_none, errW_some] <;> rfl), by repeat (first | (with_reducible first | exact HB.out | apply below_alloc | apply pw_below_drewN | apply below_drew1) | exact HB.out)⟩
                        · rw [if_neg c68] at H
                          have c68b0 : ((bt t111 x7_2) == 0) = false := beq_eq_false_iff_ne.mpr c68
                          have c68b1 : ((bt t111 x7_2) != 0) = true := bne_iff_ne.mpr c68
                          have H' := Aside0.mk H
                          clear H
                          have p61 : 0 ≤ (x7_2 : Int) := of_decide_eq_true (by first | (with_reducible assumption) | assumption)
                          have q61 : x7_2 < (t111.size : Int) := of_decide_eq_true (by first | (with_reducible assumption) | assumption)
                          have hx61 := bt_at t111 x7_2
                          replace p61 := eq_true p61
                          replace q61 := eq_true q61
                          have p63 : 0 ≤ (x7_2 : Int) := of_decide_eq_true (by first | (with_reducible assumption) | assumption)
                          have q63 : x7_2 < (t111.size : Int) := of_decide_eq_true (by first | (with_reducible assumption) | assumption)
                          have hx63 := bt_at t111 x7_2
                          replace p63 := eq_true p63
                          replace q63 := eq_true q63
                          have p65 : 0 ≤ (x7_2 : Int) := of_decide_eq_true (by first | (with_reducible assumption) | assumption)
                          have q65 : x7_2 < (t111.size : Int) := of_decide_eq_true (by first | (with_reducible assumption) | assumption)
                          have hx65 := bt_at t111 x7_2
                          replace p65 := eq_true p65
                          replace q65 := eq_true q65
                          have p67 : 0 ≤ (x7_2 : Int) := of_decide_eq_true (by first | (with_reducible assumption) | assumption)
                          have q67 : x7_2 < (t111.size : Int) := of_decide_eq_true (by first | (with_reducible assumption) | assumption)
                          have hx67 := bt_at t111 x7_2
                          replace p67 := eq_true p67
                          replace q67 := eq_true q67
                          go_wp2
                          go_roundg k2
                          case measure => have := HK1.out; have := HK2.out; omega
                          case rel => exact ⟨(wrap64 (x7_2 + 1)), (by first | rfl | (simp; done) | (simp [*]; done)), H', ⟨by have := HK1.out; have := HK2.out; omega⟩, ⟨by repeat (first | (with_reducible first | exact HB.out | apply below_alloc | apply pw_below_drewN | apply below_drew1) | exact HB.out)⟩⟩
                · rw [if_neg c60] at H
                  exact absurd H (by simp)
              · rw [if_neg c59] at H
                have c59b0 : decide (x7_2 < (t111.size : Int)) = false := decide_eq_false c59
                clear c59
                by_cases c69 : (t114.size : Int) ≥ (a0.size : Int)
                · rw [if_pos c69] at H
                  have c69b0 : decide ((a0.size : Int) ≤ (t114.size : Int)) = true := decide_eq_true c69
                  have c69b1 : decide (a0.size ≤ t114.size) = true := decide_eq_true (Int.ofNat_le.mp c69)
                  clear c69
                  by_cases c70 : (t111.size : Int) ≥ (a0.size : Int)
                  · rw [if_pos c70] at H
                    have c70b0 : decide ((a0.size : Int) ≤ (t111.size : Int)) = true := decide_eq_true c70
                    have c70b1 : decide (a0.size ≤ t111.size) = true := decide_eq_true (Int.ofNat_le.mp c70)
                    clear c70
                    replace H := Option.bind_eq_some_iff.mp H
                    obtain ⟨t112, A710, H⟩ := H
                    replace H : (if (t112.size : Int) = (wrap64 (2 * (a0.size : Int))) then ((escape_Put.f (⟨#[97]⟩ : ByteArray)).bind fun t113 => (some (t113.toList == ([97] : List UInt8)))) else (some false)) = some r := H
                    have A71 := Aside0.mk A710
                    clear A710
                    by_cases c72 : (t112.size : Int) = (wrap64 (2 * (a0.size : Int)))
                    · rw [if_pos c72] at H
                      have c72b0 : ((t112.size : Int) == (wrap64 (2 * (a0.size : Int)))) = true := beq_iff_eq.mpr c72
                      have c72b1 : ((t112.size : Int) != (wrap64 (2 * (a0.size : Int)))) = false := bne_eq_false_iff_eq.mpr c72
                      clear c72
                      replace H := Option.bind_eq_some_iff.mp H
                      obtain ⟨t113, A730, H⟩ := H
                      replace H : (some (t113.toList == ([97] : List UInt8))) = some r := H
                      have A73 := Aside0.mk A730
                      clear A730
                      obtain rfl := Option.some.inj H
                      go_wp2_with (first | (go_at_call 8; (with_reducible refine (escape_Hex.calls a0 t112 _ A71.out).mono ?_); rintro e w74 ⟨rfl, hb⟩; have n0_ := Aside0.mk (below_step (by repeat (first | (with_reducible first | exact HB.out | apply below_alloc | apply pw_below_drewN | apply below_drew1) | exact HB.out)) hb); clear HB; have HB := n0_; clear n0_; (try clear hb); (try clear hb2); (try clear hk); (try clear hi)) | (go_at_call 6; (with_reducible refine (escape_Put.calls (⟨#[97]⟩ : ByteArray) t113 _ A73.out).mono ?_); rintro e w75 ⟨rfl, hb⟩; have n0_ := Aside0.mk (below_step (by repeat (first | (with_reducible first | exact HB.out | apply below_alloc | apply pw_below_drewN | apply below_drew1) | exact HB.out)) hb); clear HB; have HB := n0_; clear n0_; (try clear hb); (try clear hb2); (try clear hk); (try clear hi)))
                      go_ret
                      exact ⟨by first | rfl | (simp [errW_none, errW_some] <;> rfl) | (simp [*, errW_none, errW_some] <;> rfl), by repeat (first | (with_reducible first | exact HB.out | apply below_alloc | apply pw_below_drewN | apply below_drew1) | exact HB.out)⟩
                    · rw [if_neg c72] at H
                      have c72b0 : ((t112.size : Int) == (wrap64 (2 * (a0.size : Int)))) = false := beq_eq_false_iff_ne.mpr c72
                      have c72b1 : ((t112.size : Int) != (wrap64 (2 * (a0.size : Int)))) = true := bne_iff_ne.mpr c72
                      obtain rfl := Option.some.inj H
                      go_wp2_with (first | (go_at_call 8; (with_reducible refine (escape_Hex.calls a0 t112 _ A71.out).mono ?_); rintro e w76 ⟨rfl, hb⟩; have n0_ := Aside0.mk (below_step (by repeat (first | (with_reducible first | exact HB.out | apply below_alloc | apply pw_below_drewN | apply below_drew1) | exact HB.out)) hb); clear HB; have HB := n0_; clear n0_; (try clear hb); (try clear hb2); (try clear hk); (try clear hi)))
                      go_ret
                      exact ⟨by first | rfl | (simp [errW_none, errW_some] <;> rfl) | (simp [*, errW_none, errW_some] <;> rfl), by repeat (first | (with_reducible first | exact HB.out | apply below_alloc | apply pw_below_drewN | apply below_drew1) | exact HB.out)⟩
                  · rw [if_neg c70] at H
                    have c70b0 : decide ((a0.size : Int) ≤ (t111.size : Int)) = false := decide_eq_false c70
                    have c70b1 : decide (a0.size ≤ t111.size) = false := decide_eq_false (fun h => c70 (Int.ofNat_le.mpr h))
                    clear c70
                    obtain rfl := Option.some.inj H
                    go_wp2
                    go_ret
                    exact ⟨by first | rfl | (simp [errW_none, errW_some] <;> rfl) | (simp [*, errW_none, errW_some] <;> rfl), by repeat (first | (with_reducible first | exact HB.out | apply below_alloc | apply pw_below_drewN | apply below_drew1) | exact HB.out)⟩
                · rw [if_neg c69] at H
                  have c69b0 : decide ((a0.size : Int) ≤ (t114.size : Int)) = false := decide_eq_false c69
                  have c69b1 : decide (a0.size ≤ t114.size) = false := decide_eq_false (fun h => c69 (Int.ofNat_le.mpr h))
                  clear c69
                  obtain rfl := Option.some.inj H
                  go_wp2
                  go_ret
                  exact ⟨by first | rfl | (simp [errW_none, errW_some] <;> rfl) | (simp [*, errW_none, errW_some] <;> rfl), by repeat (first | (with_reducible first | exact HB.out | apply below_alloc | apply pw_below_drewN | apply below_drew1) | exact HB.out)⟩

/-- THE ONE PURE STATEMENT of peeragelaw10_EscapePlain: yours. -/
def peeragelaw10_EscapePlain.Pure : Prop := ∀ (a0 : ByteArray), a0.size ≤ 140737488351232 → ∃ k, peeragelaw10_EscapePlain.f k a0 = some true
theorem peeragelaw10_EscapePlain.walk (P : peeragelaw10_EscapePlain.Pure) (a0 : ByteArray) (w : World) (w0 : a0.size ≤ 140737488351232) :
    Calls Try.prog 3 #[.string a0] w fun e w' => e = .returned (.bool true) ∧ Below w.heap.size w w' := by
  obtain ⟨k, h⟩ := P a0 w0
  refine (peeragelaw10_EscapePlain.calls k a0 true w h).mono ?_
  rintro e w' ⟨rfl, hd⟩
  exact ⟨rfl, hd⟩

end Go.Proofs.Ytmhjplbloeamiaa.LEscapePlain
