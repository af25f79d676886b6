-- PRINTED BY print.sh 35421559b90ae4d0a3588c463048766b98c2df88dd9212a6774a882060cdf62d: not written by this session
import Derived.Test.YtcbppladofnnlaaPWholeBytesx0
namespace Go.Proofs.Ytcbppladofnnlaa.PWholeBytes
open Go.RowKit Go.Proofs.YtcbppladofnnlaaW.PrintWords Go.Proofs.YtcbppladofnnlaaW.PrintLast Go.Proofs.YtcbppladofnnlaaW.PrintMore
attribute [local go_sem] max2_int min2_int max_two min_two max_three min_three max_four min_four   -- for this text's walks alone
set_option linter.unusedVariables false
set_option linter.unusedSimpArgs false

/-! ### peerageref02_Put: function 8 -/
mutual
def peerageref02_Put.l0 : Nat → Int → List Int → Int → Option (List Int)
  | 0, _, _, _ => none
  | k + 1, x0, x3, x4 => if x4 ≥ 0 then (if 0 ≤ (IntKind.u64.wrap (wrap64 (8 * x4))) then (if x3.length < 140737488355328 then (peerageref02_Put.l0 k x0 (x3 ++ [(shr .i64 x0 (IntKind.u64.wrap (wrap64 (8 * x4)))) % 256]) (wrap64 (x4 - 1))) else (none)) else (none)) else (peerageref02_Put.l1 k x3)
def peerageref02_Put.l1 : Nat → List Int → Option (List Int)
  | 0, _ => none
  | k + 1, x3 => if (x3.length : Int) > 1 then (if 0 < (x3.length : Int) then (if (rd x3 0) = 0 then (if 1 < (x3.length : Int) then (if (rd x3 1) < 128 then (if 1 ≤ (x3.length : Int) then (peerageref02_Put.l1 k (x3.drop (1 : Int).toNat)) else (none)) else (if (rd x3 0) = 255 then (if (rd x3 1) > 127 then (if 1 ≤ (x3.length : Int) then (peerageref02_Put.l1 k (x3.drop (1 : Int).toNat)) else (none)) else (some x3)) else (some x3))) else (none)) else (if (rd x3 0) = 255 then (if 1 < (x3.length : Int) then (if (rd x3 1) > 127 then (if 1 ≤ (x3.length : Int) then (peerageref02_Put.l1 k (x3.drop (1 : Int).toNat)) else (none)) else (some x3)) else (none)) else (some x3))) else (none)) else (some x3)
end
def peerageref02_Put.f (k : Nat) (a0 : Int) : Option (List Int) := peerageref02_Put.l0 k a0 ([] : List Int) 7
theorem peerageref02_Put.mono_l : ∀ k, (∀ y0 y1 y2, LeO (peerageref02_Put.l0 k y0 y1 y2) (peerageref02_Put.l0 (k + 1) y0 y1 y2)) ∧ (∀ y0, LeO (peerageref02_Put.l1 k y0) (peerageref02_Put.l1 (k + 1) y0))
  | 0 => ⟨fun _ _ _ r h => by simp [peerageref02_Put.l0] at h, fun _ r h => by simp [peerageref02_Put.l1] at h⟩
  | k + 1 => by
    obtain ⟨ih0, ih1⟩ := peerageref02_Put.mono_l k
    refine ⟨?_, ?_⟩
    · intro y0 y1 y2
      unfold peerageref02_Put.l0
      repeat' first
      | (with_reducible exact ih0 _ _ _)
      | (with_reducible exact ih1 _)
      | (with_reducible exact LeO.refl _)
      | (with_reducible exact LeO.none _)
      | (with_reducible refine LeO.ite ?_ ?_)
      | (with_reducible refine LeO.bind ?_ (fun _ => ?_))
      | exact ih0 _ _ _
      | exact ih1 _
      | exact LeO.none _
      | refine LeO.ite ?_ ?_
      | refine LeO.bind ?_ (fun _ => ?_)
    · intro y0
      unfold peerageref02_Put.l1
      repeat' first
      | (with_reducible exact ih0 _ _ _)
      | (with_reducible exact ih1 _)
      | (with_reducible exact LeO.refl _)
      | (with_reducible exact LeO.none _)
      | (with_reducible refine LeO.ite ?_ ?_)
      | (with_reducible refine LeO.bind ?_ (fun _ => ?_))
      | exact ih0 _ _ _
      | exact ih1 _
      | exact LeO.none _
      | refine LeO.ite ?_ ?_
      | refine LeO.bind ?_ (fun _ => ?_)
theorem peerageref02_Put.mono : ∀ a0 k, LeO (peerageref02_Put.f k a0) (peerageref02_Put.f (k + 1) a0) := by
  intro a0 k
  obtain ⟨ih0, ih1⟩ := peerageref02_Put.mono_l k
  unfold peerageref02_Put.f
  repeat' first
      | (with_reducible exact ih0 _ _ _)
      | (with_reducible exact ih1 _)
      | (with_reducible exact LeO.refl _)
      | (with_reducible exact LeO.none _)
      | (with_reducible refine LeO.ite ?_ ?_)
      | (with_reducible refine LeO.bind ?_ (fun _ => ?_))
      | exact ih0 _ _ _
      | exact ih1 _
      | exact LeO.none _
      | refine LeO.ite ?_ ?_
      | refine LeO.bind ?_ (fun _ => ?_)
set_option maxHeartbeats 8000000 in
set_option maxRecDepth 100000 in
theorem peerageref02_Put.calls (k : Nat) (a0 : Int) (r : List Int) (w : World) (h : peerageref02_Put.f k a0 = some r) :
    Calls Try.prog 8 #[.int .i64 a0] w fun e w' => ∃ v0_ : Value, e = .returned (v0_) ∧ Kd.Q (Kd.int .u8) 5 w' w.heap.size (fun _ => True) v0_ r ∧ Below w.heap.size w w' := by
  have HB := Aside0.mk (Below.refl w.heap.size w)
  have H : (peerageref02_Put.l0 k a0 ([] : List Int) 7) = some r := h
  clear h
  have H' := Aside0.mk H
  clear H
  go_enter Try.func8, Try.ntmps8
  go_wp2
  go_loopg [3, 4] k (fun kq v3 v4 w' => ∃ (x3_1 : List Int) (x4_1 : Int), v4 = .int .i64 x4_1 ∧ Aside0 (peerageref02_Put.l0 kq a0 x3_1 x4_1 = some r) ∧ Aside0 (kq ≤ k) ∧ Aside0 (Kd.Q (Kd.int .u8) 5 w' w.heap.size (fun _ => True) v3 x3_1) ∧ Aside0 (Below w.heap.size w w'))
  case atStart => exact ⟨(([] : List Int)), (7), (by first | rfl | (simp; done) | (simp [*]; done)), H', ⟨Nat.le_refl _⟩, ⟨Kd.Q_of_R (by first | exact Kd.R_nil _ _ _ _ _ | exact Kd.N_nil _ _ _ _ _ | exact Kd.V_nil _ _ _ _ _ | exact Kd.Q_nil _ _ _ _ _ | exact Kd.S_nil _ _ _ _ _)⟩, ⟨by repeat (first | (with_reducible first | exact HB.out | apply below_alloc | apply pw_below_drewN | apply below_drew1) | exact HB.out)⟩⟩
  case round =>
    clear H'
    obtain ⟨x3_1, x4_1, rfl, HA, HK1, HO_3, HB⟩ := hrel
    cases gk with
    | zero => exact absurd HA.out (by simp [peerageref02_Put.l0])
    | succ k1 =>
      have H := HA.out
      clear HA
      simp only [peerageref02_Put.l0] at H
      by_cases c2 : x4_1 ≥ 0
      · rw [if_pos c2] at H
        have c2b0 : decide (0 ≤ x4_1) = true := decide_eq_true c2
        clear c2
        obtain ⟨ji3, hji3⟩ : ∃ j_ : Int, (IntKind.u64.wrap (wrap64 (8 * x4_1))) = j_ := ⟨_, rfl⟩
        replace H : (if 0 ≤ (ji3) then (if x3_1.length < 140737488355328 then (peerageref02_Put.l0 k1 a0 (x3_1 ++ [(shr .i64 a0 (ji3)) % 256]) (wrap64 (x4_1 - 1))) else (none)) else (none)) = some r := by first | (rw [hji3] at H; exact H) | (simp only [hji3] at H ⊢; exact H)
        by_cases c4 : 0 ≤ (ji3)
        · rw [if_pos c4] at H
          have c4b0 := eq_true c4
          have c4b1 : decide (0 ≤ (ji3)) = true := decide_eq_true c4
          clear c4
          obtain ⟨ji5, hji5⟩ : ∃ j_ : Int, (shr .i64 a0 (ji3)) = j_ := ⟨_, rfl⟩
          replace H : (if x3_1.length < 140737488355328 then (peerageref02_Put.l0 k1 a0 (x3_1 ++ [(ji5) % 256]) (wrap64 (x4_1 - 1))) else (none)) = some r := by first | (rw [hji5] at H; exact H) | (simp only [hji5] at H ⊢; exact H)
          have hji5_ : (a0 / 2 ^ min (ji3).toNat 64) = ji5 := hji5
          have hji5z : (ji3) ≤ 64 → (a0 / 2 ^ (ji3).toNat) = ji5 := shr_small hji5
          by_cases c6 : x3_1.length < 140737488355328
          · rw [if_pos c6] at H
            have LMc6 := Aside0.mk c6
            clear c6
            obtain ⟨y121, hy121⟩ : ∃ y_ : List Int, y_ = (x3_1 ++ [(ji5) % 256]) := ⟨_, rfl⟩
            replace H : (peerageref02_Put.l0 k1 a0 y121 (wrap64 (x4_1 - 1))) = some r := by first | (rw [hy121]; with_reducible exact H) | (have H2_ := (Option.bind_some _ _).symm.trans H; rw [hy121]; with_reducible exact H2_) | (have H2_ := (Option.bind_some _ _).symm.trans H; with_reducible exact H2_) | with_reducible exact H | (rw [hy121]; exact H) | exact H
            have Ny121 := Aside0.mk hy121
            clear hy121
            have H' := Aside0.mk H
            clear H
            go_wp2_with (first | ((with_reducible refine gate_builtin (b := .append) (xs := #[.tmp 9, .tmp 16]) rfl ?_); at_builtin; refine Kd.Q_append (Kd.int .u8) (w0 := w) w.heap.size rfl (.tmp 9) (.tmp 16) 22 5 (.int .u8 0) 1 rfl Try.underlying22 info5 rfl (by decide) (by omega) u3 x3_1 ((ji5) % 256) [.int .u8 ((ji5) % 256)] (fun _ => True) (fun _ => False) rfl rfl ?aP (fun _ hk => hk.elim) ?aF ?aO ?aB ?aS ?aL ?_; (case aP => exact rfl); (case aB => exact (by repeat (first | (with_reducible first | exact HB.out | apply below_alloc | apply pw_below_drewN | apply below_drew1) | exact HB.out))); (case aF => exact (fun _ _ => trivial)); (case aO => exact (by (with_reducible repeat (first | apply Kd.Q_alloc | apply Kd.Q_drewN | apply Kd.Q_drew)); exact HO_3.out)); (case aS => exact (below_size (by repeat (first | (with_reducible first | exact HB.out | apply below_alloc | apply pw_below_drewN | apply below_drew1) | exact HB.out)))); (case aL => have := LMc6.out; omega); intro v122 w7 ho hb hg hat; rw [← Ny121.out] at ho; have n0_ := Aside0.mk (hb); have n1_ := Aside0.mk (ho); clear HB; clear HO_3; have HB := n0_; have HO123 := n1_; clear n0_ n1_; clear ho hb hg hat))
            go_roundg k1
            case measure => have := HK1.out; omega
            case rel => exact ⟨(y121), (wrap64 (x4_1 - 1)), (by first | rfl | (simp; done) | (simp [*]; done)), H', ⟨by have := HK1.out; omega⟩, ⟨by (with_reducible repeat (first | apply Kd.Q_alloc | apply Kd.Q_drewN | apply Kd.Q_drew)); exact HO123.out⟩, ⟨by repeat (first | (with_reducible first | exact HB.out | apply below_alloc | apply pw_below_drewN | apply below_drew1) | exact HB.out)⟩⟩
          · rw [if_neg c6] at H
            exact absurd H (by simp)
        · rw [if_neg c4] at H
          exact absurd H (by simp)
      · rw [if_neg c2] at H
        have c2b0 : decide (0 ≤ x4_1) = false := decide_eq_false c2
        clear c2
        have H' := Aside0.mk H
        clear H
        go_wp2
        go_loopg [3] k1 (fun kq v3 w' => ∃ (x3_2 : List Int), Aside0 (peerageref02_Put.l1 kq x3_2 = some r) ∧ Aside0 (kq ≤ k1) ∧ Aside0 (Kd.Q (Kd.int .u8) 5 w' w.heap.size (fun _ => True) v3 x3_2) ∧ Aside0 (Below w.heap.size w w'))
        case atStart => exact ⟨(x3_1), H', ⟨Nat.le_refl _⟩, ⟨by (with_reducible repeat (first | apply Kd.Q_alloc | apply Kd.Q_drewN | apply Kd.Q_drew)); exact HO_3.out⟩, ⟨by repeat (first | (with_reducible first | exact HB.out | apply below_alloc | apply pw_below_drewN | apply below_drew1) | exact HB.out)⟩⟩
        case round =>
          clear H'
          try clear c2
          try clear c2b0
          try clear p2
          try clear c4
          try clear c4b0
          try clear c4b1
          try clear c6
          try clear p6
          obtain ⟨x3_2, HA, HK2, HO_3, HB⟩ := hrel
          cases gk with
          | zero => exact absurd HA.out (by simp [peerageref02_Put.l1])
          | succ k2 =>
            have H := HA.out
            clear HA
            simp only [peerageref02_Put.l1] at H
            by_cases c8 : (x3_2.length : Int) > 1
            · rw [if_pos c8] at H
              have c8b0 : decide (1 < (x3_2.length : Int)) = true := decide_eq_true c8
              have c8b1 : decide (1 < x3_2.length) = true := decide_eq_true (by omega)
              clear c8
              by_cases c9 : 0 < (x3_2.length : Int)
              · rw [if_pos c9] at H
                have c9b0 : decide (0 < (x3_2.length : Int)) = true := decide_eq_true c9
                have c9b1 : decide (0 < x3_2.length) = true := decide_eq_true (by omega)
                clear c9
                by_cases c10 : (rd x3_2 0) = 0
                · rw [if_pos c10] at H
                  have c10b0 : ((rd x3_2 0) == 0) = true := beq_iff_eq.mpr c10
                  have c10b1 : ((rd x3_2 0) != 0) = false := bne_eq_false_iff_eq.mpr c10
                  clear c10
                  by_cases c11 : 1 < (x3_2.length : Int)
                  · rw [if_pos c11] at H
                    have c11b0 : decide (1 < (x3_2.length : Int)) = true := decide_eq_true c11
                    have c11b1 : decide (1 < x3_2.length) = true := decide_eq_true (by omega)
                    clear c11
                    by_cases c12 : (rd x3_2 1) < 128
                    · rw [if_pos c12] at H
                      have c12b0 : decide ((rd x3_2 1) < 128) = true := decide_eq_true c12
                      clear c12
                      by_cases c13 : 1 ≤ (x3_2.length : Int)
                      · rw [if_pos c13] at H
                        have c13b0 := eq_true c13
                        have c13b1 : decide (1 ≤ (x3_2.length : Int)) = true := decide_eq_true c13
                        clear c13
                        obtain ⟨y126, hy126⟩ : ∃ y_ : List Int, y_ = (x3_2.drop (1 : Int).toNat) := ⟨_, rfl⟩
                        replace H : (peerageref02_Put.l1 k2 y126) = some r := by first | (rw [hy126]; with_reducible exact H) | (have H2_ := (Option.bind_some _ _).symm.trans H; rw [hy126]; with_reducible exact H2_) | (have H2_ := (Option.bind_some _ _).symm.trans H; with_reducible exact H2_) | with_reducible exact H | (rw [hy126]; exact H) | exact H
                        have Ny126 := Aside0.mk hy126
                        clear hy126
                        have H' := Aside0.mk H
                        clear H
                        obtain ⟨Ao14, co14, eo14, _⟩ := Kd.Q_slice HO_3.out
                        subst eo14
                        have p124 : 0 ≤ (0 : Int) := (by omega)
                        have q124 : 0 < (x3_2.length : Int) := of_decide_eq_true (by first | (with_reducible assumption) | assumption)
                        obtain ⟨ad124, e124, hx124_0⟩ := Kd.at_int (Kd.Q_reads' HO_3.out).2.2 0 p124 q124
                        cases e124
                        have qi124 : (0 < x3_2.length) = True := eq_true (by omega)
                        (try rw [show ((0 : Int)).toNat = 0 from rfl] at hx124_0)
                        (try rw [Addr.add_zero'] at hx124_0)
                        replace p124 := eq_true p124
                        replace q124 := eq_true q124
                        have p125 : 0 ≤ (1 : Int) := (by omega)
                        have q125 : 1 < (x3_2.length : Int) := of_decide_eq_true (by first | (with_reducible assumption) | assumption)
                        obtain ⟨ad125, e125, hx125_0⟩ := Kd.at_int (Kd.Q_reads' HO_3.out).2.2 1 p125 q125
                        obtain rfl : ad124 = ad125 := (by injection e125)
                        (try simp only [show (1 : Int).toNat = 1 from rfl, Nat.reduceMul, Nat.reduceEqDiff, Go.Addr.add, ↓reduceIte] at hx125_0)
                        have qi125 : (1 < x3_2.length) = True := eq_true (by omega)
                        (try rw [show ((1 : Int)).toNat = 1 from rfl] at hx125_0)
                        replace p125 := eq_true p125
                        replace q125 := eq_true q125
                        have q15 : (1 : Int) ≤ ((x3_2.length : Int) : Int) := of_decide_eq_true (by first | (with_reducible assumption) | assumption)
                        obtain ⟨i015, hi015, _, hsz15, _⟩ := info_parts info5
                        have hcut15 := cut_from (P := Try.prog) 22 5 .i64 Try.underlying22 hi015 1 hsz15 (some ad124) x3_2.length co14 1 (by omega) q15
                        have hr15 := Kd.Q_drop (k := (1 : Int).toNat) HO_3.out (by omega)
                        obtain ⟨A15, hA15⟩ : ∃ A1, A1 = (if co14 = (1 : Int).toNat then (some ad124) else ((some ad124) : Option Addr).map (·.add ((1 : Int).toNat * 1))) := ⟨_, rfl⟩
                        obtain ⟨c15, hc15⟩ : ∃ c1, c1 = co14 - (1 : Int).toNat := ⟨_, rfl⟩
                        have hy15 : y126.length = x3_2.length - (1 : Int).toNat := (by rw [Ny126.out, List.length_drop])
                        rw [← Ny126.out] at hr15
                        rw [← hy15, ← hA15, ← hc15] at hcut15
                        replace hr15 : Kd.Q (Kd.int .u8) 5 wr w.heap.size (fun _ => True) (.slice A15 y126.length c15) y126 := (by rw [hA15, hc15, hy15]; exact hr15)
                        have HE15 : Aside0 ((Value.slice A15 y126.length c15).ownBlock = (.slice (some ad124) x3_2.length co14 : Value).ownBlock) := ⟨by rw [hA15]; split <;> (cases ((some ad124) : Option Addr) <;> rfl)⟩
                        clear hy15 hi015 hsz15 HO_3 hA15 hc15
                        have HO128 := Aside0.mk hr15
                        clear hr15
                        replace q15 := eq_true q15
                        go_wp2
                        go_roundg k2
                        case measure => have := HK1.out; have := HK2.out; omega
                        case rel => exact ⟨(y126), H', ⟨by have := HK1.out; have := HK2.out; omega⟩, ⟨by (with_reducible repeat (first | apply Kd.Q_alloc | apply Kd.Q_drewN | apply Kd.Q_drew)); exact HO128.out⟩, ⟨by repeat (first | (with_reducible first | exact HB.out | apply below_alloc | apply pw_below_drewN | apply below_drew1) | exact HB.out)⟩⟩
                      · rw [if_neg c13] at H
                        exact absurd H (by simp)
                    · rw [if_neg c12] at H
                      have c12b0 : decide ((rd x3_2 1) < 128) = false := decide_eq_false c12
                      clear c12
                      by_cases c16 : (rd x3_2 0) = 255
                      · rw [if_pos c16] at H
                        have c16b0 : ((rd x3_2 0) == 255) = true := beq_iff_eq.mpr c16
                        have c16b1 : ((rd x3_2 0) != 255) = false := bne_eq_false_iff_eq.mpr c16
                        clear c16
                        by_cases c17 : (rd x3_2 1) > 127
                        · rw [if_pos c17] at H
                          have c17b0 : decide (127 < (rd x3_2 1)) = true := decide_eq_true c17
                          clear c17
                          by_cases c18 : 1 ≤ (x3_2.length : Int)
                          · rw [if_pos c18] at H
                            have c18b0 := eq_true c18
                            have c18b1 : decide (1 ≤ (x3_2.length : Int)) = true := decide_eq_true c18
                            clear c18
                            obtain ⟨y131, hy131⟩ : ∃ y_ : List Int, y_ = (x3_2.drop (1 : Int).toNat) := ⟨_, rfl⟩
                            replace H : (peerageref02_Put.l1 k2 y131) = some r := by first | (rw [hy131]; with_reducible exact H) | (have H2_ := (Option.bind_some _ _).symm.trans H; rw [hy131]; with_reducible exact H2_) | (have H2_ := (Option.bind_some _ _).symm.trans H; with_reducible exact H2_) | with_reducible exact H | (rw [hy131]; exact H) | exact H
                            have Ny131 := Aside0.mk hy131
                            clear hy131
                            have H' := Aside0.mk H
                            clear H
                            obtain ⟨Ao19, co19, eo19, _⟩ := Kd.Q_slice HO_3.out
                            subst eo19
                            have p124 : 0 ≤ (0 : Int) := (by omega)
                            have q124 : 0 < (x3_2.length : Int) := of_decide_eq_true (by first | (with_reducible assumption) | assumption)
                            obtain ⟨ad124, e124, hx124_0⟩ := Kd.at_int (Kd.Q_reads' HO_3.out).2.2 0 p124 q124
                            cases e124
                            have qi124 : (0 < x3_2.length) = True := eq_true (by omega)
                            (try rw [show ((0 : Int)).toNat = 0 from rfl] at hx124_0)
                            (try rw [Addr.add_zero'] at hx124_0)
                            replace p124 := eq_true p124
                            replace q124 := eq_true q124
                            have p125 : 0 ≤ (1 : Int) := (by omega)
                            have q125 : 1 < (x3_2.length : Int) := of_decide_eq_true (by first | (with_reducible assumption) | assumption)
                            obtain ⟨ad125, e125, hx125_0⟩ := Kd.at_int (Kd.Q_reads' HO_3.out).2.2 1 p125 q125
                            obtain rfl : ad124 = ad125 := (by injection e125)
                            (try simp only [show (1 : Int).toNat = 1 from rfl, Nat.reduceMul, Nat.reduceEqDiff, Go.Addr.add, ↓reduceIte] at hx125_0)
                            have qi125 : (1 < x3_2.length) = True := eq_true (by omega)
                            (try rw [show ((1 : Int)).toNat = 1 from rfl] at hx125_0)
                            replace p125 := eq_true p125
                            replace q125 := eq_true q125
                            have p129 : 0 ≤ (0 : Int) := (by omega)
                            have q129 : 0 < (x3_2.length : Int) := of_decide_eq_true (by first | (with_reducible assumption) | assumption)
                            obtain ⟨ad129, e129, hx129_0⟩ := Kd.at_int (Kd.Q_reads' HO_3.out).2.2 0 p129 q129
                            obtain rfl : ad124 = ad129 := (by injection e129)
                            have qi129 : (0 < x3_2.length) = True := eq_true (by omega)
                            (try rw [show ((0 : Int)).toNat = 0 from rfl] at hx129_0)
                            (try rw [Addr.add_zero'] at hx129_0)
                            replace p129 := eq_true p129
                            replace q129 := eq_true q129
                            have p130 : 0 ≤ (1 : Int) := (by omega)
                            have q130 : 1 < (x3_2.length : Int) := of_decide_eq_true (by first | (with_reducible assumption) | assumption)
                            obtain ⟨ad130, e130, hx130_0⟩ := Kd.at_int (Kd.Q_reads' HO_3.out).2.2 1 p130 q130
                            obtain rfl : ad124 = ad130 := (by injection e130)
                            (try simp only [show (1 : Int).toNat = 1 from rfl, Nat.reduceMul, Nat.reduceEqDiff, Go.Addr.add, ↓reduceIte] at hx130_0)
                            have qi130 : (1 < x3_2.length) = True := eq_true (by omega)
                            (try rw [show ((1 : Int)).toNat = 1 from rfl] at hx130_0)
                            replace p130 := eq_true p130
                            replace q130 := eq_true q130
                            have q20 : (1 : Int) ≤ ((x3_2.length : Int) : Int) := of_decide_eq_true (by first | (with_reducible assumption) | assumption)
                            obtain ⟨i020, hi020, _, hsz20, _⟩ := info_parts info5
                            have hcut20 := cut_from (P := Try.prog) 22 5 .i64 Try.underlying22 hi020 1 hsz20 (some ad124) x3_2.length co19 1 (by omega) q20
                            have hr20 := Kd.Q_drop (k := (1 : Int).toNat) HO_3.out (by omega)
                            obtain ⟨A20, hA20⟩ : ∃ A1, A1 = (if co19 = (1 : Int).toNat then (some ad124) else ((some ad124) : Option Addr).map (·.add ((1 : Int).toNat * 1))) := ⟨_, rfl⟩
                            obtain ⟨c20, hc20⟩ : ∃ c1, c1 = co19 - (1 : Int).toNat := ⟨_, rfl⟩
                            have hy20 : y131.length = x3_2.length - (1 : Int).toNat := (by rw [Ny131.out, List.length_drop])
                            rw [← Ny131.out] at hr20
                            rw [← hy20, ← hA20, ← hc20] at hcut20
                            replace hr20 : Kd.Q (Kd.int .u8) 5 wr w.heap.size (fun _ => True) (.slice A20 y131.length c20) y131 := (by rw [hA20, hc20, hy20]; exact hr20)
                            have HE20 : Aside0 ((Value.slice A20 y131.length c20).ownBlock = (.slice (some ad124) x3_2.length co19 : Value).ownBlock) := ⟨by rw [hA20]; split <;> (cases ((some ad124) : Option Addr) <;> rfl)⟩
                            clear hy20 hi020 hsz20 HO_3 hA20 hc20
                            have HO133 := Aside0.mk hr20
                            clear hr20
                            replace q20 := eq_true q20
                            go_wp2
                            go_roundg k2
                            case measure => have := HK1.out; have := HK2.out; omega
                            case rel => exact ⟨(y131), H', ⟨by have := HK1.out; have := HK2.out; omega⟩, ⟨by (with_reducible repeat (first | apply Kd.Q_alloc | apply Kd.Q_drewN | apply Kd.Q_drew)); exact HO133.out⟩, ⟨by repeat (first | (with_reducible first | exact HB.out | apply below_alloc | apply pw_below_drewN | apply below_drew1) | exact HB.out)⟩⟩
                          · rw [if_neg c18] at H
                            exact absurd H (by simp)
                        · rw [if_neg c17] at H
                          have c17b0 : decide (127 < (rd x3_2 1)) = false := decide_eq_false c17
                          clear c17
                          obtain rfl := Option.some.inj H
                          obtain ⟨Ao21, co21, eo21, _⟩ := Kd.Q_slice HO_3.out
                          subst eo21
                          have p124 : 0 ≤ (0 : Int) := (by omega)
                          have q124 : 0 < (x3_2.length : Int) := of_decide_eq_true (by first | (with_reducible assumption) | assumption)
                          obtain ⟨ad124, e124, hx124_0⟩ := Kd.at_int (Kd.Q_reads' HO_3.out).2.2 0 p124 q124
                          cases e124
                          have qi124 : (0 < x3_2.length) = True := eq_true (by omega)
                          (try rw [show ((0 : Int)).toNat = 0 from rfl] at hx124_0)
                          (try rw [Addr.add_zero'] at hx124_0)
                          replace p124 := eq_true p124
                          replace q124 := eq_true q124
                          have p125 : 0 ≤ (1 : Int) := (by omega)
                          have q125 : 1 < (x3_2.length : Int) := of_decide_eq_true (by first | (with_reducible assumption) | assumption)
                          obtain ⟨ad125, e125, hx125_0⟩ := Kd.at_int (Kd.Q_reads' HO_3.out).2.2 1 p125 q125
                          obtain rfl : ad124 = ad125 := (by injection e125)
                          (try simp only [show (1 : Int).toNat = 1 from rfl, Nat.reduceMul, Nat.reduceEqDiff, Go.Addr.add, ↓reduceIte] at hx125_0)
                          have qi125 : (1 < x3_2.length) = True := eq_true (by omega)
                          (try rw [show ((1 : Int)).toNat = 1 from rfl] at hx125_0)
                          replace p125 := eq_true p125
                          replace q125 := eq_true q125
                          have p129 : 0 ≤ (0 : Int) := (by omega)
                          have q129 : 0 < (x3_2.length : Int) := of_decide_eq_true (by first | (with_reducible assumption) | assumption)
                          obtain ⟨ad129, e129, hx129_0⟩ := Kd.at_int (Kd.Q_reads' HO_3.out).2.2 0 p129 q129
                          obtain rfl : ad124 = ad129 := (by injection e129)
                          have qi129 : (0 < x3_2.length) = True := eq_true (by omega)
                          (try rw [show ((0 : Int)).toNat = 0 from rfl] at hx129_0)
                          (try rw [Addr.add_zero'] at hx129_0)
                          replace p129 := eq_true p129
                          replace q129 := eq_true q129
                          have p130 : 0 ≤ (1 : Int) := (by omega)
                          have q130 : 1 < (x3_2.length : Int) := of_decide_eq_true (by first | (with_reducible assumption) | assumption)
                          obtain ⟨ad130, e130, hx130_0⟩ := Kd.at_int (Kd.Q_reads' HO_3.out).2.2 1 p130 q130
                          obtain rfl : ad124 = ad130 := (by injection e130)
                          (try simp only [show (1 : Int).toNat = 1 from rfl, Nat.reduceMul, Nat.reduceEqDiff, Go.Addr.add, ↓reduceIte] at hx130_0)
                          have qi130 : (1 < x3_2.length) = True := eq_true (by omega)
                          (try rw [show ((1 : Int)).toNat = 1 from rfl] at hx130_0)
                          replace p130 := eq_true p130
                          replace q130 := eq_true q130
                          go_wp2
                          go_ret
                          exact ⟨_, by first | rfl | (simp [errW_none, errW_some] <;> rfl) | (simp [*, errW_none, errW_some] <;> rfl), by (with_reducible repeat (first | apply Kd.Q_alloc | apply Kd.Q_drewN | apply Kd.Q_drew)); exact HO_3.out, by repeat (first | (with_reducible first | exact HB.out | apply below_alloc | apply pw_below_drewN | apply below_drew1) | exact HB.out)⟩
                      · rw [if_neg c16] at H
                        have c16b0 : ((rd x3_2 0) == 255) = false := beq_eq_false_iff_ne.mpr c16
                        have c16b1 : ((rd x3_2 0) != 255) = true := bne_iff_ne.mpr c16
                        obtain rfl := Option.some.inj H
                        obtain ⟨Ao22, co22, eo22, _⟩ := Kd.Q_slice HO_3.out
                        subst eo22
                        have p124 : 0 ≤ (0 : Int) := (by omega)
                        have q124 : 0 < (x3_2.length : Int) := of_decide_eq_true (by first | (with_reducible assumption) | assumption)
                        obtain ⟨ad124, e124, hx124_0⟩ := Kd.at_int (Kd.Q_reads' HO_3.out).2.2 0 p124 q124
                        cases e124
                        have qi124 : (0 < x3_2.length) = True := eq_true (by omega)
                        (try rw [show ((0 : Int)).toNat = 0 from rfl] at hx124_0)
                        (try rw [Addr.add_zero'] at hx124_0)
                        replace p124 := eq_true p124
                        replace q124 := eq_true q124
                        have p125 : 0 ≤ (1 : Int) := (by omega)
                        have q125 : 1 < (x3_2.length : Int) := of_decide_eq_true (by first | (with_reducible assumption) | assumption)
                        obtain ⟨ad125, e125, hx125_0⟩ := Kd.at_int (Kd.Q_reads' HO_3.out).2.2 1 p125 q125
                        obtain rfl : ad124 = ad125 := (by injection e125)
                        (try simp only [show (1 : Int).toNat = 1 from rfl, Nat.reduceMul, Nat.reduceEqDiff, Go.Addr.add, ↓reduceIte] at hx125_0)
                        have qi125 : (1 < x3_2.length) = True := eq_true (by omega)
                        (try rw [show ((1 : Int)).toNat = 1 from rfl] at hx125_0)
                        replace p125 := eq_true p125
                        replace q125 := eq_true q125
                        have p129 : 0 ≤ (0 : Int) := (by omega)
                        have q129 : 0 < (x3_2.length : Int) := of_decide_eq_true (by first | (with_reducible assumption) | assumption)
                        obtain ⟨ad129, e129, hx129_0⟩ := Kd.at_int (Kd.Q_reads' HO_3.out).2.2 0 p129 q129
                        obtain rfl : ad124 = ad129 := (by injection e129)
                        have qi129 : (0 < x3_2.length) = True := eq_true (by omega)
                        (try rw [show ((0 : Int)).toNat = 0 from rfl] at hx129_0)
                        (try rw [Addr.add_zero'] at hx129_0)
                        replace p129 := eq_true p129
                        replace q129 := eq_true q129
                        go_wp2
                        go_ret
                        exact ⟨_, by first | rfl | (simp [errW_none, errW_some] <;> rfl) | (simp [*, errW_none, errW_some] <;> rfl), by (with_reducible repeat (first | apply Kd.Q_alloc | apply Kd.Q_drewN | apply Kd.Q_drew)); exact HO_3.out, by repeat (first | (with_reducible first | exact HB.out | apply below_alloc | apply pw_below_drewN | apply below_drew1) | exact HB.out)⟩
                  · rw [if_neg c11] at H
                    exact absurd H (by simp)
                · rw [if_neg c10] at H
                  have c10b0 : ((rd x3_2 0) == 0) = false := beq_eq_false_iff_ne.mpr c10
                  have c10b1 : ((rd x3_2 0) != 0) = true := bne_iff_ne.mpr c10
                  by_cases c23 : (rd x3_2 0) = 255
                  · rw [if_pos c23] at H
                    have c23b0 : ((rd x3_2 0) == 255) = true := beq_iff_eq.mpr c23
                    have c23b1 : ((rd x3_2 0) != 255) = false := bne_eq_false_iff_eq.mpr c23
                    clear c23
                    by_cases c24 : 1 < (x3_2.length : Int)
                    · rw [if_pos c24] at H
                      have c24b0 : decide (1 < (x3_2.length : Int)) = true := decide_eq_true c24
                      have c24b1 : decide (1 < x3_2.length) = true := decide_eq_true (by omega)
                      clear c24
                      by_cases c25 : (rd x3_2 1) > 127
                      · rw [if_pos c25] at H
                        have c25b0 : decide (127 < (rd x3_2 1)) = true := decide_eq_true c25
                        clear c25
                        by_cases c26 : 1 ≤ (x3_2.length : Int)
                        · rw [if_pos c26] at H
                          have c26b0 := eq_true c26
                          have c26b1 : decide (1 ≤ (x3_2.length : Int)) = true := decide_eq_true c26
                          clear c26
                          obtain ⟨y136, hy136⟩ : ∃ y_ : List Int, y_ = (x3_2.drop (1 : Int).toNat) := ⟨_, rfl⟩
                          replace H : (peerageref02_Put.l1 k2 y136) = some r := by first | (rw [hy136]; with_reducible exact H) | (have H2_ := (Option.bind_some _ _).symm.trans H; rw [hy136]; with_reducible exact H2_) | (have H2_ := (Option.bind_some _ _).symm.trans H; with_reducible exact H2_) | with_reducible exact H | (rw [hy136]; exact H) | exact H
                          have Ny136 := Aside0.mk hy136
                          clear hy136
                          have H' := Aside0.mk H
                          clear H
                          obtain ⟨Ao27, co27, eo27, _⟩ := Kd.Q_slice HO_3.out
                          subst eo27
                          have p124 : 0 ≤ (0 : Int) := (by omega)
                          have q124 : 0 < (x3_2.length : Int) := of_decide_eq_true (by first | (with_reducible assumption) | assumption)
                          obtain ⟨ad124, e124, hx124_0⟩ := Kd.at_int (Kd.Q_reads' HO_3.out).2.2 0 p124 q124
                          cases e124
                          have qi124 : (0 < x3_2.length) = True := eq_true (by omega)
                          (try rw [show ((0 : Int)).toNat = 0 from rfl] at hx124_0)
                          (try rw [Addr.add_zero'] at hx124_0)
                          replace p124 := eq_true p124
                          replace q124 := eq_true q124
                          have p134 : 0 ≤ (0 : Int) := (by omega)
                          have q134 : 0 < (x3_2.length : Int) := of_decide_eq_true (by first | (with_reducible assumption) | assumption)
                          obtain ⟨ad134, e134, hx134_0⟩ := Kd.at_int (Kd.Q_reads' HO_3.out).2.2 0 p134 q134
                          obtain rfl : ad124 = ad134 := (by injection e134)
                          have qi134 : (0 < x3_2.length) = True := eq_true (by omega)
                          (try rw [show ((0 : Int)).toNat = 0 from rfl] at hx134_0)
                          (try rw [Addr.add_zero'] at hx134_0)
                          replace p134 := eq_true p134
                          replace q134 := eq_true q134
                          have p135 : 0 ≤ (1 : Int) := (by omega)
                          have q135 : 1 < (x3_2.length : Int) := of_decide_eq_true (by first | (with_reducible assumption) | assumption)
                          obtain ⟨ad135, e135, hx135_0⟩ := Kd.at_int (Kd.Q_reads' HO_3.out).2.2 1 p135 q135
                          obtain rfl : ad124 = ad135 := (by injection e135)
                          (try simp only [show (1 : Int).toNat = 1 from rfl, Nat.reduceMul, Nat.reduceEqDiff, Go.Addr.add, ↓reduceIte] at hx135_0)
                          have qi135 : (1 < x3_2.length) = True := eq_true (by omega)
                          (try rw [show ((1 : Int)).toNat = 1 from rfl] at hx135_0)
                          replace p135 := eq_true p135
                          replace q135 := eq_true q135
                          have q28 : (1 : Int) ≤ ((x3_2.length : Int) : Int) := of_decide_eq_true (by first | (with_reducible assumption) | assumption)
                          obtain ⟨i028, hi028, _, hsz28, _⟩ := info_parts info5
                          have hcut28 := cut_from (P := Try.prog) 22 5 .i64 Try.underlying22 hi028 1 hsz28 (some ad124) x3_2.length co27 1 (by omega) q28
                          have hr28 := Kd.Q_drop (k := (1 : Int).toNat) HO_3.out (by omega)
                          obtain ⟨A28, hA28⟩ : ∃ A1, A1 = (if co27 = (1 : Int).toNat then (some ad124) else ((some ad124) : Option Addr).map (·.add ((1 : Int).toNat * 1))) := ⟨_, rfl⟩
                          obtain ⟨c28, hc28⟩ : ∃ c1, c1 = co27 - (1 : Int).toNat := ⟨_, rfl⟩
                          have hy28 : y136.length = x3_2.length - (1 : Int).toNat := (by rw [Ny136.out, List.length_drop])
                          rw [← Ny136.out] at hr28
                          rw [← hy28, ← hA28, ← hc28] at hcut28
                          replace hr28 : Kd.Q (Kd.int .u8) 5 wr w.heap.size (fun _ => True) (.slice A28 y136.length c28) y136 := (by rw [hA28, hc28, hy28]; exact hr28)
                          have HE28 : Aside0 ((Value.slice A28 y136.length c28).ownBlock = (.slice (some ad124) x3_2.length co27 : Value).ownBlock) := ⟨by rw [hA28]; split <;> (cases ((some ad124) : Option Addr) <;> rfl)⟩
                          clear hy28 hi028 hsz28 HO_3 hA28 hc28
                          have HO138 := Aside0.mk hr28
                          clear hr28
                          replace q28 := eq_true q28
                          go_wp2
                          go_roundg k2
                          case measure => have := HK1.out; have := HK2.out; omega
                          case rel => exact ⟨(y136), H', ⟨by have := HK1.out; have := HK2.out; omega⟩, ⟨by (with_reducible repeat (first | apply Kd.Q_alloc | apply Kd.Q_drewN | apply Kd.Q_drew)); exact HO138.out⟩, ⟨by repeat (first | (with_reducible first | exact HB.out | apply below_alloc | apply pw_below_drewN | apply below_drew1) | exact HB.out)⟩⟩
                        · rw [if_neg c26] at H
                          exact absurd H (by simp)
                      · rw [if_neg c25] at H
                        have c25b0 : decide (127 < (rd x3_2 1)) = false := decide_eq_false c25
                        clear c25
                        obtain rfl := Option.some.inj H
                        obtain ⟨Ao29, co29, eo29, _⟩ := Kd.Q_slice HO_3.out
                        subst eo29
                        have p124 : 0 ≤ (0 : Int) := (by omega)
                        have q124 : 0 < (x3_2.length : Int) := of_decide_eq_true (by first | (with_reducible assumption) | assumption)
                        obtain ⟨ad124, e124, hx124_0⟩ := Kd.at_int (Kd.Q_reads' HO_3.out).2.2 0 p124 q124
                        cases e124
                        have qi124 : (0 < x3_2.length) = True := eq_true (by omega)
                        (try rw [show ((0 : Int)).toNat = 0 from rfl] at hx124_0)
                        (try rw [Addr.add_zero'] at hx124_0)
                        replace p124 := eq_true p124
                        replace q124 := eq_true q124
                        have p134 : 0 ≤ (0 : Int) := (by omega)
                        have q134 : 0 < (x3_2.length : Int) := of_decide_eq_true (by first | (with_reducible assumption) | assumption)
                        obtain ⟨ad134, e134, hx134_0⟩ := Kd.at_int (Kd.Q_reads' HO_3.out).2.2 0 p134 q134
                        obtain rfl : ad124 = ad134 := (by injection e134)
                        have qi134 : (0 < x3_2.length) = True := eq_true (by omega)
                        (try rw [show ((0 : Int)).toNat = 0 from rfl] at hx134_0)
                        (try rw [Addr.add_zero'] at hx134_0)
                        replace p134 := eq_true p134
                        replace q134 := eq_true q134
                        have p135 : 0 ≤ (1 : Int) := (by omega)
                        have q135 : 1 < (x3_2.length : Int) := of_decide_eq_true (by first | (with_reducible assumption) | assumption)
                        obtain ⟨ad135, e135, hx135_0⟩ := Kd.at_int (Kd.Q_reads' HO_3.out).2.2 1 p135 q135
                        obtain rfl : ad124 = ad135 := (by injection e135)
                        (try simp only [show (1 : Int).toNat = 1 from rfl, Nat.reduceMul, Nat.reduceEqDiff, Go.Addr.add, ↓reduceIte] at hx135_0)
                        have qi135 : (1 < x3_2.length) = True := eq_true (by omega)
                        (try rw [show ((1 : Int)).toNat = 1 from rfl] at hx135_0)
                        replace p135 := eq_true p135
                        replace q135 := eq_true q135
                        go_wp2
                        go_ret
                        exact ⟨_, by first | rfl | (simp [errW_none, errW_some] <;> rfl) | (simp [*, errW_none, errW_some] <;> rfl), by (with_reducible repeat (first | apply Kd.Q_alloc | apply Kd.Q_drewN | apply Kd.Q_drew)); exact HO_3.out, by repeat (first | (with_reducible first | exact HB.out | apply below_alloc | apply pw_below_drewN | apply below_drew1) | exact HB.out)⟩
                    · rw [if_neg c24] at H
                      exact absurd H (by simp)
                  · rw [if_neg c23] at H
                    have c23b0 : ((rd x3_2 0) == 255) = false := beq_eq_false_iff_ne.mpr c23
                    have c23b1 : ((rd x3_2 0) != 255) = true := bne_iff_ne.mpr c23
                    obtain rfl := Option.some.inj H
                    obtain ⟨Ao30, co30, eo30, _⟩ := Kd.Q_slice HO_3.out
                    subst eo30
                    have p124 : 0 ≤ (0 : Int) := (by omega)
                    have q124 : 0 < (x3_2.length : Int) := of_decide_eq_true (by first | (with_reducible assumption) | assumption)
                    obtain ⟨ad124, e124, hx124_0⟩ := Kd.at_int (Kd.Q_reads' HO_3.out).2.2 0 p124 q124
                    cases e124
                    have qi124 : (0 < x3_2.length) = True := eq_true (by omega)
                    (try rw [show ((0 : Int)).toNat = 0 from rfl] at hx124_0)
                    (try rw [Addr.add_zero'] at hx124_0)
                    replace p124 := eq_true p124
                    replace q124 := eq_true q124
                    have p134 : 0 ≤ (0 : Int) := (by omega)
                    have q134 : 0 < (x3_2.length : Int) := of_decide_eq_true (by first | (with_reducible assumption) | assumption)
                    obtain ⟨ad134, e134, hx134_0⟩ := Kd.at_int (Kd.Q_reads' HO_3.out).2.2 0 p134 q134
                    obtain rfl : ad124 = ad134 := (by injection e134)
                    have qi134 : (0 < x3_2.length) = True := eq_true (by omega)
                    (try rw [show ((0 : Int)).toNat = 0 from rfl] at hx134_0)
                    (try rw [Addr.add_zero'] at hx134_0)
                    replace p134 := eq_true p134
                    replace q134 := eq_true q134
                    go_wp2
                    go_ret
                    exact ⟨_, by first | rfl | (simp [errW_none, errW_some] <;> rfl) | (simp [*, errW_none, errW_some] <;> rfl), by (with_reducible repeat (first | apply Kd.Q_alloc | apply Kd.Q_drewN | apply Kd.Q_drew)); exact HO_3.out, by repeat (first | (with_reducible first | exact HB.out | apply below_alloc | apply pw_below_drewN | apply below_drew1) | exact HB.out)⟩
              · rw [if_neg c9] at H
                exact absurd H (by simp)
            · rw [if_neg c8] at H
              have c8b0 : decide (1 < (x3_2.length : Int)) = false := decide_eq_false c8
              have c8b1 : decide (1 < x3_2.length) = false := decide_eq_false (by omega)
              clear c8
              obtain rfl := Option.some.inj H
              obtain ⟨Ao31, co31, eo31, _⟩ := Kd.Q_slice HO_3.out
              subst eo31
              go_wp2
              go_ret
              exact ⟨_, by first | rfl | (simp [errW_none, errW_some] <;> rfl) | (simp [*, errW_none, errW_some] <;> rfl), by (with_reducible repeat (first | apply Kd.Q_alloc | apply Kd.Q_drewN | apply Kd.Q_drew)); exact HO_3.out, by repeat (first | (with_reducible first | exact HB.out | apply below_alloc | apply pw_below_drewN | apply below_drew1) | exact HB.out)⟩

/-! ### whole_PutBool: function 9 -/
def whole_PutBool.f (a0 : Bool) : Option (List Int) := if a0 = true then (some (([255] : List Int))) else (some (([0] : List Int)))
set_option maxHeartbeats 8000000 in
set_option maxRecDepth 100000 in
theorem whole_PutBool.calls (a0 : Bool) (r : List Int) (w : World) (h : whole_PutBool.f a0 = some r) :
    Calls Try.prog 9 #[.bool a0] w fun e w' => ∃ v0_ : Value, e = .returned (v0_) ∧ Kd.R (Kd.int .u8) 5 w' w.heap.size (fun _ => True) v0_ r ∧ Below w.heap.size w w' := by
  have HB := Aside0.mk (Below.refl w.heap.size w)
  have H : (if a0 = true then (some (([255] : List Int))) else (some (([0] : List Int)))) = some r := h
  clear h
  by_cases c2 : a0 = true
  · subst c2
    have H1 : (some (([255] : List Int))) = some r := by rw [if_pos rfl] at H; exact H
    clear H
    have H := H1
    clear H1
    obtain ⟨y139, hy139⟩ : ∃ y_ : List Int, y_ = (([255] : List Int)) := ⟨_, rfl⟩
    replace H : (some y139) = some r := by first | (rw [hy139]; with_reducible exact H) | (have H2_ := (Option.bind_some _ _).symm.trans H; rw [hy139]; with_reducible exact H2_) | (have H2_ := (Option.bind_some _ _).symm.trans H; with_reducible exact H2_) | with_reducible exact H | (rw [hy139]; exact H) | exact H
    have Ny139 := Aside0.mk hy139
    clear hy139
    obtain rfl := Option.some.inj H
    go_enter Try.func9, Try.ntmps9
    go_wp2_with (first | ((with_reducible refine gate_dst (N := 4) rfl ?_); refine Kd.R_lit (Kd.int .u8) _ 5 ?hg (N := 4) ?hd (xs := ([255] : List Int)) (inner := [.int .u8 255]) (ok := fun _ => True) (okp := fun _ => True) ?hr ?hp (fun _ hk => hk) trivial (Below.refl _ _) (Nat.le_refl _) (by simp) ?_; (case hd => rfl); (case hg => rfl); (case hr => first | (go_simp; done) | (go_simp; rfl)); (case hp => exact (Reps.one (show Kd.M (Kd.int .u8) _ _ _ 255 [.int .u8 255] from rfl) (Reps.none _ _))); intro v140 w3 ho4 hb hg_ hnew_; clear hg_ hnew_; (first | rw [← Ny139.out] at ho4 | (simp only [Int.reduceToNat] at ho4; rw [← Ny139.out] at ho4)); have n0_ := Aside0.mk (Kd.R_lower ho4 (below_size (by repeat (first | (with_reducible first | exact HB.out | apply below_alloc | apply pw_below_drewN | apply below_drew1) | exact HB.out)))); have n1_ := Aside0.mk (below_step (by repeat (first | (with_reducible first | exact HB.out | apply below_alloc | apply pw_below_drewN | apply below_drew1) | exact HB.out)) hb); clear HB; have HO141 := n0_; have HB := n1_; clear n0_ n1_; clear hb ho4))
    go_ret
    exact ⟨_, by first | rfl | (simp [errW_none, errW_some] <;> rfl) | (simp [*, errW_none, errW_some] <;> rfl), by (with_reducible repeat (first | apply Kd.R_alloc | apply Kd.R_drewN | apply Kd.R_drew)); exact HO141.out, by repeat (first | (with_reducible first | exact HB.out | apply below_alloc | apply pw_below_drewN | apply below_drew1) | exact HB.out)⟩
  · replace c2 := Bool.eq_false_iff.mpr c2
    subst c2
    have H1 : (some (([0] : List Int))) = some r := by rw [if_neg (show ¬ (false = true) by decide)] at H; exact H
    clear H
    have H := H1
    clear H1
    obtain ⟨y142, hy142⟩ : ∃ y_ : List Int, y_ = (([0] : List Int)) := ⟨_, rfl⟩
    replace H : (some y142) = some r := by first | (rw [hy142]; with_reducible exact H) | (have H2_ := (Option.bind_some _ _).symm.trans H; rw [hy142]; with_reducible exact H2_) | (have H2_ := (Option.bind_some _ _).symm.trans H; with_reducible exact H2_) | with_reducible exact H | (rw [hy142]; exact H) | exact H
    have Ny142 := Aside0.mk hy142
    clear hy142
    obtain rfl := Option.some.inj H
    go_enter Try.func9, Try.ntmps9
    go_wp2_with (first | ((with_reducible refine gate_dst (N := 5) rfl ?_); refine Kd.R_lit (Kd.int .u8) _ 5 ?hg (N := 5) ?hd (xs := ([0] : List Int)) (inner := [.int .u8 0]) (ok := fun _ => True) (okp := fun _ => True) ?hr ?hp (fun _ hk => hk) trivial (Below.refl _ _) (Nat.le_refl _) (by simp) ?_; (case hd => rfl); (case hg => rfl); (case hr => first | (go_simp; done) | (go_simp; rfl)); (case hp => exact (Reps.one (show Kd.M (Kd.int .u8) _ _ _ 0 [.int .u8 0] from rfl) (Reps.none _ _))); intro v143 w5 ho6 hb hg_ hnew_; clear hg_ hnew_; (first | rw [← Ny142.out] at ho6 | (simp only [Int.reduceToNat] at ho6; rw [← Ny142.out] at ho6)); have n0_ := Aside0.mk (Kd.R_lower ho6 (below_size (by repeat (first | (with_reducible first | exact HB.out | apply below_alloc | apply pw_below_drewN | apply below_drew1) | exact HB.out)))); have n1_ := Aside0.mk (below_step (by repeat (first | (with_reducible first | exact HB.out | apply below_alloc | apply pw_below_drewN | apply below_drew1) | exact HB.out)) hb); clear HB; have HO144 := n0_; have HB := n1_; clear n0_ n1_; clear hb ho6))
    go_ret
    exact ⟨_, by first | rfl | (simp [errW_none, errW_some] <;> rfl) | (simp [*, errW_none, errW_some] <;> rfl), by (with_reducible repeat (first | apply Kd.R_alloc | apply Kd.R_drewN | apply Kd.R_drew)); exact HO144.out, by repeat (first | (with_reducible first | exact HB.out | apply below_alloc | apply pw_below_drewN | apply below_drew1) | exact HB.out)⟩

-- NOT PRINTED: function 3 (peeragelaw02_WholeBytes)

end Go.Proofs.Ytcbppladofnnlaa.PWholeBytes
