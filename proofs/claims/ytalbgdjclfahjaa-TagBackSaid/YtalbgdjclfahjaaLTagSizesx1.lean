/- Functions that a law calls, and the walk of the law itself, told by a program of this session (pp.py) over the kit printer; no condition beyond the statement itself; not trusted: Lean checks it. -/
import Derived.Test.YtalbgdjclfahjaaLTagSizesx0
namespace Go.Proofs.Ytalbgdjclfahjaa.LTagSizes
open Go.RowKit Go.Proofs.Ytalbgdjclfahjaa.H Go.Proofs.Ytalbgdjclfahjaa.PTagPuts Go.Proofs.YtalbgdjclfahjaaW.PrintWords Go.Proofs.YtalbgdjclfahjaaW.PrintLast Go.Proofs.YtalbgdjclfahjaaW.PrintMore
attribute [local go_sem] max2_int min2_int max_two min_two max_three min_three max_four min_four   -- for this text's walks alone
set_option linter.unusedVariables false
set_option linter.unusedSimpArgs false

-- NOT PRINTED: function 18 (tag_digits)

/-! ### peeragelaw01_TagSizes: function 5 -/
mutual
def peeragelaw01_TagSizes.l0 : Nat → Int → Int → Int → Int → Bool → Int → Option (Bool)
  | 0, _, _, _, _, _, _ => none
  | k + 1, x1, x5, x6, x103000, x103001, x103002 => if x103002 ≥ 31 then (if x6 > 0 then (peeragelaw01_TagSizes.l0 k x1 (wrap64 (x5 + 1)) (x6 / 128) x103000 x103001 x103002) else (peeragelaw01_TagSizes.l1 k x1 x5 1 x1 x103000 x103001 x103002)) else (peeragelaw01_TagSizes.l1 k x1 x5 1 x1 x103000 x103001 x103002)
def peeragelaw01_TagSizes.l1 : Nat → Int → Int → Int → Int → Int → Bool → Int → Option (Bool)
  | 0, _, _, _, _, _, _, _ => none
  | k + 1, x1, x5, x7, x8, x103000, x103001, x103002 => if x1 ≥ 128 then (if x8 > 0 then (peeragelaw01_TagSizes.l1 k x1 x5 (wrap64 (x7 + 1)) (x8 / 256) x103000 x103001 x103002) else ((tag_Right.f x103000 x103001 x103002).bind fun t103 => (if t103 = true then ((tag_Put.f ([] : List Int) x103000 x103001 x103002).bind fun t104 => (if (t104.length : Int) = x5 then ((tag_PutLen.f ([] : List Int) x1).bind fun t107 => (if (t107.length : Int) = x7 then ((tag_PutLen.f ([] : List Int) (-1)).bind fun t110 => (some ((t110.length : Int) == 0))) else (some false))) else (some false))) else ((tag_PutLen.f ([] : List Int) x1).bind fun t113 => (if (t113.length : Int) = x7 then ((tag_PutLen.f ([] : List Int) (-1)).bind fun t116 => (some ((t116.length : Int) == 0))) else (some false)))))) else ((tag_Right.f x103000 x103001 x103002).bind fun t119 => (if t119 = true then ((tag_Put.f ([] : List Int) x103000 x103001 x103002).bind fun t120 => (if (t120.length : Int) = x5 then ((tag_PutLen.f ([] : List Int) x1).bind fun t123 => (if (t123.length : Int) = x7 then ((tag_PutLen.f ([] : List Int) (-1)).bind fun t126 => (some ((t126.length : Int) == 0))) else (some false))) else (some false))) else ((tag_PutLen.f ([] : List Int) x1).bind fun t129 => (if (t129.length : Int) = x7 then ((tag_PutLen.f ([] : List Int) (-1)).bind fun t132 => (some ((t132.length : Int) == 0))) else (some false)))))
end
def peeragelaw01_TagSizes.f (k : Nat) (a0_0 : Int) (a0_1 : Bool) (a0_2 : Int) (a1 : Int) : Option (Bool) := peeragelaw01_TagSizes.l0 k (Go.bits .and .i64 a1 2147483647) 1 a0_2 a0_0 a0_1 a0_2
theorem peeragelaw01_TagSizes.mono_l : ∀ k, (∀ y0 y1 y2 y3 y4 y5, LeO (peeragelaw01_TagSizes.l0 k y0 y1 y2 y3 y4 y5) (peeragelaw01_TagSizes.l0 (k + 1) y0 y1 y2 y3 y4 y5)) ∧ (∀ y0 y1 y2 y3 y4 y5 y6, LeO (peeragelaw01_TagSizes.l1 k y0 y1 y2 y3 y4 y5 y6) (peeragelaw01_TagSizes.l1 (k + 1) y0 y1 y2 y3 y4 y5 y6))
  | 0 => ⟨fun _ _ _ _ _ _ r h => by simp [peeragelaw01_TagSizes.l0] at h, fun _ _ _ _ _ _ _ r h => by simp [peeragelaw01_TagSizes.l1] at h⟩
  | k + 1 => by
    obtain ⟨ih0, ih1⟩ := peeragelaw01_TagSizes.mono_l k
    refine ⟨?_, ?_⟩
    · intro y0 y1 y2 y3 y4 y5
      unfold peeragelaw01_TagSizes.l0
      repeat' first
      | (with_reducible exact ih0 _ _ _ _ _ _)
      | (with_reducible exact ih1 _ _ _ _ _ _ _)
      | (with_reducible exact LeO.refl _)
      | (with_reducible exact LeO.none _)
      | (with_reducible refine LeO.ite ?_ ?_)
      | (with_reducible refine LeO.bind ?_ (fun _ => ?_))
      | exact ih0 _ _ _ _ _ _
      | exact ih1 _ _ _ _ _ _ _
      | exact LeO.none _
      | refine LeO.ite ?_ ?_
      | refine LeO.bind ?_ (fun _ => ?_)
    · intro y0 y1 y2 y3 y4 y5 y6
      unfold peeragelaw01_TagSizes.l1
      repeat' first
      | (with_reducible exact ih0 _ _ _ _ _ _)
      | (with_reducible exact ih1 _ _ _ _ _ _ _)
      | (with_reducible exact LeO.refl _)
      | (with_reducible exact LeO.none _)
      | (with_reducible refine LeO.ite ?_ ?_)
      | (with_reducible refine LeO.bind ?_ (fun _ => ?_))
      | exact ih0 _ _ _ _ _ _
      | exact ih1 _ _ _ _ _ _ _
      | exact LeO.none _
      | refine LeO.ite ?_ ?_
      | refine LeO.bind ?_ (fun _ => ?_)
theorem peeragelaw01_TagSizes.mono : ∀ a0 a1 a2 a3 k, LeO (peeragelaw01_TagSizes.f k a0 a1 a2 a3) (peeragelaw01_TagSizes.f (k + 1) a0 a1 a2 a3) := by
  intro a0 a1 a2 a3 k
  obtain ⟨ih0, ih1⟩ := peeragelaw01_TagSizes.mono_l k
  unfold peeragelaw01_TagSizes.f
  repeat' first
      | (with_reducible exact ih0 _ _ _ _ _ _)
      | (with_reducible exact ih1 _ _ _ _ _ _ _)
      | (with_reducible exact LeO.refl _)
      | (with_reducible exact LeO.none _)
      | (with_reducible refine LeO.ite ?_ ?_)
      | (with_reducible refine LeO.bind ?_ (fun _ => ?_))
      | exact ih0 _ _ _ _ _ _
      | exact ih1 _ _ _ _ _ _ _
      | exact LeO.none _
      | refine LeO.ite ?_ ?_
      | refine LeO.bind ?_ (fun _ => ?_)
set_option maxHeartbeats 2000000 in
set_option maxRecDepth 100000 in
theorem peeragelaw01_TagSizes.calls (k : Nat) (a0_0 : Int) (a0_1 : Bool) (a0_2 : Int) (a1 : Int) (w : World) (h : peeragelaw01_TagSizes.f k a0_0 a0_1 a0_2 a1 = some true) :
    Calls Try.prog 5 #[.agg #[.int .i64 a0_0, .bool a0_1, .int .i64 a0_2], .int .i64 a1] w fun e w' => e = .returned (.bool true) ∧ Below w.heap.size w w' := by
  have hu24 := Try.underlying24
  have HB := Aside0.mk (Below.refl w.heap.size w)
  have H : (peeragelaw01_TagSizes.l0 k (Go.bits .and .i64 a1 2147483647) 1 a0_2 a0_0 a0_1 a0_2) = some true := h
  clear h
  have H' := Aside0.mk H
  clear H
  go_enter Try.func5, Try.ntmps5
  go_wp2_with (first | ((with_reducible refine gate_dst (N := 2) rfl ?_); (try (refine gate_guard (by rfl) ?_; dsimp only)); refine box_event ?hg (N := 2) ?hd (cs := #[.int .i64 a0_0, .bool a0_1, .int .i64 a0_2]) (t := 24) ?hr ?_; (case hd => rfl); (case hg => rfl); (case hr => first | (go_simp; done) | (go_simp; rfl)); intro gb102 hg w3 hbox hb; have n0_ := Aside0.mk (below_step (by repeat (first | (with_reducible first | exact HB.out | apply below_alloc | apply pw_below_drewN | apply below_drew1) | exact HB.out)) hb); have n1_ := Aside0.mk (hbox); have n2_ := Aside0.mk ((by rw [hg]; exact (below_size (by repeat (first | (with_reducible first | exact HB.out | apply below_alloc | apply pw_below_drewN | apply below_drew1) | exact HB.out))) : w.heap.size ≤ gb102)); have n3_ := Aside0.mk ((by rw [hg]; exact (below_size (by repeat (first | (with_reducible first | exact HB.out | apply below_alloc | apply pw_below_drewN | apply below_drew1) | exact HB.out))) : w.heap.size ≤ gb102)); clear HB; have HB := n0_; have BK102 := n1_; have GW102 := n2_; have GE102 := n3_; clear n0_ n1_ n2_ n3_; clear hb hbox hg; have hcz4_0 : w3.cell? ⟨gb102, 0, none⟩ = some (.int .i64 a0_0) := (blk_cell BK102.out 0).trans rfl; have hcz4_1 : w3.cell? ⟨gb102, 1, none⟩ = some (.bool a0_1) := (blk_cell BK102.out 1).trans rfl; have hcz4_2 : w3.cell? ⟨gb102, 2, none⟩ = some (.int .i64 a0_2) := (blk_cell BK102.out 2).trans rfl; have hfz4_0 := blk_frozen BK102.out 0; have hfz4_1 := blk_frozen BK102.out 1; have hfz4_2 := blk_frozen BK102.out 2))
  go_loopg [5, 6] k (fun kq v5 v6 w' => ∃ (x5_1 : Int) (x6_1 : Int), v5 = .int .i64 x5_1 ∧ v6 = .int .i64 x6_1 ∧ Aside0 (peeragelaw01_TagSizes.l0 kq (Go.bits .and .i64 a1 2147483647) x5_1 x6_1 a0_0 a0_1 a0_2 = some true) ∧ Aside0 (kq ≤ k) ∧ Aside0 (w'.heap[gb102]? = some (.cells #[.int .i64 a0_0, .bool a0_1, .int .i64 a0_2] 24 (0, 0))) ∧ Aside0 (Below w.heap.size w w'))
  case atStart => exact ⟨(1), (a0_2), (by first | rfl | (simp; done) | (simp [*]; done)), (by first | rfl | (simp; done) | (simp [*]; done)), H', ⟨Nat.le_refl _⟩, ⟨by (with_reducible repeat (first | refine blk_drewN ?_ _ | refine blk_drew ?_ | refine blk_alloc ?_ _)); exact BK102.out⟩, ⟨by repeat (first | (with_reducible first | exact HB.out | apply below_alloc | apply pw_below_drewN | apply below_drew1 | refine below_set ?_ GE102.out) | exact HB.out)⟩⟩
  case round =>
    clear H'
    try clear p2
    try clear hcz4_0
    try clear hcz4_1
    try clear hcz4_2
    try clear hfz4_0
    try clear hfz4_1
    try clear hfz4_2
    obtain ⟨x5_1, x6_1, rfl, rfl, HA, HK1, BK102, HB⟩ := hrel
    cases gk with
    | zero => exact absurd HA.out (by simp [peeragelaw01_TagSizes.l0])
    | succ k1 =>
      have H := HA.out
      clear HA
      simp only [peeragelaw01_TagSizes.l0] at H
      by_cases c5 : a0_2 ≥ 31
      · rw [if_pos c5] at H
        have c5b0 : decide (31 ≤ a0_2) = true := decide_eq_true c5
        clear c5
        by_cases c6 : x6_1 > 0
        · rw [if_pos c6] at H
          have c6b0 : decide (0 < x6_1) = true := decide_eq_true c6
          clear c6
          have H' := Aside0.mk H
          clear H
          have hcz7_0 : wr.cell? ⟨gb102, 0, none⟩ = some (.int .i64 a0_0) := (blk_cell BK102.out 0).trans rfl
          have hcz7_1 : wr.cell? ⟨gb102, 1, none⟩ = some (.bool a0_1) := (blk_cell BK102.out 1).trans rfl
          have hcz7_2 : wr.cell? ⟨gb102, 2, none⟩ = some (.int .i64 a0_2) := (blk_cell BK102.out 2).trans rfl
          have hfz7_0 := blk_frozen BK102.out 0
          have hfz7_1 := blk_frozen BK102.out 1
          have hfz7_2 := blk_frozen BK102.out 2
          go_wp2
          go_roundg k1
          case measure => have := HK1.out; omega
          case rel => exact ⟨(wrap64 (x5_1 + 1)), (x6_1 / 128), (by first | rfl | (simp; done) | (simp [*]; done)), (by first | rfl | (simp; done) | (simp [*]; done)), H', ⟨by have := HK1.out; omega⟩, ⟨by (with_reducible repeat (first | refine blk_drewN ?_ _ | refine blk_drew ?_ | refine blk_alloc ?_ _)); exact BK102.out⟩, ⟨by repeat (first | (with_reducible first | exact HB.out | apply below_alloc | apply pw_below_drewN | apply below_drew1 | refine below_set ?_ GE102.out) | exact HB.out)⟩⟩
        · rw [if_neg c6] at H
          have c6b0 : decide (0 < x6_1) = false := decide_eq_false c6
          clear c6
          have H' := Aside0.mk H
          clear H
          have hcz8_0 : wr.cell? ⟨gb102, 0, none⟩ = some (.int .i64 a0_0) := (blk_cell BK102.out 0).trans rfl
          have hcz8_1 : wr.cell? ⟨gb102, 1, none⟩ = some (.bool a0_1) := (blk_cell BK102.out 1).trans rfl
          have hcz8_2 : wr.cell? ⟨gb102, 2, none⟩ = some (.int .i64 a0_2) := (blk_cell BK102.out 2).trans rfl
          have hfz8_0 := blk_frozen BK102.out 0
          have hfz8_1 := blk_frozen BK102.out 1
          have hfz8_2 := blk_frozen BK102.out 2
          go_wp2
          go_loopg [7, 8] k1 (fun kq v7 v8 w' => ∃ (x7_2 : Int) (x8_2 : Int), v7 = .int .i64 x7_2 ∧ v8 = .int .i64 x8_2 ∧ Aside0 (peeragelaw01_TagSizes.l1 kq (Go.bits .and .i64 a1 2147483647) x5_1 x7_2 x8_2 a0_0 a0_1 a0_2 = some true) ∧ Aside0 (kq ≤ k1) ∧ Aside0 (w'.heap[gb102]? = some (.cells #[.int .i64 a0_0, .bool a0_1, .int .i64 a0_2] 24 (0, 0))) ∧ Aside0 (Below w.heap.size w w'))
          case atStart => exact ⟨(1), ((Go.bits .and .i64 a1 2147483647)), (by first | rfl | (simp; done) | (simp [*]; done)), (by first | rfl | (simp; done) | (simp [*]; done)), H', ⟨Nat.le_refl _⟩, ⟨by (with_reducible repeat (first | refine blk_drewN ?_ _ | refine blk_drew ?_ | refine blk_alloc ?_ _)); exact BK102.out⟩, ⟨by repeat (first | (with_reducible first | exact HB.out | apply below_alloc | apply pw_below_drewN | apply below_drew1 | refine below_set ?_ GE102.out) | exact HB.out)⟩⟩
          case round =>
            clear H'
            try clear p2
            try clear c5
            try clear c5b0
            try clear c6
            try clear c6b0
            try clear p6
            try clear hcz4_0
            try clear hcz4_1
            try clear hcz4_2
            try clear hcz7_0
            try clear hcz7_1
            try clear hcz7_2
            try clear hcz8_0
            try clear hcz8_1
            try clear hcz8_2
            try clear hfz4_0
            try clear hfz4_1
            try clear hfz4_2
            try clear hfz7_0
            try clear hfz7_1
            try clear hfz7_2
            try clear hfz8_0
            try clear hfz8_1
            try clear hfz8_2
            try clear p2
            obtain ⟨x7_2, x8_2, rfl, rfl, HA, HK2, BK102, HB⟩ := hrel
            cases gk with
            | zero => exact absurd HA.out (by simp [peeragelaw01_TagSizes.l1])
            | succ k2 =>
              have H := HA.out
              clear HA
              simp only [peeragelaw01_TagSizes.l1] at H
              by_cases c9 : (Go.bits .and .i64 a1 2147483647) ≥ 128
              · rw [if_pos c9] at H
                have c9b0 : decide (128 ≤ (Go.bits .and .i64 a1 2147483647)) = true := decide_eq_true c9
                clear c9
                by_cases c10 : x8_2 > 0
                · rw [if_pos c10] at H
                  have c10b0 : decide (0 < x8_2) = true := decide_eq_true c10
                  clear c10
                  have H' := Aside0.mk H
                  clear H
                  go_wp2
                  go_roundg k2
                  case measure => have := HK1.out; have := HK2.out; omega
                  case rel => exact ⟨(wrap64 (x7_2 + 1)), (x8_2 / 256), (by first | rfl | (simp; done) | (simp [*]; done)), (by first | rfl | (simp; done) | (simp [*]; done)), H', ⟨by have := HK1.out; have := HK2.out; omega⟩, ⟨by (with_reducible repeat (first | refine blk_drewN ?_ _ | refine blk_drew ?_ | refine blk_alloc ?_ _)); exact BK102.out⟩, ⟨by repeat (first | (with_reducible first | exact HB.out | apply below_alloc | apply pw_below_drewN | apply below_drew1 | refine below_set ?_ GE102.out) | exact HB.out)⟩⟩
                · rw [if_neg c10] at H
                  have c10b0 : decide (0 < x8_2) = false := decide_eq_false c10
                  clear c10
                  replace H := Option.bind_eq_some_iff.mp H
                  obtain ⟨t103, A110, H⟩ := H
                  replace H : (if t103 = true then ((tag_Put.f ([] : List Int) a0_0 a0_1 a0_2).bind fun t104 => (if (t104.length : Int) = x5_1 then ((tag_PutLen.f ([] : List Int) (Go.bits .and .i64 a1 2147483647)).bind fun t107 => (if (t107.length : Int) = x7_2 then ((tag_PutLen.f ([] : List Int) (-1)).bind fun t110 => (some ((t110.length : Int) == 0))) else (some false))) else (some false))) else ((tag_PutLen.f ([] : List Int) (Go.bits .and .i64 a1 2147483647)).bind fun t113 => (if (t113.length : Int) = x7_2 then ((tag_PutLen.f ([] : List Int) (-1)).bind fun t116 => (some ((t116.length : Int) == 0))) else (some false)))) = some true := H
                  have A11 := Aside0.mk A110
                  clear A110
                  by_cases c12 : t103 = true
                  · subst c12
                    have H1 : ((tag_Put.f ([] : List Int) a0_0 a0_1 a0_2).bind fun t104 => (if (t104.length : Int) = x5_1 then ((tag_PutLen.f ([] : List Int) (Go.bits .and .i64 a1 2147483647)).bind fun t107 => (if (t107.length : Int) = x7_2 then ((tag_PutLen.f ([] : List Int) (-1)).bind fun t110 => (some ((t110.length : Int) == 0))) else (some false))) else (some false))) = some true := by rw [if_pos rfl] at H; exact H
                    clear H
                    have H := H1
                    clear H1
                    replace H := Option.bind_eq_some_iff.mp H
                    obtain ⟨t104, A130, H⟩ := H
                    replace H : (if (t104.length : Int) = x5_1 then ((tag_PutLen.f ([] : List Int) (Go.bits .and .i64 a1 2147483647)).bind fun t107 => (if (t107.length : Int) = x7_2 then ((tag_PutLen.f ([] : List Int) (-1)).bind fun t110 => (some ((t110.length : Int) == 0))) else (some false))) else (some false)) = some true := H
                    have A13 := Aside0.mk A130
                    clear A130
                    by_cases c14 : (t104.length : Int) = x5_1
                    · rw [if_pos c14] at H
                      have c14b0 : ((t104.length : Int) == x5_1) = true := beq_iff_eq.mpr c14
                      have c14b1 : ((t104.length : Int) != x5_1) = false := bne_eq_false_iff_eq.mpr c14
                      clear c14
                      replace H := Option.bind_eq_some_iff.mp H
                      obtain ⟨t107, A150, H⟩ := H
                      replace H : (if (t107.length : Int) = x7_2 then ((tag_PutLen.f ([] : List Int) (-1)).bind fun t110 => (some ((t110.length : Int) == 0))) else (some false)) = some true := H
                      have A15 := Aside0.mk A150
                      clear A150
                      by_cases c16 : (t107.length : Int) = x7_2
                      · rw [if_pos c16] at H
                        have c16b0 : ((t107.length : Int) == x7_2) = true := beq_iff_eq.mpr c16
                        have c16b1 : ((t107.length : Int) != x7_2) = false := bne_eq_false_iff_eq.mpr c16
                        clear c16
                        replace H := Option.bind_eq_some_iff.mp H
                        obtain ⟨t110, A170, H⟩ := H
                        replace H : (some ((t110.length : Int) == 0)) = some true := H
                        have A17 := Aside0.mk A170
                        clear A170
                        have hr_ := Option.some.inj H
                        have hcz18_0 : wr.cell? ⟨gb102, 0, none⟩ = some (.int .i64 a0_0) := (blk_cell BK102.out 0).trans rfl
                        have hcz18_1 : wr.cell? ⟨gb102, 1, none⟩ = some (.bool a0_1) := (blk_cell BK102.out 1).trans rfl
                        have hcz18_2 : wr.cell? ⟨gb102, 2, none⟩ = some (.int .i64 a0_2) := (blk_cell BK102.out 2).trans rfl
                        have hfz18_0 := blk_frozen BK102.out 0
                        have hfz18_1 := blk_frozen BK102.out 1
                        have hfz18_2 := blk_frozen BK102.out 2
                        go_wp2_with (first | ((with_reducible refine gate_callee (f := 10) rfl ?_); refine goesL_ (some 36) rfl rfl Try.func10 (by kernel_rfl) rfl #[.agg #[.int .i64 a0_0, .bool a0_1, .int .i64 a0_2]] rfl (by (try simp only [List.map_toArray, List.map_cons, List.map_nil]); first | done | rfl | (simp only [List.length_drop, List.length_take]; rfl)) ?_; (with_reducible refine (tag_Right.calls a0_0 a0_1 a0_2 true _ A11.out).mono ?_); rintro e w19 ⟨rfl, hb⟩; refine ⟨_, rfl, ?_⟩; have n0_ := Aside0.mk (blk_below (g := gb102) (o := .cells #[.int .i64 a0_0, .bool a0_1, .int .i64 a0_2] 24 (0, 0)) (by (with_reducible repeat (first | refine blk_drewN ?_ _ | refine blk_drew ?_ | refine blk_alloc ?_ _)); exact BK102.out) hb); have n1_ := Aside0.mk (below_step (by repeat (first | (with_reducible first | exact HB.out | apply below_alloc | apply pw_below_drewN | apply below_drew1 | refine below_set ?_ GE102.out) | exact HB.out)) hb); clear BK102; clear HB; have BK102 := n0_; have HB := n1_; clear n0_ n1_; (try clear hb); (try clear hb2); (try clear hk); (try clear hi); have hcz20_0 : w19.cell? ⟨gb102, 0, none⟩ = some (.int .i64 a0_0) := (blk_cell BK102.out 0).trans rfl; have hcz20_1 : w19.cell? ⟨gb102, 1, none⟩ = some (.bool a0_1) := (blk_cell BK102.out 1).trans rfl; have hcz20_2 : w19.cell? ⟨gb102, 2, none⟩ = some (.int .i64 a0_2) := (blk_cell BK102.out 2).trans rfl; have hfz20_0 := blk_frozen BK102.out 0; have hfz20_1 := blk_frozen BK102.out 1; have hfz20_2 := blk_frozen BK102.out 2) | (go_at_call 8; (refine (tag_Put.calls _ _ ([] : List Int) a0_0 a0_1 a0_2 t104 _ ?side1 ?side2 A13.out).mono ?_); (case side1 => exact Kd.C_nil _ _); (case side2 => exact Nat.le_refl _); rintro e w21 ⟨v105, rfl, ho0, hb⟩; have n0_ := Aside0.mk (Kd.R_lower ho0 (below_size (by repeat (first | (with_reducible first | exact HB.out | apply below_alloc | apply pw_below_drewN | apply below_drew1 | refine below_set ?_ GE102.out) | exact HB.out)))); have n1_ := Aside0.mk (blk_below (g := gb102) (o := .cells #[.int .i64 a0_0, .bool a0_1, .int .i64 a0_2] 24 (0, 0)) (by (with_reducible repeat (first | refine blk_drewN ?_ _ | refine blk_drew ?_ | refine blk_alloc ?_ _)); exact BK102.out) hb); have n2_ := Aside0.mk (below_step (by repeat (first | (with_reducible first | exact HB.out | apply below_alloc | apply pw_below_drewN | apply below_drew1 | refine below_set ?_ GE102.out) | exact HB.out)) hb); clear BK102; clear HB; have HO106 := n0_; have BK102 := n1_; have HB := n2_; clear n0_ n1_ n2_; (try clear hb); (try clear hb2); (try clear hk); (try clear hi); (try clear ho0); obtain ⟨Ao22, co22, eo22⟩ := Kd.R_slice HO106.out; subst eo22) | (go_at_call_of 9 (Value.int IntKind.i64 (Go.bits .and .i64 a1 2147483647)); (refine (tag_PutLen.calls _ _ ([] : List Int) (Go.bits .and .i64 a1 2147483647) t107 _ ?side1 ?side2 A15.out).mono ?_); (case side1 => exact Kd.C_nil _ _); (case side2 => exact Nat.le_refl _); rintro e w23 ⟨v108, rfl, ho0, hb⟩; have n0_ := Aside0.mk (Kd.R_elder' (by (with_reducible repeat (first | apply Kd.R_alloc | apply Kd.R_drewN | apply Kd.R_drew)); exact HO106.out) (Kd.R_base ho0) hb); have n1_ := Aside0.mk (Kd.R_lower (Kd.R_new' ho0 (Kd.R_lt (by (with_reducible repeat (first | apply Kd.R_alloc | apply Kd.R_drewN | apply Kd.R_drew)); exact HO106.out))) (below_size (by repeat (first | (with_reducible first | exact HB.out | apply below_alloc | apply pw_below_drewN | apply below_drew1 | refine below_set ?_ GE102.out) | exact HB.out)))); have n2_ := Aside0.mk (blk_below (g := gb102) (o := .cells #[.int .i64 a0_0, .bool a0_1, .int .i64 a0_2] 24 (0, 0)) (by (with_reducible repeat (first | refine blk_drewN ?_ _ | refine blk_drew ?_ | refine blk_alloc ?_ _)); exact BK102.out) hb); have n3_ := Aside0.mk (below_step (by repeat (first | (with_reducible first | exact HB.out | apply below_alloc | apply pw_below_drewN | apply below_drew1 | refine below_set ?_ GE102.out) | exact HB.out)) hb); clear HO106; clear BK102; clear HB; have HO106 := n0_; have HO109 := n1_; have BK102 := n2_; have HB := n3_; clear n0_ n1_ n2_ n3_; (try clear hb); (try clear hb2); (try clear hk); (try clear hi); (try clear ho0); obtain ⟨Ao24, co24, eo24⟩ := Kd.R_slice HO109.out; subst eo24) | (go_at_call 9; (refine (tag_PutLen.calls _ _ ([] : List Int) (-1) t110 _ ?side1 ?side2 A17.out).mono ?_); (case side1 => exact Kd.C_nil _ _); (case side2 => exact Nat.le_refl _); rintro e w25 ⟨v111, rfl, ho0, hb⟩; have n0_ := Aside0.mk (Kd.R_elder' (by (with_reducible repeat (first | apply Kd.R_alloc | apply Kd.R_drewN | apply Kd.R_drew)); exact HO106.out) (Kd.R_base ho0) hb); have n1_ := Aside0.mk (Kd.R_elder' (by (with_reducible repeat (first | apply Kd.R_alloc | apply Kd.R_drewN | apply Kd.R_drew)); exact HO109.out) (Kd.R_base ho0) hb); have n2_ := Aside0.mk (Kd.R_lower (Kd.R_new' (Kd.R_new' ho0 (Kd.R_lt (by (with_reducible repeat (first | apply Kd.R_alloc | apply Kd.R_drewN | apply Kd.R_drew)); exact HO106.out))) (Kd.R_lt (by (with_reducible repeat (first | apply Kd.R_alloc | apply Kd.R_drewN | apply Kd.R_drew)); exact HO109.out))) (below_size (by repeat (first | (with_reducible first | exact HB.out | apply below_alloc | apply pw_below_drewN | apply below_drew1 | refine below_set ?_ GE102.out) | exact HB.out)))); have n3_ := Aside0.mk (blk_below (g := gb102) (o := .cells #[.int .i64 a0_0, .bool a0_1, .int .i64 a0_2] 24 (0, 0)) (by (with_reducible repeat (first | refine blk_drewN ?_ _ | refine blk_drew ?_ | refine blk_alloc ?_ _)); exact BK102.out) hb); have n4_ := Aside0.mk (below_step (by repeat (first | (with_reducible first | exact HB.out | apply below_alloc | apply pw_below_drewN | apply below_drew1 | refine below_set ?_ GE102.out) | exact HB.out)) hb); clear HO106; clear HO109; clear BK102; clear HB; have HO106 := n0_; have HO109 := n1_; have HO112 := n2_; have BK102 := n3_; have HB := n4_; clear n0_ n1_ n2_ n3_ n4_; (try clear hb); (try clear hb2); (try clear hk); (try clear hi); (try clear ho0); obtain ⟨Ao26, co26, eo26⟩ := Kd.R_slice HO112.out; subst eo26))
                        go_ret
                        exact ⟨by first | rfl | (rw [hr_]) | (simp [errW_none, errW_some] <;> rfl) | (simp [*, errW_none, errW_some] <;> rfl), by repeat (first | (with_reducible first | exact HB.out | apply below_alloc | apply pw_below_drewN | apply below_drew1 | refine below_set ?_ GE102.out) | exact HB.out)⟩
                      · exact absurd (Option.some.inj ((if_neg c16).symm.trans H)) (by decide)
                    · exact absurd (Option.some.inj ((if_neg c14).symm.trans H)) (by decide)
                  · replace c12 := Bool.eq_false_iff.mpr c12
                    subst c12
                    have H1 : ((tag_PutLen.f ([] : List Int) (Go.bits .and .i64 a1 2147483647)).bind fun t113 => (if (t113.length : Int) = x7_2 then ((tag_PutLen.f ([] : List Int) (-1)).bind fun t116 => (some ((t116.length : Int) == 0))) else (some false))) = some true := by rw [if_neg (show ¬ (false = true) by decide)] at H; exact H
                    clear H
                    have H := H1
                    clear H1
                    replace H := Option.bind_eq_some_iff.mp H
                    obtain ⟨t113, A390, H⟩ := H
                    replace H : (if (t113.length : Int) = x7_2 then ((tag_PutLen.f ([] : List Int) (-1)).bind fun t116 => (some ((t116.length : Int) == 0))) else (some false)) = some true := H
                    have A39 := Aside0.mk A390
                    clear A390
                    by_cases c40 : (t113.length : Int) = x7_2
                    · rw [if_pos c40] at H
                      have c40b0 : ((t113.length : Int) == x7_2) = true := beq_iff_eq.mpr c40
                      have c40b1 : ((t113.length : Int) != x7_2) = false := bne_eq_false_iff_eq.mpr c40
                      clear c40
                      replace H := Option.bind_eq_some_iff.mp H
                      obtain ⟨t116, A410, H⟩ := H
                      replace H : (some ((t116.length : Int) == 0)) = some true := H
                      have A41 := Aside0.mk A410
                      clear A410
                      have hr_ := Option.some.inj H
                      have hcz42_0 : wr.cell? ⟨gb102, 0, none⟩ = some (.int .i64 a0_0) := (blk_cell BK102.out 0).trans rfl
                      have hcz42_1 : wr.cell? ⟨gb102, 1, none⟩ = some (.bool a0_1) := (blk_cell BK102.out 1).trans rfl
                      have hcz42_2 : wr.cell? ⟨gb102, 2, none⟩ = some (.int .i64 a0_2) := (blk_cell BK102.out 2).trans rfl
                      have hfz42_0 := blk_frozen BK102.out 0
                      have hfz42_1 := blk_frozen BK102.out 1
                      have hfz42_2 := blk_frozen BK102.out 2
                      go_wp2_with (first | ((with_reducible refine gate_callee (f := 10) rfl ?_); refine goesL_ (some 36) rfl rfl Try.func10 (by kernel_rfl) rfl #[.agg #[.int .i64 a0_0, .bool a0_1, .int .i64 a0_2]] rfl (by (try simp only [List.map_toArray, List.map_cons, List.map_nil]); first | done | rfl | (simp only [List.length_drop, List.length_take]; rfl)) ?_; (with_reducible refine (tag_Right.calls a0_0 a0_1 a0_2 false _ A11.out).mono ?_); rintro e w43 ⟨rfl, hb⟩; refine ⟨_, rfl, ?_⟩; have n0_ := Aside0.mk (blk_below (g := gb102) (o := .cells #[.int .i64 a0_0, .bool a0_1, .int .i64 a0_2] 24 (0, 0)) (by (with_reducible repeat (first | refine blk_drewN ?_ _ | refine blk_drew ?_ | refine blk_alloc ?_ _)); exact BK102.out) hb); have n1_ := Aside0.mk (below_step (by repeat (first | (with_reducible first | exact HB.out | apply below_alloc | apply pw_below_drewN | apply below_drew1 | refine below_set ?_ GE102.out) | exact HB.out)) hb); clear BK102; clear HB; have BK102 := n0_; have HB := n1_; clear n0_ n1_; (try clear hb); (try clear hb2); (try clear hk); (try clear hi)) | (go_at_call_of 9 (Value.int IntKind.i64 (Go.bits .and .i64 a1 2147483647)); (refine (tag_PutLen.calls _ _ ([] : List Int) (Go.bits .and .i64 a1 2147483647) t113 _ ?side1 ?side2 A39.out).mono ?_); (case side1 => exact Kd.C_nil _ _); (case side2 => exact Nat.le_refl _); rintro e w44 ⟨v114, rfl, ho0, hb⟩; have n0_ := Aside0.mk (Kd.R_lower ho0 (below_size (by repeat (first | (with_reducible first | exact HB.out | apply below_alloc | apply pw_below_drewN | apply below_drew1 | refine below_set ?_ GE102.out) | exact HB.out)))); have n1_ := Aside0.mk (blk_below (g := gb102) (o := .cells #[.int .i64 a0_0, .bool a0_1, .int .i64 a0_2] 24 (0, 0)) (by (with_reducible repeat (first | refine blk_drewN ?_ _ | refine blk_drew ?_ | refine blk_alloc ?_ _)); exact BK102.out) hb); have n2_ := Aside0.mk (below_step (by repeat (first | (with_reducible first | exact HB.out | apply below_alloc | apply pw_below_drewN | apply below_drew1 | refine below_set ?_ GE102.out) | exact HB.out)) hb); clear BK102; clear HB; have HO115 := n0_; have BK102 := n1_; have HB := n2_; clear n0_ n1_ n2_; (try clear hb); (try clear hb2); (try clear hk); (try clear hi); (try clear ho0); obtain ⟨Ao45, co45, eo45⟩ := Kd.R_slice HO115.out; subst eo45) | (go_at_call 9; (refine (tag_PutLen.calls _ _ ([] : List Int) (-1) t116 _ ?side1 ?side2 A41.out).mono ?_); (case side1 => exact Kd.C_nil _ _); (case side2 => exact Nat.le_refl _); rintro e w46 ⟨v117, rfl, ho0, hb⟩; have n0_ := Aside0.mk (Kd.R_elder' (by (with_reducible repeat (first | apply Kd.R_alloc | apply Kd.R_drewN | apply Kd.R_drew)); exact HO115.out) (Kd.R_base ho0) hb); have n1_ := Aside0.mk (Kd.R_lower (Kd.R_new' ho0 (Kd.R_lt (by (with_reducible repeat (first | apply Kd.R_alloc | apply Kd.R_drewN | apply Kd.R_drew)); exact HO115.out))) (below_size (by repeat (first | (with_reducible first | exact HB.out | apply below_alloc | apply pw_below_drewN | apply below_drew1 | refine below_set ?_ GE102.out) | exact HB.out)))); have n2_ := Aside0.mk (blk_below (g := gb102) (o := .cells #[.int .i64 a0_0, .bool a0_1, .int .i64 a0_2] 24 (0, 0)) (by (with_reducible repeat (first | refine blk_drewN ?_ _ | refine blk_drew ?_ | refine blk_alloc ?_ _)); exact BK102.out) hb); have n3_ := Aside0.mk (below_step (by repeat (first | (with_reducible first | exact HB.out | apply below_alloc | apply pw_below_drewN | apply below_drew1 | refine below_set ?_ GE102.out) | exact HB.out)) hb); clear HO115; clear BK102; clear HB; have HO115 := n0_; have HO118 := n1_; have BK102 := n2_; have HB := n3_; clear n0_ n1_ n2_ n3_; (try clear hb); (try clear hb2); (try clear hk); (try clear hi); (try clear ho0); obtain ⟨Ao47, co47, eo47⟩ := Kd.R_slice HO118.out; subst eo47))
                      go_ret
                      exact ⟨by first | rfl | (rw [hr_]) | (simp [errW_none, errW_some] <;> rfl) | (simp [*, errW_none, errW_some] <;> rfl), by repeat (first | (with_reducible first | exact HB.out | apply below_alloc | apply pw_below_drewN | apply below_drew1 | refine below_set ?_ GE102.out) | exact HB.out)⟩
                    · exact absurd (Option.some.inj ((if_neg c40).symm.trans H)) (by decide)
              · rw [if_neg c9] at H
                have c9b0 : decide (128 ≤ (Go.bits .and .i64 a1 2147483647)) = false := decide_eq_false c9
                clear c9
                replace H := Option.bind_eq_some_iff.mp H
                obtain ⟨t119, A520, H⟩ := H
                replace H : (if t119 = true then ((tag_Put.f ([] : List Int) a0_0 a0_1 a0_2).bind fun t120 => (if (t120.length : Int) = x5_1 then ((tag_PutLen.f ([] : List Int) (Go.bits .and .i64 a1 2147483647)).bind fun t123 => (if (t123.length : Int) = x7_2 then ((tag_PutLen.f ([] : List Int) (-1)).bind fun t126 => (some ((t126.length : Int) == 0))) else (some false))) else (some false))) else ((tag_PutLen.f ([] : List Int) (Go.bits .and .i64 a1 2147483647)).bind fun t129 => (if (t129.length : Int) = x7_2 then ((tag_PutLen.f ([] : List Int) (-1)).bind fun t132 => (some ((t132.length : Int) == 0))) else (some false)))) = some true := H
                have A52 := Aside0.mk A520
                clear A520
                by_cases c53 : t119 = true
                · subst c53
                  have H1 : ((tag_Put.f ([] : List Int) a0_0 a0_1 a0_2).bind fun t120 => (if (t120.length : Int) = x5_1 then ((tag_PutLen.f ([] : List Int) (Go.bits .and .i64 a1 2147483647)).bind fun t123 => (if (t123.length : Int) = x7_2 then ((tag_PutLen.f ([] : List Int) (-1)).bind fun t126 => (some ((t126.length : Int) == 0))) else (some false))) else (some false))) = some true := by rw [if_pos rfl] at H; exact H
                  clear H
                  have H := H1
                  clear H1
                  replace H := Option.bind_eq_some_iff.mp H
                  obtain ⟨t120, A540, H⟩ := H
                  replace H : (if (t120.length : Int) = x5_1 then ((tag_PutLen.f ([] : List Int) (Go.bits .and .i64 a1 2147483647)).bind fun t123 => (if (t123.length : Int) = x7_2 then ((tag_PutLen.f ([] : List Int) (-1)).bind fun t126 => (some ((t126.length : Int) == 0))) else (some false))) else (some false)) = some true := H
                  have A54 := Aside0.mk A540
                  clear A540
                  by_cases c55 : (t120.length : Int) = x5_1
                  · rw [if_pos c55] at H
                    have c55b0 : ((t120.length : Int) == x5_1) = true := beq_iff_eq.mpr c55
                    have c55b1 : ((t120.length : Int) != x5_1) = false := bne_eq_false_iff_eq.mpr c55
                    clear c55
                    replace H := Option.bind_eq_some_iff.mp H
                    obtain ⟨t123, A560, H⟩ := H
                    replace H : (if (t123.length : Int) = x7_2 then ((tag_PutLen.f ([] : List Int) (-1)).bind fun t126 => (some ((t126.length : Int) == 0))) else (some false)) = some true := H
                    have A56 := Aside0.mk A560
                    clear A560
                    by_cases c57 : (t123.length : Int) = x7_2
                    · rw [if_pos c57] at H
                      have c57b0 : ((t123.length : Int) == x7_2) = true := beq_iff_eq.mpr c57
                      have c57b1 : ((t123.length : Int) != x7_2) = false := bne_eq_false_iff_eq.mpr c57
                      clear c57
                      replace H := Option.bind_eq_some_iff.mp H
                      obtain ⟨t126, A580, H⟩ := H
                      replace H : (some ((t126.length : Int) == 0)) = some true := H
                      have A58 := Aside0.mk A580
                      clear A580
                      have hr_ := Option.some.inj H
                      have hcz59_0 : wr.cell? ⟨gb102, 0, none⟩ = some (.int .i64 a0_0) := (blk_cell BK102.out 0).trans rfl
                      have hcz59_1 : wr.cell? ⟨gb102, 1, none⟩ = some (.bool a0_1) := (blk_cell BK102.out 1).trans rfl
                      have hcz59_2 : wr.cell? ⟨gb102, 2, none⟩ = some (.int .i64 a0_2) := (blk_cell BK102.out 2).trans rfl
                      have hfz59_0 := blk_frozen BK102.out 0
                      have hfz59_1 := blk_frozen BK102.out 1
                      have hfz59_2 := blk_frozen BK102.out 2
                      go_wp2_with (first | ((with_reducible refine gate_callee (f := 10) rfl ?_); refine goesL_ (some 36) rfl rfl Try.func10 (by kernel_rfl) rfl #[.agg #[.int .i64 a0_0, .bool a0_1, .int .i64 a0_2]] rfl (by (try simp only [List.map_toArray, List.map_cons, List.map_nil]); first | done | rfl | (simp only [List.length_drop, List.length_take]; rfl)) ?_; (with_reducible refine (tag_Right.calls a0_0 a0_1 a0_2 true _ A52.out).mono ?_); rintro e w60 ⟨rfl, hb⟩; refine ⟨_, rfl, ?_⟩; have n0_ := Aside0.mk (blk_below (g := gb102) (o := .cells #[.int .i64 a0_0, .bool a0_1, .int .i64 a0_2] 24 (0, 0)) (by (with_reducible repeat (first | refine blk_drewN ?_ _ | refine blk_drew ?_ | refine blk_alloc ?_ _)); exact BK102.out) hb); have n1_ := Aside0.mk (below_step (by repeat (first | (with_reducible first | exact HB.out | apply below_alloc | apply pw_below_drewN | apply below_drew1 | refine below_set ?_ GE102.out) | exact HB.out)) hb); clear BK102; clear HB; have BK102 := n0_; have HB := n1_; clear n0_ n1_; (try clear hb); (try clear hb2); (try clear hk); (try clear hi); have hcz61_0 : w60.cell? ⟨gb102, 0, none⟩ = some (.int .i64 a0_0) := (blk_cell BK102.out 0).trans rfl; have hcz61_1 : w60.cell? ⟨gb102, 1, none⟩ = some (.bool a0_1) := (blk_cell BK102.out 1).trans rfl; have hcz61_2 : w60.cell? ⟨gb102, 2, none⟩ = some (.int .i64 a0_2) := (blk_cell BK102.out 2).trans rfl; have hfz61_0 := blk_frozen BK102.out 0; have hfz61_1 := blk_frozen BK102.out 1; have hfz61_2 := blk_frozen BK102.out 2) | (go_at_call 8; (refine (tag_Put.calls _ _ ([] : List Int) a0_0 a0_1 a0_2 t120 _ ?side1 ?side2 A54.out).mono ?_); (case side1 => exact Kd.C_nil _ _); (case side2 => exact Nat.le_refl _); rintro e w62 ⟨v121, rfl, ho0, hb⟩; have n0_ := Aside0.mk (Kd.R_lower ho0 (below_size (by repeat (first | (with_reducible first | exact HB.out | apply below_alloc | apply pw_below_drewN | apply below_drew1 | refine below_set ?_ GE102.out) | exact HB.out)))); have n1_ := Aside0.mk (blk_below (g := gb102) (o := .cells #[.int .i64 a0_0, .bool a0_1, .int .i64 a0_2] 24 (0, 0)) (by (with_reducible repeat (first | refine blk_drewN ?_ _ | refine blk_drew ?_ | refine blk_alloc ?_ _)); exact BK102.out) hb); have n2_ := Aside0.mk (below_step (by repeat (first | (with_reducible first | exact HB.out | apply below_alloc | apply pw_below_drewN | apply below_drew1 | refine below_set ?_ GE102.out) | exact HB.out)) hb); clear BK102; clear HB; have HO122 := n0_; have BK102 := n1_; have HB := n2_; clear n0_ n1_ n2_; (try clear hb); (try clear hb2); (try clear hk); (try clear hi); (try clear ho0); obtain ⟨Ao63, co63, eo63⟩ := Kd.R_slice HO122.out; subst eo63) | (go_at_call_of 9 (Value.int IntKind.i64 (Go.bits .and .i64 a1 2147483647)); (refine (tag_PutLen.calls _ _ ([] : List Int) (Go.bits .and .i64 a1 2147483647) t123 _ ?side1 ?side2 A56.out).mono ?_); (case side1 => exact Kd.C_nil _ _); (case side2 => exact Nat.le_refl _); rintro e w64 ⟨v124, rfl, ho0, hb⟩; have n0_ := Aside0.mk (Kd.R_elder' (by (with_reducible repeat (first | apply Kd.R_alloc | apply Kd.R_drewN | apply Kd.R_drew)); exact HO122.out) (Kd.R_base ho0) hb); have n1_ := Aside0.mk (Kd.R_lower (Kd.R_new' ho0 (Kd.R_lt (by (with_reducible repeat (first | apply Kd.R_alloc | apply Kd.R_drewN | apply Kd.R_drew)); exact HO122.out))) (below_size (by repeat (first | (with_reducible first | exact HB.out | apply below_alloc | apply pw_below_drewN | apply below_drew1 | refine below_set ?_ GE102.out) | exact HB.out)))); have n2_ := Aside0.mk (blk_below (g := gb102) (o := .cells #[.int .i64 a0_0, .bool a0_1, .int .i64 a0_2] 24 (0, 0)) (by (with_reducible repeat (first | refine blk_drewN ?_ _ | refine blk_drew ?_ | refine blk_alloc ?_ _)); exact BK102.out) hb); have n3_ := Aside0.mk (below_step (by repeat (first | (with_reducible first | exact HB.out | apply below_alloc | apply pw_below_drewN | apply below_drew1 | refine below_set ?_ GE102.out) | exact HB.out)) hb); clear HO122; clear BK102; clear HB; have HO122 := n0_; have HO125 := n1_; have BK102 := n2_; have HB := n3_; clear n0_ n1_ n2_ n3_; (try clear hb); (try clear hb2); (try clear hk); (try clear hi); (try clear ho0); obtain ⟨Ao65, co65, eo65⟩ := Kd.R_slice HO125.out; subst eo65) | (go_at_call 9; (refine (tag_PutLen.calls _ _ ([] : List Int) (-1) t126 _ ?side1 ?side2 A58.out).mono ?_); (case side1 => exact Kd.C_nil _ _); (case side2 => exact Nat.le_refl _); rintro e w66 ⟨v127, rfl, ho0, hb⟩; have n0_ := Aside0.mk (Kd.R_elder' (by (with_reducible repeat (first | apply Kd.R_alloc | apply Kd.R_drewN | apply Kd.R_drew)); exact HO122.out) (Kd.R_base ho0) hb); have n1_ := Aside0.mk (Kd.R_elder' (by (with_reducible repeat (first | apply Kd.R_alloc | apply Kd.R_drewN | apply Kd.R_drew)); exact HO125.out) (Kd.R_base ho0) hb); have n2_ := Aside0.mk (Kd.R_lower (Kd.R_new' (Kd.R_new' ho0 (Kd.R_lt (by (with_reducible repeat (first | apply Kd.R_alloc | apply Kd.R_drewN | apply Kd.R_drew)); exact HO122.out))) (Kd.R_lt (by (with_reducible repeat (first | apply Kd.R_alloc | apply Kd.R_drewN | apply Kd.R_drew)); exact HO125.out))) (below_size (by repeat (first | (with_reducible first | exact HB.out | apply below_alloc | apply pw_below_drewN | apply below_drew1 | refine below_set ?_ GE102.out) | exact HB.out)))); have n3_ := Aside0.mk (blk_below (g := gb102) (o := .cells #[.int .i64 a0_0, .bool a0_1, .int .i64 a0_2] 24 (0, 0)) (by (with_reducible repeat (first | refine blk_drewN ?_ _ | refine blk_drew ?_ | refine blk_alloc ?_ _)); exact BK102.out) hb); have n4_ := Aside0.mk (below_step (by repeat (first | (with_reducible first | exact HB.out | apply below_alloc | apply pw_below_drewN | apply below_drew1 | refine below_set ?_ GE102.out) | exact HB.out)) hb); clear HO122; clear HO125; clear BK102; clear HB; have HO122 := n0_; have HO125 := n1_; have HO128 := n2_; have BK102 := n3_; have HB := n4_; clear n0_ n1_ n2_ n3_ n4_; (try clear hb); (try clear hb2); (try clear hk); (try clear hi); (try clear ho0); obtain ⟨Ao67, co67, eo67⟩ := Kd.R_slice HO128.out; subst eo67))
                      go_ret
                      exact ⟨by first | rfl | (rw [hr_]) | (simp [errW_none, errW_some] <;> rfl) | (simp [*, errW_none, errW_some] <;> rfl), by repeat (first | (with_reducible first | exact HB.out | apply below_alloc | apply pw_below_drewN | apply below_drew1 | refine below_set ?_ GE102.out) | exact HB.out)⟩
                    · exact absurd (Option.some.inj ((if_neg c57).symm.trans H)) (by decide)
                  · exact absurd (Option.some.inj ((if_neg c55).symm.trans H)) (by decide)
                · replace c53 := Bool.eq_false_iff.mpr c53
                  subst c53
                  have H1 : ((tag_PutLen.f ([] : List Int) (Go.bits .and .i64 a1 2147483647)).bind fun t129 => (if (t129.length : Int) = x7_2 then ((tag_PutLen.f ([] : List Int) (-1)).bind fun t132 => (some ((t132.length : Int) == 0))) else (some false))) = some true := by rw [if_neg (show ¬ (false = true) by decide)] at H; exact H
                  clear H
                  have H := H1
                  clear H1
                  replace H := Option.bind_eq_some_iff.mp H
                  obtain ⟨t129, A800, H⟩ := H
                  replace H : (if (t129.length : Int) = x7_2 then ((tag_PutLen.f ([] : List Int) (-1)).bind fun t132 => (some ((t132.length : Int) == 0))) else (some false)) = some true := H
                  have A80 := Aside0.mk A800
                  clear A800
                  by_cases c81 : (t129.length : Int) = x7_2
                  · rw [if_pos c81] at H
                    have c81b0 : ((t129.length : Int) == x7_2) = true := beq_iff_eq.mpr c81
                    have c81b1 : ((t129.length : Int) != x7_2) = false := bne_eq_false_iff_eq.mpr c81
                    clear c81
                    replace H := Option.bind_eq_some_iff.mp H
                    obtain ⟨t132, A820, H⟩ := H
                    replace H : (some ((t132.length : Int) == 0)) = some true := H
                    have A82 := Aside0.mk A820
                    clear A820
                    have hr_ := Option.some.inj H
                    have hcz83_0 : wr.cell? ⟨gb102, 0, none⟩ = some (.int .i64 a0_0) := (blk_cell BK102.out 0).trans rfl
                    have hcz83_1 : wr.cell? ⟨gb102, 1, none⟩ = some (.bool a0_1) := (blk_cell BK102.out 1).trans rfl
                    have hcz83_2 : wr.cell? ⟨gb102, 2, none⟩ = some (.int .i64 a0_2) := (blk_cell BK102.out 2).trans rfl
                    have hfz83_0 := blk_frozen BK102.out 0
                    have hfz83_1 := blk_frozen BK102.out 1
                    have hfz83_2 := blk_frozen BK102.out 2
                    go_wp2_with (first | ((with_reducible refine gate_callee (f := 10) rfl ?_); refine goesL_ (some 36) rfl rfl Try.func10 (by kernel_rfl) rfl #[.agg #[.int .i64 a0_0, .bool a0_1, .int .i64 a0_2]] rfl (by (try simp only [List.map_toArray, List.map_cons, List.map_nil]); first | done | rfl | (simp only [List.length_drop, List.length_take]; rfl)) ?_; (with_reducible refine (tag_Right.calls a0_0 a0_1 a0_2 false _ A52.out).mono ?_); rintro e w84 ⟨rfl, hb⟩; refine ⟨_, rfl, ?_⟩; have n0_ := Aside0.mk (blk_below (g := gb102) (o := .cells #[.int .i64 a0_0, .bool a0_1, .int .i64 a0_2] 24 (0, 0)) (by (with_reducible repeat (first | refine blk_drewN ?_ _ | refine blk_drew ?_ | refine blk_alloc ?_ _)); exact BK102.out) hb); have n1_ := Aside0.mk (below_step (by repeat (first | (with_reducible first | exact HB.out | apply below_alloc | apply pw_below_drewN | apply below_drew1 | refine below_set ?_ GE102.out) | exact HB.out)) hb); clear BK102; clear HB; have BK102 := n0_; have HB := n1_; clear n0_ n1_; (try clear hb); (try clear hb2); (try clear hk); (try clear hi)) | (go_at_call_of 9 (Value.int IntKind.i64 (Go.bits .and .i64 a1 2147483647)); (refine (tag_PutLen.calls _ _ ([] : List Int) (Go.bits .and .i64 a1 2147483647) t129 _ ?side1 ?side2 A80.out).mono ?_); (case side1 => exact Kd.C_nil _ _); (case side2 => exact Nat.le_refl _); rintro e w85 ⟨v130, rfl, ho0, hb⟩; have n0_ := Aside0.mk (Kd.R_lower ho0 (below_size (by repeat (first | (with_reducible first | exact HB.out | apply below_alloc | apply pw_below_drewN | apply below_drew1 | refine below_set ?_ GE102.out) | exact HB.out)))); have n1_ := Aside0.mk (blk_below (g := gb102) (o := .cells #[.int .i64 a0_0, .bool a0_1, .int .i64 a0_2] 24 (0, 0)) (by (with_reducible repeat (first | refine blk_drewN ?_ _ | refine blk_drew ?_ | refine blk_alloc ?_ _)); exact BK102.out) hb); have n2_ := Aside0.mk (below_step (by repeat (first | (with_reducible first | exact HB.out | apply below_alloc | apply pw_below_drewN | apply below_drew1 | refine below_set ?_ GE102.out) | exact HB.out)) hb); clear BK102; clear HB; have HO131 := n0_; have BK102 := n1_; have HB := n2_; clear n0_ n1_ n2_; (try clear hb); (try clear hb2); (try clear hk); (try clear hi); (try clear ho0); obtain ⟨Ao86, co86, eo86⟩ := Kd.R_slice HO131.out; subst eo86) | (go_at_call 9; (refine (tag_PutLen.calls _ _ ([] : List Int) (-1) t132 _ ?side1 ?side2 A82.out).mono ?_); (case side1 => exact Kd.C_nil _ _); (case side2 => exact Nat.le_refl _); rintro e w87 ⟨v133, rfl, ho0, hb⟩; have n0_ := Aside0.mk (Kd.R_elder' (by (with_reducible repeat (first | apply Kd.R_alloc | apply Kd.R_drewN | apply Kd.R_drew)); exact HO131.out) (Kd.R_base ho0) hb); have n1_ := Aside0.mk (Kd.R_lower (Kd.R_new' ho0 (Kd.R_lt (by (with_reducible repeat (first | apply Kd.R_alloc | apply Kd.R_drewN | apply Kd.R_drew)); exact HO131.out))) (below_size (by repeat (first | (with_reducible first | exact HB.out | apply below_alloc | apply pw_below_drewN | apply below_drew1 | refine below_set ?_ GE102.out) | exact HB.out)))); have n2_ := Aside0.mk (blk_below (g := gb102) (o := .cells #[.int .i64 a0_0, .bool a0_1, .int .i64 a0_2] 24 (0, 0)) (by (with_reducible repeat (first | refine blk_drewN ?_ _ | refine blk_drew ?_ | refine blk_alloc ?_ _)); exact BK102.out) hb); have n3_ := Aside0.mk (below_step (by repeat (first | (with_reducible first | exact HB.out | apply below_alloc | apply pw_below_drewN | apply below_drew1 | refine below_set ?_ GE102.out) | exact HB.out)) hb); clear HO131; clear BK102; clear HB; have HO131 := n0_; have HO134 := n1_; have BK102 := n2_; have HB := n3_; clear n0_ n1_ n2_ n3_; (try clear hb); (try clear hb2); (try clear hk); (try clear hi); (try clear ho0); obtain ⟨Ao88, co88, eo88⟩ := Kd.R_slice HO134.out; subst eo88))
                    go_ret
                    exact ⟨by first | rfl | (rw [hr_]) | (simp [errW_none, errW_some] <;> rfl) | (simp [*, errW_none, errW_some] <;> rfl), by repeat (first | (with_reducible first | exact HB.out | apply below_alloc | apply pw_below_drewN | apply below_drew1 | refine below_set ?_ GE102.out) | exact HB.out)⟩
                  · exact absurd (Option.some.inj ((if_neg c81).symm.trans H)) (by decide)
      · rw [if_neg c5] at H
        have c5b0 : decide (31 ≤ a0_2) = false := decide_eq_false c5
        clear c5
        have H' := Aside0.mk H
        clear H
        have hcz93_0 : wr.cell? ⟨gb102, 0, none⟩ = some (.int .i64 a0_0) := (blk_cell BK102.out 0).trans rfl
        have hcz93_1 : wr.cell? ⟨gb102, 1, none⟩ = some (.bool a0_1) := (blk_cell BK102.out 1).trans rfl
        have hcz93_2 : wr.cell? ⟨gb102, 2, none⟩ = some (.int .i64 a0_2) := (blk_cell BK102.out 2).trans rfl
        have hfz93_0 := blk_frozen BK102.out 0
        have hfz93_1 := blk_frozen BK102.out 1
        have hfz93_2 := blk_frozen BK102.out 2
        go_wp2
        go_loopg [7, 8] k1 (fun kq v7 v8 w' => ∃ (x7_2 : Int) (x8_2 : Int), v7 = .int .i64 x7_2 ∧ v8 = .int .i64 x8_2 ∧ Aside0 (peeragelaw01_TagSizes.l1 kq (Go.bits .and .i64 a1 2147483647) x5_1 x7_2 x8_2 a0_0 a0_1 a0_2 = some true) ∧ Aside0 (kq ≤ k1) ∧ Aside0 (w'.heap[gb102]? = some (.cells #[.int .i64 a0_0, .bool a0_1, .int .i64 a0_2] 24 (0, 0))) ∧ Aside0 (Below w.heap.size w w'))
        case atStart => exact ⟨(1), ((Go.bits .and .i64 a1 2147483647)), (by first | rfl | (simp; done) | (simp [*]; done)), (by first | rfl | (simp; done) | (simp [*]; done)), H', ⟨Nat.le_refl _⟩, ⟨by (with_reducible repeat (first | refine blk_drewN ?_ _ | refine blk_drew ?_ | refine blk_alloc ?_ _)); exact BK102.out⟩, ⟨by repeat (first | (with_reducible first | exact HB.out | apply below_alloc | apply pw_below_drewN | apply below_drew1 | refine below_set ?_ GE102.out) | exact HB.out)⟩⟩
        case round =>
          clear H'
          try clear c1
          try clear p2
          try clear c4
          try clear c5
          try clear c5b0
          try clear c6
          try clear c6b0
          try clear p6
          try clear c8
          try clear c9
          try clear c9b0
          try clear c10
          try clear c10b0
          try clear c12
          try clear c14
          try clear c14b0
          try clear c14b1
          try clear c16
          try clear c16b0
          try clear c16b1
          try clear c40
          try clear c40b0
          try clear c40b1
          try clear c53
          try clear c55
          try clear c55b0
          try clear c55b1
          try clear c57
          try clear c57b0
          try clear c57b1
          try clear p64
          try clear c81
          try clear c81b0
          try clear c81b1
          try clear hcz18_0
          try clear hcz18_1
          try clear hcz18_2
          try clear hcz20_0
          try clear hcz20_1
          try clear hcz20_2
          try clear hcz27_0
          try clear hcz27_1
          try clear hcz27_2
          try clear hcz29_0
          try clear hcz29_1
          try clear hcz29_2
          try clear hcz34_0
          try clear hcz34_1
          try clear hcz34_2
          try clear hcz36_0
          try clear hcz36_1
          try clear hcz36_2
          try clear hcz42_0
          try clear hcz42_1
          try clear hcz42_2
          try clear hcz48_0
          try clear hcz48_1
          try clear hcz48_2
          try clear hcz4_0
          try clear hcz4_1
          try clear hcz4_2
          try clear hcz59_0
          try clear hcz59_1
          try clear hcz59_2
          try clear hcz61_0
          try clear hcz61_1
          try clear hcz61_2
          try clear hcz68_0
          try clear hcz68_1
          try clear hcz68_2
          try clear hcz70_0
          try clear hcz70_1
          try clear hcz70_2
          try clear hcz75_0
          try clear hcz75_1
          try clear hcz75_2
          try clear hcz77_0
          try clear hcz77_1
          try clear hcz77_2
          try clear hcz7_0
          try clear hcz7_1
          try clear hcz7_2
          try clear hcz83_0
          try clear hcz83_1
          try clear hcz83_2
          try clear hcz89_0
          try clear hcz89_1
          try clear hcz89_2
          try clear hcz8_0
          try clear hcz8_1
          try clear hcz8_2
          try clear hcz93_0
          try clear hcz93_1
          try clear hcz93_2
          try clear hfz18_0
          try clear hfz18_1
          try clear hfz18_2
          try clear hfz20_0
          try clear hfz20_1
          try clear hfz20_2
          try clear hfz27_0
          try clear hfz27_1
          try clear hfz27_2
          try clear hfz29_0
          try clear hfz29_1
          try clear hfz29_2
          try clear hfz34_0
          try clear hfz34_1
          try clear hfz34_2
          try clear hfz36_0
          try clear hfz36_1
          try clear hfz36_2
          try clear hfz42_0
          try clear hfz42_1
          try clear hfz42_2
          try clear hfz48_0
          try clear hfz48_1
          try clear hfz48_2
          try clear hfz4_0
          try clear hfz4_1
          try clear hfz4_2
          try clear hfz59_0
          try clear hfz59_1
          try clear hfz59_2
          try clear hfz61_0
          try clear hfz61_1
          try clear hfz61_2
          try clear hfz68_0
          try clear hfz68_1
          try clear hfz68_2
          try clear hfz70_0
          try clear hfz70_1
          try clear hfz70_2
          try clear hfz75_0
          try clear hfz75_1
          try clear hfz75_2
          try clear hfz77_0
          try clear hfz77_1
          try clear hfz77_2
          try clear hfz7_0
          try clear hfz7_1
          try clear hfz7_2
          try clear hfz83_0
          try clear hfz83_1
          try clear hfz83_2
          try clear hfz89_0
          try clear hfz89_1
          try clear hfz89_2
          try clear hfz8_0
          try clear hfz8_1
          try clear hfz8_2
          try clear hfz93_0
          try clear hfz93_1
          try clear hfz93_2
          try clear p2
          try clear p6
          obtain ⟨x7_2, x8_2, rfl, rfl, HA, HK2, BK102, HB⟩ := hrel
          cases gk with
          | zero => exact absurd HA.out (by simp [peeragelaw01_TagSizes.l1])
          | succ k2 =>
            have H := HA.out
            clear HA
            simp only [peeragelaw01_TagSizes.l1] at H
            by_cases c94 : (Go.bits .and .i64 a1 2147483647) ≥ 128
            · rw [if_pos c94] at H
              have c94b0 : decide (128 ≤ (Go.bits .and .i64 a1 2147483647)) = true := decide_eq_true c94
              clear c94
              by_cases c95 : x8_2 > 0
              · rw [if_pos c95] at H
                have c95b0 : decide (0 < x8_2) = true := decide_eq_true c95
                clear c95
                have H' := Aside0.mk H
                clear H
                go_wp2
                go_roundg k2
                case measure => have := HK1.out; have := HK2.out; omega
                case rel => exact ⟨(wrap64 (x7_2 + 1)), (x8_2 / 256), (by first | rfl | (simp; done) | (simp [*]; done)), (by first | rfl | (simp; done) | (simp [*]; done)), H', ⟨by have := HK1.out; have := HK2.out; omega⟩, ⟨by (with_reducible repeat (first | refine blk_drewN ?_ _ | refine blk_drew ?_ | refine blk_alloc ?_ _)); exact BK102.out⟩, ⟨by repeat (first | (with_reducible first | exact HB.out | apply below_alloc | apply pw_below_drewN | apply below_drew1 | refine below_set ?_ GE102.out) | exact HB.out)⟩⟩
              · rw [if_neg c95] at H
                have c95b0 : decide (0 < x8_2) = false := decide_eq_false c95
                clear c95
                replace H := Option.bind_eq_some_iff.mp H
                obtain ⟨t103, A960, H⟩ := H
                replace H : (if t103 = true then ((tag_Put.f ([] : List Int) a0_0 a0_1 a0_2).bind fun t104 => (if (t104.length : Int) = x5_1 then ((tag_PutLen.f ([] : List Int) (Go.bits .and .i64 a1 2147483647)).bind fun t107 => (if (t107.length : Int) = x7_2 then ((tag_PutLen.f ([] : List Int) (-1)).bind fun t110 => (some ((t110.length : Int) == 0))) else (some false))) else (some false))) else ((tag_PutLen.f ([] : List Int) (Go.bits .and .i64 a1 2147483647)).bind fun t113 => (if (t113.length : Int) = x7_2 then ((tag_PutLen.f ([] : List Int) (-1)).bind fun t116 => (some ((t116.length : Int) == 0))) else (some false)))) = some true := H
                have A96 := Aside0.mk A960
                clear A960
                by_cases c97 : t103 = true
                · subst c97
                  have H1 : ((tag_Put.f ([] : List Int) a0_0 a0_1 a0_2).bind fun t104 => (if (t104.length : Int) = x5_1 then ((tag_PutLen.f ([] : List Int) (Go.bits .and .i64 a1 2147483647)).bind fun t107 => (if (t107.length : Int) = x7_2 then ((tag_PutLen.f ([] : List Int) (-1)).bind fun t110 => (some ((t110.length : Int) == 0))) else (some false))) else (some false))) = some true := by rw [if_pos rfl] at H; exact H
                  clear H
                  have H := H1
                  clear H1
                  replace H := Option.bind_eq_some_iff.mp H
                  obtain ⟨t104, A980, H⟩ := H
                  replace H : (if (t104.length : Int) = x5_1 then ((tag_PutLen.f ([] : List Int) (Go.bits .and .i64 a1 2147483647)).bind fun t107 => (if (t107.length : Int) = x7_2 then ((tag_PutLen.f ([] : List Int) (-1)).bind fun t110 => (some ((t110.length : Int) == 0))) else (some false))) else (some false)) = some true := H
                  have A98 := Aside0.mk A980
                  clear A980
                  by_cases c99 : (t104.length : Int) = x5_1
                  · rw [if_pos c99] at H
                    have c99b0 : ((t104.length : Int) == x5_1) = true := beq_iff_eq.mpr c99
                    have c99b1 : ((t104.length : Int) != x5_1) = false := bne_eq_false_iff_eq.mpr c99
                    clear c99
                    replace H := Option.bind_eq_some_iff.mp H
                    obtain ⟨t107, A1000, H⟩ := H
                    replace H : (if (t107.length : Int) = x7_2 then ((tag_PutLen.f ([] : List Int) (-1)).bind fun t110 => (some ((t110.length : Int) == 0))) else (some false)) = some true := H
                    have A100 := Aside0.mk A1000
                    clear A1000
                    by_cases c101 : (t107.length : Int) = x7_2
                    · rw [if_pos c101] at H
                      have c101b0 : ((t107.length : Int) == x7_2) = true := beq_iff_eq.mpr c101
                      have c101b1 : ((t107.length : Int) != x7_2) = false := bne_eq_false_iff_eq.mpr c101
                      clear c101
                      replace H := Option.bind_eq_some_iff.mp H
                      obtain ⟨t110, A1020, H⟩ := H
                      replace H : (some ((t110.length : Int) == 0)) = some true := H
                      have A102 := Aside0.mk A1020
                      clear A1020
                      have hr_ := Option.some.inj H
                      have hcz103_0 : wr.cell? ⟨gb102, 0, none⟩ = some (.int .i64 a0_0) := (blk_cell BK102.out 0).trans rfl
                      have hcz103_1 : wr.cell? ⟨gb102, 1, none⟩ = some (.bool a0_1) := (blk_cell BK102.out 1).trans rfl
                      have hcz103_2 : wr.cell? ⟨gb102, 2, none⟩ = some (.int .i64 a0_2) := (blk_cell BK102.out 2).trans rfl
                      have hfz103_0 := blk_frozen BK102.out 0
                      have hfz103_1 := blk_frozen BK102.out 1
                      have hfz103_2 := blk_frozen BK102.out 2
                      go_wp2_with (first | ((with_reducible refine gate_callee (f := 10) rfl ?_); refine goesL_ (some 36) rfl rfl Try.func10 (by kernel_rfl) rfl #[.agg #[.int .i64 a0_0, .bool a0_1, .int .i64 a0_2]] rfl (by (try simp only [List.map_toArray, List.map_cons, List.map_nil]); first | done | rfl | (simp only [List.length_drop, List.length_take]; rfl)) ?_; (with_reducible refine (tag_Right.calls a0_0 a0_1 a0_2 true _ A96.out).mono ?_); rintro e w104 ⟨rfl, hb⟩; refine ⟨_, rfl, ?_⟩; have n0_ := Aside0.mk (blk_below (g := gb102) (o := .cells #[.int .i64 a0_0, .bool a0_1, .int .i64 a0_2] 24 (0, 0)) (by (with_reducible repeat (first | refine blk_drewN ?_ _ | refine blk_drew ?_ | refine blk_alloc ?_ _)); exact BK102.out) hb); have n1_ := Aside0.mk (below_step (by repeat (first | (with_reducible first | exact HB.out | apply below_alloc | apply pw_below_drewN | apply below_drew1 | refine below_set ?_ GE102.out) | exact HB.out)) hb); clear BK102; clear HB; have BK102 := n0_; have HB := n1_; clear n0_ n1_; (try clear hb); (try clear hb2); (try clear hk); (try clear hi); have hcz105_0 : w104.cell? ⟨gb102, 0, none⟩ = some (.int .i64 a0_0) := (blk_cell BK102.out 0).trans rfl; have hcz105_1 : w104.cell? ⟨gb102, 1, none⟩ = some (.bool a0_1) := (blk_cell BK102.out 1).trans rfl; have hcz105_2 : w104.cell? ⟨gb102, 2, none⟩ = some (.int .i64 a0_2) := (blk_cell BK102.out 2).trans rfl; have hfz105_0 := blk_frozen BK102.out 0; have hfz105_1 := blk_frozen BK102.out 1; have hfz105_2 := blk_frozen BK102.out 2) | (go_at_call 8; (refine (tag_Put.calls _ _ ([] : List Int) a0_0 a0_1 a0_2 t104 _ ?side1 ?side2 A98.out).mono ?_); (case side1 => exact Kd.C_nil _ _); (case side2 => exact Nat.le_refl _); rintro e w106 ⟨v105, rfl, ho0, hb⟩; have n0_ := Aside0.mk (Kd.R_lower ho0 (below_size (by repeat (first | (with_reducible first | exact HB.out | apply below_alloc | apply pw_below_drewN | apply below_drew1 | refine below_set ?_ GE102.out) | exact HB.out)))); have n1_ := Aside0.mk (blk_below (g := gb102) (o := .cells #[.int .i64 a0_0, .bool a0_1, .int .i64 a0_2] 24 (0, 0)) (by (with_reducible repeat (first | refine blk_drewN ?_ _ | refine blk_drew ?_ | refine blk_alloc ?_ _)); exact BK102.out) hb); have n2_ := Aside0.mk (below_step (by repeat (first | (with_reducible first | exact HB.out | apply below_alloc | apply pw_below_drewN | apply below_drew1 | refine below_set ?_ GE102.out) | exact HB.out)) hb); clear BK102; clear HB; have HO106 := n0_; have BK102 := n1_; have HB := n2_; clear n0_ n1_ n2_; (try clear hb); (try clear hb2); (try clear hk); (try clear hi); (try clear ho0); obtain ⟨Ao107, co107, eo107⟩ := Kd.R_slice HO106.out; subst eo107) | (go_at_call_of 9 (Value.int IntKind.i64 (Go.bits .and .i64 a1 2147483647)); (refine (tag_PutLen.calls _ _ ([] : List Int) (Go.bits .and .i64 a1 2147483647) t107 _ ?side1 ?side2 A100.out).mono ?_); (case side1 => exact Kd.C_nil _ _); (case side2 => exact Nat.le_refl _); rintro e w108 ⟨v108, rfl, ho0, hb⟩; have n0_ := Aside0.mk (Kd.R_elder' (by (with_reducible repeat (first | apply Kd.R_alloc | apply Kd.R_drewN | apply Kd.R_drew)); exact HO106.out) (Kd.R_base ho0) hb); have n1_ := Aside0.mk (Kd.R_lower (Kd.R_new' ho0 (Kd.R_lt (by (with_reducible repeat (first | apply Kd.R_alloc | apply Kd.R_drewN | apply Kd.R_drew)); exact HO106.out))) (below_size (by repeat (first | (with_reducible first | exact HB.out | apply below_alloc | apply pw_below_drewN | apply below_drew1 | refine below_set ?_ GE102.out) | exact HB.out)))); have n2_ := Aside0.mk (blk_below (g := gb102) (o := .cells #[.int .i64 a0_0, .bool a0_1, .int .i64 a0_2] 24 (0, 0)) (by (with_reducible repeat (first | refine blk_drewN ?_ _ | refine blk_drew ?_ | refine blk_alloc ?_ _)); exact BK102.out) hb); have n3_ := Aside0.mk (below_step (by repeat (first | (with_reducible first | exact HB.out | apply below_alloc | apply pw_below_drewN | apply below_drew1 | refine below_set ?_ GE102.out) | exact HB.out)) hb); clear HO106; clear BK102; clear HB; have HO106 := n0_; have HO109 := n1_; have BK102 := n2_; have HB := n3_; clear n0_ n1_ n2_ n3_; (try clear hb); (try clear hb2); (try clear hk); (try clear hi); (try clear ho0); obtain ⟨Ao109, co109, eo109⟩ := Kd.R_slice HO109.out; subst eo109) | (go_at_call 9; (refine (tag_PutLen.calls _ _ ([] : List Int) (-1) t110 _ ?side1 ?side2 A102.out).mono ?_); (case side1 => exact Kd.C_nil _ _); (case side2 => exact Nat.le_refl _); rintro e w110 ⟨v111, rfl, ho0, hb⟩; have n0_ := Aside0.mk (Kd.R_elder' (by (with_reducible repeat (first | apply Kd.R_alloc | apply Kd.R_drewN | apply Kd.R_drew)); exact HO106.out) (Kd.R_base ho0) hb); have n1_ := Aside0.mk (Kd.R_elder' (by (with_reducible repeat (first | apply Kd.R_alloc | apply Kd.R_drewN | apply Kd.R_drew)); exact HO109.out) (Kd.R_base ho0) hb); have n2_ := Aside0.mk (Kd.R_lower (Kd.R_new' (Kd.R_new' ho0 (Kd.R_lt (by (with_reducible repeat (first | apply Kd.R_alloc | apply Kd.R_drewN | apply Kd.R_drew)); exact HO106.out))) (Kd.R_lt (by (with_reducible repeat (first | apply Kd.R_alloc | apply Kd.R_drewN | apply Kd.R_drew)); exact HO109.out))) (below_size (by repeat (first | (with_reducible first | exact HB.out | apply below_alloc | apply pw_below_drewN | apply below_drew1 | refine below_set ?_ GE102.out) | exact HB.out)))); have n3_ := Aside0.mk (blk_below (g := gb102) (o := .cells #[.int .i64 a0_0, .bool a0_1, .int .i64 a0_2] 24 (0, 0)) (by (with_reducible repeat (first | refine blk_drewN ?_ _ | refine blk_drew ?_ | refine blk_alloc ?_ _)); exact BK102.out) hb); have n4_ := Aside0.mk (below_step (by repeat (first | (with_reducible first | exact HB.out | apply below_alloc | apply pw_below_drewN | apply below_drew1 | refine below_set ?_ GE102.out) | exact HB.out)) hb); clear HO106; clear HO109; clear BK102; clear HB; have HO106 := n0_; have HO109 := n1_; have HO112 := n2_; have BK102 := n3_; have HB := n4_; clear n0_ n1_ n2_ n3_ n4_; (try clear hb); (try clear hb2); (try clear hk); (try clear hi); (try clear ho0); obtain ⟨Ao111, co111, eo111⟩ := Kd.R_slice HO112.out; subst eo111))
                      go_ret
                      exact ⟨by first | rfl | (rw [hr_]) | (simp [errW_none, errW_some] <;> rfl) | (simp [*, errW_none, errW_some] <;> rfl), by repeat (first | (with_reducible first | exact HB.out | apply below_alloc | apply pw_below_drewN | apply below_drew1 | refine below_set ?_ GE102.out) | exact HB.out)⟩
                    · exact absurd (Option.some.inj ((if_neg c101).symm.trans H)) (by decide)
                  · exact absurd (Option.some.inj ((if_neg c99).symm.trans H)) (by decide)
                · replace c97 := Bool.eq_false_iff.mpr c97
                  subst c97
                  have H1 : ((tag_PutLen.f ([] : List Int) (Go.bits .and .i64 a1 2147483647)).bind fun t113 => (if (t113.length : Int) = x7_2 then ((tag_PutLen.f ([] : List Int) (-1)).bind fun t116 => (some ((t116.length : Int) == 0))) else (some false))) = some true := by rw [if_neg (show ¬ (false = true) by decide)] at H; exact H
                  clear H
                  have H := H1
                  clear H1
                  replace H := Option.bind_eq_some_iff.mp H
                  obtain ⟨t113, A1240, H⟩ := H
                  replace H : (if (t113.length : Int) = x7_2 then ((tag_PutLen.f ([] : List Int) (-1)).bind fun t116 => (some ((t116.length : Int) == 0))) else (some false)) = some true := H
                  have A124 := Aside0.mk A1240
                  clear A1240
                  by_cases c125 : (t113.length : Int) = x7_2
                  · rw [if_pos c125] at H
                    have c125b0 : ((t113.length : Int) == x7_2) = true := beq_iff_eq.mpr c125
                    have c125b1 : ((t113.length : Int) != x7_2) = false := bne_eq_false_iff_eq.mpr c125
                    clear c125
                    replace H := Option.bind_eq_some_iff.mp H
                    obtain ⟨t116, A1260, H⟩ := H
                    replace H : (some ((t116.length : Int) == 0)) = some true := H
                    have A126 := Aside0.mk A1260
                    clear A1260
                    have hr_ := Option.some.inj H
                    have hcz127_0 : wr.cell? ⟨gb102, 0, none⟩ = some (.int .i64 a0_0) := (blk_cell BK102.out 0).trans rfl
                    have hcz127_1 : wr.cell? ⟨gb102, 1, none⟩ = some (.bool a0_1) := (blk_cell BK102.out 1).trans rfl
                    have hcz127_2 : wr.cell? ⟨gb102, 2, none⟩ = some (.int .i64 a0_2) := (blk_cell BK102.out 2).trans rfl
                    have hfz127_0 := blk_frozen BK102.out 0
                    have hfz127_1 := blk_frozen BK102.out 1
                    have hfz127_2 := blk_frozen BK102.out 2
                    go_wp2_with (first | ((with_reducible refine gate_callee (f := 10) rfl ?_); refine goesL_ (some 36) rfl rfl Try.func10 (by kernel_rfl) rfl #[.agg #[.int .i64 a0_0, .bool a0_1, .int .i64 a0_2]] rfl (by (try simp only [List.map_toArray, List.map_cons, List.map_nil]); first | done | rfl | (simp only [List.length_drop, List.length_take]; rfl)) ?_; (with_reducible refine (tag_Right.calls a0_0 a0_1 a0_2 false _ A96.out).mono ?_); rintro e w128 ⟨rfl, hb⟩; refine ⟨_, rfl, ?_⟩; have n0_ := Aside0.mk (blk_below (g := gb102) (o := .cells #[.int .i64 a0_0, .bool a0_1, .int .i64 a0_2] 24 (0, 0)) (by (with_reducible repeat (first | refine blk_drewN ?_ _ | refine blk_drew ?_ | refine blk_alloc ?_ _)); exact BK102.out) hb); have n1_ := Aside0.mk (below_step (by repeat (first | (with_reducible first | exact HB.out | apply below_alloc | apply pw_below_drewN | apply below_drew1 | refine below_set ?_ GE102.out) | exact HB.out)) hb); clear BK102; clear HB; have BK102 := n0_; have HB := n1_; clear n0_ n1_; (try clear hb); (try clear hb2); (try clear hk); (try clear hi)) | (go_at_call_of 9 (Value.int IntKind.i64 (Go.bits .and .i64 a1 2147483647)); (refine (tag_PutLen.calls _ _ ([] : List Int) (Go.bits .and .i64 a1 2147483647) t113 _ ?side1 ?side2 A124.out).mono ?_); (case side1 => exact Kd.C_nil _ _); (case side2 => exact Nat.le_refl _); rintro e w129 ⟨v114, rfl, ho0, hb⟩; have n0_ := Aside0.mk (Kd.R_lower ho0 (below_size (by repeat (first | (with_reducible first | exact HB.out | apply below_alloc | apply pw_below_drewN | apply below_drew1 | refine below_set ?_ GE102.out) | exact HB.out)))); have n1_ := Aside0.mk (blk_below (g := gb102) (o := .cells #[.int .i64 a0_0, .bool a0_1, .int .i64 a0_2] 24 (0, 0)) (by (with_reducible repeat (first | refine blk_drewN ?_ _ | refine blk_drew ?_ | refine blk_alloc ?_ _)); exact BK102.out) hb); have n2_ := Aside0.mk (below_step (by repeat (first | (with_reducible first | exact HB.out | apply below_alloc | apply pw_below_drewN | apply below_drew1 | refine below_set ?_ GE102.out) | exact HB.out)) hb); clear BK102; clear HB; have HO115 := n0_; have BK102 := n1_; have HB := n2_; clear n0_ n1_ n2_; (try clear hb); (try clear hb2); (try clear hk); (try clear hi); (try clear ho0); obtain ⟨Ao130, co130, eo130⟩ := Kd.R_slice HO115.out; subst eo130) | (go_at_call 9; (refine (tag_PutLen.calls _ _ ([] : List Int) (-1) t116 _ ?side1 ?side2 A126.out).mono ?_); (case side1 => exact Kd.C_nil _ _); (case side2 => exact Nat.le_refl _); rintro e w131 ⟨v117, rfl, ho0, hb⟩; have n0_ := Aside0.mk (Kd.R_elder' (by (with_reducible repeat (first | apply Kd.R_alloc | apply Kd.R_drewN | apply Kd.R_drew)); exact HO115.out) (Kd.R_base ho0) hb); have n1_ := Aside0.mk (Kd.R_lower (Kd.R_new' ho0 (Kd.R_lt (by (with_reducible repeat (first | apply Kd.R_alloc | apply Kd.R_drewN | apply Kd.R_drew)); exact HO115.out))) (below_size (by repeat (first | (with_reducible first | exact HB.out | apply below_alloc | apply pw_below_drewN | apply below_drew1 | refine below_set ?_ GE102.out) | exact HB.out)))); have n2_ := Aside0.mk (blk_below (g := gb102) (o := .cells #[.int .i64 a0_0, .bool a0_1, .int .i64 a0_2] 24 (0, 0)) (by (with_reducible repeat (first | refine blk_drewN ?_ _ | refine blk_drew ?_ | refine blk_alloc ?_ _)); exact BK102.out) hb); have n3_ := Aside0.mk (below_step (by repeat (first | (with_reducible first | exact HB.out | apply below_alloc | apply pw_below_drewN | apply below_drew1 | refine below_set ?_ GE102.out) | exact HB.out)) hb); clear HO115; clear BK102; clear HB; have HO115 := n0_; have HO118 := n1_; have BK102 := n2_; have HB := n3_; clear n0_ n1_ n2_ n3_; (try clear hb); (try clear hb2); (try clear hk); (try clear hi); (try clear ho0); obtain ⟨Ao132, co132, eo132⟩ := Kd.R_slice HO118.out; subst eo132))
                    go_ret
                    exact ⟨by first | rfl | (rw [hr_]) | (simp [errW_none, errW_some] <;> rfl) | (simp [*, errW_none, errW_some] <;> rfl), by repeat (first | (with_reducible first | exact HB.out | apply below_alloc | apply pw_below_drewN | apply below_drew1 | refine below_set ?_ GE102.out) | exact HB.out)⟩
                  · exact absurd (Option.some.inj ((if_neg c125).symm.trans H)) (by decide)
            · rw [if_neg c94] at H
              have c94b0 : decide (128 ≤ (Go.bits .and .i64 a1 2147483647)) = false := decide_eq_false c94
              clear c94
              replace H := Option.bind_eq_some_iff.mp H
              obtain ⟨t119, A1370, H⟩ := H
              replace H : (if t119 = true then ((tag_Put.f ([] : List Int) a0_0 a0_1 a0_2).bind fun t120 => (if (t120.length : Int) = x5_1 then ((tag_PutLen.f ([] : List Int) (Go.bits .and .i64 a1 2147483647)).bind fun t123 => (if (t123.length : Int) = x7_2 then ((tag_PutLen.f ([] : List Int) (-1)).bind fun t126 => (some ((t126.length : Int) == 0))) else (some false))) else (some false))) else ((tag_PutLen.f ([] : List Int) (Go.bits .and .i64 a1 2147483647)).bind fun t129 => (if (t129.length : Int) = x7_2 then ((tag_PutLen.f ([] : List Int) (-1)).bind fun t132 => (some ((t132.length : Int) == 0))) else (some false)))) = some true := H
              have A137 := Aside0.mk A1370
              clear A1370
              by_cases c138 : t119 = true
              · subst c138
                have H1 : ((tag_Put.f ([] : List Int) a0_0 a0_1 a0_2).bind fun t120 => (if (t120.length : Int) = x5_1 then ((tag_PutLen.f ([] : List Int) (Go.bits .and .i64 a1 2147483647)).bind fun t123 => (if (t123.length : Int) = x7_2 then ((tag_PutLen.f ([] : List Int) (-1)).bind fun t126 => (some ((t126.length : Int) == 0))) else (some false))) else (some false))) = some true := by rw [if_pos rfl] at H; exact H
                clear H
                have H := H1
                clear H1
                replace H := Option.bind_eq_some_iff.mp H
                obtain ⟨t120, A1390, H⟩ := H
                replace H : (if (t120.length : Int) = x5_1 then ((tag_PutLen.f ([] : List Int) (Go.bits .and .i64 a1 2147483647)).bind fun t123 => (if (t123.length : Int) = x7_2 then ((tag_PutLen.f ([] : List Int) (-1)).bind fun t126 => (some ((t126.length : Int) == 0))) else (some false))) else (some false)) = some true := H
                have A139 := Aside0.mk A1390
                clear A1390
                by_cases c140 : (t120.length : Int) = x5_1
                · rw [if_pos c140] at H
                  have c140b0 : ((t120.length : Int) == x5_1) = true := beq_iff_eq.mpr c140
                  have c140b1 : ((t120.length : Int) != x5_1) = false := bne_eq_false_iff_eq.mpr c140
                  clear c140
                  replace H := Option.bind_eq_some_iff.mp H
                  obtain ⟨t123, A1410, H⟩ := H
                  replace H : (if (t123.length : Int) = x7_2 then ((tag_PutLen.f ([] : List Int) (-1)).bind fun t126 => (some ((t126.length : Int) == 0))) else (some false)) = some true := H
                  have A141 := Aside0.mk A1410
                  clear A1410
                  by_cases c142 : (t123.length : Int) = x7_2
                  · rw [if_pos c142] at H
                    have c142b0 : ((t123.length : Int) == x7_2) = true := beq_iff_eq.mpr c142
                    have c142b1 : ((t123.length : Int) != x7_2) = false := bne_eq_false_iff_eq.mpr c142
                    clear c142
                    replace H := Option.bind_eq_some_iff.mp H
                    obtain ⟨t126, A1430, H⟩ := H
                    replace H : (some ((t126.length : Int) == 0)) = some true := H
                    have A143 := Aside0.mk A1430
                    clear A1430
                    have hr_ := Option.some.inj H
                    have hcz144_0 : wr.cell? ⟨gb102, 0, none⟩ = some (.int .i64 a0_0) := (blk_cell BK102.out 0).trans rfl
                    have hcz144_1 : wr.cell? ⟨gb102, 1, none⟩ = some (.bool a0_1) := (blk_cell BK102.out 1).trans rfl
                    have hcz144_2 : wr.cell? ⟨gb102, 2, none⟩ = some (.int .i64 a0_2) := (blk_cell BK102.out 2).trans rfl
                    have hfz144_0 := blk_frozen BK102.out 0
                    have hfz144_1 := blk_frozen BK102.out 1
                    have hfz144_2 := blk_frozen BK102.out 2
                    go_wp2_with (first | ((with_reducible refine gate_callee (f := 10) rfl ?_); refine goesL_ (some 36) rfl rfl Try.func10 (by kernel_rfl) rfl #[.agg #[.int .i64 a0_0, .bool a0_1, .int .i64 a0_2]] rfl (by (try simp only [List.map_toArray, List.map_cons, List.map_nil]); first | done | rfl | (simp only [List.length_drop, List.length_take]; rfl)) ?_; (with_reducible refine (tag_Right.calls a0_0 a0_1 a0_2 true _ A137.out).mono ?_); rintro e w145 ⟨rfl, hb⟩; refine ⟨_, rfl, ?_⟩; have n0_ := Aside0.mk (blk_below (g := gb102) (o := .cells #[.int .i64 a0_0, .bool a0_1, .int .i64 a0_2] 24 (0, 0)) (by (with_reducible repeat (first | refine blk_drewN ?_ _ | refine blk_drew ?_ | refine blk_alloc ?_ _)); exact BK102.out) hb); have n1_ := Aside0.mk (below_step (by repeat (first | (with_reducible first | exact HB.out | apply below_alloc | apply pw_below_drewN | apply below_drew1 | refine below_set ?_ GE102.out) | exact HB.out)) hb); clear BK102; clear HB; have BK102 := n0_; have HB := n1_; clear n0_ n1_; (try clear hb); (try clear hb2); (try clear hk); (try clear hi); have hcz146_0 : w145.cell? ⟨gb102, 0, none⟩ = some (.int .i64 a0_0) := (blk_cell BK102.out 0).trans rfl; have hcz146_1 : w145.cell? ⟨gb102, 1, none⟩ = some (.bool a0_1) := (blk_cell BK102.out 1).trans rfl; have hcz146_2 : w145.cell? ⟨gb102, 2, none⟩ = some (.int .i64 a0_2) := (blk_cell BK102.out 2).trans rfl; have hfz146_0 := blk_frozen BK102.out 0; have hfz146_1 := blk_frozen BK102.out 1; have hfz146_2 := blk_frozen BK102.out 2) | (go_at_call 8; (refine (tag_Put.calls _ _ ([] : List Int) a0_0 a0_1 a0_2 t120 _ ?side1 ?side2 A139.out).mono ?_); (case side1 => exact Kd.C_nil _ _); (case side2 => exact Nat.le_refl _); rintro e w147 ⟨v121, rfl, ho0, hb⟩; have n0_ := Aside0.mk (Kd.R_lower ho0 (below_size (by repeat (first | (with_reducible first | exact HB.out | apply below_alloc | apply pw_below_drewN | apply below_drew1 | refine below_set ?_ GE102.out) | exact HB.out)))); have n1_ := Aside0.mk (blk_below (g := gb102) (o := .cells #[.int .i64 a0_0, .bool a0_1, .int .i64 a0_2] 24 (0, 0)) (by (with_reducible repeat (first | refine blk_drewN ?_ _ | refine blk_drew ?_ | refine blk_alloc ?_ _)); exact BK102.out) hb); have n2_ := Aside0.mk (below_step (by repeat (first | (with_reducible first | exact HB.out | apply below_alloc | apply pw_below_drewN | apply below_drew1 | refine below_set ?_ GE102.out) | exact HB.out)) hb); clear BK102; clear HB; have HO122 := n0_; have BK102 := n1_; have HB := n2_; clear n0_ n1_ n2_; (try clear hb); (try clear hb2); (try clear hk); (try clear hi); (try clear ho0); obtain ⟨Ao148, co148, eo148⟩ := Kd.R_slice HO122.out; subst eo148) | (go_at_call_of 9 (Value.int IntKind.i64 (Go.bits .and .i64 a1 2147483647)); (refine (tag_PutLen.calls _ _ ([] : List Int) (Go.bits .and .i64 a1 2147483647) t123 _ ?side1 ?side2 A141.out).mono ?_); (case side1 => exact Kd.C_nil _ _); (case side2 => exact Nat.le_refl _); rintro e w149 ⟨v124, rfl, ho0, hb⟩; have n0_ := Aside0.mk (Kd.R_elder' (by (with_reducible repeat (first | apply Kd.R_alloc | apply Kd.R_drewN | apply Kd.R_drew)); exact HO122.out) (Kd.R_base ho0) hb); have n1_ := Aside0.mk (Kd.R_lower (Kd.R_new' ho0 (Kd.R_lt (by (with_reducible repeat (first | apply Kd.R_alloc | apply Kd.R_drewN | apply Kd.R_drew)); exact HO122.out))) (below_size (by repeat (first | (with_reducible first | exact HB.out | apply below_alloc | apply pw_below_drewN | apply below_drew1 | refine below_set ?_ GE102.out) | exact HB.out)))); have n2_ := Aside0.mk (blk_below (g := gb102) (o := .cells #[.int .i64 a0_0, .bool a0_1, .int .i64 a0_2] 24 (0, 0)) (by (with_reducible repeat (first | refine blk_drewN ?_ _ | refine blk_drew ?_ | refine blk_alloc ?_ _)); exact BK102.out) hb); have n3_ := Aside0.mk (below_step (by repeat (first | (with_reducible first | exact HB.out | apply below_alloc | apply pw_below_drewN | apply below_drew1 | refine below_set ?_ GE102.out) | exact HB.out)) hb); clear HO122; clear BK102; clear HB; have HO122 := n0_; have HO125 := n1_; have BK102 := n2_; have HB := n3_; clear n0_ n1_ n2_ n3_; (try clear hb); (try clear hb2); (try clear hk); (try clear hi); (try clear ho0); obtain ⟨Ao150, co150, eo150⟩ := Kd.R_slice HO125.out; subst eo150) | (go_at_call 9; (refine (tag_PutLen.calls _ _ ([] : List Int) (-1) t126 _ ?side1 ?side2 A143.out).mono ?_); (case side1 => exact Kd.C_nil _ _); (case side2 => exact Nat.le_refl _); rintro e w151 ⟨v127, rfl, ho0, hb⟩; have n0_ := Aside0.mk (Kd.R_elder' (by (with_reducible repeat (first | apply Kd.R_alloc | apply Kd.R_drewN | apply Kd.R_drew)); exact HO122.out) (Kd.R_base ho0) hb); have n1_ := Aside0.mk (Kd.R_elder' (by (with_reducible repeat (first | apply Kd.R_alloc | apply Kd.R_drewN | apply Kd.R_drew)); exact HO125.out) (Kd.R_base ho0) hb); have n2_ := Aside0.mk (Kd.R_lower (Kd.R_new' (Kd.R_new' ho0 (Kd.R_lt (by (with_reducible repeat (first | apply Kd.R_alloc | apply Kd.R_drewN | apply Kd.R_drew)); exact HO122.out))) (Kd.R_lt (by (with_reducible repeat (first | apply Kd.R_alloc | apply Kd.R_drewN | apply Kd.R_drew)); exact HO125.out))) (below_size (by repeat (first | (with_reducible first | exact HB.out | apply below_alloc | apply pw_below_drewN | apply below_drew1 | refine below_set ?_ GE102.out) | exact HB.out)))); have n3_ := Aside0.mk (blk_below (g := gb102) (o := .cells #[.int .i64 a0_0, .bool a0_1, .int .i64 a0_2] 24 (0, 0)) (by (with_reducible repeat (first | refine blk_drewN ?_ _ | refine blk_drew ?_ | refine blk_alloc ?_ _)); exact BK102.out) hb); have n4_ := Aside0.mk (below_step (by repeat (first | (with_reducible first | exact HB.out | apply below_alloc | apply pw_below_drewN | apply below_drew1 | refine below_set ?_ GE102.out) | exact HB.out)) hb); clear HO122; clear HO125; clear BK102; clear HB; have HO122 := n0_; have HO125 := n1_; have HO128 := n2_; have BK102 := n3_; have HB := n4_; clear n0_ n1_ n2_ n3_ n4_; (try clear hb); (try clear hb2); (try clear hk); (try clear hi); (try clear ho0); obtain ⟨Ao152, co152, eo152⟩ := Kd.R_slice HO128.out; subst eo152))
                    go_ret
                    exact ⟨by first | rfl | (rw [hr_]) | (simp [errW_none, errW_some] <;> rfl) | (simp [*, errW_none, errW_some] <;> rfl), by repeat (first | (with_reducible first | exact HB.out | apply below_alloc | apply pw_below_drewN | apply below_drew1 | refine below_set ?_ GE102.out) | exact HB.out)⟩
                  · exact absurd (Option.some.inj ((if_neg c142).symm.trans H)) (by decide)
                · exact absurd (Option.some.inj ((if_neg c140).symm.trans H)) (by decide)
              · replace c138 := Bool.eq_false_iff.mpr c138
                subst c138
                have H1 : ((tag_PutLen.f ([] : List Int) (Go.bits .and .i64 a1 2147483647)).bind fun t129 => (if (t129.length : Int) = x7_2 then ((tag_PutLen.f ([] : List Int) (-1)).bind fun t132 => (some ((t132.length : Int) == 0))) else (some false))) = some true := by rw [if_neg (show ¬ (false = true) by decide)] at H; exact H
                clear H
                have H := H1
                clear H1
                replace H := Option.bind_eq_some_iff.mp H
                obtain ⟨t129, A1650, H⟩ := H
                replace H : (if (t129.length : Int) = x7_2 then ((tag_PutLen.f ([] : List Int) (-1)).bind fun t132 => (some ((t132.length : Int) == 0))) else (some false)) = some true := H
                have A165 := Aside0.mk A1650
                clear A1650
                by_cases c166 : (t129.length : Int) = x7_2
                · rw [if_pos c166] at H
                  have c166b0 : ((t129.length : Int) == x7_2) = true := beq_iff_eq.mpr c166
                  have c166b1 : ((t129.length : Int) != x7_2) = false := bne_eq_false_iff_eq.mpr c166
                  clear c166
                  replace H := Option.bind_eq_some_iff.mp H
                  obtain ⟨t132, A1670, H⟩ := H
                  replace H : (some ((t132.length : Int) == 0)) = some true := H
                  have A167 := Aside0.mk A1670
                  clear A1670
                  have hr_ := Option.some.inj H
                  have hcz168_0 : wr.cell? ⟨gb102, 0, none⟩ = some (.int .i64 a0_0) := (blk_cell BK102.out 0).trans rfl
                  have hcz168_1 : wr.cell? ⟨gb102, 1, none⟩ = some (.bool a0_1) := (blk_cell BK102.out 1).trans rfl
                  have hcz168_2 : wr.cell? ⟨gb102, 2, none⟩ = some (.int .i64 a0_2) := (blk_cell BK102.out 2).trans rfl
                  have hfz168_0 := blk_frozen BK102.out 0
                  have hfz168_1 := blk_frozen BK102.out 1
                  have hfz168_2 := blk_frozen BK102.out 2
                  go_wp2_with (first | ((with_reducible refine gate_callee (f := 10) rfl ?_); refine goesL_ (some 36) rfl rfl Try.func10 (by kernel_rfl) rfl #[.agg #[.int .i64 a0_0, .bool a0_1, .int .i64 a0_2]] rfl (by (try simp only [List.map_toArray, List.map_cons, List.map_nil]); first | done | rfl | (simp only [List.length_drop, List.length_take]; rfl)) ?_; (with_reducible refine (tag_Right.calls a0_0 a0_1 a0_2 false _ A137.out).mono ?_); rintro e w169 ⟨rfl, hb⟩; refine ⟨_, rfl, ?_⟩; have n0_ := Aside0.mk (blk_below (g := gb102) (o := .cells #[.int .i64 a0_0, .bool a0_1, .int .i64 a0_2] 24 (0, 0)) (by (with_reducible repeat (first | refine blk_drewN ?_ _ | refine blk_drew ?_ | refine blk_alloc ?_ _)); exact BK102.out) hb); have n1_ := Aside0.mk (below_step (by repeat (first | (with_reducible first | exact HB.out | apply below_alloc | apply pw_below_drewN | apply below_drew1 | refine below_set ?_ GE102.out) | exact HB.out)) hb); clear BK102; clear HB; have BK102 := n0_; have HB := n1_; clear n0_ n1_; (try clear hb); (try clear hb2); (try clear hk); (try clear hi)) | (go_at_call_of 9 (Value.int IntKind.i64 (Go.bits .and .i64 a1 2147483647)); (refine (tag_PutLen.calls _ _ ([] : List Int) (Go.bits .and .i64 a1 2147483647) t129 _ ?side1 ?side2 A165.out).mono ?_); (case side1 => exact Kd.C_nil _ _); (case side2 => exact Nat.le_refl _); rintro e w170 ⟨v130, rfl, ho0, hb⟩; have n0_ := Aside0.mk (Kd.R_lower ho0 (below_size (by repeat (first | (with_reducible first | exact HB.out | apply below_alloc | apply pw_below_drewN | apply below_drew1 | refine below_set ?_ GE102.out) | exact HB.out)))); have n1_ := Aside0.mk (blk_below (g := gb102) (o := .cells #[.int .i64 a0_0, .bool a0_1, .int .i64 a0_2] 24 (0, 0)) (by (with_reducible repeat (first | refine blk_drewN ?_ _ | refine blk_drew ?_ | refine blk_alloc ?_ _)); exact BK102.out) hb); have n2_ := Aside0.mk (below_step (by repeat (first | (with_reducible first | exact HB.out | apply below_alloc | apply pw_below_drewN | apply below_drew1 | refine below_set ?_ GE102.out) | exact HB.out)) hb); clear BK102; clear HB; have HO131 := n0_; have BK102 := n1_; have HB := n2_; clear n0_ n1_ n2_; (try clear hb); (try clear hb2); (try clear hk); (try clear hi); (try clear ho0); obtain ⟨Ao171, co171, eo171⟩ := Kd.R_slice HO131.out; subst eo171) | (go_at_call 9; (refine (tag_PutLen.calls _ _ ([] : List Int) (-1) t132 _ ?side1 ?side2 A167.out).mono ?_); (case side1 => exact Kd.C_nil _ _); (case side2 => exact Nat.le_refl _); rintro e w172 ⟨v133, rfl, ho0, hb⟩; have n0_ := Aside0.mk (Kd.R_elder' (by (with_reducible repeat (first | apply Kd.R_alloc | apply Kd.R_drewN | apply Kd.R_drew)); exact HO131.out) (Kd.R_base ho0) hb); have n1_ := Aside0.mk (Kd.R_lower (Kd.R_new' ho0 (Kd.R_lt (by (with_reducible repeat (first | apply Kd.R_alloc | apply Kd.R_drewN | apply Kd.R_drew)); exact HO131.out))) (below_size (by repeat (first | (with_reducible first | exact HB.out | apply below_alloc | apply pw_below_drewN | apply below_drew1 | refine below_set ?_ GE102.out) | exact HB.out)))); have n2_ := Aside0.mk (blk_below (g := gb102) (o := .cells #[.int .i64 a0_0, .bool a0_1, .int .i64 a0_2] 24 (0, 0)) (by (with_reducible repeat (first | refine blk_drewN ?_ _ | refine blk_drew ?_ | refine blk_alloc ?_ _)); exact BK102.out) hb); have n3_ := Aside0.mk (below_step (by repeat (first | (with_reducible first | exact HB.out | apply below_alloc | apply pw_below_drewN | apply below_drew1 | refine below_set ?_ GE102.out) | exact HB.out)) hb); clear HO131; clear BK102; clear HB; have HO131 := n0_; have HO134 := n1_; have BK102 := n2_; have HB := n3_; clear n0_ n1_ n2_ n3_; (try clear hb); (try clear hb2); (try clear hk); (try clear hi); (try clear ho0); obtain ⟨Ao173, co173, eo173⟩ := Kd.R_slice HO134.out; subst eo173))
                  go_ret
                  exact ⟨by first | rfl | (rw [hr_]) | (simp [errW_none, errW_some] <;> rfl) | (simp [*, errW_none, errW_some] <;> rfl), by repeat (first | (with_reducible first | exact HB.out | apply below_alloc | apply pw_below_drewN | apply below_drew1 | refine below_set ?_ GE102.out) | exact HB.out)⟩
                · exact absurd (Option.some.inj ((if_neg c166).symm.trans H)) (by decide)
end Go.Proofs.Ytalbgdjclfahjaa.LTagSizes
