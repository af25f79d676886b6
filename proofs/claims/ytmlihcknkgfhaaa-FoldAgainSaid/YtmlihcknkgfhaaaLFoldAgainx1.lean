/- Functions that a law calls, and the walk of the law itself, told by a program of this session (pp.py) over the kit printer; no condition beyond the statement itself; not trusted: Lean checks it. -/
import Derived.Test.YtmlihcknkgfhaaaLFoldAgainx0
namespace Go.Proofs.Ytmlihcknkgfhaaa.LFoldAgain
open Go.RowKit Go.Proofs.Ytmlihcknkgfhaaa.H Go.Proofs.Ytmlihcknkgfhaaa.PFoldJoins Go.Proofs.YtmlihcknkgfhaaaW.PrintWords Go.Proofs.YtmlihcknkgfhaaaW.PrintLast Go.Proofs.YtmlihcknkgfhaaaW.PrintMore
attribute [local go_sem] max2_int min2_int max_two min_two max_three min_three max_four min_four   -- for this text's walks alone
set_option linter.unusedVariables false
set_option linter.unusedSimpArgs false

-- NOT PRINTED: function 17 (strings_Builder_Len)

-- NOT PRINTED: function 29 (abi_NoEscape)

-- NOT PRINTED: function 26 (strings_Builder_copyCheck)

-- NOT PRINTED: function 18 (strings_Builder_WriteString)

-- NOT PRINTED: function 19 (fold_small)

-- NOT PRINTED: function 20 (strings_Builder_String)

/-! ### fold_Piece: function 8 -/
def fold_Piece.f (a0 : ByteArray) : Option (ByteArray) := (fold_prepared.f a0 true true).bind fun t107 => (some t107)
set_option maxHeartbeats 2000000 in
set_option maxRecDepth 100000 in
theorem fold_Piece.calls (a0 : ByteArray) (r : ByteArray) (w : World) (h : fold_Piece.f a0 = some r) :
    Calls Try.prog 8 #[.string a0] w fun e w' => e = .returned (.string r) ∧ Below w.heap.size w w' := by
  have HB := Aside0.mk (Below.refl w.heap.size w)
  have H : ((fold_prepared.f a0 true true).bind fun t107 => (some t107)) = some r := h
  clear h
  replace H := Option.bind_eq_some_iff.mp H
  obtain ⟨t107, A20, H⟩ := H
  replace H : (some t107) = some r := H
  have A2 := Aside0.mk A20
  clear A20
  obtain rfl := Option.some.inj H
  go_enter Try.func8, Try.ntmps8
  go_wp2_with (first | ((with_reducible refine gate_callee (f := 13) rfl ?_); refine goesL_ (some 4) rfl rfl Try.func13 (by kernel_rfl) rfl #[.string a0, .bool true, .bool true] rfl (by (try simp only [List.map_toArray, List.map_cons, List.map_nil]); first | done | rfl | (simp only [List.length_drop, List.length_take]; rfl)) ?_; (with_reducible refine (fold_prepared.calls a0 true true t107 _ A2.out).mono ?_); rintro e w3 ⟨rfl, hb⟩; refine ⟨_, rfl, ?_⟩; have n0_ := Aside0.mk (below_step (by repeat (first | (with_reducible first | exact HB.out | apply below_alloc | apply pw_below_drewN | apply below_drew1) | exact HB.out)) hb); clear HB; have HB := n0_; clear n0_; (try clear hb); (try clear hb2); (try clear hk); (try clear hi)))
  go_ret
  exact ⟨by first | rfl | (simp [errW_none, errW_some] <;> rfl) | (simp [*, errW_none, errW_some] <;> rfl), by repeat (first | (with_reducible first | exact HB.out | apply below_alloc | apply pw_below_drewN | apply below_drew1) | exact HB.out)⟩

/-! ### fold_Fold: function 10 -/
def fold_Fold.f (a0 : ByteArray) : Option (ByteArray) := (fold_prepared.f a0 false true).bind fun t108 => (some t108)
set_option maxHeartbeats 2000000 in
set_option maxRecDepth 100000 in
theorem fold_Fold.calls (a0 : ByteArray) (r : ByteArray) (w : World) (h : fold_Fold.f a0 = some r) :
    Calls Try.prog 10 #[.string a0] w fun e w' => e = .returned (.string r) ∧ Below w.heap.size w w' := by
  have HB := Aside0.mk (Below.refl w.heap.size w)
  have H : ((fold_prepared.f a0 false true).bind fun t108 => (some t108)) = some r := h
  clear h
  replace H := Option.bind_eq_some_iff.mp H
  obtain ⟨t108, A20, H⟩ := H
  replace H : (some t108) = some r := H
  have A2 := Aside0.mk A20
  clear A20
  obtain rfl := Option.some.inj H
  go_enter Try.func10, Try.ntmps10
  go_wp2_with (first | ((with_reducible refine gate_callee (f := 13) rfl ?_); refine goesL_ (some 4) rfl rfl Try.func13 (by kernel_rfl) rfl #[.string a0, .bool false, .bool true] rfl (by (try simp only [List.map_toArray, List.map_cons, List.map_nil]); first | done | rfl | (simp only [List.length_drop, List.length_take]; rfl)) ?_; (with_reducible refine (fold_prepared.calls a0 false true t108 _ A2.out).mono ?_); rintro e w3 ⟨rfl, hb⟩; refine ⟨_, rfl, ?_⟩; have n0_ := Aside0.mk (below_step (by repeat (first | (with_reducible first | exact HB.out | apply below_alloc | apply pw_below_drewN | apply below_drew1) | exact HB.out)) hb); clear HB; have HB := n0_; clear n0_; (try clear hb); (try clear hb2); (try clear hk); (try clear hi)))
  go_ret
  exact ⟨by first | rfl | (simp [errW_none, errW_some] <;> rfl) | (simp [*, errW_none, errW_some] <;> rfl), by repeat (first | (with_reducible first | exact HB.out | apply below_alloc | apply pw_below_drewN | apply below_drew1) | exact HB.out)⟩

/-! ### fold_Exact: function 11 -/
def fold_Exact.f (a0 : ByteArray) : Option (ByteArray) := (fold_prepared.f a0 false false).bind fun t109 => (some t109)
set_option maxHeartbeats 2000000 in
set_option maxRecDepth 100000 in
theorem fold_Exact.calls (a0 : ByteArray) (r : ByteArray) (w : World) (h : fold_Exact.f a0 = some r) :
    Calls Try.prog 11 #[.string a0] w fun e w' => e = .returned (.string r) ∧ Below w.heap.size w w' := by
  have HB := Aside0.mk (Below.refl w.heap.size w)
  have H : ((fold_prepared.f a0 false false).bind fun t109 => (some t109)) = some r := h
  clear h
  replace H := Option.bind_eq_some_iff.mp H
  obtain ⟨t109, A20, H⟩ := H
  replace H : (some t109) = some r := H
  have A2 := Aside0.mk A20
  clear A20
  obtain rfl := Option.some.inj H
  go_enter Try.func11, Try.ntmps11
  go_wp2_with (first | ((with_reducible refine gate_callee (f := 13) rfl ?_); refine goesL_ (some 4) rfl rfl Try.func13 (by kernel_rfl) rfl #[.string a0, .bool false, .bool false] rfl (by (try simp only [List.map_toArray, List.map_cons, List.map_nil]); first | done | rfl | (simp only [List.length_drop, List.length_take]; rfl)) ?_; (with_reducible refine (fold_prepared.calls a0 false false t109 _ A2.out).mono ?_); rintro e w3 ⟨rfl, hb⟩; refine ⟨_, rfl, ?_⟩; have n0_ := Aside0.mk (below_step (by repeat (first | (with_reducible first | exact HB.out | apply below_alloc | apply pw_below_drewN | apply below_drew1) | exact HB.out)) hb); clear HB; have HB := n0_; clear n0_; (try clear hb); (try clear hb2); (try clear hk); (try clear hi)))
  go_ret
  exact ⟨by first | rfl | (simp [errW_none, errW_some] <;> rfl) | (simp [*, errW_none, errW_some] <;> rfl), by repeat (first | (with_reducible first | exact HB.out | apply below_alloc | apply pw_below_drewN | apply below_drew1) | exact HB.out)⟩

/-! ### peeragelaw05_FoldAgain: function 5 -/
def peeragelaw05_FoldAgain.f (k : Nat) (a0 : ByteArray) : Option (Bool) := if (a0.size : Int) > 600 then (if 0 ≤ 600 then (if 600 ≤ (a0.size : Int) then ((fold_Fold.f (a0.extract 0 600)).bind fun t110 => ((fold_Right.f k (a0.extract 0 600)).bind fun t111 => (if t111 = true then ((fold_Fold.f t110).bind fun t112 => (if t112.toList = t110.toList then (if 2 + (a0.extract 0 600).size ≤ 9223372036854775807 then (if ((⟨#[32, 9]⟩ : ByteArray) ++ (a0.extract 0 600)).size + 3 ≤ 9223372036854775807 then ((fold_Fold.f (((⟨#[32, 9]⟩ : ByteArray) ++ (a0.extract 0 600)) ++ (⟨#[1, 194, 160]⟩ : ByteArray))).bind fun t113 => (if t113.toList = t110.toList then ((fold_Exact.f (a0.extract 0 600)).bind fun t114 => ((fold_Fold.f t114).bind fun t115 => (if t115.toList = t110.toList then ((fold_Piece.f (a0.extract 0 600)).bind fun t116 => ((fold_Fold.f t116).bind fun t117 => (if t117.toList = t110.toList then ((fold_Right.f k t110).bind fun t118 => (if t118 = true then (if (t110.size : Int) ≤ ((a0.extract 0 600).size : Int) then ((fold_Fold.f (⟨#[195, 132]⟩ : ByteArray)).bind fun t119 => (some (t119.toList == ([195, 164] : List UInt8)))) else (some false)) else (some false))) else (some false)))) else (some false)))) else (some false))) else (none)) else (none)) else (some false))) else (if t110.toList = (a0.extract 0 600).toList then ((fold_Count.f k (a0.extract 0 600)).bind fun t120 => (if t120 = (-1) then ((fold_Fold.f (⟨#[65]⟩ : ByteArray)).bind fun t121 => (some (t121.toList == ([97] : List UInt8)))) else (some false))) else (some false))))) else (none)) else (none)) else ((fold_Fold.f a0).bind fun t122 => ((fold_Right.f k a0).bind fun t123 => (if t123 = true then ((fold_Fold.f t122).bind fun t124 => (if t124.toList = t122.toList then (if 2 + a0.size ≤ 9223372036854775807 then (if ((⟨#[32, 9]⟩ : ByteArray) ++ a0).size + 3 ≤ 9223372036854775807 then ((fold_Fold.f (((⟨#[32, 9]⟩ : ByteArray) ++ a0) ++ (⟨#[1, 194, 160]⟩ : ByteArray))).bind fun t125 => (if t125.toList = t122.toList then ((fold_Exact.f a0).bind fun t126 => ((fold_Fold.f t126).bind fun t127 => (if t127.toList = t122.toList then ((fold_Piece.f a0).bind fun t128 => ((fold_Fold.f t128).bind fun t129 => (if t129.toList = t122.toList then ((fold_Right.f k t122).bind fun t130 => (if t130 = true then (if (t122.size : Int) ≤ (a0.size : Int) then ((fold_Fold.f (⟨#[195, 132]⟩ : ByteArray)).bind fun t131 => (some (t131.toList == ([195, 164] : List UInt8)))) else (some false)) else (some false))) else (some false)))) else (some false)))) else (some false))) else (none)) else (none)) else (some false))) else (if t122.toList = a0.toList then ((fold_Count.f k a0).bind fun t132 => (if t132 = (-1) then ((fold_Fold.f (⟨#[65]⟩ : ByteArray)).bind fun t133 => (some (t133.toList == ([97] : List UInt8)))) else (some false))) else (some false)))))
theorem peeragelaw05_FoldAgain.mono : ∀ a0 k, LeO (peeragelaw05_FoldAgain.f k a0) (peeragelaw05_FoldAgain.f (k + 1) a0) := by
  intro a0 k
  unfold peeragelaw05_FoldAgain.f
  repeat' first
      | (with_reducible exact fold_Count.mono _ _)
      | (with_reducible exact fold_Right.mono _ _)
      | (with_reducible exact LeO.refl _)
      | (with_reducible exact LeO.none _)
      | (with_reducible refine LeO.ite ?_ ?_)
      | (with_reducible refine LeO.bind ?_ (fun _ => ?_))
      | exact fold_Count.mono _ _
      | exact fold_Right.mono _ _
      | exact LeO.none _
      | refine LeO.ite ?_ ?_
      | refine LeO.bind ?_ (fun _ => ?_)
set_option maxHeartbeats 2000000 in
set_option maxRecDepth 100000 in
theorem peeragelaw05_FoldAgain.calls (k : Nat) (a0 : ByteArray) (r : Bool) (w : World) (h : peeragelaw05_FoldAgain.f k a0 = some r) :
    Calls Try.prog 5 #[.string a0] w fun e w' => e = .returned (.bool r) ∧ Below w.heap.size w w' := by
  have HB := Aside0.mk (Below.refl w.heap.size w)
  have H : (if (a0.size : Int) > 600 then (if 0 ≤ 600 then (if 600 ≤ (a0.size : Int) then ((fold_Fold.f (a0.extract 0 600)).bind fun t110 => ((fold_Right.f k (a0.extract 0 600)).bind fun t111 => (if t111 = true then ((fold_Fold.f t110).bind fun t112 => (if t112.toList = t110.toList then (if 2 + (a0.extract 0 600).size ≤ 9223372036854775807 then (if ((⟨#[32, 9]⟩ : ByteArray) ++ (a0.extract 0 600)).size + 3 ≤ 9223372036854775807 then ((fold_Fold.f (((⟨#[32, 9]⟩ : ByteArray) ++ (a0.extract 0 600)) ++ (⟨#[1, 194, 160]⟩ : ByteArray))).bind fun t113 => (if t113.toList = t110.toList then ((fold_Exact.f (a0.extract 0 600)).bind fun t114 => ((fold_Fold.f t114).bind fun t115 => (if t115.toList = t110.toList then ((fold_Piece.f (a0.extract 0 600)).bind fun t116 => ((fold_Fold.f t116).bind fun t117 => (if t117.toList = t110.toList then ((fold_Right.f k t110).bind fun t118 => (if t118 = true then (if (t110.size : Int) ≤ ((a0.extract 0 600).size : Int) then ((fold_Fold.f (⟨#[195, 132]⟩ : ByteArray)).bind fun t119 => (some (t119.toList == ([195, 164] : List UInt8)))) else (some false)) else (some false))) else (some false)))) else (some false)))) else (some false))) else (none)) else (none)) else (some false))) else (if t110.toList = (a0.extract 0 600).toList then ((fold_Count.f k (a0.extract 0 600)).bind fun t120 => (if t120 = (-1) then ((fold_Fold.f (⟨#[65]⟩ : ByteArray)).bind fun t121 => (some (t121.toList == ([97] : List UInt8)))) else (some false))) else (some false))))) else (none)) else (none)) else ((fold_Fold.f a0).bind fun t122 => ((fold_Right.f k a0).bind fun t123 => (if t123 = true then ((fold_Fold.f t122).bind fun t124 => (if t124.toList = t122.toList then (if 2 + a0.size ≤ 9223372036854775807 then (if ((⟨#[32, 9]⟩ : ByteArray) ++ a0).size + 3 ≤ 9223372036854775807 then ((fold_Fold.f (((⟨#[32, 9]⟩ : ByteArray) ++ a0) ++ (⟨#[1, 194, 160]⟩ : ByteArray))).bind fun t125 => (if t125.toList = t122.toList then ((fold_Exact.f a0).bind fun t126 => ((fold_Fold.f t126).bind fun t127 => (if t127.toList = t122.toList then ((fold_Piece.f a0).bind fun t128 => ((fold_Fold.f t128).bind fun t129 => (if t129.toList = t122.toList then ((fold_Right.f k t122).bind fun t130 => (if t130 = true then (if (t122.size : Int) ≤ (a0.size : Int) then ((fold_Fold.f (⟨#[195, 132]⟩ : ByteArray)).bind fun t131 => (some (t131.toList == ([195, 164] : List UInt8)))) else (some false)) else (some false))) else (some false)))) else (some false)))) else (some false))) else (none)) else (none)) else (some false))) else (if t122.toList = a0.toList then ((fold_Count.f k a0).bind fun t132 => (if t132 = (-1) then ((fold_Fold.f (⟨#[65]⟩ : ByteArray)).bind fun t133 => (some (t133.toList == ([97] : List UInt8)))) else (some false))) else (some false)))))) = some r := h
  clear h
  by_cases c2 : (a0.size : Int) > 600
  · rw [if_pos c2] at H
    have c2b0 : decide (600 < (a0.size : Int)) = true := decide_eq_true c2
    have c2b1 : decide (600 < a0.size) = true := decide_eq_true (by omega)
    clear c2
    by_cases c3 : 0 ≤ 600
    · rw [if_pos c3] at H
      have c3b0 := eq_true c3
      have c3b1 : decide (0 ≤ 600) = true := decide_eq_true c3
      clear c3
      by_cases c4 : 600 ≤ (a0.size : Int)
      · rw [if_pos c4] at H
        have c4b0 := eq_true c4
        have c4b1 : decide (600 ≤ (a0.size : Int)) = true := decide_eq_true c4
        clear c4
        replace H := Option.bind_eq_some_iff.mp H
        obtain ⟨t110, A50, H⟩ := H
        replace H : ((fold_Right.f k (a0.extract 0 600)).bind fun t111 => (if t111 = true then ((fold_Fold.f t110).bind fun t112 => (if t112.toList = t110.toList then (if 2 + (a0.extract 0 600).size ≤ 9223372036854775807 then (if ((⟨#[32, 9]⟩ : ByteArray) ++ (a0.extract 0 600)).size + 3 ≤ 9223372036854775807 then ((fold_Fold.f (((⟨#[32, 9]⟩ : ByteArray) ++ (a0.extract 0 600)) ++ (⟨#[1, 194, 160]⟩ : ByteArray))).bind fun t113 => (if t113.toList = t110.toList then ((fold_Exact.f (a0.extract 0 600)).bind fun t114 => ((fold_Fold.f t114).bind fun t115 => (if t115.toList = t110.toList then ((fold_Piece.f (a0.extract 0 600)).bind fun t116 => ((fold_Fold.f t116).bind fun t117 => (if t117.toList = t110.toList then ((fold_Right.f k t110).bind fun t118 => (if t118 = true then (if (t110.size : Int) ≤ ((a0.extract 0 600).size : Int) then ((fold_Fold.f (⟨#[195, 132]⟩ : ByteArray)).bind fun t119 => (some (t119.toList == ([195, 164] : List UInt8)))) else (some false)) else (some false))) else (some false)))) else (some false)))) else (some false))) else (none)) else (none)) else (some false))) else (if t110.toList = (a0.extract 0 600).toList then ((fold_Count.f k (a0.extract 0 600)).bind fun t120 => (if t120 = (-1) then ((fold_Fold.f (⟨#[65]⟩ : ByteArray)).bind fun t121 => (some (t121.toList == ([97] : List UInt8)))) else (some false))) else (some false)))) = some r := H
        have A5 := Aside0.mk A50
        clear A50
        replace H := Option.bind_eq_some_iff.mp H
        obtain ⟨t111, A60, H⟩ := H
        replace H : (if t111 = true then ((fold_Fold.f t110).bind fun t112 => (if t112.toList = t110.toList then (if 2 + (a0.extract 0 600).size ≤ 9223372036854775807 then (if ((⟨#[32, 9]⟩ : ByteArray) ++ (a0.extract 0 600)).size + 3 ≤ 9223372036854775807 then ((fold_Fold.f (((⟨#[32, 9]⟩ : ByteArray) ++ (a0.extract 0 600)) ++ (⟨#[1, 194, 160]⟩ : ByteArray))).bind fun t113 => (if t113.toList = t110.toList then ((fold_Exact.f (a0.extract 0 600)).bind fun t114 => ((fold_Fold.f t114).bind fun t115 => (if t115.toList = t110.toList then ((fold_Piece.f (a0.extract 0 600)).bind fun t116 => ((fold_Fold.f t116).bind fun t117 => (if t117.toList = t110.toList then ((fold_Right.f k t110).bind fun t118 => (if t118 = true then (if (t110.size : Int) ≤ ((a0.extract 0 600).size : Int) then ((fold_Fold.f (⟨#[195, 132]⟩ : ByteArray)).bind fun t119 => (some (t119.toList == ([195, 164] : List UInt8)))) else (some false)) else (some false))) else (some false)))) else (some false)))) else (some false))) else (none)) else (none)) else (some false))) else (if t110.toList = (a0.extract 0 600).toList then ((fold_Count.f k (a0.extract 0 600)).bind fun t120 => (if t120 = (-1) then ((fold_Fold.f (⟨#[65]⟩ : ByteArray)).bind fun t121 => (some (t121.toList == ([97] : List UInt8)))) else (some false))) else (some false))) = some r := H
        have A6 := Aside0.mk A60
        clear A60
        by_cases c7 : t111 = true
        · subst c7
          have H1 : ((fold_Fold.f t110).bind fun t112 => (if t112.toList = t110.toList then (if 2 + (a0.extract 0 600).size ≤ 9223372036854775807 then (if ((⟨#[32, 9]⟩ : ByteArray) ++ (a0.extract 0 600)).size + 3 ≤ 9223372036854775807 then ((fold_Fold.f (((⟨#[32, 9]⟩ : ByteArray) ++ (a0.extract 0 600)) ++ (⟨#[1, 194, 160]⟩ : ByteArray))).bind fun t113 => (if t113.toList = t110.toList then ((fold_Exact.f (a0.extract 0 600)).bind fun t114 => ((fold_Fold.f t114).bind fun t115 => (if t115.toList = t110.toList then ((fold_Piece.f (a0.extract 0 600)).bind fun t116 => ((fold_Fold.f t116).bind fun t117 => (if t117.toList = t110.toList then ((fold_Right.f k t110).bind fun t118 => (if t118 = true then (if (t110.size : Int) ≤ ((a0.extract 0 600).size : Int) then ((fold_Fold.f (⟨#[195, 132]⟩ : ByteArray)).bind fun t119 => (some (t119.toList == ([195, 164] : List UInt8)))) else (some false)) else (some false))) else (some false)))) else (some false)))) else (some false))) else (none)) else (none)) else (some false))) = some r := by rw [if_pos rfl] at H; exact H
          clear H
          have H := H1
          clear H1
          replace H := Option.bind_eq_some_iff.mp H
          obtain ⟨t112, A80, H⟩ := H
          replace H : (if t112.toList = t110.toList then (if 2 + (a0.extract 0 600).size ≤ 9223372036854775807 then (if ((⟨#[32, 9]⟩ : ByteArray) ++ (a0.extract 0 600)).size + 3 ≤ 9223372036854775807 then ((fold_Fold.f (((⟨#[32, 9]⟩ : ByteArray) ++ (a0.extract 0 600)) ++ (⟨#[1, 194, 160]⟩ : ByteArray))).bind fun t113 => (if t113.toList = t110.toList then ((fold_Exact.f (a0.extract 0 600)).bind fun t114 => ((fold_Fold.f t114).bind fun t115 => (if t115.toList = t110.toList then ((fold_Piece.f (a0.extract 0 600)).bind fun t116 => ((fold_Fold.f t116).bind fun t117 => (if t117.toList = t110.toList then ((fold_Right.f k t110).bind fun t118 => (if t118 = true then (if (t110.size : Int) ≤ ((a0.extract 0 600).size : Int) then ((fold_Fold.f (⟨#[195, 132]⟩ : ByteArray)).bind fun t119 => (some (t119.toList == ([195, 164] : List UInt8)))) else (some false)) else (some false))) else (some false)))) else (some false)))) else (some false))) else (none)) else (none)) else (some false)) = some r := H
          have A8 := Aside0.mk A80
          clear A80
          by_cases c9 : t112.toList = t110.toList
          · rw [if_pos c9] at H
            have c9b0 : (t112.toList == t110.toList) = true := beq_iff_eq.mpr c9
            have c9b1 : (t112.toList != t110.toList) = false := bne_eq_false_iff_eq.mpr c9
            clear c9
            by_cases c10 : 2 + (a0.extract 0 600).size ≤ 9223372036854775807
            · rw [if_pos c10] at H
              have c10b0 := eq_true c10
              have c10b1 : decide (2 + (a0.extract 0 600).size ≤ 9223372036854775807) = true := decide_eq_true c10
              try have c10b2 : (9223372036854775807 < 2 + (a0.extract 0 600).size) = False := eq_false (Nat.not_lt.2 c10)
              by_cases c11 : ((⟨#[32, 9]⟩ : ByteArray) ++ (a0.extract 0 600)).size + 3 ≤ 9223372036854775807
              · rw [if_pos c11] at H
                have c11b0 := eq_true c11
                have c11b1 : decide (((⟨#[32, 9]⟩ : ByteArray) ++ (a0.extract 0 600)).size + 3 ≤ 9223372036854775807) = true := decide_eq_true c11
                try have c11b2 : (9223372036854775807 < ((⟨#[32, 9]⟩ : ByteArray) ++ (a0.extract 0 600)).size + 3) = False := eq_false (Nat.not_lt.2 c11)
                replace H := Option.bind_eq_some_iff.mp H
                obtain ⟨t113, A120, H⟩ := H
                replace H : (if t113.toList = t110.toList then ((fold_Exact.f (a0.extract 0 600)).bind fun t114 => ((fold_Fold.f t114).bind fun t115 => (if t115.toList = t110.toList then ((fold_Piece.f (a0.extract 0 600)).bind fun t116 => ((fold_Fold.f t116).bind fun t117 => (if t117.toList = t110.toList then ((fold_Right.f k t110).bind fun t118 => (if t118 = true then (if (t110.size : Int) ≤ ((a0.extract 0 600).size : Int) then ((fold_Fold.f (⟨#[195, 132]⟩ : ByteArray)).bind fun t119 => (some (t119.toList == ([195, 164] : List UInt8)))) else (some false)) else (some false))) else (some false)))) else (some false)))) else (some false)) = some r := H
                have A12 := Aside0.mk A120
                clear A120
                by_cases c13 : t113.toList = t110.toList
                · rw [if_pos c13] at H
                  have c13b0 : (t113.toList == t110.toList) = true := beq_iff_eq.mpr c13
                  have c13b1 : (t113.toList != t110.toList) = false := bne_eq_false_iff_eq.mpr c13
                  clear c13
                  replace H := Option.bind_eq_some_iff.mp H
                  obtain ⟨t114, A140, H⟩ := H
                  replace H : ((fold_Fold.f t114).bind fun t115 => (if t115.toList = t110.toList then ((fold_Piece.f (a0.extract 0 600)).bind fun t116 => ((fold_Fold.f t116).bind fun t117 => (if t117.toList = t110.toList then ((fold_Right.f k t110).bind fun t118 => (if t118 = true then (if (t110.size : Int) ≤ ((a0.extract 0 600).size : Int) then ((fold_Fold.f (⟨#[195, 132]⟩ : ByteArray)).bind fun t119 => (some (t119.toList == ([195, 164] : List UInt8)))) else (some false)) else (some false))) else (some false)))) else (some false))) = some r := H
                  have A14 := Aside0.mk A140
                  clear A140
                  replace H := Option.bind_eq_some_iff.mp H
                  obtain ⟨t115, A150, H⟩ := H
                  replace H : (if t115.toList = t110.toList then ((fold_Piece.f (a0.extract 0 600)).bind fun t116 => ((fold_Fold.f t116).bind fun t117 => (if t117.toList = t110.toList then ((fold_Right.f k t110).bind fun t118 => (if t118 = true then (if (t110.size : Int) ≤ ((a0.extract 0 600).size : Int) then ((fold_Fold.f (⟨#[195, 132]⟩ : ByteArray)).bind fun t119 => (some (t119.toList == ([195, 164] : List UInt8)))) else (some false)) else (some false))) else (some false)))) else (some false)) = some r := H
                  have A15 := Aside0.mk A150
                  clear A150
                  by_cases c16 : t115.toList = t110.toList
                  · rw [if_pos c16] at H
                    have c16b0 : (t115.toList == t110.toList) = true := beq_iff_eq.mpr c16
                    have c16b1 : (t115.toList != t110.toList) = false := bne_eq_false_iff_eq.mpr c16
                    clear c16
                    replace H := Option.bind_eq_some_iff.mp H
                    obtain ⟨t116, A170, H⟩ := H
                    replace H : ((fold_Fold.f t116).bind fun t117 => (if t117.toList = t110.toList then ((fold_Right.f k t110).bind fun t118 => (if t118 = true then (if (t110.size : Int) ≤ ((a0.extract 0 600).size : Int) then ((fold_Fold.f (⟨#[195, 132]⟩ : ByteArray)).bind fun t119 => (some (t119.toList == ([195, 164] : List UInt8)))) else (some false)) else (some false))) else (some false))) = some r := H
                    have A17 := Aside0.mk A170
                    clear A170
                    replace H := Option.bind_eq_some_iff.mp H
                    obtain ⟨t117, A180, H⟩ := H
                    replace H : (if t117.toList = t110.toList then ((fold_Right.f k t110).bind fun t118 => (if t118 = true then (if (t110.size : Int) ≤ ((a0.extract 0 600).size : Int) then ((fold_Fold.f (⟨#[195, 132]⟩ : ByteArray)).bind fun t119 => (some (t119.toList == ([195, 164] : List UInt8)))) else (some false)) else (some false))) else (some false)) = some r := H
                    have A18 := Aside0.mk A180
                    clear A180
                    by_cases c19 : t117.toList = t110.toList
                    · rw [if_pos c19] at H
                      have c19b0 : (t117.toList == t110.toList) = true := beq_iff_eq.mpr c19
                      have c19b1 : (t117.toList != t110.toList) = false := bne_eq_false_iff_eq.mpr c19
                      clear c19
                      replace H := Option.bind_eq_some_iff.mp H
                      obtain ⟨t118, A200, H⟩ := H
                      replace H : (if t118 = true then (if (t110.size : Int) ≤ ((a0.extract 0 600).size : Int) then ((fold_Fold.f (⟨#[195, 132]⟩ : ByteArray)).bind fun t119 => (some (t119.toList == ([195, 164] : List UInt8)))) else (some false)) else (some false)) = some r := H
                      have A20 := Aside0.mk A200
                      clear A200
                      by_cases c21 : t118 = true
                      · subst c21
                        have H1 : (if (t110.size : Int) ≤ ((a0.extract 0 600).size : Int) then ((fold_Fold.f (⟨#[195, 132]⟩ : ByteArray)).bind fun t119 => (some (t119.toList == ([195, 164] : List UInt8)))) else (some false)) = some r := by rw [if_pos rfl] at H; exact H
                        clear H
                        have H := H1
                        clear H1
                        by_cases c22 : (t110.size : Int) ≤ ((a0.extract 0 600).size : Int)
                        · rw [if_pos c22] at H
                          have c22b0 : decide ((t110.size : Int) ≤ ((a0.extract 0 600).size : Int)) = true := decide_eq_true c22
                          have c22b1 : decide (t110.size ≤ (a0.extract 0 600).size) = true := decide_eq_true (Int.ofNat_le.mp c22)
                          have c22z : decide (t110.size ≤ min 600 a0.size) = true := by have z_ := c22b1; rw [show (a0.extract 0 600).size = min 600 a0.size by simp] at z_; exact z_
                          clear c22
                          replace H := Option.bind_eq_some_iff.mp H
                          obtain ⟨t119, A230, H⟩ := H
                          replace H : (some (t119.toList == ([195, 164] : List UInt8))) = some r := H
                          have A23 := Aside0.mk A230
                          clear A230
                          obtain rfl := Option.some.inj H
                          go_enter Try.func5, Try.ntmps5
                          go_wp2_with (first | ((with_reducible refine gate_callee (f := 10) rfl ?_); refine goesL_ (some 10) rfl rfl Try.func10 (by kernel_rfl) rfl #[.string (a0.extract 0 600)] rfl (by (try simp only [List.map_toArray, List.map_cons, List.map_nil]); first | done | rfl | (simp only [List.length_drop, List.length_take]; rfl)) ?_; (with_reducible refine (fold_Fold.calls (a0.extract 0 600) t110 _ A5.out).mono ?_); rintro e w24 ⟨rfl, hb⟩; refine ⟨_, rfl, ?_⟩; have n0_ := Aside0.mk (below_step (by repeat (first | (with_reducible first | exact HB.out | apply below_alloc | apply pw_below_drewN | apply below_drew1) | exact HB.out)) hb); clear HB; have HB := n0_; clear n0_; (try clear hb); (try clear hb2); (try clear hk); (try clear hi)) | ((with_reducible refine gate_callee (f := 7) rfl ?_); refine goesL_ (some 12) rfl rfl Try.func7 (by kernel_rfl) rfl #[.string (a0.extract 0 600)] rfl (by (try simp only [List.map_toArray, List.map_cons, List.map_nil]); first | done | rfl | (simp only [List.length_drop, List.length_take]; rfl)) ?_; (with_reducible refine (fold_Right.calls k (a0.extract 0 600) true _ A6.out).mono ?_); rintro e w' ⟨rfl, ⟨nd, rfl⟩⟩; refine ⟨_, rfl, ?_⟩) | ((with_reducible refine gate_callee (f := 10) rfl ?_); refine goesL_ (some 27) rfl rfl Try.func10 (by kernel_rfl) rfl #[.string t110] rfl (by (try simp only [List.map_toArray, List.map_cons, List.map_nil]); first | done | rfl | (simp only [List.length_drop, List.length_take]; rfl)) ?_; (with_reducible refine (fold_Fold.calls t110 t112 _ A8.out).mono ?_); rintro e w25 ⟨rfl, hb⟩; refine ⟨_, rfl, ?_⟩; have n0_ := Aside0.mk (below_step (by repeat (first | (with_reducible first | exact HB.out | apply below_alloc | apply pw_below_drewN | apply below_drew1) | exact HB.out)) hb); clear HB; have HB := n0_; clear n0_; (try clear hb); (try clear hb2); (try clear hk); (try clear hi)) | (go_at_call 10; (with_reducible refine (fold_Fold.calls (((⟨#[32, 9]⟩ : ByteArray) ++ (a0.extract 0 600)) ++ (⟨#[1, 194, 160]⟩ : ByteArray)) t113 _ A12.out).mono ?_); rintro e w26 ⟨rfl, hb⟩; have n0_ := Aside0.mk (below_step (by repeat (first | (with_reducible first | exact HB.out | apply below_alloc | apply pw_below_drewN | apply below_drew1) | exact HB.out)) hb); clear HB; have HB := n0_; clear n0_; (try clear hb); (try clear hb2); (try clear hk); (try clear hi)) | (go_at_call 11; (with_reducible refine (fold_Exact.calls (a0.extract 0 600) t114 _ A14.out).mono ?_); rintro e w27 ⟨rfl, hb⟩; have n0_ := Aside0.mk (below_step (by repeat (first | (with_reducible first | exact HB.out | apply below_alloc | apply pw_below_drewN | apply below_drew1) | exact HB.out)) hb); clear HB; have HB := n0_; clear n0_; (try clear hb); (try clear hb2); (try clear hk); (try clear hi)) | (go_at_call 10; (with_reducible refine (fold_Fold.calls t114 t115 _ A15.out).mono ?_); rintro e w28 ⟨rfl, hb⟩; have n0_ := Aside0.mk (below_step (by repeat (first | (with_reducible first | exact HB.out | apply below_alloc | apply pw_below_drewN | apply below_drew1) | exact HB.out)) hb); clear HB; have HB := n0_; clear n0_; (try clear hb); (try clear hb2); (try clear hk); (try clear hi)) | (go_at_call 8; (with_reducible refine (fold_Piece.calls (a0.extract 0 600) t116 _ A17.out).mono ?_); rintro e w29 ⟨rfl, hb⟩; have n0_ := Aside0.mk (below_step (by repeat (first | (with_reducible first | exact HB.out | apply below_alloc | apply pw_below_drewN | apply below_drew1) | exact HB.out)) hb); clear HB; have HB := n0_; clear n0_; (try clear hb); (try clear hb2); (try clear hk); (try clear hi)) | (go_at_call 10; (with_reducible refine (fold_Fold.calls t116 t117 _ A18.out).mono ?_); rintro e w30 ⟨rfl, hb⟩; have n0_ := Aside0.mk (below_step (by repeat (first | (with_reducible first | exact HB.out | apply below_alloc | apply pw_below_drewN | apply below_drew1) | exact HB.out)) hb); clear HB; have HB := n0_; clear n0_; (try clear hb); (try clear hb2); (try clear hk); (try clear hi)) | (go_at_call 7; (with_reducible refine (fold_Right.calls k t110 true _ A20.out).mono ?_); rintro e w' ⟨rfl, ⟨nd, rfl⟩⟩) | (go_at_call 10; (with_reducible refine (fold_Fold.calls (⟨#[195, 132]⟩ : ByteArray) t119 _ A23.out).mono ?_); rintro e w31 ⟨rfl, hb⟩; have n0_ := Aside0.mk (below_step (by repeat (first | (with_reducible first | exact HB.out | apply below_alloc | apply pw_below_drewN | apply below_drew1) | exact HB.out)) hb); clear HB; have HB := n0_; clear n0_; (try clear hb); (try clear hb2); (try clear hk); (try clear hi)))
                          go_ret
                          exact ⟨by first | rfl | (simp [errW_none, errW_some] <;> rfl) | (simp [*, errW_none, errW_some] <;> rfl), by repeat (first | (with_reducible first | exact HB.out | apply below_alloc | apply pw_below_drewN | apply below_drew1) | exact HB.out)⟩
                        · rw [if_neg c22] at H
                          have c22b0 : decide ((t110.size : Int) ≤ ((a0.extract 0 600).size : Int)) = false := decide_eq_false c22
                          have c22b1 : decide (t110.size ≤ (a0.extract 0 600).size) = false := decide_eq_false (fun h => c22 (Int.ofNat_le.mpr h))
                          have c22z : decide (t110.size ≤ min 600 a0.size) = false := by have z_ := c22b1; rw [show (a0.extract 0 600).size = min 600 a0.size by simp] at z_; exact z_
                          clear c22
                          obtain rfl := Option.some.inj H
                          go_enter Try.func5, Try.ntmps5
                          go_wp2_with (first | ((with_reducible refine gate_callee (f := 10) rfl ?_); refine goesL_ (some 10) rfl rfl Try.func10 (by kernel_rfl) rfl #[.string (a0.extract 0 600)] rfl (by (try simp only [List.map_toArray, List.map_cons, List.map_nil]); first | done | rfl | (simp only [List.length_drop, List.length_take]; rfl)) ?_; (with_reducible refine (fold_Fold.calls (a0.extract 0 600) t110 _ A5.out).mono ?_); rintro e w32 ⟨rfl, hb⟩; refine ⟨_, rfl, ?_⟩; have n0_ := Aside0.mk (below_step (by repeat (first | (with_reducible first | exact HB.out | apply below_alloc | apply pw_below_drewN | apply below_drew1) | exact HB.out)) hb); clear HB; have HB := n0_; clear n0_; (try clear hb); (try clear hb2); (try clear hk); (try clear hi)) | ((with_reducible refine gate_callee (f := 7) rfl ?_); refine goesL_ (some 12) rfl rfl Try.func7 (by kernel_rfl) rfl #[.string (a0.extract 0 600)] rfl (by (try simp only [List.map_toArray, List.map_cons, List.map_nil]); first | done | rfl | (simp only [List.length_drop, List.length_take]; rfl)) ?_; (with_reducible refine (fold_Right.calls k (a0.extract 0 600) true _ A6.out).mono ?_); rintro e w' ⟨rfl, ⟨nd, rfl⟩⟩; refine ⟨_, rfl, ?_⟩) | ((with_reducible refine gate_callee (f := 10) rfl ?_); refine goesL_ (some 27) rfl rfl Try.func10 (by kernel_rfl) rfl #[.string t110] rfl (by (try simp only [List.map_toArray, List.map_cons, List.map_nil]); first | done | rfl | (simp only [List.length_drop, List.length_take]; rfl)) ?_; (with_reducible refine (fold_Fold.calls t110 t112 _ A8.out).mono ?_); rintro e w33 ⟨rfl, hb⟩; refine ⟨_, rfl, ?_⟩; have n0_ := Aside0.mk (below_step (by repeat (first | (with_reducible first | exact HB.out | apply below_alloc | apply pw_below_drewN | apply below_drew1) | exact HB.out)) hb); clear HB; have HB := n0_; clear n0_; (try clear hb); (try clear hb2); (try clear hk); (try clear hi)) | (go_at_call 10; (with_reducible refine (fold_Fold.calls (((⟨#[32, 9]⟩ : ByteArray) ++ (a0.extract 0 600)) ++ (⟨#[1, 194, 160]⟩ : ByteArray)) t113 _ A12.out).mono ?_); rintro e w34 ⟨rfl, hb⟩; have n0_ := Aside0.mk (below_step (by repeat (first | (with_reducible first | exact HB.out | apply below_alloc | apply pw_below_drewN | apply below_drew1) | exact HB.out)) hb); clear HB; have HB := n0_; clear n0_; (try clear hb); (try clear hb2); (try clear hk); (try clear hi)) | (go_at_call 11; (with_reducible refine (fold_Exact.calls (a0.extract 0 600) t114 _ A14.out).mono ?_); rintro e w35 ⟨rfl, hb⟩; have n0_ := Aside0.mk (below_step (by repeat (first | (with_reducible first | exact HB.out | apply below_alloc | apply pw_below_drewN | apply below_drew1) | exact HB.out)) hb); clear HB; have HB := n0_; clear n0_; (try clear hb); (try clear hb2); (try clear hk); (try clear hi)) | (go_at_call 10; (with_reducible refine (fold_Fold.calls t114 t115 _ A15.out).mono ?_); rintro e w36 ⟨rfl, hb⟩; have n0_ := Aside0.mk (below_step (by repeat (first | (with_reducible first | exact HB.out | apply below_alloc | apply pw_below_drewN | apply below_drew1) | exact HB.out)) hb); clear HB; have HB := n0_; clear n0_; (try clear hb); (try clear hb2); (try clear hk); (try clear hi)) | (go_at_call 8; (with_reducible refine (fold_Piece.calls (a0.extract 0 600) t116 _ A17.out).mono ?_); rintro e w37 ⟨rfl, hb⟩; have n0_ := Aside0.mk (below_step (by repeat (first | (with_reducible first | exact HB.out | apply below_alloc | apply pw_below_drewN | apply below_drew1) | exact HB.out)) hb); clear HB; have HB := n0_; clear n0_; (try clear hb); (try clear hb2); (try clear hk); (try clear hi)) | (go_at_call 10; (with_reducible refine (fold_Fold.calls t116 t117 _ A18.out).mono ?_); rintro e w38 ⟨rfl, hb⟩; have n0_ := Aside0.mk (below_step (by repeat (first | (with_reducible first | exact HB.out | apply below_alloc | apply pw_below_drewN | apply below_drew1) | exact HB.out)) hb); clear HB; have HB := n0_; clear n0_; (try clear hb); (try clear hb2); (try clear hk); (try clear hi)) | (go_at_call 7; (with_reducible refine (fold_Right.calls k t110 true _ A20.out).mono ?_); rintro e w' ⟨rfl, ⟨nd, rfl⟩⟩))
                          go_ret
                          exact ⟨by first | rfl | (simp [errW_none, errW_some] <;> rfl) | (simp [*, errW_none, errW_some] <;> rfl), by repeat (first | (with_reducible first | exact HB.out | apply below_alloc | apply pw_below_drewN | apply below_drew1) | exact HB.out)⟩
                      · replace c21 := Bool.eq_false_iff.mpr c21
                        subst c21
                        have H1 : (some false) = some r := by rw [if_neg (show ¬ (false = true) by decide)] at H; exact H
                        clear H
                        have H := H1
                        clear H1
                        obtain rfl := Option.some.inj H
                        go_enter Try.func5, Try.ntmps5
                        go_wp2_with (first | ((with_reducible refine gate_callee (f := 10) rfl ?_); refine goesL_ (some 10) rfl rfl Try.func10 (by kernel_rfl) rfl #[.string (a0.extract 0 600)] rfl (by (try simp only [List.map_toArray, List.map_cons, List.map_nil]); first | done | rfl | (simp only [List.length_drop, List.length_take]; rfl)) ?_; (with_reducible refine (fold_Fold.calls (a0.extract 0 600) t110 _ A5.out).mono ?_); rintro e w39 ⟨rfl, hb⟩; refine ⟨_, rfl, ?_⟩; have n0_ := Aside0.mk (below_step (by repeat (first | (with_reducible first | exact HB.out | apply below_alloc | apply pw_below_drewN | apply below_drew1) | exact HB.out)) hb); clear HB; have HB := n0_; clear n0_; (try clear hb); (try clear hb2); (try clear hk); (try clear hi)) | ((with_reducible refine gate_callee (f := 7) rfl ?_); refine goesL_ (some 12) rfl rfl Try.func7 (by kernel_rfl) rfl #[.string (a0.extract 0 600)] rfl (by (try simp only [List.map_toArray, List.map_cons, List.map_nil]); first | done | rfl | (simp only [List.length_drop, List.length_take]; rfl)) ?_; (with_reducible refine (fold_Right.calls k (a0.extract 0 600) true _ A6.out).mono ?_); rintro e w' ⟨rfl, ⟨nd, rfl⟩⟩; refine ⟨_, rfl, ?_⟩) | ((with_reducible refine gate_callee (f := 10) rfl ?_); refine goesL_ (some 27) rfl rfl Try.func10 (by kernel_rfl) rfl #[.string t110] rfl (by (try simp only [List.map_toArray, List.map_cons, List.map_nil]); first | done | rfl | (simp only [List.length_drop, List.length_take]; rfl)) ?_; (with_reducible refine (fold_Fold.calls t110 t112 _ A8.out).mono ?_); rintro e w40 ⟨rfl, hb⟩; refine ⟨_, rfl, ?_⟩; have n0_ := Aside0.mk (below_step (by repeat (first | (with_reducible first | exact HB.out | apply below_alloc | apply pw_below_drewN | apply below_drew1) | exact HB.out)) hb); clear HB; have HB := n0_; clear n0_; (try clear hb); (try clear hb2); (try clear hk); (try clear hi)) | (go_at_call 10; (with_reducible refine (fold_Fold.calls (((⟨#[32, 9]⟩ : ByteArray) ++ (a0.extract 0 600)) ++ (⟨#[1, 194, 160]⟩ : ByteArray)) t113 _ A12.out).mono ?_); rintro e w41 ⟨rfl, hb⟩; have n0_ := Aside0.mk (below_step (by repeat (first | (with_reducible first | exact HB.out | apply below_alloc | apply pw_below_drewN | apply below_drew1) | exact HB.out)) hb); clear HB; have HB := n0_; clear n0_; (try clear hb); (try clear hb2); (try clear hk); (try clear hi)) | (go_at_call 11; (with_reducible refine (fold_Exact.calls (a0.extract 0 600) t114 _ A14.out).mono ?_); rintro e w42 ⟨rfl, hb⟩; have n0_ := Aside0.mk (below_step (by repeat (first | (with_reducible first | exact HB.out | apply below_alloc | apply pw_below_drewN | apply below_drew1) | exact HB.out)) hb); clear HB; have HB := n0_; clear n0_; (try clear hb); (try clear hb2); (try clear hk); (try clear hi)) | (go_at_call 10; (with_reducible refine (fold_Fold.calls t114 t115 _ A15.out).mono ?_); rintro e w43 ⟨rfl, hb⟩; have n0_ := Aside0.mk (below_step (by repeat (first | (with_reducible first | exact HB.out | apply below_alloc | apply pw_below_drewN | apply below_drew1) | exact HB.out)) hb); clear HB; have HB := n0_; clear n0_; (try clear hb); (try clear hb2); (try clear hk); (try clear hi)) | (go_at_call 8; (with_reducible refine (fold_Piece.calls (a0.extract 0 600) t116 _ A17.out).mono ?_); rintro e w44 ⟨rfl, hb⟩; have n0_ := Aside0.mk (below_step (by repeat (first | (with_reducible first | exact HB.out | apply below_alloc | apply pw_below_drewN | apply below_drew1) | exact HB.out)) hb); clear HB; have HB := n0_; clear n0_; (try clear hb); (try clear hb2); (try clear hk); (try clear hi)) | (go_at_call 10; (with_reducible refine (fold_Fold.calls t116 t117 _ A18.out).mono ?_); rintro e w45 ⟨rfl, hb⟩; have n0_ := Aside0.mk (below_step (by repeat (first | (with_reducible first | exact HB.out | apply below_alloc | apply pw_below_drewN | apply below_drew1) | exact HB.out)) hb); clear HB; have HB := n0_; clear n0_; (try clear hb); (try clear hb2); (try clear hk); (try clear hi)) | (go_at_call 7; (with_reducible refine (fold_Right.calls k t110 false _ A20.out).mono ?_); rintro e w' ⟨rfl, ⟨nd, rfl⟩⟩))
                        go_ret
                        exact ⟨by first | rfl | (simp [errW_none, errW_some] <;> rfl) | (simp [*, errW_none, errW_some] <;> rfl), by repeat (first | (with_reducible first | exact HB.out | apply below_alloc | apply pw_below_drewN | apply below_drew1) | exact HB.out)⟩
                    · rw [if_neg c19] at H
                      have c19b0 : (t117.toList == t110.toList) = false := beq_eq_false_iff_ne.mpr c19
                      have c19b1 : (t117.toList != t110.toList) = true := bne_iff_ne.mpr c19
                      obtain rfl := Option.some.inj H
                      go_enter Try.func5, Try.ntmps5
                      go_wp2_with (first | ((with_reducible refine gate_callee (f := 10) rfl ?_); refine goesL_ (some 10) rfl rfl Try.func10 (by kernel_rfl) rfl #[.string (a0.extract 0 600)] rfl (by (try simp only [List.map_toArray, List.map_cons, List.map_nil]); first | done | rfl | (simp only [List.length_drop, List.length_take]; rfl)) ?_; (with_reducible refine (fold_Fold.calls (a0.extract 0 600) t110 _ A5.out).mono ?_); rintro e w46 ⟨rfl, hb⟩; refine ⟨_, rfl, ?_⟩; have n0_ := Aside0.mk (below_step (by repeat (first | (with_reducible first | exact HB.out | apply below_alloc | apply pw_below_drewN | apply below_drew1) | exact HB.out)) hb); clear HB; have HB := n0_; clear n0_; (try clear hb); (try clear hb2); (try clear hk); (try clear hi)) | ((with_reducible refine gate_callee (f := 7) rfl ?_); refine goesL_ (some 12) rfl rfl Try.func7 (by kernel_rfl) rfl #[.string (a0.extract 0 600)] rfl (by (try simp only [List.map_toArray, List.map_cons, List.map_nil]); first | done | rfl | (simp only [List.length_drop, List.length_take]; rfl)) ?_; (with_reducible refine (fold_Right.calls k (a0.extract 0 600) true _ A6.out).mono ?_); rintro e w' ⟨rfl, ⟨nd, rfl⟩⟩; refine ⟨_, rfl, ?_⟩) | ((with_reducible refine gate_callee (f := 10) rfl ?_); refine goesL_ (some 27) rfl rfl Try.func10 (by kernel_rfl) rfl #[.string t110] rfl (by (try simp only [List.map_toArray, List.map_cons, List.map_nil]); first | done | rfl | (simp only [List.length_drop, List.length_take]; rfl)) ?_; (with_reducible refine (fold_Fold.calls t110 t112 _ A8.out).mono ?_); rintro e w47 ⟨rfl, hb⟩; refine ⟨_, rfl, ?_⟩; have n0_ := Aside0.mk (below_step (by repeat (first | (with_reducible first | exact HB.out | apply below_alloc | apply pw_below_drewN | apply below_drew1) | exact HB.out)) hb); clear HB; have HB := n0_; clear n0_; (try clear hb); (try clear hb2); (try clear hk); (try clear hi)) | (go_at_call 10; (with_reducible refine (fold_Fold.calls (((⟨#[32, 9]⟩ : ByteArray) ++ (a0.extract 0 600)) ++ (⟨#[1, 194, 160]⟩ : ByteArray)) t113 _ A12.out).mono ?_); rintro e w48 ⟨rfl, hb⟩; have n0_ := Aside0.mk (below_step (by repeat (first | (with_reducible first | exact HB.out | apply below_alloc | apply pw_below_drewN | apply below_drew1) | exact HB.out)) hb); clear HB; have HB := n0_; clear n0_; (try clear hb); (try clear hb2); (try clear hk); (try clear hi)) | (go_at_call 11; (with_reducible refine (fold_Exact.calls (a0.extract 0 600) t114 _ A14.out).mono ?_); rintro e w49 ⟨rfl, hb⟩; have n0_ := Aside0.mk (below_step (by repeat (first | (with_reducible first | exact HB.out | apply below_alloc | apply pw_below_drewN | apply below_drew1) | exact HB.out)) hb); clear HB; have HB := n0_; clear n0_; (try clear hb); (try clear hb2); (try clear hk); (try clear hi)) | (go_at_call 10; (with_reducible refine (fold_Fold.calls t114 t115 _ A15.out).mono ?_); rintro e w50 ⟨rfl, hb⟩; have n0_ := Aside0.mk (below_step (by repeat (first | (with_reducible first | exact HB.out | apply below_alloc | apply pw_below_drewN | apply below_drew1) | exact HB.out)) hb); clear HB; have HB := n0_; clear n0_; (try clear hb); (try clear hb2); (try clear hk); (try clear hi)) | (go_at_call 8; (with_reducible refine (fold_Piece.calls (a0.extract 0 600) t116 _ A17.out).mono ?_); rintro e w51 ⟨rfl, hb⟩; have n0_ := Aside0.mk (below_step (by repeat (first | (with_reducible first | exact HB.out | apply below_alloc | apply pw_below_drewN | apply below_drew1) | exact HB.out)) hb); clear HB; have HB := n0_; clear n0_; (try clear hb); (try clear hb2); (try clear hk); (try clear hi)) | (go_at_call 10; (with_reducible refine (fold_Fold.calls t116 t117 _ A18.out).mono ?_); rintro e w52 ⟨rfl, hb⟩; have n0_ := Aside0.mk (below_step (by repeat (first | (with_reducible first | exact HB.out | apply below_alloc | apply pw_below_drewN | apply below_drew1) | exact HB.out)) hb); clear HB; have HB := n0_; clear n0_; (try clear hb); (try clear hb2); (try clear hk); (try clear hi)))
                      go_ret
                      exact ⟨by first | rfl | (simp [errW_none, errW_some] <;> rfl) | (simp [*, errW_none, errW_some] <;> rfl), by repeat (first | (with_reducible first | exact HB.out | apply below_alloc | apply pw_below_drewN | apply below_drew1) | exact HB.out)⟩
                  · rw [if_neg c16] at H
                    have c16b0 : (t115.toList == t110.toList) = false := beq_eq_false_iff_ne.mpr c16
                    have c16b1 : (t115.toList != t110.toList) = true := bne_iff_ne.mpr c16
                    obtain rfl := Option.some.inj H
                    go_enter Try.func5, Try.ntmps5
                    go_wp2_with (first | ((with_reducible refine gate_callee (f := 10) rfl ?_); refine goesL_ (some 10) rfl rfl Try.func10 (by kernel_rfl) rfl #[.string (a0.extract 0 600)] rfl (by (try simp only [List.map_toArray, List.map_cons, List.map_nil]); first | done | rfl | (simp only [List.length_drop, List.length_take]; rfl)) ?_; (with_reducible refine (fold_Fold.calls (a0.extract 0 600) t110 _ A5.out).mono ?_); rintro e w53 ⟨rfl, hb⟩; refine ⟨_, rfl, ?_⟩; have n0_ := Aside0.mk (below_step (by repeat (first | (with_reducible first | exact HB.out | apply below_alloc | apply pw_below_drewN | apply below_drew1) | exact HB.out)) hb); clear HB; have HB := n0_; clear n0_; (try clear hb); (try clear hb2); (try clear hk); (try clear hi)) | ((with_reducible refine gate_callee (f := 7) rfl ?_); refine goesL_ (some 12) rfl rfl Try.func7 (by kernel_rfl) rfl #[.string (a0.extract 0 600)] rfl (by (try simp only [List.map_toArray, List.map_cons, List.map_nil]); first | done | rfl | (simp only [List.length_drop, List.length_take]; rfl)) ?_; (with_reducible refine (fold_Right.calls k (a0.extract 0 600) true _ A6.out).mono ?_); rintro e w' ⟨rfl, ⟨nd, rfl⟩⟩; refine ⟨_, rfl, ?_⟩) | ((with_reducible refine gate_callee (f := 10) rfl ?_); refine goesL_ (some 27) rfl rfl Try.func10 (by kernel_rfl) rfl #[.string t110] rfl (by (try simp only [List.map_toArray, List.map_cons, List.map_nil]); first | done | rfl | (simp only [List.length_drop, List.length_take]; rfl)) ?_; (with_reducible refine (fold_Fold.calls t110 t112 _ A8.out).mono ?_); rintro e w54 ⟨rfl, hb⟩; refine ⟨_, rfl, ?_⟩; have n0_ := Aside0.mk (below_step (by repeat (first | (with_reducible first | exact HB.out | apply below_alloc | apply pw_below_drewN | apply below_drew1) | exact HB.out)) hb); clear HB; have HB := n0_; clear n0_; (try clear hb); (try clear hb2); (try clear hk); (try clear hi)) | (go_at_call 10; (with_reducible refine (fold_Fold.calls (((⟨#[32, 9]⟩ : ByteArray) ++ (a0.extract 0 600)) ++ (⟨#[1, 194, 160]⟩ : ByteArray)) t113 _ A12.out).mono ?_); rintro e w55 ⟨rfl, hb⟩; have n0_ := Aside0.mk (below_step (by repeat (first | (with_reducible first | exact HB.out | apply below_alloc | apply pw_below_drewN | apply below_drew1) | exact HB.out)) hb); clear HB; have HB := n0_; clear n0_; (try clear hb); (try clear hb2); (try clear hk); (try clear hi)) | (go_at_call 11; (with_reducible refine (fold_Exact.calls (a0.extract 0 600) t114 _ A14.out).mono ?_); rintro e w56 ⟨rfl, hb⟩; have n0_ := Aside0.mk (below_step (by repeat (first | (with_reducible first | exact HB.out | apply below_alloc | apply pw_below_drewN | apply below_drew1) | exact HB.out)) hb); clear HB; have HB := n0_; clear n0_; (try clear hb); (try clear hb2); (try clear hk); (try clear hi)) | (go_at_call 10; (with_reducible refine (fold_Fold.calls t114 t115 _ A15.out).mono ?_); rintro e w57 ⟨rfl, hb⟩; have n0_ := Aside0.mk (below_step (by repeat (first | (with_reducible first | exact HB.out | apply below_alloc | apply pw_below_drewN | apply below_drew1) | exact HB.out)) hb); clear HB; have HB := n0_; clear n0_; (try clear hb); (try clear hb2); (try clear hk); (try clear hi)))
                    go_ret
                    exact ⟨by first | rfl | (simp [errW_none, errW_some] <;> rfl) | (simp [*, errW_none, errW_some] <;> rfl), by repeat (first | (with_reducible first | exact HB.out | apply below_alloc | apply pw_below_drewN | apply below_drew1) | exact HB.out)⟩
                · rw [if_neg c13] at H
                  have c13b0 : (t113.toList == t110.toList) = false := beq_eq_false_iff_ne.mpr c13
                  have c13b1 : (t113.toList != t110.toList) = true := bne_iff_ne.mpr c13
                  obtain rfl := Option.some.inj H
                  go_enter Try.func5, Try.ntmps5
                  go_wp2_with (first | ((with_reducible refine gate_callee (f := 10) rfl ?_); refine goesL_ (some 10) rfl rfl Try.func10 (by kernel_rfl) rfl #[.string (a0.extract 0 600)] rfl (by (try simp only [List.map_toArray, List.map_cons, List.map_nil]); first | done | rfl | (simp only [List.length_drop, List.length_take]; rfl)) ?_; (with_reducible refine (fold_Fold.calls (a0.extract 0 600) t110 _ A5.out).mono ?_); rintro e w58 ⟨rfl, hb⟩; refine ⟨_, rfl, ?_⟩; have n0_ := Aside0.mk (below_step (by repeat (first | (with_reducible first | exact HB.out | apply below_alloc | apply pw_below_drewN | apply below_drew1) | exact HB.out)) hb); clear HB; have HB := n0_; clear n0_; (try clear hb); (try clear hb2); (try clear hk); (try clear hi)) | ((with_reducible refine gate_callee (f := 7) rfl ?_); refine goesL_ (some 12) rfl rfl Try.func7 (by kernel_rfl) rfl #[.string (a0.extract 0 600)] rfl (by (try simp only [List.map_toArray, List.map_cons, List.map_nil]); first | done | rfl | (simp only [List.length_drop, List.length_take]; rfl)) ?_; (with_reducible refine (fold_Right.calls k (a0.extract 0 600) true _ A6.out).mono ?_); rintro e w' ⟨rfl, ⟨nd, rfl⟩⟩; refine ⟨_, rfl, ?_⟩) | ((with_reducible refine gate_callee (f := 10) rfl ?_); refine goesL_ (some 27) rfl rfl Try.func10 (by kernel_rfl) rfl #[.string t110] rfl (by (try simp only [List.map_toArray, List.map_cons, List.map_nil]); first | done | rfl | (simp only [List.length_drop, List.length_take]; rfl)) ?_; (with_reducible refine (fold_Fold.calls t110 t112 _ A8.out).mono ?_); rintro e w59 ⟨rfl, hb⟩; refine ⟨_, rfl, ?_⟩; have n0_ := Aside0.mk (below_step (by repeat (first | (with_reducible first | exact HB.out | apply below_alloc | apply pw_below_drewN | apply below_drew1) | exact HB.out)) hb); clear HB; have HB := n0_; clear n0_; (try clear hb); (try clear hb2); (try clear hk); (try clear hi)) | (go_at_call 10; (with_reducible refine (fold_Fold.calls (((⟨#[32, 9]⟩ : ByteArray) ++ (a0.extract 0 600)) ++ (⟨#[1, 194, 160]⟩ : ByteArray)) t113 _ A12.out).mono ?_); rintro e w60 ⟨rfl, hb⟩; have n0_ := Aside0.mk (below_step (by repeat (first | (with_reducible first | exact HB.out | apply below_alloc | apply pw_below_drewN | apply below_drew1) | exact HB.out)) hb); clear HB; have HB := n0_; clear n0_; (try clear hb); (try clear hb2); (try clear hk); (try clear hi)))
                  go_ret
                  exact ⟨by first | rfl | (simp [errW_none, errW_some] <;> rfl) | (simp [*, errW_none, errW_some] <;> rfl), by repeat (first | (with_reducible first | exact HB.out | apply below_alloc | apply pw_below_drewN | apply below_drew1) | exact HB.out)⟩
              · rw [if_neg c11] at H
                exact absurd H (by simp)
            · rw [if_neg c10] at H
              exact absurd H (by simp)
          · rw [if_neg c9] at H
            have c9b0 : (t112.toList == t110.toList) = false := beq_eq_false_iff_ne.mpr c9
            have c9b1 : (t112.toList != t110.toList) = true := bne_iff_ne.mpr c9
            obtain rfl := Option.some.inj H
            go_enter Try.func5, Try.ntmps5
            go_wp2_with (first | ((with_reducible refine gate_callee (f := 10) rfl ?_); refine goesL_ (some 10) rfl rfl Try.func10 (by kernel_rfl) rfl #[.string (a0.extract 0 600)] rfl (by (try simp only [List.map_toArray, List.map_cons, List.map_nil]); first | done | rfl | (simp only [List.length_drop, List.length_take]; rfl)) ?_; (with_reducible refine (fold_Fold.calls (a0.extract 0 600) t110 _ A5.out).mono ?_); rintro e w61 ⟨rfl, hb⟩; refine ⟨_, rfl, ?_⟩; have n0_ := Aside0.mk (below_step (by repeat (first | (with_reducible first | exact HB.out | apply below_alloc | apply pw_below_drewN | apply below_drew1) | exact HB.out)) hb); clear HB; have HB := n0_; clear n0_; (try clear hb); (try clear hb2); (try clear hk); (try clear hi)) | ((with_reducible refine gate_callee (f := 7) rfl ?_); refine goesL_ (some 12) rfl rfl Try.func7 (by kernel_rfl) rfl #[.string (a0.extract 0 600)] rfl (by (try simp only [List.map_toArray, List.map_cons, List.map_nil]); first | done | rfl | (simp only [List.length_drop, List.length_take]; rfl)) ?_; (with_reducible refine (fold_Right.calls k (a0.extract 0 600) true _ A6.out).mono ?_); rintro e w' ⟨rfl, ⟨nd, rfl⟩⟩; refine ⟨_, rfl, ?_⟩) | ((with_reducible refine gate_callee (f := 10) rfl ?_); refine goesL_ (some 27) rfl rfl Try.func10 (by kernel_rfl) rfl #[.string t110] rfl (by (try simp only [List.map_toArray, List.map_cons, List.map_nil]); first | done | rfl | (simp only [List.length_drop, List.length_take]; rfl)) ?_; (with_reducible refine (fold_Fold.calls t110 t112 _ A8.out).mono ?_); rintro e w62 ⟨rfl, hb⟩; refine ⟨_, rfl, ?_⟩; have n0_ := Aside0.mk (below_step (by repeat (first | (with_reducible first | exact HB.out | apply below_alloc | apply pw_below_drewN | apply below_drew1) | exact HB.out)) hb); clear HB; have HB := n0_; clear n0_; (try clear hb); (try clear hb2); (try clear hk); (try clear hi)))
            go_ret
            exact ⟨by first | rfl | (simp [errW_none, errW_some] <;> rfl) | (simp [*, errW_none, errW_some] <;> rfl), by repeat (first | (with_reducible first | exact HB.out | apply below_alloc | apply pw_below_drewN | apply below_drew1) | exact HB.out)⟩
        · replace c7 := Bool.eq_false_iff.mpr c7
          subst c7
          have H1 : (if t110.toList = (a0.extract 0 600).toList then ((fold_Count.f k (a0.extract 0 600)).bind fun t120 => (if t120 = (-1) then ((fold_Fold.f (⟨#[65]⟩ : ByteArray)).bind fun t121 => (some (t121.toList == ([97] : List UInt8)))) else (some false))) else (some false)) = some r := by rw [if_neg (show ¬ (false = true) by decide)] at H; exact H
          clear H
          have H := H1
          clear H1
          by_cases c63 : t110.toList = (a0.extract 0 600).toList
          · rw [if_pos c63] at H
            have c63b0 : (t110.toList == (a0.extract 0 600).toList) = true := beq_iff_eq.mpr c63
            have c63b1 : (t110.toList != (a0.extract 0 600).toList) = false := bne_eq_false_iff_eq.mpr c63
            clear c63
            replace H := Option.bind_eq_some_iff.mp H
            obtain ⟨t120, A640, H⟩ := H
            replace H : (if t120 = (-1) then ((fold_Fold.f (⟨#[65]⟩ : ByteArray)).bind fun t121 => (some (t121.toList == ([97] : List UInt8)))) else (some false)) = some r := H
            have A64 := Aside0.mk A640
            clear A640
            by_cases c65 : t120 = (-1)
            · rw [if_pos c65] at H
              have c65b0 : (t120 == (-1)) = true := beq_iff_eq.mpr c65
              have c65b1 : (t120 != (-1)) = false := bne_eq_false_iff_eq.mpr c65
              clear c65
              replace H := Option.bind_eq_some_iff.mp H
              obtain ⟨t121, A660, H⟩ := H
              replace H : (some (t121.toList == ([97] : List UInt8))) = some r := H
              have A66 := Aside0.mk A660
              clear A660
              obtain rfl := Option.some.inj H
              go_enter Try.func5, Try.ntmps5
              go_wp2_with (first | ((with_reducible refine gate_callee (f := 10) rfl ?_); refine goesL_ (some 10) rfl rfl Try.func10 (by kernel_rfl) rfl #[.string (a0.extract 0 600)] rfl (by (try simp only [List.map_toArray, List.map_cons, List.map_nil]); first | done | rfl | (simp only [List.length_drop, List.length_take]; rfl)) ?_; (with_reducible refine (fold_Fold.calls (a0.extract 0 600) t110 _ A5.out).mono ?_); rintro e w67 ⟨rfl, hb⟩; refine ⟨_, rfl, ?_⟩; have n0_ := Aside0.mk (below_step (by repeat (first | (with_reducible first | exact HB.out | apply below_alloc | apply pw_below_drewN | apply below_drew1) | exact HB.out)) hb); clear HB; have HB := n0_; clear n0_; (try clear hb); (try clear hb2); (try clear hk); (try clear hi)) | ((with_reducible refine gate_callee (f := 7) rfl ?_); refine goesL_ (some 12) rfl rfl Try.func7 (by kernel_rfl) rfl #[.string (a0.extract 0 600)] rfl (by (try simp only [List.map_toArray, List.map_cons, List.map_nil]); first | done | rfl | (simp only [List.length_drop, List.length_take]; rfl)) ?_; (with_reducible refine (fold_Right.calls k (a0.extract 0 600) false _ A6.out).mono ?_); rintro e w' ⟨rfl, ⟨nd, rfl⟩⟩; refine ⟨_, rfl, ?_⟩) | (go_at_call 9; (with_reducible refine (fold_Count.calls k (a0.extract 0 600) t120 _ A64.out).mono ?_); rintro e w' ⟨rfl, ⟨nd, rfl⟩⟩) | (go_at_call 10; (with_reducible refine (fold_Fold.calls (⟨#[65]⟩ : ByteArray) t121 _ A66.out).mono ?_); rintro e w68 ⟨rfl, hb⟩; have n0_ := Aside0.mk (below_step (by repeat (first | (with_reducible first | exact HB.out | apply below_alloc | apply pw_below_drewN | apply below_drew1) | exact HB.out)) hb); clear HB; have HB := n0_; clear n0_; (try clear hb); (try clear hb2); (try clear hk); (try clear hi)))
              go_ret
              exact ⟨by first | rfl | (simp [errW_none, errW_some] <;> rfl) | (simp [*, errW_none, errW_some] <;> rfl), by repeat (first | (with_reducible first | exact HB.out | apply below_alloc | apply pw_below_drewN | apply below_drew1) | exact HB.out)⟩
            · rw [if_neg c65] at H
              have c65b0 : (t120 == (-1)) = false := beq_eq_false_iff_ne.mpr c65
              have c65b1 : (t120 != (-1)) = true := bne_iff_ne.mpr c65
              obtain rfl := Option.some.inj H
              go_enter Try.func5, Try.ntmps5
              go_wp2_with (first | ((with_reducible refine gate_callee (f := 10) rfl ?_); refine goesL_ (some 10) rfl rfl Try.func10 (by kernel_rfl) rfl #[.string (a0.extract 0 600)] rfl (by (try simp only [List.map_toArray, List.map_cons, List.map_nil]); first | done | rfl | (simp only [List.length_drop, List.length_take]; rfl)) ?_; (with_reducible refine (fold_Fold.calls (a0.extract 0 600) t110 _ A5.out).mono ?_); rintro e w69 ⟨rfl, hb⟩; refine ⟨_, rfl, ?_⟩; have n0_ := Aside0.mk (below_step (by repeat (first | (with_reducible first | exact HB.out | apply below_alloc | apply pw_below_drewN | apply below_drew1) | exact HB.out)) hb); clear HB; have HB := n0_; clear n0_; (try clear hb); (try clear hb2); (try clear hk); (try clear hi)) | ((with_reducible refine gate_callee (f := 7) rfl ?_); refine goesL_ (some 12) rfl rfl Try.func7 (by kernel_rfl) rfl #[.string (a0.extract 0 600)] rfl (by (try simp only [List.map_toArray, List.map_cons, List.map_nil]); first | done | rfl | (simp only [List.length_drop, List.length_take]; rfl)) ?_; (with_reducible refine (fold_Right.calls k (a0.extract 0 600) false _ A6.out).mono ?_); rintro e w' ⟨rfl, ⟨nd, rfl⟩⟩; refine ⟨_, rfl, ?_⟩) | (go_at_call 9; (with_reducible refine (fold_Count.calls k (a0.extract 0 600) t120 _ A64.out).mono ?_); rintro e w' ⟨rfl, ⟨nd, rfl⟩⟩))
              go_ret
              exact ⟨by first | rfl | (simp [errW_none, errW_some] <;> rfl) | (simp [*, errW_none, errW_some] <;> rfl), by repeat (first | (with_reducible first | exact HB.out | apply below_alloc | apply pw_below_drewN | apply below_drew1) | exact HB.out)⟩
          · rw [if_neg c63] at H
            have c63b0 : (t110.toList == (a0.extract 0 600).toList) = false := beq_eq_false_iff_ne.mpr c63
            have c63b1 : (t110.toList != (a0.extract 0 600).toList) = true := bne_iff_ne.mpr c63
            obtain rfl := Option.some.inj H
            go_enter Try.func5, Try.ntmps5
            go_wp2_with (first | ((with_reducible refine gate_callee (f := 10) rfl ?_); refine goesL_ (some 10) rfl rfl Try.func10 (by kernel_rfl) rfl #[.string (a0.extract 0 600)] rfl (by (try simp only [List.map_toArray, List.map_cons, List.map_nil]); first | done | rfl | (simp only [List.length_drop, List.length_take]; rfl)) ?_; (with_reducible refine (fold_Fold.calls (a0.extract 0 600) t110 _ A5.out).mono ?_); rintro e w70 ⟨rfl, hb⟩; refine ⟨_, rfl, ?_⟩; have n0_ := Aside0.mk (below_step (by repeat (first | (with_reducible first | exact HB.out | apply below_alloc | apply pw_below_drewN | apply below_drew1) | exact HB.out)) hb); clear HB; have HB := n0_; clear n0_; (try clear hb); (try clear hb2); (try clear hk); (try clear hi)) | ((with_reducible refine gate_callee (f := 7) rfl ?_); refine goesL_ (some 12) rfl rfl Try.func7 (by kernel_rfl) rfl #[.string (a0.extract 0 600)] rfl (by (try simp only [List.map_toArray, List.map_cons, List.map_nil]); first | done | rfl | (simp only [List.length_drop, List.length_take]; rfl)) ?_; (with_reducible refine (fold_Right.calls k (a0.extract 0 600) false _ A6.out).mono ?_); rintro e w' ⟨rfl, ⟨nd, rfl⟩⟩; refine ⟨_, rfl, ?_⟩))
            go_ret
            exact ⟨by first | rfl | (simp [errW_none, errW_some] <;> rfl) | (simp [*, errW_none, errW_some] <;> rfl), by repeat (first | (with_reducible first | exact HB.out | apply below_alloc | apply pw_below_drewN | apply below_drew1) | exact HB.out)⟩
      · rw [if_neg c4] at H
        exact absurd H (by simp)
    · rw [if_neg c3] at H
      exact absurd H (by simp)
  · rw [if_neg c2] at H
    have c2b0 : decide (600 < (a0.size : Int)) = false := decide_eq_false c2
    have c2b1 : decide (600 < a0.size) = false := decide_eq_false (by omega)
    clear c2
    replace H := Option.bind_eq_some_iff.mp H
    obtain ⟨t122, A710, H⟩ := H
    replace H : ((fold_Right.f k a0).bind fun t123 => (if t123 = true then ((fold_Fold.f t122).bind fun t124 => (if t124.toList = t122.toList then (if 2 + a0.size ≤ 9223372036854775807 then (if ((⟨#[32, 9]⟩ : ByteArray) ++ a0).size + 3 ≤ 9223372036854775807 then ((fold_Fold.f (((⟨#[32, 9]⟩ : ByteArray) ++ a0) ++ (⟨#[1, 194, 160]⟩ : ByteArray))).bind fun t125 => (if t125.toList = t122.toList then ((fold_Exact.f a0).bind fun t126 => ((fold_Fold.f t126).bind fun t127 => (if t127.toList = t122.toList then ((fold_Piece.f a0).bind fun t128 => ((fold_Fold.f t128).bind fun t129 => (if t129.toList = t122.toList then ((fold_Right.f k t122).bind fun t130 => (if t130 = true then (if (t122.size : Int) ≤ (a0.size : Int) then ((fold_Fold.f (⟨#[195, 132]⟩ : ByteArray)).bind fun t131 => (some (t131.toList == ([195, 164] : List UInt8)))) else (some false)) else (some false))) else (some false)))) else (some false)))) else (some false))) else (none)) else (none)) else (some false))) else (if t122.toList = a0.toList then ((fold_Count.f k a0).bind fun t132 => (if t132 = (-1) then ((fold_Fold.f (⟨#[65]⟩ : ByteArray)).bind fun t133 => (some (t133.toList == ([97] : List UInt8)))) else (some false))) else (some false)))) = some r := H
    have A71 := Aside0.mk A710
    clear A710
    replace H := Option.bind_eq_some_iff.mp H
    obtain ⟨t123, A720, H⟩ := H
    replace H : (if t123 = true then ((fold_Fold.f t122).bind fun t124 => (if t124.toList = t122.toList then (if 2 + a0.size ≤ 9223372036854775807 then (if ((⟨#[32, 9]⟩ : ByteArray) ++ a0).size + 3 ≤ 9223372036854775807 then ((fold_Fold.f (((⟨#[32, 9]⟩ : ByteArray) ++ a0) ++ (⟨#[1, 194, 160]⟩ : ByteArray))).bind fun t125 => (if t125.toList = t122.toList then ((fold_Exact.f a0).bind fun t126 => ((fold_Fold.f t126).bind fun t127 => (if t127.toList = t122.toList then ((fold_Piece.f a0).bind fun t128 => ((fold_Fold.f t128).bind fun t129 => (if t129.toList = t122.toList then ((fold_Right.f k t122).bind fun t130 => (if t130 = true then (if (t122.size : Int) ≤ (a0.size : Int) then ((fold_Fold.f (⟨#[195, 132]⟩ : ByteArray)).bind fun t131 => (some (t131.toList == ([195, 164] : List UInt8)))) else (some false)) else (some false))) else (some false)))) else (some false)))) else (some false))) else (none)) else (none)) else (some false))) else (if t122.toList = a0.toList then ((fold_Count.f k a0).bind fun t132 => (if t132 = (-1) then ((fold_Fold.f (⟨#[65]⟩ : ByteArray)).bind fun t133 => (some (t133.toList == ([97] : List UInt8)))) else (some false))) else (some false))) = some r := H
    have A72 := Aside0.mk A720
    clear A720
    by_cases c73 : t123 = true
    · subst c73
      have H1 : ((fold_Fold.f t122).bind fun t124 => (if t124.toList = t122.toList then (if 2 + a0.size ≤ 9223372036854775807 then (if ((⟨#[32, 9]⟩ : ByteArray) ++ a0).size + 3 ≤ 9223372036854775807 then ((fold_Fold.f (((⟨#[32, 9]⟩ : ByteArray) ++ a0) ++ (⟨#[1, 194, 160]⟩ : ByteArray))).bind fun t125 => (if t125.toList = t122.toList then ((fold_Exact.f a0).bind fun t126 => ((fold_Fold.f t126).bind fun t127 => (if t127.toList = t122.toList then ((fold_Piece.f a0).bind fun t128 => ((fold_Fold.f t128).bind fun t129 => (if t129.toList = t122.toList then ((fold_Right.f k t122).bind fun t130 => (if t130 = true then (if (t122.size : Int) ≤ (a0.size : Int) then ((fold_Fold.f (⟨#[195, 132]⟩ : ByteArray)).bind fun t131 => (some (t131.toList == ([195, 164] : List UInt8)))) else (some false)) else (some false))) else (some false)))) else (some false)))) else (some false))) else (none)) else (none)) else (some false))) = some r := by rw [if_pos rfl] at H; exact H
      clear H
      have H := H1
      clear H1
      replace H := Option.bind_eq_some_iff.mp H
      obtain ⟨t124, A740, H⟩ := H
      replace H : (if t124.toList = t122.toList then (if 2 + a0.size ≤ 9223372036854775807 then (if ((⟨#[32, 9]⟩ : ByteArray) ++ a0).size + 3 ≤ 9223372036854775807 then ((fold_Fold.f (((⟨#[32, 9]⟩ : ByteArray) ++ a0) ++ (⟨#[1, 194, 160]⟩ : ByteArray))).bind fun t125 => (if t125.toList = t122.toList then ((fold_Exact.f a0).bind fun t126 => ((fold_Fold.f t126).bind fun t127 => (if t127.toList = t122.toList then ((fold_Piece.f a0).bind fun t128 => ((fold_Fold.f t128).bind fun t129 => (if t129.toList = t122.toList then ((fold_Right.f k t122).bind fun t130 => (if t130 = true then (if (t122.size : Int) ≤ (a0.size : Int) then ((fold_Fold.f (⟨#[195, 132]⟩ : ByteArray)).bind fun t131 => (some (t131.toList == ([195, 164] : List UInt8)))) else (some false)) else (some false))) else (some false)))) else (some false)))) else (some false))) else (none)) else (none)) else (some false)) = some r := H
      have A74 := Aside0.mk A740
      clear A740
      by_cases c75 : t124.toList = t122.toList
      · rw [if_pos c75] at H
        have c75b0 : (t124.toList == t122.toList) = true := beq_iff_eq.mpr c75
        have c75b1 : (t124.toList != t122.toList) = false := bne_eq_false_iff_eq.mpr c75
        clear c75
        by_cases c76 : 2 + a0.size ≤ 9223372036854775807
        · rw [if_pos c76] at H
          have c76b0 := eq_true c76
          have c76b1 : decide (2 + a0.size ≤ 9223372036854775807) = true := decide_eq_true c76
          try have c76b2 : (9223372036854775807 < 2 + a0.size) = False := eq_false (Nat.not_lt.2 c76)
          by_cases c77 : ((⟨#[32, 9]⟩ : ByteArray) ++ a0).size + 3 ≤ 9223372036854775807
          · rw [if_pos c77] at H
            have c77b0 := eq_true c77
            have c77b1 : decide (((⟨#[32, 9]⟩ : ByteArray) ++ a0).size + 3 ≤ 9223372036854775807) = true := decide_eq_true c77
            try have c77b2 : (9223372036854775807 < ((⟨#[32, 9]⟩ : ByteArray) ++ a0).size + 3) = False := eq_false (Nat.not_lt.2 c77)
            have c77z : (9223372036854775807 < 2 + a0.size + 3) = False := eq_false (by have z_ := c77; rw [ByteArray.size_append] at z_; have z2_ : (⟨#[32, 9]⟩ : ByteArray).size = 2 := rfl; omega)
            replace H := Option.bind_eq_some_iff.mp H
            obtain ⟨t125, A780, H⟩ := H
            replace H : (if t125.toList = t122.toList then ((fold_Exact.f a0).bind fun t126 => ((fold_Fold.f t126).bind fun t127 => (if t127.toList = t122.toList then ((fold_Piece.f a0).bind fun t128 => ((fold_Fold.f t128).bind fun t129 => (if t129.toList = t122.toList then ((fold_Right.f k t122).bind fun t130 => (if t130 = true then (if (t122.size : Int) ≤ (a0.size : Int) then ((fold_Fold.f (⟨#[195, 132]⟩ : ByteArray)).bind fun t131 => (some (t131.toList == ([195, 164] : List UInt8)))) else (some false)) else (some false))) else (some false)))) else (some false)))) else (some false)) = some r := H
            have A78 := Aside0.mk A780
            clear A780
            by_cases c79 : t125.toList = t122.toList
            · rw [if_pos c79] at H
              have c79b0 : (t125.toList == t122.toList) = true := beq_iff_eq.mpr c79
              have c79b1 : (t125.toList != t122.toList) = false := bne_eq_false_iff_eq.mpr c79
              clear c79
              replace H := Option.bind_eq_some_iff.mp H
              obtain ⟨t126, A800, H⟩ := H
              replace H : ((fold_Fold.f t126).bind fun t127 => (if t127.toList = t122.toList then ((fold_Piece.f a0).bind fun t128 => ((fold_Fold.f t128).bind fun t129 => (if t129.toList = t122.toList then ((fold_Right.f k t122).bind fun t130 => (if t130 = true then (if (t122.size : Int) ≤ (a0.size : Int) then ((fold_Fold.f (⟨#[195, 132]⟩ : ByteArray)).bind fun t131 => (some (t131.toList == ([195, 164] : List UInt8)))) else (some false)) else (some false))) else (some false)))) else (some false))) = some r := H
              have A80 := Aside0.mk A800
              clear A800
              replace H := Option.bind_eq_some_iff.mp H
              obtain ⟨t127, A810, H⟩ := H
              replace H : (if t127.toList = t122.toList then ((fold_Piece.f a0).bind fun t128 => ((fold_Fold.f t128).bind fun t129 => (if t129.toList = t122.toList then ((fold_Right.f k t122).bind fun t130 => (if t130 = true then (if (t122.size : Int) ≤ (a0.size : Int) then ((fold_Fold.f (⟨#[195, 132]⟩ : ByteArray)).bind fun t131 => (some (t131.toList == ([195, 164] : List UInt8)))) else (some false)) else (some false))) else (some false)))) else (some false)) = some r := H
              have A81 := Aside0.mk A810
              clear A810
              by_cases c82 : t127.toList = t122.toList
              · rw [if_pos c82] at H
                have c82b0 : (t127.toList == t122.toList) = true := beq_iff_eq.mpr c82
                have c82b1 : (t127.toList != t122.toList) = false := bne_eq_false_iff_eq.mpr c82
                clear c82
                replace H := Option.bind_eq_some_iff.mp H
                obtain ⟨t128, A830, H⟩ := H
                replace H : ((fold_Fold.f t128).bind fun t129 => (if t129.toList = t122.toList then ((fold_Right.f k t122).bind fun t130 => (if t130 = true then (if (t122.size : Int) ≤ (a0.size : Int) then ((fold_Fold.f (⟨#[195, 132]⟩ : ByteArray)).bind fun t131 => (some (t131.toList == ([195, 164] : List UInt8)))) else (some false)) else (some false))) else (some false))) = some r := H
                have A83 := Aside0.mk A830
                clear A830
                replace H := Option.bind_eq_some_iff.mp H
                obtain ⟨t129, A840, H⟩ := H
                replace H : (if t129.toList = t122.toList then ((fold_Right.f k t122).bind fun t130 => (if t130 = true then (if (t122.size : Int) ≤ (a0.size : Int) then ((fold_Fold.f (⟨#[195, 132]⟩ : ByteArray)).bind fun t131 => (some (t131.toList == ([195, 164] : List UInt8)))) else (some false)) else (some false))) else (some false)) = some r := H
                have A84 := Aside0.mk A840
                clear A840
                by_cases c85 : t129.toList = t122.toList
                · rw [if_pos c85] at H
                  have c85b0 : (t129.toList == t122.toList) = true := beq_iff_eq.mpr c85
                  have c85b1 : (t129.toList != t122.toList) = false := bne_eq_false_iff_eq.mpr c85
                  clear c85
                  replace H := Option.bind_eq_some_iff.mp H
                  obtain ⟨t130, A860, H⟩ := H
                  replace H : (if t130 = true then (if (t122.size : Int) ≤ (a0.size : Int) then ((fold_Fold.f (⟨#[195, 132]⟩ : ByteArray)).bind fun t131 => (some (t131.toList == ([195, 164] : List UInt8)))) else (some false)) else (some false)) = some r := H
                  have A86 := Aside0.mk A860
                  clear A860
                  by_cases c87 : t130 = true
                  · subst c87
                    have H1 : (if (t122.size : Int) ≤ (a0.size : Int) then ((fold_Fold.f (⟨#[195, 132]⟩ : ByteArray)).bind fun t131 => (some (t131.toList == ([195, 164] : List UInt8)))) else (some false)) = some r := by rw [if_pos rfl] at H; exact H
                    clear H
                    have H := H1
                    clear H1
                    by_cases c88 : (t122.size : Int) ≤ (a0.size : Int)
                    · rw [if_pos c88] at H
                      have c88b0 : decide ((t122.size : Int) ≤ (a0.size : Int)) = true := decide_eq_true c88
                      have c88b1 : decide (t122.size ≤ a0.size) = true := decide_eq_true (Int.ofNat_le.mp c88)
                      clear c88
                      replace H := Option.bind_eq_some_iff.mp H
                      obtain ⟨t131, A890, H⟩ := H
                      replace H : (some (t131.toList == ([195, 164] : List UInt8))) = some r := H
                      have A89 := Aside0.mk A890
                      clear A890
                      obtain rfl := Option.some.inj H
                      go_enter Try.func5, Try.ntmps5
                      go_wp2_with (first | ((with_reducible refine gate_callee (f := 10) rfl ?_); refine goesL_ (some 10) rfl rfl Try.func10 (by kernel_rfl) rfl #[.string a0] rfl (by (try simp only [List.map_toArray, List.map_cons, List.map_nil]); first | done | rfl | (simp only [List.length_drop, List.length_take]; rfl)) ?_; (with_reducible refine (fold_Fold.calls a0 t122 _ A71.out).mono ?_); rintro e w90 ⟨rfl, hb⟩; refine ⟨_, rfl, ?_⟩; have n0_ := Aside0.mk (below_step (by repeat (first | (with_reducible first | exact HB.out | apply below_alloc | apply pw_below_drewN | apply below_drew1) | exact HB.out)) hb); clear HB; have HB := n0_; clear n0_; (try clear hb); (try clear hb2); (try clear hk); (try clear hi)) | ((with_reducible refine gate_callee (f := 7) rfl ?_); refine goesL_ (some 12) rfl rfl Try.func7 (by kernel_rfl) rfl #[.string a0] rfl (by (try simp only [List.map_toArray, List.map_cons, List.map_nil]); first | done | rfl | (simp only [List.length_drop, List.length_take]; rfl)) ?_; (with_reducible refine (fold_Right.calls k a0 true _ A72.out).mono ?_); rintro e w' ⟨rfl, ⟨nd, rfl⟩⟩; refine ⟨_, rfl, ?_⟩) | ((with_reducible refine gate_callee (f := 10) rfl ?_); refine goesL_ (some 27) rfl rfl Try.func10 (by kernel_rfl) rfl #[.string t122] rfl (by (try simp only [List.map_toArray, List.map_cons, List.map_nil]); first | done | rfl | (simp only [List.length_drop, List.length_take]; rfl)) ?_; (with_reducible refine (fold_Fold.calls t122 t124 _ A74.out).mono ?_); rintro e w91 ⟨rfl, hb⟩; refine ⟨_, rfl, ?_⟩; have n0_ := Aside0.mk (below_step (by repeat (first | (with_reducible first | exact HB.out | apply below_alloc | apply pw_below_drewN | apply below_drew1) | exact HB.out)) hb); clear HB; have HB := n0_; clear n0_; (try clear hb); (try clear hb2); (try clear hk); (try clear hi)) | (go_at_call 10; (with_reducible refine (fold_Fold.calls (((⟨#[32, 9]⟩ : ByteArray) ++ a0) ++ (⟨#[1, 194, 160]⟩ : ByteArray)) t125 _ A78.out).mono ?_); rintro e w92 ⟨rfl, hb⟩; have n0_ := Aside0.mk (below_step (by repeat (first | (with_reducible first | exact HB.out | apply below_alloc | apply pw_below_drewN | apply below_drew1) | exact HB.out)) hb); clear HB; have HB := n0_; clear n0_; (try clear hb); (try clear hb2); (try clear hk); (try clear hi)) | (go_at_call 11; (with_reducible refine (fold_Exact.calls a0 t126 _ A80.out).mono ?_); rintro e w93 ⟨rfl, hb⟩; have n0_ := Aside0.mk (below_step (by repeat (first | (with_reducible first | exact HB.out | apply below_alloc | apply pw_below_drewN | apply below_drew1) | exact HB.out)) hb); clear HB; have HB := n0_; clear n0_; (try clear hb); (try clear hb2); (try clear hk); (try clear hi)) | (go_at_call 10; (with_reducible refine (fold_Fold.calls t126 t127 _ A81.out).mono ?_); rintro e w94 ⟨rfl, hb⟩; have n0_ := Aside0.mk (below_step (by repeat (first | (with_reducible first | exact HB.out | apply below_alloc | apply pw_below_drewN | apply below_drew1) | exact HB.out)) hb); clear HB; have HB := n0_; clear n0_; (try clear hb); (try clear hb2); (try clear hk); (try clear hi)) | (go_at_call 8; (with_reducible refine (fold_Piece.calls a0 t128 _ A83.out).mono ?_); rintro e w95 ⟨rfl, hb⟩; have n0_ := Aside0.mk (below_step (by repeat (first | (with_reducible first | exact HB.out | apply below_alloc | apply pw_below_drewN | apply below_drew1) | exact HB.out)) hb); clear HB; have HB := n0_; clear n0_; (try clear hb); (try clear hb2); (try clear hk); (try clear hi)) | (go_at_call 10; (with_reducible refine (fold_Fold.calls t128 t129 _ A84.out).mono ?_); rintro e w96 ⟨rfl, hb⟩; have n0_ := Aside0.mk (below_step (by repeat (first | (with_reducible first | exact HB.out | apply below_alloc | apply pw_below_drewN | apply below_drew1) | exact HB.out)) hb); clear HB; have HB := n0_; clear n0_; (try clear hb); (try clear hb2); (try clear hk); (try clear hi)) | (go_at_call 7; (with_reducible refine (fold_Right.calls k t122 true _ A86.out).mono ?_); rintro e w' ⟨rfl, ⟨nd, rfl⟩⟩) | (go_at_call 10; (with_reducible refine (fold_Fold.calls (⟨#[195, 132]⟩ : ByteArray) t131 _ A89.out).mono ?_); rintro e w97 ⟨rfl, hb⟩; have n0_ := Aside0.mk (below_step (by repeat (first | (with_reducible first | exact HB.out | apply below_alloc | apply pw_below_drewN | apply below_drew1) | exact HB.out)) hb); clear HB; have HB := n0_; clear n0_; (try clear hb); (try clear hb2); (try clear hk); (try clear hi)))
                      go_ret
                      exact ⟨by first | rfl | (simp [errW_none, errW_some] <;> rfl) | (simp [*, errW_none, errW_some] <;> rfl), by repeat (first | (with_reducible first | exact HB.out | apply below_alloc | apply pw_below_drewN | apply below_drew1) | exact HB.out)⟩
                    · rw [if_neg c88] at H
                      have c88b0 : decide ((t122.size : Int) ≤ (a0.size : Int)) = false := decide_eq_false c88
                      have c88b1 : decide (t122.size ≤ a0.size) = false := decide_eq_false (fun h => c88 (Int.ofNat_le.mpr h))
                      clear c88
                      obtain rfl := Option.some.inj H
                      go_enter Try.func5, Try.ntmps5
                      go_wp2_with (first | ((with_reducible refine gate_callee (f := 10) rfl ?_); refine goesL_ (some 10) rfl rfl Try.func10 (by kernel_rfl) rfl #[.string a0] rfl (by (try simp only [List.map_toArray, List.map_cons, List.map_nil]); first | done | rfl | (simp only [List.length_drop, List.length_take]; rfl)) ?_; (with_reducible refine (fold_Fold.calls a0 t122 _ A71.out).mono ?_); rintro e w98 ⟨rfl, hb⟩; refine ⟨_, rfl, ?_⟩; have n0_ := Aside0.mk (below_step (by repeat (first | (with_reducible first | exact HB.out | apply below_alloc | apply pw_below_drewN | apply below_drew1) | exact HB.out)) hb); clear HB; have HB := n0_; clear n0_; (try clear hb); (try clear hb2); (try clear hk); (try clear hi)) | ((with_reducible refine gate_callee (f := 7) rfl ?_); refine goesL_ (some 12) rfl rfl Try.func7 (by kernel_rfl) rfl #[.string a0] rfl (by (try simp only [List.map_toArray, List.map_cons, List.map_nil]); first | done | rfl | (simp only [List.length_drop, List.length_take]; rfl)) ?_; (with_reducible refine (fold_Right.calls k a0 true _ A72.out).mono ?_); rintro e w' ⟨rfl, ⟨nd, rfl⟩⟩; refine ⟨_, rfl, ?_⟩) | ((with_reducible refine gate_callee (f := 10) rfl ?_); refine goesL_ (some 27) rfl rfl Try.func10 (by kernel_rfl) rfl #[.string t122] rfl (by (try simp only [List.map_toArray, List.map_cons, List.map_nil]); first | done | rfl | (simp only [List.length_drop, List.length_take]; rfl)) ?_; (with_reducible refine (fold_Fold.calls t122 t124 _ A74.out).mono ?_); rintro e w99 ⟨rfl, hb⟩; refine ⟨_, rfl, ?_⟩; have n0_ := Aside0.mk (below_step (by repeat (first | (with_reducible first | exact HB.out | apply below_alloc | apply pw_below_drewN | apply below_drew1) | exact HB.out)) hb); clear HB; have HB := n0_; clear n0_; (try clear hb); (try clear hb2); (try clear hk); (try clear hi)) | (go_at_call 10; (with_reducible refine (fold_Fold.calls (((⟨#[32, 9]⟩ : ByteArray) ++ a0) ++ (⟨#[1, 194, 160]⟩ : ByteArray)) t125 _ A78.out).mono ?_); rintro e w100 ⟨rfl, hb⟩; have n0_ := Aside0.mk (below_step (by repeat (first | (with_reducible first | exact HB.out | apply below_alloc | apply pw_below_drewN | apply below_drew1) | exact HB.out)) hb); clear HB; have HB := n0_; clear n0_; (try clear hb); (try clear hb2); (try clear hk); (try clear hi)) | (go_at_call 11; (with_reducible refine (fold_Exact.calls a0 t126 _ A80.out).mono ?_); rintro e w101 ⟨rfl, hb⟩; have n0_ := Aside0.mk (below_step (by repeat (first | (with_reducible first | exact HB.out | apply below_alloc | apply pw_below_drewN | apply below_drew1) | exact HB.out)) hb); clear HB; have HB := n0_; clear n0_; (try clear hb); (try clear hb2); (try clear hk); (try clear hi)) | (go_at_call 10; (with_reducible refine (fold_Fold.calls t126 t127 _ A81.out).mono ?_); rintro e w102 ⟨rfl, hb⟩; have n0_ := Aside0.mk (below_step (by repeat (first | (with_reducible first | exact HB.out | apply below_alloc | apply pw_below_drewN | apply below_drew1) | exact HB.out)) hb); clear HB; have HB := n0_; clear n0_; (try clear hb); (try clear hb2); (try clear hk); (try clear hi)) | (go_at_call 8; (with_reducible refine (fold_Piece.calls a0 t128 _ A83.out).mono ?_); rintro e w103 ⟨rfl, hb⟩; have n0_ := Aside0.mk (below_step (by repeat (first | (with_reducible first | exact HB.out | apply below_alloc | apply pw_below_drewN | apply below_drew1) | exact HB.out)) hb); clear HB; have HB := n0_; clear n0_; (try clear hb); (try clear hb2); (try clear hk); (try clear hi)) | (go_at_call 10; (with_reducible refine (fold_Fold.calls t128 t129 _ A84.out).mono ?_); rintro e w104 ⟨rfl, hb⟩; have n0_ := Aside0.mk (below_step (by repeat (first | (with_reducible first | exact HB.out | apply below_alloc | apply pw_below_drewN | apply below_drew1) | exact HB.out)) hb); clear HB; have HB := n0_; clear n0_; (try clear hb); (try clear hb2); (try clear hk); (try clear hi)) | (go_at_call 7; (with_reducible refine (fold_Right.calls k t122 true _ A86.out).mono ?_); rintro e w' ⟨rfl, ⟨nd, rfl⟩⟩))
                      go_ret
                      exact ⟨by first | rfl | (simp [errW_none, errW_some] <;> rfl) | (simp [*, errW_none, errW_some] <;> rfl), by repeat (first | (with_reducible first | exact HB.out | apply below_alloc | apply pw_below_drewN | apply below_drew1) | exact HB.out)⟩
                  · replace c87 := Bool.eq_false_iff.mpr c87
                    subst c87
                    have H1 : (some false) = some r := by rw [if_neg (show ¬ (false = true) by decide)] at H; exact H
                    clear H
                    have H := H1
                    clear H1
                    obtain rfl := Option.some.inj H
                    go_enter Try.func5, Try.ntmps5
                    go_wp2_with (first | ((with_reducible refine gate_callee (f := 10) rfl ?_); refine goesL_ (some 10) rfl rfl Try.func10 (by kernel_rfl) rfl #[.string a0] rfl (by (try simp only [List.map_toArray, List.map_cons, List.map_nil]); first | done | rfl | (simp only [List.length_drop, List.length_take]; rfl)) ?_; (with_reducible refine (fold_Fold.calls a0 t122 _ A71.out).mono ?_); rintro e w105 ⟨rfl, hb⟩; refine ⟨_, rfl, ?_⟩; have n0_ := Aside0.mk (below_step (by repeat (first | (with_reducible first | exact HB.out | apply below_alloc | apply pw_below_drewN | apply below_drew1) | exact HB.out)) hb); clear HB; have HB := n0_; clear n0_; (try clear hb); (try clear hb2); (try clear hk); (try clear hi)) | ((with_reducible refine gate_callee (f := 7) rfl ?_); refine goesL_ (some 12) rfl rfl Try.func7 (by kernel_rfl) rfl #[.string a0] rfl (by (try simp only [List.map_toArray, List.map_cons, List.map_nil]); first | done | rfl | (simp only [List.length_drop, List.length_take]; rfl)) ?_; (with_reducible refine (fold_Right.calls k a0 true _ A72.out).mono ?_); rintro e w' ⟨rfl, ⟨nd, rfl⟩⟩; refine ⟨_, rfl, ?_⟩) | ((with_reducible refine gate_callee (f := 10) rfl ?_); refine goesL_ (some 27) rfl rfl Try.func10 (by kernel_rfl) rfl #[.string t122] rfl (by (try simp only [List.map_toArray, List.map_cons, List.map_nil]); first | done | rfl | (simp only [List.length_drop, List.length_take]; rfl)) ?_; (with_reducible refine (fold_Fold.calls t122 t124 _ A74.out).mono ?_); rintro e w106 ⟨rfl, hb⟩; refine ⟨_, rfl, ?_⟩; have n0_ := Aside0.mk (below_step (by repeat (first | (with_reducible first | exact HB.out | apply below_alloc | apply pw_below_drewN | apply below_drew1) | exact HB.out)) hb); clear HB; have HB := n0_; clear n0_; (try clear hb); (try clear hb2); (try clear hk); (try clear hi)) | (go_at_call 10; (with_reducible refine (fold_Fold.calls (((⟨#[32, 9]⟩ : ByteArray) ++ a0) ++ (⟨#[1, 194, 160]⟩ : ByteArray)) t125 _ A78.out).mono ?_); rintro e w107 ⟨rfl, hb⟩; have n0_ := Aside0.mk (below_step (by repeat (first | (with_reducible first | exact HB.out | apply below_alloc | apply pw_below_drewN | apply below_drew1) | exact HB.out)) hb); clear HB; have HB := n0_; clear n0_; (try clear hb); (try clear hb2); (try clear hk); (try clear hi)) | (go_at_call 11; (with_reducible refine (fold_Exact.calls a0 t126 _ A80.out).mono ?_); rintro e w108 ⟨rfl, hb⟩; have n0_ := Aside0.mk (below_step (by repeat (first | (with_reducible first | exact HB.out | apply below_alloc | apply pw_below_drewN | apply below_drew1) | exact HB.out)) hb); clear HB; have HB := n0_; clear n0_; (try clear hb); (try clear hb2); (try clear hk); (try clear hi)) | (go_at_call 10; (with_reducible refine (fold_Fold.calls t126 t127 _ A81.out).mono ?_); rintro e w109 ⟨rfl, hb⟩; have n0_ := Aside0.mk (below_step (by repeat (first | (with_reducible first | exact HB.out | apply below_alloc | apply pw_below_drewN | apply below_drew1) | exact HB.out)) hb); clear HB; have HB := n0_; clear n0_; (try clear hb); (try clear hb2); (try clear hk); (try clear hi)) | (go_at_call 8; (with_reducible refine (fold_Piece.calls a0 t128 _ A83.out).mono ?_); rintro e w110 ⟨rfl, hb⟩; have n0_ := Aside0.mk (below_step (by repeat (first | (with_reducible first | exact HB.out | apply below_alloc | apply pw_below_drewN | apply below_drew1) | exact HB.out)) hb); clear HB; have HB := n0_; clear n0_; (try clear hb); (try clear hb2); (try clear hk); (try clear hi)) | (go_at_call 10; (with_reducible refine (fold_Fold.calls t128 t129 _ A84.out).mono ?_); rintro e w111 ⟨rfl, hb⟩; have n0_ := Aside0.mk (below_step (by repeat (first | (with_reducible first | exact HB.out | apply below_alloc | apply pw_below_drewN | apply below_drew1) | exact HB.out)) hb); clear HB; have HB := n0_; clear n0_; (try clear hb); (try clear hb2); (try clear hk); (try clear hi)) | (go_at_call 7; (with_reducible refine (fold_Right.calls k t122 false _ A86.out).mono ?_); rintro e w' ⟨rfl, ⟨nd, rfl⟩⟩))
                    go_ret
                    exact ⟨by first | rfl | (simp [errW_none, errW_some] <;> rfl) | (simp [*, errW_none, errW_some] <;> rfl), by repeat (first | (with_reducible first | exact HB.out | apply below_alloc | apply pw_below_drewN | apply below_drew1) | exact HB.out)⟩
                · rw [if_neg c85] at H
                  have c85b0 : (t129.toList == t122.toList) = false := beq_eq_false_iff_ne.mpr c85
                  have c85b1 : (t129.toList != t122.toList) = true := bne_iff_ne.mpr c85
                  obtain rfl := Option.some.inj H
                  go_enter Try.func5, Try.ntmps5
                  go_wp2_with (first | ((with_reducible refine gate_callee (f := 10) rfl ?_); refine goesL_ (some 10) rfl rfl Try.func10 (by kernel_rfl) rfl #[.string a0] rfl (by (try simp only [List.map_toArray, List.map_cons, List.map_nil]); first | done | rfl | (simp only [List.length_drop, List.length_take]; rfl)) ?_; (with_reducible refine (fold_Fold.calls a0 t122 _ A71.out).mono ?_); rintro e w112 ⟨rfl, hb⟩; refine ⟨_, rfl, ?_⟩; have n0_ := Aside0.mk (below_step (by repeat (first | (with_reducible first | exact HB.out | apply below_alloc | apply pw_below_drewN | apply below_drew1) | exact HB.out)) hb); clear HB; have HB := n0_; clear n0_; (try clear hb); (try clear hb2); (try clear hk); (try clear hi)) | ((with_reducible refine gate_callee (f := 7) rfl ?_); refine goesL_ (some 12) rfl rfl Try.func7 (by kernel_rfl) rfl #[.string a0] rfl (by (try simp only [List.map_toArray, List.map_cons, List.map_nil]); first | done | rfl | (simp only [List.length_drop, List.length_take]; rfl)) ?_; (with_reducible refine (fold_Right.calls k a0 true _ A72.out).mono ?_); rintro e w' ⟨rfl, ⟨nd, rfl⟩⟩; refine ⟨_, rfl, ?_⟩) | ((with_reducible refine gate_callee (f := 10) rfl ?_); refine goesL_ (some 27) rfl rfl Try.func10 (by kernel_rfl) rfl #[.string t122] rfl (by (try simp only [List.map_toArray, List.map_cons, List.map_nil]); first | done | rfl | (simp only [List.length_drop, List.length_take]; rfl)) ?_; (with_reducible refine (fold_Fold.calls t122 t124 _ A74.out).mono ?_); rintro e w113 ⟨rfl, hb⟩; refine ⟨_, rfl, ?_⟩; have n0_ := Aside0.mk (below_step (by repeat (first | (with_reducible first | exact HB.out | apply below_alloc | apply pw_below_drewN | apply below_drew1) | exact HB.out)) hb); clear HB; have HB := n0_; clear n0_; (try clear hb); (try clear hb2); (try clear hk); (try clear hi)) | (go_at_call 10; (with_reducible refine (fold_Fold.calls (((⟨#[32, 9]⟩ : ByteArray) ++ a0) ++ (⟨#[1, 194, 160]⟩ : ByteArray)) t125 _ A78.out).mono ?_); rintro e w114 ⟨rfl, hb⟩; have n0_ := Aside0.mk (below_step (by repeat (first | (with_reducible first | exact HB.out | apply below_alloc | apply pw_below_drewN | apply below_drew1) | exact HB.out)) hb); clear HB; have HB := n0_; clear n0_; (try clear hb); (try clear hb2); (try clear hk); (try clear hi)) | (go_at_call 11; (with_reducible refine (fold_Exact.calls a0 t126 _ A80.out).mono ?_); rintro e w115 ⟨rfl, hb⟩; have n0_ := Aside0.mk (below_step (by repeat (first | (with_reducible first | exact HB.out | apply below_alloc | apply pw_below_drewN | apply below_drew1) | exact HB.out)) hb); clear HB; have HB := n0_; clear n0_; (try clear hb); (try clear hb2); (try clear hk); (try clear hi)) | (go_at_call 10; (with_reducible refine (fold_Fold.calls t126 t127 _ A81.out).mono ?_); rintro e w116 ⟨rfl, hb⟩; have n0_ := Aside0.mk (below_step (by repeat (first | (with_reducible first | exact HB.out | apply below_alloc | apply pw_below_drewN | apply below_drew1) | exact HB.out)) hb); clear HB; have HB := n0_; clear n0_; (try clear hb); (try clear hb2); (try clear hk); (try clear hi)) | (go_at_call 8; (with_reducible refine (fold_Piece.calls a0 t128 _ A83.out).mono ?_); rintro e w117 ⟨rfl, hb⟩; have n0_ := Aside0.mk (below_step (by repeat (first | (with_reducible first | exact HB.out | apply below_alloc | apply pw_below_drewN | apply below_drew1) | exact HB.out)) hb); clear HB; have HB := n0_; clear n0_; (try clear hb); (try clear hb2); (try clear hk); (try clear hi)) | (go_at_call 10; (with_reducible refine (fold_Fold.calls t128 t129 _ A84.out).mono ?_); rintro e w118 ⟨rfl, hb⟩; have n0_ := Aside0.mk (below_step (by repeat (first | (with_reducible first | exact HB.out | apply below_alloc | apply pw_below_drewN | apply below_drew1) | exact HB.out)) hb); clear HB; have HB := n0_; clear n0_; (try clear hb); (try clear hb2); (try clear hk); (try clear hi)))
                  go_ret
                  exact ⟨by first | rfl | (simp [errW_none, errW_some] <;> rfl) | (simp [*, errW_none, errW_some] <;> rfl), by repeat (first | (with_reducible first | exact HB.out | apply below_alloc | apply pw_below_drewN | apply below_drew1) | exact HB.out)⟩
              · rw [if_neg c82] at H
                have c82b0 : (t127.toList == t122.toList) = false := beq_eq_false_iff_ne.mpr c82
                have c82b1 : (t127.toList != t122.toList) = true := bne_iff_ne.mpr c82
                obtain rfl := Option.some.inj H
                go_enter Try.func5, Try.ntmps5
                go_wp2_with (first | ((with_reducible refine gate_callee (f := 10) rfl ?_); refine goesL_ (some 10) rfl rfl Try.func10 (by kernel_rfl) rfl #[.string a0] rfl (by (try simp only [List.map_toArray, List.map_cons, List.map_nil]); first | done | rfl | (simp only [List.length_drop, List.length_take]; rfl)) ?_; (with_reducible refine (fold_Fold.calls a0 t122 _ A71.out).mono ?_); rintro e w119 ⟨rfl, hb⟩; refine ⟨_, rfl, ?_⟩; have n0_ := Aside0.mk (below_step (by repeat (first | (with_reducible first | exact HB.out | apply below_alloc | apply pw_below_drewN | apply below_drew1) | exact HB.out)) hb); clear HB; have HB := n0_; clear n0_; (try clear hb); (try clear hb2); (try clear hk); (try clear hi)) | ((with_reducible refine gate_callee (f := 7) rfl ?_); refine goesL_ (some 12) rfl rfl Try.func7 (by kernel_rfl) rfl #[.string a0] rfl (by (try simp only [List.map_toArray, List.map_cons, List.map_nil]); first | done | rfl | (simp only [List.length_drop, List.length_take]; rfl)) ?_; (with_reducible refine (fold_Right.calls k a0 true _ A72.out).mono ?_); rintro e w' ⟨rfl, ⟨nd, rfl⟩⟩; refine ⟨_, rfl, ?_⟩) | ((with_reducible refine gate_callee (f := 10) rfl ?_); refine goesL_ (some 27) rfl rfl Try.func10 (by kernel_rfl) rfl #[.string t122] rfl (by (try simp only [List.map_toArray, List.map_cons, List.map_nil]); first | done | rfl | (simp only [List.length_drop, List.length_take]; rfl)) ?_; (with_reducible refine (fold_Fold.calls t122 t124 _ A74.out).mono ?_); rintro e w120 ⟨rfl, hb⟩; refine ⟨_, rfl, ?_⟩; have n0_ := Aside0.mk (below_step (by repeat (first | (with_reducible first | exact HB.out | apply below_alloc | apply pw_below_drewN | apply below_drew1) | exact HB.out)) hb); clear HB; have HB := n0_; clear n0_; (try clear hb); (try clear hb2); (try clear hk); (try clear hi)) | (go_at_call 10; (with_reducible refine (fold_Fold.calls (((⟨#[32, 9]⟩ : ByteArray) ++ a0) ++ (⟨#[1, 194, 160]⟩ : ByteArray)) t125 _ A78.out).mono ?_); rintro e w121 ⟨rfl, hb⟩; have n0_ := Aside0.mk (below_step (by repeat (first | (with_reducible first | exact HB.out | apply below_alloc | apply pw_below_drewN | apply below_drew1) | exact HB.out)) hb); clear HB; have HB := n0_; clear n0_; (try clear hb); (try clear hb2); (try clear hk); (try clear hi)) | (go_at_call 11; (with_reducible refine (fold_Exact.calls a0 t126 _ A80.out).mono ?_); rintro e w122 ⟨rfl, hb⟩; have n0_ := Aside0.mk (below_step (by repeat (first | (with_reducible first | exact HB.out | apply below_alloc | apply pw_below_drewN | apply below_drew1) | exact HB.out)) hb); clear HB; have HB := n0_; clear n0_; (try clear hb); (try clear hb2); (try clear hk); (try clear hi)) | (go_at_call 10; (with_reducible refine (fold_Fold.calls t126 t127 _ A81.out).mono ?_); rintro e w123 ⟨rfl, hb⟩; have n0_ := Aside0.mk (below_step (by repeat (first | (with_reducible first | exact HB.out | apply below_alloc | apply pw_below_drewN | apply below_drew1) | exact HB.out)) hb); clear HB; have HB := n0_; clear n0_; (try clear hb); (try clear hb2); (try clear hk); (try clear hi)))
                go_ret
                exact ⟨by first | rfl | (simp [errW_none, errW_some] <;> rfl) | (simp [*, errW_none, errW_some] <;> rfl), by repeat (first | (with_reducible first | exact HB.out | apply below_alloc | apply pw_below_drewN | apply below_drew1) | exact HB.out)⟩
            · rw [if_neg c79] at H
              have c79b0 : (t125.toList == t122.toList) = false := beq_eq_false_iff_ne.mpr c79
              have c79b1 : (t125.toList != t122.toList) = true := bne_iff_ne.mpr c79
              obtain rfl := Option.some.inj H
              go_enter Try.func5, Try.ntmps5
              go_wp2_with (first | ((with_reducible refine gate_callee (f := 10) rfl ?_); refine goesL_ (some 10) rfl rfl Try.func10 (by kernel_rfl) rfl #[.string a0] rfl (by (try simp only [List.map_toArray, List.map_cons, List.map_nil]); first | done | rfl | (simp only [List.length_drop, List.length_take]; rfl)) ?_; (with_reducible refine (fold_Fold.calls a0 t122 _ A71.out).mono ?_); rintro e w124 ⟨rfl, hb⟩; refine ⟨_, rfl, ?_⟩; have n0_ := Aside0.mk (below_step (by repeat (first | (with_reducible first | exact HB.out | apply below_alloc | apply pw_below_drewN | apply below_drew1) | exact HB.out)) hb); clear HB; have HB := n0_; clear n0_; (try clear hb); (try clear hb2); (try clear hk); (try clear hi)) | ((with_reducible refine gate_callee (f := 7) rfl ?_); refine goesL_ (some 12) rfl rfl Try.func7 (by kernel_rfl) rfl #[.string a0] rfl (by (try simp only [List.map_toArray, List.map_cons, List.map_nil]); first | done | rfl | (simp only [List.length_drop, List.length_take]; rfl)) ?_; (with_reducible refine (fold_Right.calls k a0 true _ A72.out).mono ?_); rintro e w' ⟨rfl, ⟨nd, rfl⟩⟩; refine ⟨_, rfl, ?_⟩) | ((with_reducible refine gate_callee (f := 10) rfl ?_); refine goesL_ (some 27) rfl rfl Try.func10 (by kernel_rfl) rfl #[.string t122] rfl (by (try simp only [List.map_toArray, List.map_cons, List.map_nil]); first | done | rfl | (simp only [List.length_drop, List.length_take]; rfl)) ?_; (with_reducible refine (fold_Fold.calls t122 t124 _ A74.out).mono ?_); rintro e w125 ⟨rfl, hb⟩; refine ⟨_, rfl, ?_⟩; have n0_ := Aside0.mk (below_step (by repeat (first | (with_reducible first | exact HB.out | apply below_alloc | apply pw_below_drewN | apply below_drew1) | exact HB.out)) hb); clear HB; have HB := n0_; clear n0_; (try clear hb); (try clear hb2); (try clear hk); (try clear hi)) | (go_at_call 10; (with_reducible refine (fold_Fold.calls (((⟨#[32, 9]⟩ : ByteArray) ++ a0) ++ (⟨#[1, 194, 160]⟩ : ByteArray)) t125 _ A78.out).mono ?_); rintro e w126 ⟨rfl, hb⟩; have n0_ := Aside0.mk (below_step (by repeat (first | (with_reducible first | exact HB.out | apply below_alloc | apply pw_below_drewN | apply below_drew1) | exact HB.out)) hb); clear HB; have HB := n0_; clear n0_; (try clear hb); (try clear hb2); (try clear hk); (try clear hi)))
              go_ret
              exact ⟨by first | rfl | (simp [errW_none, errW_some] <;> rfl) | (simp [*, errW_none, errW_some] <;> rfl), by repeat (first | (with_reducible first | exact HB.out | apply below_alloc | apply pw_below_drewN | apply below_drew1) | exact HB.out)⟩
          · rw [if_neg c77] at H
            exact absurd H (by simp)
        · rw [if_neg c76] at H
          exact absurd H (by simp)
      · rw [if_neg c75] at H
        have c75b0 : (t124.toList == t122.toList) = false := beq_eq_false_iff_ne.mpr c75
        have c75b1 : (t124.toList != t122.toList) = true := bne_iff_ne.mpr c75
        obtain rfl := Option.some.inj H
        go_enter Try.func5, Try.ntmps5
        go_wp2_with (first | ((with_reducible refine gate_callee (f := 10) rfl ?_); refine goesL_ (some 10) rfl rfl Try.func10 (by kernel_rfl) rfl #[.string a0] rfl (by (try simp only [List.map_toArray, List.map_cons, List.map_nil]); first | done | rfl | (simp only [List.length_drop, List.length_take]; rfl)) ?_; (with_reducible refine (fold_Fold.calls a0 t122 _ A71.out).mono ?_); rintro e w127 ⟨rfl, hb⟩; refine ⟨_, rfl, ?_⟩; have n0_ := Aside0.mk (below_step (by repeat (first | (with_reducible first | exact HB.out | apply below_alloc | apply pw_below_drewN | apply below_drew1) | exact HB.out)) hb); clear HB; have HB := n0_; clear n0_; (try clear hb); (try clear hb2); (try clear hk); (try clear hi)) | ((with_reducible refine gate_callee (f := 7) rfl ?_); refine goesL_ (some 12) rfl rfl Try.func7 (by kernel_rfl) rfl #[.string a0] rfl (by (try simp only [List.map_toArray, List.map_cons, List.map_nil]); first | done | rfl | (simp only [List.length_drop, List.length_take]; rfl)) ?_; (with_reducible refine (fold_Right.calls k a0 true _ A72.out).mono ?_); rintro e w' ⟨rfl, ⟨nd, rfl⟩⟩; refine ⟨_, rfl, ?_⟩) | ((with_reducible refine gate_callee (f := 10) rfl ?_); refine goesL_ (some 27) rfl rfl Try.func10 (by kernel_rfl) rfl #[.string t122] rfl (by (try simp only [List.map_toArray, List.map_cons, List.map_nil]); first | done | rfl | (simp only [List.length_drop, List.length_take]; rfl)) ?_; (with_reducible refine (fold_Fold.calls t122 t124 _ A74.out).mono ?_); rintro e w128 ⟨rfl, hb⟩; refine ⟨_, rfl, ?_⟩; have n0_ := Aside0.mk (below_step (by repeat (first | (with_reducible first | exact HB.out | apply below_alloc | apply pw_below_drewN | apply below_drew1) | exact HB.out)) hb); clear HB; have HB := n0_; clear n0_; (try clear hb); (try clear hb2); (try clear hk); (try clear hi)))
        go_ret
        exact ⟨by first | rfl | (simp [errW_none, errW_some] <;> rfl) | (simp [*, errW_none, errW_some] <;> rfl), by repeat (first | (with_reducible first | exact HB.out | apply below_alloc | apply pw_below_drewN | apply below_drew1) | exact HB.out)⟩
    · replace c73 := Bool.eq_false_iff.mpr c73
      subst c73
      have H1 : (if t122.toList = a0.toList then ((fold_Count.f k a0).bind fun t132 => (if t132 = (-1) then ((fold_Fold.f (⟨#[65]⟩ : ByteArray)).bind fun t133 => (some (t133.toList == ([97] : List UInt8)))) else (some false))) else (some false)) = some r := by rw [if_neg (show ¬ (false = true) by decide)] at H; exact H
      clear H
      have H := H1
      clear H1
      by_cases c129 : t122.toList = a0.toList
      · rw [if_pos c129] at H
        have c129b0 : (t122.toList == a0.toList) = true := beq_iff_eq.mpr c129
        have c129b1 : (t122.toList != a0.toList) = false := bne_eq_false_iff_eq.mpr c129
        clear c129
        replace H := Option.bind_eq_some_iff.mp H
        obtain ⟨t132, A1300, H⟩ := H
        replace H : (if t132 = (-1) then ((fold_Fold.f (⟨#[65]⟩ : ByteArray)).bind fun t133 => (some (t133.toList == ([97] : List UInt8)))) else (some false)) = some r := H
        have A130 := Aside0.mk A1300
        clear A1300
        by_cases c131 : t132 = (-1)
        · rw [if_pos c131] at H
          have c131b0 : (t132 == (-1)) = true := beq_iff_eq.mpr c131
          have c131b1 : (t132 != (-1)) = false := bne_eq_false_iff_eq.mpr c131
          clear c131
          replace H := Option.bind_eq_some_iff.mp H
          obtain ⟨t133, A1320, H⟩ := H
          replace H : (some (t133.toList == ([97] : List UInt8))) = some r := H
          have A132 := Aside0.mk A1320
          clear A1320
          obtain rfl := Option.some.inj H
          go_enter Try.func5, Try.ntmps5
          go_wp2_with (first | ((with_reducible refine gate_callee (f := 10) rfl ?_); refine goesL_ (some 10) rfl rfl Try.func10 (by kernel_rfl) rfl #[.string a0] rfl (by (try simp only [List.map_toArray, List.map_cons, List.map_nil]); first | done | rfl | (simp only [List.length_drop, List.length_take]; rfl)) ?_; (with_reducible refine (fold_Fold.calls a0 t122 _ A71.out).mono ?_); rintro e w133 ⟨rfl, hb⟩; refine ⟨_, rfl, ?_⟩; have n0_ := Aside0.mk (below_step (by repeat (first | (with_reducible first | exact HB.out | apply below_alloc | apply pw_below_drewN | apply below_drew1) | exact HB.out)) hb); clear HB; have HB := n0_; clear n0_; (try clear hb); (try clear hb2); (try clear hk); (try clear hi)) | ((with_reducible refine gate_callee (f := 7) rfl ?_); refine goesL_ (some 12) rfl rfl Try.func7 (by kernel_rfl) rfl #[.string a0] rfl (by (try simp only [List.map_toArray, List.map_cons, List.map_nil]); first | done | rfl | (simp only [List.length_drop, List.length_take]; rfl)) ?_; (with_reducible refine (fold_Right.calls k a0 false _ A72.out).mono ?_); rintro e w' ⟨rfl, ⟨nd, rfl⟩⟩; refine ⟨_, rfl, ?_⟩) | (go_at_call 9; (with_reducible refine (fold_Count.calls k a0 t132 _ A130.out).mono ?_); rintro e w' ⟨rfl, ⟨nd, rfl⟩⟩) | (go_at_call 10; (with_reducible refine (fold_Fold.calls (⟨#[65]⟩ : ByteArray) t133 _ A132.out).mono ?_); rintro e w134 ⟨rfl, hb⟩; have n0_ := Aside0.mk (below_step (by repeat (first | (with_reducible first | exact HB.out | apply below_alloc | apply pw_below_drewN | apply below_drew1) | exact HB.out)) hb); clear HB; have HB := n0_; clear n0_; (try clear hb); (try clear hb2); (try clear hk); (try clear hi)))
          go_ret
          exact ⟨by first | rfl | (simp [errW_none, errW_some] <;> rfl) | (simp [*, errW_none, errW_some] <;> rfl), by repeat (first | (with_reducible first | exact HB.out | apply below_alloc | apply pw_below_drewN | apply below_drew1) | exact HB.out)⟩
        · rw [if_neg c131] at H
          have c131b0 : (t132 == (-1)) = false := beq_eq_false_iff_ne.mpr c131
          have c131b1 : (t132 != (-1)) = true := bne_iff_ne.mpr c131
          obtain rfl := Option.some.inj H
          go_enter Try.func5, Try.ntmps5
          go_wp2_with (first | ((with_reducible refine gate_callee (f := 10) rfl ?_); refine goesL_ (some 10) rfl rfl Try.func10 (by kernel_rfl) rfl #[.string a0] rfl (by (try simp only [List.map_toArray, List.map_cons, List.map_nil]); first | done | rfl | (simp only [List.length_drop, List.length_take]; rfl)) ?_; (with_reducible refine (fold_Fold.calls a0 t122 _ A71.out).mono ?_); rintro e w135 ⟨rfl, hb⟩; refine ⟨_, rfl, ?_⟩; have n0_ := Aside0.mk (below_step (by repeat (first | (with_reducible first | exact HB.out | apply below_alloc | apply pw_below_drewN | apply below_drew1) | exact HB.out)) hb); clear HB; have HB := n0_; clear n0_; (try clear hb); (try clear hb2); (try clear hk); (try clear hi)) | ((with_reducible refine gate_callee (f := 7) rfl ?_); refine goesL_ (some 12) rfl rfl Try.func7 (by kernel_rfl) rfl #[.string a0] rfl (by (try simp only [List.map_toArray, List.map_cons, List.map_nil]); first | done | rfl | (simp only [List.length_drop, List.length_take]; rfl)) ?_; (with_reducible refine (fold_Right.calls k a0 false _ A72.out).mono ?_); rintro e w' ⟨rfl, ⟨nd, rfl⟩⟩; refine ⟨_, rfl, ?_⟩) | (go_at_call 9; (with_reducible refine (fold_Count.calls k a0 t132 _ A130.out).mono ?_); rintro e w' ⟨rfl, ⟨nd, rfl⟩⟩))
          go_ret
          exact ⟨by first | rfl | (simp [errW_none, errW_some] <;> rfl) | (simp [*, errW_none, errW_some] <;> rfl), by repeat (first | (with_reducible first | exact HB.out | apply below_alloc | apply pw_below_drewN | apply below_drew1) | exact HB.out)⟩
      · rw [if_neg c129] at H
        have c129b0 : (t122.toList == a0.toList) = false := beq_eq_false_iff_ne.mpr c129
        have c129b1 : (t122.toList != a0.toList) = true := bne_iff_ne.mpr c129
        obtain rfl := Option.some.inj H
        go_enter Try.func5, Try.ntmps5
        go_wp2_with (first | ((with_reducible refine gate_callee (f := 10) rfl ?_); refine goesL_ (some 10) rfl rfl Try.func10 (by kernel_rfl) rfl #[.string a0] rfl (by (try simp only [List.map_toArray, List.map_cons, List.map_nil]); first | done | rfl | (simp only [List.length_drop, List.length_take]; rfl)) ?_; (with_reducible refine (fold_Fold.calls a0 t122 _ A71.out).mono ?_); rintro e w136 ⟨rfl, hb⟩; refine ⟨_, rfl, ?_⟩; have n0_ := Aside0.mk (below_step (by repeat (first | (with_reducible first | exact HB.out | apply below_alloc | apply pw_below_drewN | apply below_drew1) | exact HB.out)) hb); clear HB; have HB := n0_; clear n0_; (try clear hb); (try clear hb2); (try clear hk); (try clear hi)) | ((with_reducible refine gate_callee (f := 7) rfl ?_); refine goesL_ (some 12) rfl rfl Try.func7 (by kernel_rfl) rfl #[.string a0] rfl (by (try simp only [List.map_toArray, List.map_cons, List.map_nil]); first | done | rfl | (simp only [List.length_drop, List.length_take]; rfl)) ?_; (with_reducible refine (fold_Right.calls k a0 false _ A72.out).mono ?_); rintro e w' ⟨rfl, ⟨nd, rfl⟩⟩; refine ⟨_, rfl, ?_⟩))
        go_ret
        exact ⟨by first | rfl | (simp [errW_none, errW_some] <;> rfl) | (simp [*, errW_none, errW_some] <;> rfl), by repeat (first | (with_reducible first | exact HB.out | apply below_alloc | apply pw_below_drewN | apply below_drew1) | exact HB.out)⟩

/-- THE ONE PURE STATEMENT of peeragelaw05_FoldAgain: yours. -/
def peeragelaw05_FoldAgain.Pure : Prop := ∀ (a0 : ByteArray), a0.size ≤ 140737488351232 → ∃ k, peeragelaw05_FoldAgain.f k a0 = some true
theorem peeragelaw05_FoldAgain.walk (P : peeragelaw05_FoldAgain.Pure) (a0 : ByteArray) (w : World) (w0 : a0.size ≤ 140737488351232) :
    Calls Try.prog 5 #[.string a0] w fun e w' => e = .returned (.bool true) ∧ Below w.heap.size w w' := by
  obtain ⟨k, h⟩ := P a0 w0
  refine (peeragelaw05_FoldAgain.calls k a0 true w h).mono ?_
  rintro e w' ⟨rfl, hd⟩
  exact ⟨rfl, hd⟩

end Go.Proofs.Ytmlihcknkgfhaaa.LFoldAgain
