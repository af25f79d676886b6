/- Functions that a law calls, and the walk of the law itself, told by a program of this session (pp.py) over the kit printer; no condition beyond the statement itself; not trusted: Lean checks it. -/
import Derived.Test.YtmlihcknkgfhaaaLFoldJoinsx0
namespace Go.Proofs.Ytmlihcknkgfhaaa.LFoldJoins
open Go.RowKit Go.Proofs.Ytmlihcknkgfhaaa.H Go.Proofs.Ytmlihcknkgfhaaa.PFoldJoins Go.Proofs.YtmlihcknkgfhaaaW.PrintWords Go.Proofs.YtmlihcknkgfhaaaW.PrintLast Go.Proofs.YtmlihcknkgfhaaaW.PrintMore
attribute [local go_sem] max2_int min2_int max_two min_two max_three min_three max_four min_four   -- for this text's walks alone
set_option linter.unusedVariables false
set_option linter.unusedSimpArgs false

-- NOT PRINTED: function 17 (strings_Builder_Len)

-- NOT PRINTED: function 29 (abi_NoEscape)

-- NOT PRINTED: function 26 (strings_Builder_copyCheck)

-- NOT PRINTED: function 18 (strings_Builder_WriteString)

-- NOT PRINTED: function 19 (fold_small)

-- NOT PRINTED: function 20 (strings_Builder_String)

/-! ### fold_Piece: function 8 -/
def fold_Piece.f (a0 : ByteArray) : Option (ByteArray) := (fold_prepared.f a0 true true).bind fun t107 => (some t107)
set_option maxHeartbeats 2000000 in
set_option maxRecDepth 100000 in
theorem fold_Piece.calls (a0 : ByteArray) (r : ByteArray) (w : World) (h : fold_Piece.f a0 = some r) :
    Calls Try.prog 8 #[.string a0] w fun e w' => e = .returned (.string r) ∧ Below w.heap.size w w' := by
  have HB := Aside0.mk (Below.refl w.heap.size w)
  have H : ((fold_prepared.f a0 true true).bind fun t107 => (some t107)) = some r := h
  clear h
  replace H := Option.bind_eq_some_iff.mp H
  obtain ⟨t107, A20, H⟩ := H
  replace H : (some t107) = some r := H
  have A2 := Aside0.mk A20
  clear A20
  obtain rfl := Option.some.inj H
  go_enter Try.func8, Try.ntmps8
  go_wp2_with (first | ((with_reducible refine gate_callee (f := 13) rfl ?_); refine goesL_ (some 4) rfl rfl Try.func13 (by kernel_rfl) rfl #[.string a0, .bool true, .bool true] rfl (by (try simp only [List.map_toArray, List.map_cons, List.map_nil]); first | done | rfl | (simp only [List.length_drop, List.length_take]; rfl)) ?_; (with_reducible refine (fold_prepared.calls a0 true true t107 _ A2.out).mono ?_); rintro e w3 ⟨rfl, hb⟩; refine ⟨_, rfl, ?_⟩; have n0_ := Aside0.mk (below_step (by repeat (first | (with_reducible first | exact HB.out | apply below_alloc | apply pw_below_drewN | apply below_drew1) | exact HB.out)) hb); clear HB; have HB := n0_; clear n0_; (try clear hb); (try clear hb2); (try clear hk); (try clear hi)))
  go_ret
  exact ⟨by first | rfl | (simp [errW_none, errW_some] <;> rfl) | (simp [*, errW_none, errW_some] <;> rfl), by repeat (first | (with_reducible first | exact HB.out | apply below_alloc | apply pw_below_drewN | apply below_drew1) | exact HB.out)⟩

/-! ### peeragelaw05_FoldJoins: function 4 -/
def peeragelaw05_FoldJoins.f (k : Nat) (a0 : ByteArray) (a1 : ByteArray) : Option (Bool) := if (wrap64 ((a0.size : Int) + (a1.size : Int))) > 600 then ((fold_Piece.f (⟨#[32, 65]⟩ : ByteArray)).bind fun t108 => (some (t108.toList == ([32, 97] : List UInt8)))) else ((fold_Right.f k a0).bind fun t109 => (if t109 = true then ((fold_Right.f k a1).bind fun t110 => (if t110 = true then (if a0.size + a1.size ≤ 9223372036854775807 then ((fold_Piece.f (a0 ++ a1)).bind fun t111 => ((fold_Piece.f a0).bind fun t112 => ((fold_Piece.f a1).bind fun t113 => (if t112.size + t113.size ≤ 9223372036854775807 then ((fold_Piece.f (t112 ++ t113)).bind fun t114 => (if t111.toList = t114.toList then ((fold_Count.f k (a0 ++ a1)).bind fun t115 => ((fold_Count.f k a0).bind fun t116 => ((fold_Count.f k a1).bind fun t117 => (if t115 = (wrap64 (t116 + t117)) then ((fold_Piece.f (⟨#[97, 32]⟩ : ByteArray)).bind fun t118 => (some (t118.toList == ([97, 32] : List UInt8)))) else (some false))))) else (some false))) else (none))))) else (none)) else ((fold_Piece.f (⟨#[32, 65]⟩ : ByteArray)).bind fun t119 => (some (t119.toList == ([32, 97] : List UInt8)))))) else ((fold_Piece.f (⟨#[32, 65]⟩ : ByteArray)).bind fun t120 => (some (t120.toList == ([32, 97] : List UInt8))))))
theorem peeragelaw05_FoldJoins.mono : ∀ a0 a1 k, LeO (peeragelaw05_FoldJoins.f k a0 a1) (peeragelaw05_FoldJoins.f (k + 1) a0 a1) := by
  intro a0 a1 k
  unfold peeragelaw05_FoldJoins.f
  repeat' first
      | (with_reducible exact fold_Count.mono _ _)
      | (with_reducible exact fold_Right.mono _ _)
      | (with_reducible exact LeO.refl _)
      | (with_reducible exact LeO.none _)
      | (with_reducible refine LeO.ite ?_ ?_)
      | (with_reducible refine LeO.bind ?_ (fun _ => ?_))
      | exact fold_Count.mono _ _
      | exact fold_Right.mono _ _
      | exact LeO.none _
      | refine LeO.ite ?_ ?_
      | refine LeO.bind ?_ (fun _ => ?_)
set_option maxHeartbeats 2000000 in
set_option maxRecDepth 100000 in
theorem peeragelaw05_FoldJoins.calls (k : Nat) (a0 : ByteArray) (a1 : ByteArray) (r : Bool) (w : World) (h : peeragelaw05_FoldJoins.f k a0 a1 = some r) :
    Calls Try.prog 4 #[.string a0, .string a1] w fun e w' => e = .returned (.bool r) ∧ Below w.heap.size w w' := by
  have HB := Aside0.mk (Below.refl w.heap.size w)
  have H : (if (wrap64 ((a0.size : Int) + (a1.size : Int))) > 600 then ((fold_Piece.f (⟨#[32, 65]⟩ : ByteArray)).bind fun t108 => (some (t108.toList == ([32, 97] : List UInt8)))) else ((fold_Right.f k a0).bind fun t109 => (if t109 = true then ((fold_Right.f k a1).bind fun t110 => (if t110 = true then (if a0.size + a1.size ≤ 9223372036854775807 then ((fold_Piece.f (a0 ++ a1)).bind fun t111 => ((fold_Piece.f a0).bind fun t112 => ((fold_Piece.f a1).bind fun t113 => (if t112.size + t113.size ≤ 9223372036854775807 then ((fold_Piece.f (t112 ++ t113)).bind fun t114 => (if t111.toList = t114.toList then ((fold_Count.f k (a0 ++ a1)).bind fun t115 => ((fold_Count.f k a0).bind fun t116 => ((fold_Count.f k a1).bind fun t117 => (if t115 = (wrap64 (t116 + t117)) then ((fold_Piece.f (⟨#[97, 32]⟩ : ByteArray)).bind fun t118 => (some (t118.toList == ([97, 32] : List UInt8)))) else (some false))))) else (some false))) else (none))))) else (none)) else ((fold_Piece.f (⟨#[32, 65]⟩ : ByteArray)).bind fun t119 => (some (t119.toList == ([32, 97] : List UInt8)))))) else ((fold_Piece.f (⟨#[32, 65]⟩ : ByteArray)).bind fun t120 => (some (t120.toList == ([32, 97] : List UInt8))))))) = some r := h
  clear h
  by_cases c3 : (wrap64 ((a0.size : Int) + (a1.size : Int))) > 600
  · rw [if_pos c3] at H
    have c3b0 : decide (600 < (wrap64 ((a0.size : Int) + (a1.size : Int)))) = true := decide_eq_true c3
    clear c3
    replace H := Option.bind_eq_some_iff.mp H
    obtain ⟨t108, A40, H⟩ := H
    replace H : (some (t108.toList == ([32, 97] : List UInt8))) = some r := H
    have A4 := Aside0.mk A40
    clear A40
    obtain rfl := Option.some.inj H
    go_enter Try.func4, Try.ntmps4
    go_wp2_with (first | ((with_reducible refine gate_callee (f := 8) rfl ?_); refine goesL_ (some 21) rfl rfl Try.func8 (by kernel_rfl) rfl #[.string (⟨#[32, 65]⟩ : ByteArray)] rfl (by (try simp only [List.map_toArray, List.map_cons, List.map_nil]); first | done | rfl | (simp only [List.length_drop, List.length_take]; rfl)) ?_; (with_reducible refine (fold_Piece.calls (⟨#[32, 65]⟩ : ByteArray) t108 _ A4.out).mono ?_); rintro e w5 ⟨rfl, hb⟩; refine ⟨_, rfl, ?_⟩; have n0_ := Aside0.mk (below_step (by repeat (first | (with_reducible first | exact HB.out | apply below_alloc | apply pw_below_drewN | apply below_drew1) | exact HB.out)) hb); clear HB; have HB := n0_; clear n0_; (try clear hb); (try clear hb2); (try clear hk); (try clear hi)))
    go_ret
    exact ⟨by first | rfl | (simp [errW_none, errW_some] <;> rfl) | (simp [*, errW_none, errW_some] <;> rfl), by repeat (first | (with_reducible first | exact HB.out | apply below_alloc | apply pw_below_drewN | apply below_drew1) | exact HB.out)⟩
  · rw [if_neg c3] at H
    have c3b0 : decide (600 < (wrap64 ((a0.size : Int) + (a1.size : Int)))) = false := decide_eq_false c3
    clear c3
    replace H := Option.bind_eq_some_iff.mp H
    obtain ⟨t109, A60, H⟩ := H
    replace H : (if t109 = true then ((fold_Right.f k a1).bind fun t110 => (if t110 = true then (if a0.size + a1.size ≤ 9223372036854775807 then ((fold_Piece.f (a0 ++ a1)).bind fun t111 => ((fold_Piece.f a0).bind fun t112 => ((fold_Piece.f a1).bind fun t113 => (if t112.size + t113.size ≤ 9223372036854775807 then ((fold_Piece.f (t112 ++ t113)).bind fun t114 => (if t111.toList = t114.toList then ((fold_Count.f k (a0 ++ a1)).bind fun t115 => ((fold_Count.f k a0).bind fun t116 => ((fold_Count.f k a1).bind fun t117 => (if t115 = (wrap64 (t116 + t117)) then ((fold_Piece.f (⟨#[97, 32]⟩ : ByteArray)).bind fun t118 => (some (t118.toList == ([97, 32] : List UInt8)))) else (some false))))) else (some false))) else (none))))) else (none)) else ((fold_Piece.f (⟨#[32, 65]⟩ : ByteArray)).bind fun t119 => (some (t119.toList == ([32, 97] : List UInt8)))))) else ((fold_Piece.f (⟨#[32, 65]⟩ : ByteArray)).bind fun t120 => (some (t120.toList == ([32, 97] : List UInt8))))) = some r := H
    have A6 := Aside0.mk A60
    clear A60
    by_cases c7 : t109 = true
    · subst c7
      have H1 : ((fold_Right.f k a1).bind fun t110 => (if t110 = true then (if a0.size + a1.size ≤ 9223372036854775807 then ((fold_Piece.f (a0 ++ a1)).bind fun t111 => ((fold_Piece.f a0).bind fun t112 => ((fold_Piece.f a1).bind fun t113 => (if t112.size + t113.size ≤ 9223372036854775807 then ((fold_Piece.f (t112 ++ t113)).bind fun t114 => (if t111.toList = t114.toList then ((fold_Count.f k (a0 ++ a1)).bind fun t115 => ((fold_Count.f k a0).bind fun t116 => ((fold_Count.f k a1).bind fun t117 => (if t115 = (wrap64 (t116 + t117)) then ((fold_Piece.f (⟨#[97, 32]⟩ : ByteArray)).bind fun t118 => (some (t118.toList == ([97, 32] : List UInt8)))) else (some false))))) else (some false))) else (none))))) else (none)) else ((fold_Piece.f (⟨#[32, 65]⟩ : ByteArray)).bind fun t119 => (some (t119.toList == ([32, 97] : List UInt8)))))) = some r := by rw [if_pos rfl] at H; exact H
      clear H
      have H := H1
      clear H1
      replace H := Option.bind_eq_some_iff.mp H
      obtain ⟨t110, A80, H⟩ := H
      replace H : (if t110 = true then (if a0.size + a1.size ≤ 9223372036854775807 then ((fold_Piece.f (a0 ++ a1)).bind fun t111 => ((fold_Piece.f a0).bind fun t112 => ((fold_Piece.f a1).bind fun t113 => (if t112.size + t113.size ≤ 9223372036854775807 then ((fold_Piece.f (t112 ++ t113)).bind fun t114 => (if t111.toList = t114.toList then ((fold_Count.f k (a0 ++ a1)).bind fun t115 => ((fold_Count.f k a0).bind fun t116 => ((fold_Count.f k a1).bind fun t117 => (if t115 = (wrap64 (t116 + t117)) then ((fold_Piece.f (⟨#[97, 32]⟩ : ByteArray)).bind fun t118 => (some (t118.toList == ([97, 32] : List UInt8)))) else (some false))))) else (some false))) else (none))))) else (none)) else ((fold_Piece.f (⟨#[32, 65]⟩ : ByteArray)).bind fun t119 => (some (t119.toList == ([32, 97] : List UInt8))))) = some r := H
      have A8 := Aside0.mk A80
      clear A80
      by_cases c9 : t110 = true
      · subst c9
        have H1 : (if a0.size + a1.size ≤ 9223372036854775807 then ((fold_Piece.f (a0 ++ a1)).bind fun t111 => ((fold_Piece.f a0).bind fun t112 => ((fold_Piece.f a1).bind fun t113 => (if t112.size + t113.size ≤ 9223372036854775807 then ((fold_Piece.f (t112 ++ t113)).bind fun t114 => (if t111.toList = t114.toList then ((fold_Count.f k (a0 ++ a1)).bind fun t115 => ((fold_Count.f k a0).bind fun t116 => ((fold_Count.f k a1).bind fun t117 => (if t115 = (wrap64 (t116 + t117)) then ((fold_Piece.f (⟨#[97, 32]⟩ : ByteArray)).bind fun t118 => (some (t118.toList == ([97, 32] : List UInt8)))) else (some false))))) else (some false))) else (none))))) else (none)) = some r := by rw [if_pos rfl] at H; exact H
        clear H
        have H := H1
        clear H1
        by_cases c10 : a0.size + a1.size ≤ 9223372036854775807
        · rw [if_pos c10] at H
          have c10b0 := eq_true c10
          have c10b1 : decide (a0.size + a1.size ≤ 9223372036854775807) = true := decide_eq_true c10
          try have c10b2 : (9223372036854775807 < a0.size + a1.size) = False := eq_false (Nat.not_lt.2 c10)
          have c3z : decide ((600 : Int) < (a0.size : Int) + (a1.size : Int)) = false := by have z_ := c3b0; rw [show wrap64 ((a0.size : Int) + (a1.size : Int)) = (a0.size : Int) + (a1.size : Int) by unfold wrap64; omega] at z_; exact z_
          replace H := Option.bind_eq_some_iff.mp H
          obtain ⟨t111, A110, H⟩ := H
          replace H : ((fold_Piece.f a0).bind fun t112 => ((fold_Piece.f a1).bind fun t113 => (if t112.size + t113.size ≤ 9223372036854775807 then ((fold_Piece.f (t112 ++ t113)).bind fun t114 => (if t111.toList = t114.toList then ((fold_Count.f k (a0 ++ a1)).bind fun t115 => ((fold_Count.f k a0).bind fun t116 => ((fold_Count.f k a1).bind fun t117 => (if t115 = (wrap64 (t116 + t117)) then ((fold_Piece.f (⟨#[97, 32]⟩ : ByteArray)).bind fun t118 => (some (t118.toList == ([97, 32] : List UInt8)))) else (some false))))) else (some false))) else (none)))) = some r := H
          have A11 := Aside0.mk A110
          clear A110
          replace H := Option.bind_eq_some_iff.mp H
          obtain ⟨t112, A120, H⟩ := H
          replace H : ((fold_Piece.f a1).bind fun t113 => (if t112.size + t113.size ≤ 9223372036854775807 then ((fold_Piece.f (t112 ++ t113)).bind fun t114 => (if t111.toList = t114.toList then ((fold_Count.f k (a0 ++ a1)).bind fun t115 => ((fold_Count.f k a0).bind fun t116 => ((fold_Count.f k a1).bind fun t117 => (if t115 = (wrap64 (t116 + t117)) then ((fold_Piece.f (⟨#[97, 32]⟩ : ByteArray)).bind fun t118 => (some (t118.toList == ([97, 32] : List UInt8)))) else (some false))))) else (some false))) else (none))) = some r := H
          have A12 := Aside0.mk A120
          clear A120
          replace H := Option.bind_eq_some_iff.mp H
          obtain ⟨t113, A130, H⟩ := H
          replace H : (if t112.size + t113.size ≤ 9223372036854775807 then ((fold_Piece.f (t112 ++ t113)).bind fun t114 => (if t111.toList = t114.toList then ((fold_Count.f k (a0 ++ a1)).bind fun t115 => ((fold_Count.f k a0).bind fun t116 => ((fold_Count.f k a1).bind fun t117 => (if t115 = (wrap64 (t116 + t117)) then ((fold_Piece.f (⟨#[97, 32]⟩ : ByteArray)).bind fun t118 => (some (t118.toList == ([97, 32] : List UInt8)))) else (some false))))) else (some false))) else (none)) = some r := H
          have A13 := Aside0.mk A130
          clear A130
          by_cases c14 : t112.size + t113.size ≤ 9223372036854775807
          · rw [if_pos c14] at H
            have c14b0 := eq_true c14
            have c14b1 : decide (t112.size + t113.size ≤ 9223372036854775807) = true := decide_eq_true c14
            try have c14b2 : (9223372036854775807 < t112.size + t113.size) = False := eq_false (Nat.not_lt.2 c14)
            replace H := Option.bind_eq_some_iff.mp H
            obtain ⟨t114, A150, H⟩ := H
            replace H : (if t111.toList = t114.toList then ((fold_Count.f k (a0 ++ a1)).bind fun t115 => ((fold_Count.f k a0).bind fun t116 => ((fold_Count.f k a1).bind fun t117 => (if t115 = (wrap64 (t116 + t117)) then ((fold_Piece.f (⟨#[97, 32]⟩ : ByteArray)).bind fun t118 => (some (t118.toList == ([97, 32] : List UInt8)))) else (some false))))) else (some false)) = some r := H
            have A15 := Aside0.mk A150
            clear A150
            by_cases c16 : t111.toList = t114.toList
            · rw [if_pos c16] at H
              have c16b0 : (t111.toList == t114.toList) = true := beq_iff_eq.mpr c16
              have c16b1 : (t111.toList != t114.toList) = false := bne_eq_false_iff_eq.mpr c16
              clear c16
              replace H := Option.bind_eq_some_iff.mp H
              obtain ⟨t115, A170, H⟩ := H
              replace H : ((fold_Count.f k a0).bind fun t116 => ((fold_Count.f k a1).bind fun t117 => (if t115 = (wrap64 (t116 + t117)) then ((fold_Piece.f (⟨#[97, 32]⟩ : ByteArray)).bind fun t118 => (some (t118.toList == ([97, 32] : List UInt8)))) else (some false)))) = some r := H
              have A17 := Aside0.mk A170
              clear A170
              replace H := Option.bind_eq_some_iff.mp H
              obtain ⟨t116, A180, H⟩ := H
              replace H : ((fold_Count.f k a1).bind fun t117 => (if t115 = (wrap64 (t116 + t117)) then ((fold_Piece.f (⟨#[97, 32]⟩ : ByteArray)).bind fun t118 => (some (t118.toList == ([97, 32] : List UInt8)))) else (some false))) = some r := H
              have A18 := Aside0.mk A180
              clear A180
              replace H := Option.bind_eq_some_iff.mp H
              obtain ⟨t117, A190, H⟩ := H
              replace H : (if t115 = (wrap64 (t116 + t117)) then ((fold_Piece.f (⟨#[97, 32]⟩ : ByteArray)).bind fun t118 => (some (t118.toList == ([97, 32] : List UInt8)))) else (some false)) = some r := H
              have A19 := Aside0.mk A190
              clear A190
              by_cases c20 : t115 = (wrap64 (t116 + t117))
              · rw [if_pos c20] at H
                have c20b0 : (t115 == (wrap64 (t116 + t117))) = true := beq_iff_eq.mpr c20
                have c20b1 : (t115 != (wrap64 (t116 + t117))) = false := bne_eq_false_iff_eq.mpr c20
                clear c20
                replace H := Option.bind_eq_some_iff.mp H
                obtain ⟨t118, A210, H⟩ := H
                replace H : (some (t118.toList == ([97, 32] : List UInt8))) = some r := H
                have A21 := Aside0.mk A210
                clear A210
                obtain rfl := Option.some.inj H
                go_enter Try.func4, Try.ntmps4
                go_wp2_with (first | (go_at_call 7; (with_reducible refine (fold_Right.calls k a0 true _ A6.out).mono ?_); rintro e w' ⟨rfl, ⟨nd, rfl⟩⟩) | (go_at_call 7; (with_reducible refine (fold_Right.calls k a1 true _ A8.out).mono ?_); rintro e w' ⟨rfl, ⟨nd, rfl⟩⟩) | ((with_reducible refine gate_callee (f := 8) rfl ?_); refine goesL_ (some 26) rfl rfl Try.func8 (by kernel_rfl) rfl #[.string (a0 ++ a1)] rfl (by (try simp only [List.map_toArray, List.map_cons, List.map_nil]); first | done | rfl | (simp only [List.length_drop, List.length_take]; rfl)) ?_; (with_reducible refine (fold_Piece.calls (a0 ++ a1) t111 _ A11.out).mono ?_); rintro e w22 ⟨rfl, hb⟩; refine ⟨_, rfl, ?_⟩; have n0_ := Aside0.mk (below_step (by repeat (first | (with_reducible first | exact HB.out | apply below_alloc | apply pw_below_drewN | apply below_drew1) | exact HB.out)) hb); clear HB; have HB := n0_; clear n0_; (try clear hb); (try clear hb2); (try clear hk); (try clear hi)) | ((with_reducible refine gate_callee (f := 8) rfl ?_); refine goesL_ (some 28) rfl rfl Try.func8 (by kernel_rfl) rfl #[.string a0] rfl (by (try simp only [List.map_toArray, List.map_cons, List.map_nil]); first | done | rfl | (simp only [List.length_drop, List.length_take]; rfl)) ?_; (with_reducible refine (fold_Piece.calls a0 t112 _ A12.out).mono ?_); rintro e w23 ⟨rfl, hb⟩; refine ⟨_, rfl, ?_⟩; have n0_ := Aside0.mk (below_step (by repeat (first | (with_reducible first | exact HB.out | apply below_alloc | apply pw_below_drewN | apply below_drew1) | exact HB.out)) hb); clear HB; have HB := n0_; clear n0_; (try clear hb); (try clear hb2); (try clear hk); (try clear hi)) | ((with_reducible refine gate_callee (f := 8) rfl ?_); refine goesL_ (some 30) rfl rfl Try.func8 (by kernel_rfl) rfl #[.string a1] rfl (by (try simp only [List.map_toArray, List.map_cons, List.map_nil]); first | done | rfl | (simp only [List.length_drop, List.length_take]; rfl)) ?_; (with_reducible refine (fold_Piece.calls a1 t113 _ A13.out).mono ?_); rintro e w24 ⟨rfl, hb⟩; refine ⟨_, rfl, ?_⟩; have n0_ := Aside0.mk (below_step (by repeat (first | (with_reducible first | exact HB.out | apply below_alloc | apply pw_below_drewN | apply below_drew1) | exact HB.out)) hb); clear HB; have HB := n0_; clear n0_; (try clear hb); (try clear hb2); (try clear hk); (try clear hi)) | ((with_reducible refine gate_callee (f := 8) rfl ?_); refine goesL_ (some 32) rfl rfl Try.func8 (by kernel_rfl) rfl #[.string (t112 ++ t113)] rfl (by (try simp only [List.map_toArray, List.map_cons, List.map_nil]); first | done | rfl | (simp only [List.length_drop, List.length_take]; rfl)) ?_; (with_reducible refine (fold_Piece.calls (t112 ++ t113) t114 _ A15.out).mono ?_); rintro e w25 ⟨rfl, hb⟩; refine ⟨_, rfl, ?_⟩; have n0_ := Aside0.mk (below_step (by repeat (first | (with_reducible first | exact HB.out | apply below_alloc | apply pw_below_drewN | apply below_drew1) | exact HB.out)) hb); clear HB; have HB := n0_; clear n0_; (try clear hb); (try clear hb2); (try clear hk); (try clear hi)) | (go_at_call 9; (with_reducible refine (fold_Count.calls k (a0 ++ a1) t115 _ A17.out).mono ?_); rintro e w' ⟨rfl, ⟨nd, rfl⟩⟩) | (go_at_call 9; (with_reducible refine (fold_Count.calls k a0 t116 _ A18.out).mono ?_); rintro e w' ⟨rfl, ⟨nd, rfl⟩⟩) | (go_at_call 9; (with_reducible refine (fold_Count.calls k a1 t117 _ A19.out).mono ?_); rintro e w' ⟨rfl, ⟨nd, rfl⟩⟩) | (go_at_call 8; (with_reducible refine (fold_Piece.calls (⟨#[97, 32]⟩ : ByteArray) t118 _ A21.out).mono ?_); rintro e w26 ⟨rfl, hb⟩; have n0_ := Aside0.mk (below_step (by repeat (first | (with_reducible first | exact HB.out | apply below_alloc | apply pw_below_drewN | apply below_drew1) | exact HB.out)) hb); clear HB; have HB := n0_; clear n0_; (try clear hb); (try clear hb2); (try clear hk); (try clear hi)))
                go_ret
                exact ⟨by first | rfl | (simp [errW_none, errW_some] <;> rfl) | (simp [*, errW_none, errW_some] <;> rfl), by repeat (first | (with_reducible first | exact HB.out | apply below_alloc | apply pw_below_drewN | apply below_drew1) | exact HB.out)⟩
              · rw [if_neg c20] at H
                have c20b0 : (t115 == (wrap64 (t116 + t117))) = false := beq_eq_false_iff_ne.mpr c20
                have c20b1 : (t115 != (wrap64 (t116 + t117))) = true := bne_iff_ne.mpr c20
                obtain rfl := Option.some.inj H
                go_enter Try.func4, Try.ntmps4
                go_wp2_with (first | (go_at_call 7; (with_reducible refine (fold_Right.calls k a0 true _ A6.out).mono ?_); rintro e w' ⟨rfl, ⟨nd, rfl⟩⟩) | (go_at_call 7; (with_reducible refine (fold_Right.calls k a1 true _ A8.out).mono ?_); rintro e w' ⟨rfl, ⟨nd, rfl⟩⟩) | ((with_reducible refine gate_callee (f := 8) rfl ?_); refine goesL_ (some 26) rfl rfl Try.func8 (by kernel_rfl) rfl #[.string (a0 ++ a1)] rfl (by (try simp only [List.map_toArray, List.map_cons, List.map_nil]); first | done | rfl | (simp only [List.length_drop, List.length_take]; rfl)) ?_; (with_reducible refine (fold_Piece.calls (a0 ++ a1) t111 _ A11.out).mono ?_); rintro e w27 ⟨rfl, hb⟩; refine ⟨_, rfl, ?_⟩; have n0_ := Aside0.mk (below_step (by repeat (first | (with_reducible first | exact HB.out | apply below_alloc | apply pw_below_drewN | apply below_drew1) | exact HB.out)) hb); clear HB; have HB := n0_; clear n0_; (try clear hb); (try clear hb2); (try clear hk); (try clear hi)) | ((with_reducible refine gate_callee (f := 8) rfl ?_); refine goesL_ (some 28) rfl rfl Try.func8 (by kernel_rfl) rfl #[.string a0] rfl (by (try simp only [List.map_toArray, List.map_cons, List.map_nil]); first | done | rfl | (simp only [List.length_drop, List.length_take]; rfl)) ?_; (with_reducible refine (fold_Piece.calls a0 t112 _ A12.out).mono ?_); rintro e w28 ⟨rfl, hb⟩; refine ⟨_, rfl, ?_⟩; have n0_ := Aside0.mk (below_step (by repeat (first | (with_reducible first | exact HB.out | apply below_alloc | apply pw_below_drewN | apply below_drew1) | exact HB.out)) hb); clear HB; have HB := n0_; clear n0_; (try clear hb); (try clear hb2); (try clear hk); (try clear hi)) | ((with_reducible refine gate_callee (f := 8) rfl ?_); refine goesL_ (some 30) rfl rfl Try.func8 (by kernel_rfl) rfl #[.string a1] rfl (by (try simp only [List.map_toArray, List.map_cons, List.map_nil]); first | done | rfl | (simp only [List.length_drop, List.length_take]; rfl)) ?_; (with_reducible refine (fold_Piece.calls a1 t113 _ A13.out).mono ?_); rintro e w29 ⟨rfl, hb⟩; refine ⟨_, rfl, ?_⟩; have n0_ := Aside0.mk (below_step (by repeat (first | (with_reducible first | exact HB.out | apply below_alloc | apply pw_below_drewN | apply below_drew1) | exact HB.out)) hb); clear HB; have HB := n0_; clear n0_; (try clear hb); (try clear hb2); (try clear hk); (try clear hi)) | ((with_reducible refine gate_callee (f := 8) rfl ?_); refine goesL_ (some 32) rfl rfl Try.func8 (by kernel_rfl) rfl #[.string (t112 ++ t113)] rfl (by (try simp only [List.map_toArray, List.map_cons, List.map_nil]); first | done | rfl | (simp only [List.length_drop, List.length_take]; rfl)) ?_; (with_reducible refine (fold_Piece.calls (t112 ++ t113) t114 _ A15.out).mono ?_); rintro e w30 ⟨rfl, hb⟩; refine ⟨_, rfl, ?_⟩; have n0_ := Aside0.mk (below_step (by repeat (first | (with_reducible first | exact HB.out | apply below_alloc | apply pw_below_drewN | apply below_drew1) | exact HB.out)) hb); clear HB; have HB := n0_; clear n0_; (try clear hb); (try clear hb2); (try clear hk); (try clear hi)) | (go_at_call 9; (with_reducible refine (fold_Count.calls k (a0 ++ a1) t115 _ A17.out).mono ?_); rintro e w' ⟨rfl, ⟨nd, rfl⟩⟩) | (go_at_call 9; (with_reducible refine (fold_Count.calls k a0 t116 _ A18.out).mono ?_); rintro e w' ⟨rfl, ⟨nd, rfl⟩⟩) | (go_at_call 9; (with_reducible refine (fold_Count.calls k a1 t117 _ A19.out).mono ?_); rintro e w' ⟨rfl, ⟨nd, rfl⟩⟩))
                go_ret
                exact ⟨by first | rfl | (simp [errW_none, errW_some] <;> rfl) | (simp [*, errW_none, errW_some] <;> rfl), by repeat (first | (with_reducible first | exact HB.out | apply below_alloc | apply pw_below_drewN | apply below_drew1) | exact HB.out)⟩
            · rw [if_neg c16] at H
              have c16b0 : (t111.toList == t114.toList) = false := beq_eq_false_iff_ne.mpr c16
              have c16b1 : (t111.toList != t114.toList) = true := bne_iff_ne.mpr c16
              obtain rfl := Option.some.inj H
              go_enter Try.func4, Try.ntmps4
              go_wp2_with (first | (go_at_call 7; (with_reducible refine (fold_Right.calls k a0 true _ A6.out).mono ?_); rintro e w' ⟨rfl, ⟨nd, rfl⟩⟩) | (go_at_call 7; (with_reducible refine (fold_Right.calls k a1 true _ A8.out).mono ?_); rintro e w' ⟨rfl, ⟨nd, rfl⟩⟩) | ((with_reducible refine gate_callee (f := 8) rfl ?_); refine goesL_ (some 26) rfl rfl Try.func8 (by kernel_rfl) rfl #[.string (a0 ++ a1)] rfl (by (try simp only [List.map_toArray, List.map_cons, List.map_nil]); first | done | rfl | (simp only [List.length_drop, List.length_take]; rfl)) ?_; (with_reducible refine (fold_Piece.calls (a0 ++ a1) t111 _ A11.out).mono ?_); rintro e w31 ⟨rfl, hb⟩; refine ⟨_, rfl, ?_⟩; have n0_ := Aside0.mk (below_step (by repeat (first | (with_reducible first | exact HB.out | apply below_alloc | apply pw_below_drewN | apply below_drew1) | exact HB.out)) hb); clear HB; have HB := n0_; clear n0_; (try clear hb); (try clear hb2); (try clear hk); (try clear hi)) | ((with_reducible refine gate_callee (f := 8) rfl ?_); refine goesL_ (some 28) rfl rfl Try.func8 (by kernel_rfl) rfl #[.string a0] rfl (by (try simp only [List.map_toArray, List.map_cons, List.map_nil]); first | done | rfl | (simp only [List.length_drop, List.length_take]; rfl)) ?_; (with_reducible refine (fold_Piece.calls a0 t112 _ A12.out).mono ?_); rintro e w32 ⟨rfl, hb⟩; refine ⟨_, rfl, ?_⟩; have n0_ := Aside0.mk (below_step (by repeat (first | (with_reducible first | exact HB.out | apply below_alloc | apply pw_below_drewN | apply below_drew1) | exact HB.out)) hb); clear HB; have HB := n0_; clear n0_; (try clear hb); (try clear hb2); (try clear hk); (try clear hi)) | ((with_reducible refine gate_callee (f := 8) rfl ?_); refine goesL_ (some 30) rfl rfl Try.func8 (by kernel_rfl) rfl #[.string a1] rfl (by (try simp only [List.map_toArray, List.map_cons, List.map_nil]); first | done | rfl | (simp only [List.length_drop, List.length_take]; rfl)) ?_; (with_reducible refine (fold_Piece.calls a1 t113 _ A13.out).mono ?_); rintro e w33 ⟨rfl, hb⟩; refine ⟨_, rfl, ?_⟩; have n0_ := Aside0.mk (below_step (by repeat (first | (with_reducible first | exact HB.out | apply below_alloc | apply pw_below_drewN | apply below_drew1) | exact HB.out)) hb); clear HB; have HB := n0_; clear n0_; (try clear hb); (try clear hb2); (try clear hk); (try clear hi)) | ((with_reducible refine gate_callee (f := 8) rfl ?_); refine goesL_ (some 32) rfl rfl Try.func8 (by kernel_rfl) rfl #[.string (t112 ++ t113)] rfl (by (try simp only [List.map_toArray, List.map_cons, List.map_nil]); first | done | rfl | (simp only [List.length_drop, List.length_take]; rfl)) ?_; (with_reducible refine (fold_Piece.calls (t112 ++ t113) t114 _ A15.out).mono ?_); rintro e w34 ⟨rfl, hb⟩; refine ⟨_, rfl, ?_⟩; have n0_ := Aside0.mk (below_step (by repeat (first | (with_reducible first | exact HB.out | apply below_alloc | apply pw_below_drewN | apply below_drew1) | exact HB.out)) hb); clear HB; have HB := n0_; clear n0_; (try clear hb); (try clear hb2); (try clear hk); (try clear hi)))
              go_ret
              exact ⟨by first | rfl | (simp [errW_none, errW_some] <;> rfl) | (simp [*, errW_none, errW_some] <;> rfl), by repeat (first | (with_reducible first | exact HB.out | apply below_alloc | apply pw_below_drewN | apply below_drew1) | exact HB.out)⟩
          · rw [if_neg c14] at H
            exact absurd H (by simp)
        · rw [if_neg c10] at H
          exact absurd H (by simp)
      · replace c9 := Bool.eq_false_iff.mpr c9
        subst c9
        have H1 : ((fold_Piece.f (⟨#[32, 65]⟩ : ByteArray)).bind fun t119 => (some (t119.toList == ([32, 97] : List UInt8)))) = some r := by rw [if_neg (show ¬ (false = true) by decide)] at H; exact H
        clear H
        have H := H1
        clear H1
        replace H := Option.bind_eq_some_iff.mp H
        obtain ⟨t119, A350, H⟩ := H
        replace H : (some (t119.toList == ([32, 97] : List UInt8))) = some r := H
        have A35 := Aside0.mk A350
        clear A350
        obtain rfl := Option.some.inj H
        go_enter Try.func4, Try.ntmps4
        go_wp2_with (first | (go_at_call 7; (with_reducible refine (fold_Right.calls k a0 true _ A6.out).mono ?_); rintro e w' ⟨rfl, ⟨nd, rfl⟩⟩) | (go_at_call 7; (with_reducible refine (fold_Right.calls k a1 false _ A8.out).mono ?_); rintro e w' ⟨rfl, ⟨nd, rfl⟩⟩) | ((with_reducible refine gate_callee (f := 8) rfl ?_); refine goesL_ (some 21) rfl rfl Try.func8 (by kernel_rfl) rfl #[.string (⟨#[32, 65]⟩ : ByteArray)] rfl (by (try simp only [List.map_toArray, List.map_cons, List.map_nil]); first | done | rfl | (simp only [List.length_drop, List.length_take]; rfl)) ?_; (with_reducible refine (fold_Piece.calls (⟨#[32, 65]⟩ : ByteArray) t119 _ A35.out).mono ?_); rintro e w36 ⟨rfl, hb⟩; refine ⟨_, rfl, ?_⟩; have n0_ := Aside0.mk (below_step (by repeat (first | (with_reducible first | exact HB.out | apply below_alloc | apply pw_below_drewN | apply below_drew1) | exact HB.out)) hb); clear HB; have HB := n0_; clear n0_; (try clear hb); (try clear hb2); (try clear hk); (try clear hi)))
        go_ret
        exact ⟨by first | rfl | (simp [errW_none, errW_some] <;> rfl) | (simp [*, errW_none, errW_some] <;> rfl), by repeat (first | (with_reducible first | exact HB.out | apply below_alloc | apply pw_below_drewN | apply below_drew1) | exact HB.out)⟩
    · replace c7 := Bool.eq_false_iff.mpr c7
      subst c7
      have H1 : ((fold_Piece.f (⟨#[32, 65]⟩ : ByteArray)).bind fun t120 => (some (t120.toList == ([32, 97] : List UInt8)))) = some r := by rw [if_neg (show ¬ (false = true) by decide)] at H; exact H
      clear H
      have H := H1
      clear H1
      replace H := Option.bind_eq_some_iff.mp H
      obtain ⟨t120, A370, H⟩ := H
      replace H : (some (t120.toList == ([32, 97] : List UInt8))) = some r := H
      have A37 := Aside0.mk A370
      clear A370
      obtain rfl := Option.some.inj H
      go_enter Try.func4, Try.ntmps4
      go_wp2_with (first | (go_at_call 7; (with_reducible refine (fold_Right.calls k a0 false _ A6.out).mono ?_); rintro e w' ⟨rfl, ⟨nd, rfl⟩⟩) | ((with_reducible refine gate_callee (f := 8) rfl ?_); refine goesL_ (some 21) rfl rfl Try.func8 (by kernel_rfl) rfl #[.string (⟨#[32, 65]⟩ : ByteArray)] rfl (by (try simp only [List.map_toArray, List.map_cons, List.map_nil]); first | done | rfl | (simp only [List.length_drop, List.length_take]; rfl)) ?_; (with_reducible refine (fold_Piece.calls (⟨#[32, 65]⟩ : ByteArray) t120 _ A37.out).mono ?_); rintro e w38 ⟨rfl, hb⟩; refine ⟨_, rfl, ?_⟩; have n0_ := Aside0.mk (below_step (by repeat (first | (with_reducible first | exact HB.out | apply below_alloc | apply pw_below_drewN | apply below_drew1) | exact HB.out)) hb); clear HB; have HB := n0_; clear n0_; (try clear hb); (try clear hb2); (try clear hk); (try clear hi)))
      go_ret
      exact ⟨by first | rfl | (simp [errW_none, errW_some] <;> rfl) | (simp [*, errW_none, errW_some] <;> rfl), by repeat (first | (with_reducible first | exact HB.out | apply below_alloc | apply pw_below_drewN | apply below_drew1) | exact HB.out)⟩

/-- THE ONE PURE STATEMENT of peeragelaw05_FoldJoins: yours. -/
def peeragelaw05_FoldJoins.Pure : Prop := ∀ (a0 : ByteArray) (a1 : ByteArray), a0.size ≤ 140737488351232 → a1.size ≤ 140737488351232 → ∃ k, peeragelaw05_FoldJoins.f k a0 a1 = some true
theorem peeragelaw05_FoldJoins.walk (P : peeragelaw05_FoldJoins.Pure) (a0 : ByteArray) (a1 : ByteArray) (w : World) (w0 : a0.size ≤ 140737488351232) (w1 : a1.size ≤ 140737488351232) :
    Calls Try.prog 4 #[.string a0, .string a1] w fun e w' => e = .returned (.bool true) ∧ Below w.heap.size w w' := by
  obtain ⟨k, h⟩ := P a0 a1 w0 w1
  refine (peeragelaw05_FoldJoins.calls k a0 a1 true w h).mono ?_
  rintro e w' ⟨rfl, hd⟩
  exact ⟨rfl, hd⟩

end Go.Proofs.Ytmlihcknkgfhaaa.LFoldJoins
