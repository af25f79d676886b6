/- Functions that a law calls, and the walk of the law itself, told by a program of this session (pp.py) over the kit printer; no condition beyond the statement itself; not trusted: Lean checks it. -/
import Derived.Test.YtmlihcknkgfhaaaDoorLFoldTellsx0
namespace Go.Proofs.YtmlihcknkgfhaaaDoor.LFoldTells
open Go.RowKit Go.Proofs.YtmlihcknkgfhaaaDoor.H Go.Proofs.YtmlihcknkgfhaaaDoor.PFold Go.Proofs.YtmlihcknkgfhaaaDoor.LFoldNumbers Go.Proofs.YtmlihcknkgfhaaaDoorW.PrintWords Go.Proofs.YtmlihcknkgfhaaaDoorW.PrintLast Go.Proofs.YtmlihcknkgfhaaaDoorW.PrintMore
attribute [local go_sem] max2_int min2_int max_two min_two max_three min_three max_four min_four   -- for this text's walks alone
set_option linter.unusedVariables false
set_option linter.unusedSimpArgs false

-- NOT PRINTED: function 48 (bytealg_IndexByteString)

-- NOT PRINTED: function 39 (stringslite_IndexByte)

-- NOT PRINTED: function 40 (bytealg_IndexString)

-- NOT PRINTED: function 34 (stringslite_Index)

-- NOT PRINTED: function 24 (strings_Index)

-- NOT PRINTED: function 47 (abi_NoEscape)

-- NOT PRINTED: function 38 (strings_Builder_copyCheck)

-- NOT PRINTED: function 28 (strings_Builder_WriteString)

-- NOT PRINTED: function 30 (strings_Builder_String)

-- NOT PRINTED: function 43 (utf8_RuneCountInString)

-- NOT PRINTED: function 44 (bytealg_CountString)

-- NOT PRINTED: function 35 (strings_Count)

-- NOT PRINTED: function 50 (bytealg_MakeNoZero)

-- NOT PRINTED: function 45 (strings_Builder_grow)

-- NOT PRINTED: function 36 (strings_Builder_Grow)

-- NOT PRINTED: function 46 (utf8_decodeRuneInStringSlow)

-- NOT PRINTED: function 37 (utf8_DecodeRuneInString)

-- NOT PRINTED: function 25 (strings_Replace)

-- NOT PRINTED: function 27 (strings_Builder_Len)

-- NOT PRINTED: function 29 (fold_small)

/-! ### fold_Fold: function 12 -/
def fold_Fold.f (a0 : ByteArray) : Option (ByteArray) := (fold_prepared.f a0 false true).bind fun t112 => (some t112)
set_option maxHeartbeats 2000000 in
set_option maxRecDepth 100000 in
theorem fold_Fold.calls (a0 : ByteArray) (r : ByteArray) (w : World) (h : fold_Fold.f a0 = some r) :
    Calls Tryd.prog 12 #[.string a0] w fun e w' => e = .returned (.string r) ∧ Below w.heap.size w w' := by
  have HB := Aside0.mk (Below.refl w.heap.size w)
  have H : ((fold_prepared.f a0 false true).bind fun t112 => (some t112)) = some r := h
  clear h
  replace H := Option.bind_eq_some_iff.mp H
  obtain ⟨t112, A20, H⟩ := H
  replace H : (some t112) = some r := H
  have A2 := Aside0.mk A20
  clear A20
  obtain rfl := Option.some.inj H
  go_enter Tryd.func12, Tryd.ntmps12
  go_wp2_with (first | ((with_reducible refine gate_callee (f := 22) rfl ?_); refine goesL_ (some 4) rfl rfl Tryd.func22 (by kernel_rfl) rfl #[.string a0, .bool false, .bool true] rfl (by (try simp only [List.map_toArray, List.map_cons, List.map_nil]); first | done | rfl | (simp only [List.length_drop, List.length_take]; rfl)) ?_; (with_reducible refine (fold_prepared.calls a0 false true t112 _ A2.out).mono ?_); rintro e w3 ⟨rfl, hb⟩; refine ⟨_, rfl, ?_⟩; have n0_ := Aside0.mk (below_step (by repeat (first | (with_reducible first | exact HB.out | apply below_alloc | apply pw_below_drewN | apply below_drew1) | exact HB.out)) hb); clear HB; have HB := n0_; clear n0_; (try clear hb); (try clear hb2); (try clear hk); (try clear hi)))
  go_ret
  exact ⟨by first | rfl | (simp [errW_none, errW_some] <;> rfl) | (simp [*, errW_none, errW_some] <;> rfl), by repeat (first | (with_reducible first | exact HB.out | apply below_alloc | apply pw_below_drewN | apply below_drew1) | exact HB.out)⟩

/-! ### peerageref05_Fold: function 13 -/
def peerageref05_Fold.f (k : Nat) (a0 : ByteArray) : Option (ByteArray) := (peerageref05_prepared.f k a0 false true).bind fun t127 => (some t127)
theorem peerageref05_Fold.mono : ∀ a0 k, LeO (peerageref05_Fold.f k a0) (peerageref05_Fold.f (k + 1) a0) := by
  intro a0 k
  unfold peerageref05_Fold.f
  repeat' first
      | (with_reducible exact peerageref05_prepared.mono _ _ _ _)
      | (with_reducible exact LeO.refl _)
      | (with_reducible exact LeO.none _)
      | (with_reducible refine LeO.ite ?_ ?_)
      | (with_reducible refine LeO.bind ?_ (fun _ => ?_))
      | exact peerageref05_prepared.mono _ _ _ _
      | exact LeO.none _
      | refine LeO.ite ?_ ?_
      | refine LeO.bind ?_ (fun _ => ?_)
set_option maxHeartbeats 2000000 in
set_option maxRecDepth 100000 in
theorem peerageref05_Fold.calls (k : Nat) (a0 : ByteArray) (r : ByteArray) (w : World) (h : peerageref05_Fold.f k a0 = some r) :
    Calls Tryd.prog 13 #[.string a0] w fun e w' => e = .returned (.string r) ∧ Below w.heap.size w w' := by
  have HB := Aside0.mk (Below.refl w.heap.size w)
  have H : ((peerageref05_prepared.f k a0 false true).bind fun t127 => (some t127)) = some r := h
  clear h
  replace H := Option.bind_eq_some_iff.mp H
  obtain ⟨t127, A20, H⟩ := H
  replace H : (some t127) = some r := H
  have A2 := Aside0.mk A20
  clear A20
  obtain rfl := Option.some.inj H
  go_enter Tryd.func13, Tryd.ntmps13
  go_wp2_with (first | ((with_reducible refine gate_callee (f := 23) rfl ?_); refine goesL_ (some 4) rfl rfl Tryd.func23 (by kernel_rfl) rfl #[.string a0, .bool false, .bool true] rfl (by (try simp only [List.map_toArray, List.map_cons, List.map_nil]); first | done | rfl | (simp only [List.length_drop, List.length_take]; rfl)) ?_; (with_reducible refine (peerageref05_prepared.calls k a0 false true t127 _ A2.out).mono ?_); rintro e w3 ⟨rfl, hb⟩; refine ⟨_, rfl, ?_⟩; have n0_ := Aside0.mk (below_step (by repeat (first | (with_reducible first | exact HB.out | apply below_alloc | apply pw_below_drewN | apply below_drew1) | exact HB.out)) hb); clear HB; have HB := n0_; clear n0_; (try clear hb); (try clear hb2); (try clear hk); (try clear hi)))
  go_ret
  exact ⟨by first | rfl | (simp [errW_none, errW_some] <;> rfl) | (simp [*, errW_none, errW_some] <;> rfl), by repeat (first | (with_reducible first | exact HB.out | apply below_alloc | apply pw_below_drewN | apply below_drew1) | exact HB.out)⟩

/-! ### fold_Piece: function 14 -/
def fold_Piece.f (a0 : ByteArray) : Option (ByteArray) := (fold_prepared.f a0 true true).bind fun t128 => (some t128)
set_option maxHeartbeats 2000000 in
set_option maxRecDepth 100000 in
theorem fold_Piece.calls (a0 : ByteArray) (r : ByteArray) (w : World) (h : fold_Piece.f a0 = some r) :
    Calls Tryd.prog 14 #[.string a0] w fun e w' => e = .returned (.string r) ∧ Below w.heap.size w w' := by
  have HB := Aside0.mk (Below.refl w.heap.size w)
  have H : ((fold_prepared.f a0 true true).bind fun t128 => (some t128)) = some r := h
  clear h
  replace H := Option.bind_eq_some_iff.mp H
  obtain ⟨t128, A20, H⟩ := H
  replace H : (some t128) = some r := H
  have A2 := Aside0.mk A20
  clear A20
  obtain rfl := Option.some.inj H
  go_enter Tryd.func14, Tryd.ntmps14
  go_wp2_with (first | ((with_reducible refine gate_callee (f := 22) rfl ?_); refine goesL_ (some 4) rfl rfl Tryd.func22 (by kernel_rfl) rfl #[.string a0, .bool true, .bool true] rfl (by (try simp only [List.map_toArray, List.map_cons, List.map_nil]); first | done | rfl | (simp only [List.length_drop, List.length_take]; rfl)) ?_; (with_reducible refine (fold_prepared.calls a0 true true t128 _ A2.out).mono ?_); rintro e w3 ⟨rfl, hb⟩; refine ⟨_, rfl, ?_⟩; have n0_ := Aside0.mk (below_step (by repeat (first | (with_reducible first | exact HB.out | apply below_alloc | apply pw_below_drewN | apply below_drew1) | exact HB.out)) hb); clear HB; have HB := n0_; clear n0_; (try clear hb); (try clear hb2); (try clear hk); (try clear hi)))
  go_ret
  exact ⟨by first | rfl | (simp [errW_none, errW_some] <;> rfl) | (simp [*, errW_none, errW_some] <;> rfl), by repeat (first | (with_reducible first | exact HB.out | apply below_alloc | apply pw_below_drewN | apply below_drew1) | exact HB.out)⟩

/-! ### peerageref05_Piece: function 15 -/
def peerageref05_Piece.f (k : Nat) (a0 : ByteArray) : Option (ByteArray) := (peerageref05_prepared.f k a0 true true).bind fun t129 => (some t129)
theorem peerageref05_Piece.mono : ∀ a0 k, LeO (peerageref05_Piece.f k a0) (peerageref05_Piece.f (k + 1) a0) := by
  intro a0 k
  unfold peerageref05_Piece.f
  repeat' first
      | (with_reducible exact peerageref05_prepared.mono _ _ _ _)
      | (with_reducible exact LeO.refl _)
      | (with_reducible exact LeO.none _)
      | (with_reducible refine LeO.ite ?_ ?_)
      | (with_reducible refine LeO.bind ?_ (fun _ => ?_))
      | exact peerageref05_prepared.mono _ _ _ _
      | exact LeO.none _
      | refine LeO.ite ?_ ?_
      | refine LeO.bind ?_ (fun _ => ?_)
set_option maxHeartbeats 2000000 in
set_option maxRecDepth 100000 in
theorem peerageref05_Piece.calls (k : Nat) (a0 : ByteArray) (r : ByteArray) (w : World) (h : peerageref05_Piece.f k a0 = some r) :
    Calls Tryd.prog 15 #[.string a0] w fun e w' => e = .returned (.string r) ∧ Below w.heap.size w w' := by
  have HB := Aside0.mk (Below.refl w.heap.size w)
  have H : ((peerageref05_prepared.f k a0 true true).bind fun t129 => (some t129)) = some r := h
  clear h
  replace H := Option.bind_eq_some_iff.mp H
  obtain ⟨t129, A20, H⟩ := H
  replace H : (some t129) = some r := H
  have A2 := Aside0.mk A20
  clear A20
  obtain rfl := Option.some.inj H
  go_enter Tryd.func15, Tryd.ntmps15
  go_wp2_with (first | ((with_reducible refine gate_callee (f := 23) rfl ?_); refine goesL_ (some 4) rfl rfl Tryd.func23 (by kernel_rfl) rfl #[.string a0, .bool true, .bool true] rfl (by (try simp only [List.map_toArray, List.map_cons, List.map_nil]); first | done | rfl | (simp only [List.length_drop, List.length_take]; rfl)) ?_; (with_reducible refine (peerageref05_prepared.calls k a0 true true t129 _ A2.out).mono ?_); rintro e w3 ⟨rfl, hb⟩; refine ⟨_, rfl, ?_⟩; have n0_ := Aside0.mk (below_step (by repeat (first | (with_reducible first | exact HB.out | apply below_alloc | apply pw_below_drewN | apply below_drew1) | exact HB.out)) hb); clear HB; have HB := n0_; clear n0_; (try clear hb); (try clear hb2); (try clear hk); (try clear hi)))
  go_ret
  exact ⟨by first | rfl | (simp [errW_none, errW_some] <;> rfl) | (simp [*, errW_none, errW_some] <;> rfl), by repeat (first | (with_reducible first | exact HB.out | apply below_alloc | apply pw_below_drewN | apply below_drew1) | exact HB.out)⟩

/-! ### fold_Exact: function 16 -/
def fold_Exact.f (a0 : ByteArray) : Option (ByteArray) := (fold_prepared.f a0 false false).bind fun t130 => (some t130)
set_option maxHeartbeats 2000000 in
set_option maxRecDepth 100000 in
theorem fold_Exact.calls (a0 : ByteArray) (r : ByteArray) (w : World) (h : fold_Exact.f a0 = some r) :
    Calls Tryd.prog 16 #[.string a0] w fun e w' => e = .returned (.string r) ∧ Below w.heap.size w w' := by
  have HB := Aside0.mk (Below.refl w.heap.size w)
  have H : ((fold_prepared.f a0 false false).bind fun t130 => (some t130)) = some r := h
  clear h
  replace H := Option.bind_eq_some_iff.mp H
  obtain ⟨t130, A20, H⟩ := H
  replace H : (some t130) = some r := H
  have A2 := Aside0.mk A20
  clear A20
  obtain rfl := Option.some.inj H
  go_enter Tryd.func16, Tryd.ntmps16
  go_wp2_with (first | ((with_reducible refine gate_callee (f := 22) rfl ?_); refine goesL_ (some 4) rfl rfl Tryd.func22 (by kernel_rfl) rfl #[.string a0, .bool false, .bool false] rfl (by (try simp only [List.map_toArray, List.map_cons, List.map_nil]); first | done | rfl | (simp only [List.length_drop, List.length_take]; rfl)) ?_; (with_reducible refine (fold_prepared.calls a0 false false t130 _ A2.out).mono ?_); rintro e w3 ⟨rfl, hb⟩; refine ⟨_, rfl, ?_⟩; have n0_ := Aside0.mk (below_step (by repeat (first | (with_reducible first | exact HB.out | apply below_alloc | apply pw_below_drewN | apply below_drew1) | exact HB.out)) hb); clear HB; have HB := n0_; clear n0_; (try clear hb); (try clear hb2); (try clear hk); (try clear hi)))
  go_ret
  exact ⟨by first | rfl | (simp [errW_none, errW_some] <;> rfl) | (simp [*, errW_none, errW_some] <;> rfl), by repeat (first | (with_reducible first | exact HB.out | apply below_alloc | apply pw_below_drewN | apply below_drew1) | exact HB.out)⟩

/-! ### peerageref05_Exact: function 17 -/
def peerageref05_Exact.f (k : Nat) (a0 : ByteArray) : Option (ByteArray) := (peerageref05_prepared.f k a0 false false).bind fun t131 => (some t131)
theorem peerageref05_Exact.mono : ∀ a0 k, LeO (peerageref05_Exact.f k a0) (peerageref05_Exact.f (k + 1) a0) := by
  intro a0 k
  unfold peerageref05_Exact.f
  repeat' first
      | (with_reducible exact peerageref05_prepared.mono _ _ _ _)
      | (with_reducible exact LeO.refl _)
      | (with_reducible exact LeO.none _)
      | (with_reducible refine LeO.ite ?_ ?_)
      | (with_reducible refine LeO.bind ?_ (fun _ => ?_))
      | exact peerageref05_prepared.mono _ _ _ _
      | exact LeO.none _
      | refine LeO.ite ?_ ?_
      | refine LeO.bind ?_ (fun _ => ?_)
set_option maxHeartbeats 2000000 in
set_option maxRecDepth 100000 in
theorem peerageref05_Exact.calls (k : Nat) (a0 : ByteArray) (r : ByteArray) (w : World) (h : peerageref05_Exact.f k a0 = some r) :
    Calls Tryd.prog 17 #[.string a0] w fun e w' => e = .returned (.string r) ∧ Below w.heap.size w w' := by
  have HB := Aside0.mk (Below.refl w.heap.size w)
  have H : ((peerageref05_prepared.f k a0 false false).bind fun t131 => (some t131)) = some r := h
  clear h
  replace H := Option.bind_eq_some_iff.mp H
  obtain ⟨t131, A20, H⟩ := H
  replace H : (some t131) = some r := H
  have A2 := Aside0.mk A20
  clear A20
  obtain rfl := Option.some.inj H
  go_enter Tryd.func17, Tryd.ntmps17
  go_wp2_with (first | ((with_reducible refine gate_callee (f := 23) rfl ?_); refine goesL_ (some 4) rfl rfl Tryd.func23 (by kernel_rfl) rfl #[.string a0, .bool false, .bool false] rfl (by (try simp only [List.map_toArray, List.map_cons, List.map_nil]); first | done | rfl | (simp only [List.length_drop, List.length_take]; rfl)) ?_; (with_reducible refine (peerageref05_prepared.calls k a0 false false t131 _ A2.out).mono ?_); rintro e w3 ⟨rfl, hb⟩; refine ⟨_, rfl, ?_⟩; have n0_ := Aside0.mk (below_step (by repeat (first | (with_reducible first | exact HB.out | apply below_alloc | apply pw_below_drewN | apply below_drew1) | exact HB.out)) hb); clear HB; have HB := n0_; clear n0_; (try clear hb); (try clear hb2); (try clear hk); (try clear hi)))
  go_ret
  exact ⟨by first | rfl | (simp [errW_none, errW_some] <;> rfl) | (simp [*, errW_none, errW_some] <;> rfl), by repeat (first | (with_reducible first | exact HB.out | apply below_alloc | apply pw_below_drewN | apply below_drew1) | exact HB.out)⟩

/-! ### peeragelaw05_FoldTells: function 3 -/
def peeragelaw05_FoldTells.f (k : Nat) (a0 : ByteArray) (a1 : ByteArray) (a2 : Int) : Option (Bool) := if (wrap64 ((a0.size : Int) + (a1.size : Int))) > 600 then (some true) else ((fold_Next.f k a0).bind fun bt132 => ((peerageref05_Next.f k a0).bind fun bt134 => ((fold_Numeric.f k a0).bind fun bt136 => ((peerageref05_Numeric.f k a0).bind fun bt138 => (if bt132.1 = bt134.1 then (if bt132.2 = bt134.2 then ((fold_Count.f k a0).bind fun t140 => ((peerageref05_Count.f k a0).bind fun t141 => (if t140 = t141 then ((fold_Right.f k a0).bind fun t142 => ((peerageref05_Count.f k a0).bind fun t143 => (if (t142 == (decide (t143 ≥ 0))) = true then ((fold_Fold.f a0).bind fun t144 => ((peerageref05_Fold.f k a0).bind fun t145 => (if t144.toList = t145.toList then ((fold_Piece.f a0).bind fun t146 => ((peerageref05_Piece.f k a0).bind fun t147 => (if t146.toList = t147.toList then ((fold_Exact.f a0).bind fun t148 => ((peerageref05_Exact.f k a0).bind fun t149 => (if t148.toList = t149.toList then (if bt136.1.toList = bt138.1.toList then (if (bt136.2 == bt138.2) = true then ((fold_Find.f a0 a1 a2).bind fun t150 => ((peerageref05_Find.f k a0 a1 a2).bind fun t151 => (if t150 = t151 then ((fold_Fold.f (⟨#[32, 70, 111, 111, 32, 32, 66, 97, 114, 32]⟩ : ByteArray)).bind fun t152 => (some (t152.toList == ([102, 111, 111, 32, 98, 97, 114] : List UInt8)))) else (some false)))) else (some false)) else (some false)) else (some false)))) else (some false)))) else (some false)))) else (some false)))) else (some false)))) else (some false)) else (some false))))))
theorem peeragelaw05_FoldTells.mono : ∀ a0 a1 a2 k, LeO (peeragelaw05_FoldTells.f k a0 a1 a2) (peeragelaw05_FoldTells.f (k + 1) a0 a1 a2) := by
  intro a0 a1 a2 k
  unfold peeragelaw05_FoldTells.f
  repeat' first
      | (with_reducible exact fold_Count.mono _ _)
      | (with_reducible exact fold_Next.mono _ _)
      | (with_reducible exact fold_Numeric.mono _ _)
      | (with_reducible exact fold_Right.mono _ _)
      | (with_reducible exact peerageref05_Count.mono _ _)
      | (with_reducible exact peerageref05_Exact.mono _ _)
      | (with_reducible exact peerageref05_Find.mono _ _ _ _)
      | (with_reducible exact peerageref05_Fold.mono _ _)
      | (with_reducible exact peerageref05_Next.mono _ _)
      | (with_reducible exact peerageref05_Numeric.mono _ _)
      | (with_reducible exact peerageref05_Piece.mono _ _)
      | (with_reducible exact LeO.refl _)
      | (with_reducible exact LeO.none _)
      | (with_reducible refine LeO.ite ?_ ?_)
      | (with_reducible refine LeO.bind ?_ (fun _ => ?_))
      | exact fold_Count.mono _ _
      | exact fold_Next.mono _ _
      | exact fold_Numeric.mono _ _
      | exact fold_Right.mono _ _
      | exact peerageref05_Count.mono _ _
      | exact peerageref05_Exact.mono _ _
      | exact peerageref05_Find.mono _ _ _ _
      | exact peerageref05_Fold.mono _ _
      | exact peerageref05_Next.mono _ _
      | exact peerageref05_Numeric.mono _ _
      | exact peerageref05_Piece.mono _ _
      | exact LeO.none _
      | refine LeO.ite ?_ ?_
      | refine LeO.bind ?_ (fun _ => ?_)
set_option maxHeartbeats 2000000 in
set_option maxRecDepth 100000 in
theorem peeragelaw05_FoldTells.calls (k : Nat) (a0 : ByteArray) (a1 : ByteArray) (a2 : Int) (w : World) (HM : Aside0 (MX w)) (h : peeragelaw05_FoldTells.f k a0 a1 a2 = some true) :
    Calls Tryd.prog 3 #[.string a0, .string a1, .int .i64 a2] w fun e w' => e = .returned (.bool true) ∧ Below w.heap.size w w' := by
  have HB := Aside0.mk (Below.refl w.heap.size w)
  have H : (if (wrap64 ((a0.size : Int) + (a1.size : Int))) > 600 then (some true) else ((fold_Next.f k a0).bind fun bt132 => ((peerageref05_Next.f k a0).bind fun bt134 => ((fold_Numeric.f k a0).bind fun bt136 => ((peerageref05_Numeric.f k a0).bind fun bt138 => (if bt132.1 = bt134.1 then (if bt132.2 = bt134.2 then ((fold_Count.f k a0).bind fun t140 => ((peerageref05_Count.f k a0).bind fun t141 => (if t140 = t141 then ((fold_Right.f k a0).bind fun t142 => ((peerageref05_Count.f k a0).bind fun t143 => (if (t142 == (decide (t143 ≥ 0))) = true then ((fold_Fold.f a0).bind fun t144 => ((peerageref05_Fold.f k a0).bind fun t145 => (if t144.toList = t145.toList then ((fold_Piece.f a0).bind fun t146 => ((peerageref05_Piece.f k a0).bind fun t147 => (if t146.toList = t147.toList then ((fold_Exact.f a0).bind fun t148 => ((peerageref05_Exact.f k a0).bind fun t149 => (if t148.toList = t149.toList then (if bt136.1.toList = bt138.1.toList then (if (bt136.2 == bt138.2) = true then ((fold_Find.f a0 a1 a2).bind fun t150 => ((peerageref05_Find.f k a0 a1 a2).bind fun t151 => (if t150 = t151 then ((fold_Fold.f (⟨#[32, 70, 111, 111, 32, 32, 66, 97, 114, 32]⟩ : ByteArray)).bind fun t152 => (some (t152.toList == ([102, 111, 111, 32, 98, 97, 114] : List UInt8)))) else (some false)))) else (some false)) else (some false)) else (some false)))) else (some false)))) else (some false)))) else (some false)))) else (some false)))) else (some false)) else (some false))))))) = some true := h
  clear h
  by_cases c4 : (wrap64 ((a0.size : Int) + (a1.size : Int))) > 600
  · rw [if_pos c4] at H
    have c4b0 : decide (600 < (wrap64 ((a0.size : Int) + (a1.size : Int)))) = true := decide_eq_true c4
    clear c4
    have hr_ := Option.some.inj H
    go_enter Tryd.func3, Tryd.ntmps3
    go_wp2
    go_ret
    exact ⟨by first | rfl | (rw [hr_]) | (simp [errW_none, errW_some] <;> rfl) | (simp [*, errW_none, errW_some] <;> rfl), by repeat (first | (with_reducible first | exact HB.out | apply below_alloc | apply pw_below_drewN | apply below_drew1) | exact HB.out)⟩
  · rw [if_neg c4] at H
    have c4b0 : decide (600 < (wrap64 ((a0.size : Int) + (a1.size : Int)))) = false := decide_eq_false c4
    clear c4
    replace H := Option.bind_eq_some_iff.mp H
    obtain ⟨⟨t132, t133⟩, A50, H⟩ := H
    replace H : ((peerageref05_Next.f k a0).bind fun bt134 => ((fold_Numeric.f k a0).bind fun bt136 => ((peerageref05_Numeric.f k a0).bind fun bt138 => (if t132 = bt134.1 then (if t133 = bt134.2 then ((fold_Count.f k a0).bind fun t140 => ((peerageref05_Count.f k a0).bind fun t141 => (if t140 = t141 then ((fold_Right.f k a0).bind fun t142 => ((peerageref05_Count.f k a0).bind fun t143 => (if (t142 == (decide (t143 ≥ 0))) = true then ((fold_Fold.f a0).bind fun t144 => ((peerageref05_Fold.f k a0).bind fun t145 => (if t144.toList = t145.toList then ((fold_Piece.f a0).bind fun t146 => ((peerageref05_Piece.f k a0).bind fun t147 => (if t146.toList = t147.toList then ((fold_Exact.f a0).bind fun t148 => ((peerageref05_Exact.f k a0).bind fun t149 => (if t148.toList = t149.toList then (if bt136.1.toList = bt138.1.toList then (if (bt136.2 == bt138.2) = true then ((fold_Find.f a0 a1 a2).bind fun t150 => ((peerageref05_Find.f k a0 a1 a2).bind fun t151 => (if t150 = t151 then ((fold_Fold.f (⟨#[32, 70, 111, 111, 32, 32, 66, 97, 114, 32]⟩ : ByteArray)).bind fun t152 => (some (t152.toList == ([102, 111, 111, 32, 98, 97, 114] : List UInt8)))) else (some false)))) else (some false)) else (some false)) else (some false)))) else (some false)))) else (some false)))) else (some false)))) else (some false)))) else (some false)) else (some false))))) = some true := H
    have A5 := Aside0.mk A50
    clear A50
    replace H := Option.bind_eq_some_iff.mp H
    obtain ⟨⟨t134, t135⟩, A60, H⟩ := H
    replace H : ((fold_Numeric.f k a0).bind fun bt136 => ((peerageref05_Numeric.f k a0).bind fun bt138 => (if t132 = t134 then (if t133 = t135 then ((fold_Count.f k a0).bind fun t140 => ((peerageref05_Count.f k a0).bind fun t141 => (if t140 = t141 then ((fold_Right.f k a0).bind fun t142 => ((peerageref05_Count.f k a0).bind fun t143 => (if (t142 == (decide (t143 ≥ 0))) = true then ((fold_Fold.f a0).bind fun t144 => ((peerageref05_Fold.f k a0).bind fun t145 => (if t144.toList = t145.toList then ((fold_Piece.f a0).bind fun t146 => ((peerageref05_Piece.f k a0).bind fun t147 => (if t146.toList = t147.toList then ((fold_Exact.f a0).bind fun t148 => ((peerageref05_Exact.f k a0).bind fun t149 => (if t148.toList = t149.toList then (if bt136.1.toList = bt138.1.toList then (if (bt136.2 == bt138.2) = true then ((fold_Find.f a0 a1 a2).bind fun t150 => ((peerageref05_Find.f k a0 a1 a2).bind fun t151 => (if t150 = t151 then ((fold_Fold.f (⟨#[32, 70, 111, 111, 32, 32, 66, 97, 114, 32]⟩ : ByteArray)).bind fun t152 => (some (t152.toList == ([102, 111, 111, 32, 98, 97, 114] : List UInt8)))) else (some false)))) else (some false)) else (some false)) else (some false)))) else (some false)))) else (some false)))) else (some false)))) else (some false)))) else (some false)) else (some false)))) = some true := H
    have A6 := Aside0.mk A60
    clear A60
    replace H := Option.bind_eq_some_iff.mp H
    obtain ⟨⟨t136, t137⟩, A70, H⟩ := H
    replace H : ((peerageref05_Numeric.f k a0).bind fun bt138 => (if t132 = t134 then (if t133 = t135 then ((fold_Count.f k a0).bind fun t140 => ((peerageref05_Count.f k a0).bind fun t141 => (if t140 = t141 then ((fold_Right.f k a0).bind fun t142 => ((peerageref05_Count.f k a0).bind fun t143 => (if (t142 == (decide (t143 ≥ 0))) = true then ((fold_Fold.f a0).bind fun t144 => ((peerageref05_Fold.f k a0).bind fun t145 => (if t144.toList = t145.toList then ((fold_Piece.f a0).bind fun t146 => ((peerageref05_Piece.f k a0).bind fun t147 => (if t146.toList = t147.toList then ((fold_Exact.f a0).bind fun t148 => ((peerageref05_Exact.f k a0).bind fun t149 => (if t148.toList = t149.toList then (if t136.toList = bt138.1.toList then (if (t137 == bt138.2) = true then ((fold_Find.f a0 a1 a2).bind fun t150 => ((peerageref05_Find.f k a0 a1 a2).bind fun t151 => (if t150 = t151 then ((fold_Fold.f (⟨#[32, 70, 111, 111, 32, 32, 66, 97, 114, 32]⟩ : ByteArray)).bind fun t152 => (some (t152.toList == ([102, 111, 111, 32, 98, 97, 114] : List UInt8)))) else (some false)))) else (some false)) else (some false)) else (some false)))) else (some false)))) else (some false)))) else (some false)))) else (some false)))) else (some false)) else (some false))) = some true := H
    have A7 := Aside0.mk A70
    clear A70
    replace H := Option.bind_eq_some_iff.mp H
    obtain ⟨⟨t138, t139⟩, A80, H⟩ := H
    replace H : (if t132 = t134 then (if t133 = t135 then ((fold_Count.f k a0).bind fun t140 => ((peerageref05_Count.f k a0).bind fun t141 => (if t140 = t141 then ((fold_Right.f k a0).bind fun t142 => ((peerageref05_Count.f k a0).bind fun t143 => (if (t142 == (decide (t143 ≥ 0))) = true then ((fold_Fold.f a0).bind fun t144 => ((peerageref05_Fold.f k a0).bind fun t145 => (if t144.toList = t145.toList then ((fold_Piece.f a0).bind fun t146 => ((peerageref05_Piece.f k a0).bind fun t147 => (if t146.toList = t147.toList then ((fold_Exact.f a0).bind fun t148 => ((peerageref05_Exact.f k a0).bind fun t149 => (if t148.toList = t149.toList then (if t136.toList = t138.toList then (if (t137 == t139) = true then ((fold_Find.f a0 a1 a2).bind fun t150 => ((peerageref05_Find.f k a0 a1 a2).bind fun t151 => (if t150 = t151 then ((fold_Fold.f (⟨#[32, 70, 111, 111, 32, 32, 66, 97, 114, 32]⟩ : ByteArray)).bind fun t152 => (some (t152.toList == ([102, 111, 111, 32, 98, 97, 114] : List UInt8)))) else (some false)))) else (some false)) else (some false)) else (some false)))) else (some false)))) else (some false)))) else (some false)))) else (some false)))) else (some false)) else (some false)) = some true := H
    have A8 := Aside0.mk A80
    clear A80
    by_cases c9 : t132 = t134
    · rw [if_pos c9] at H
      have c9b0 : (t132 == t134) = true := beq_iff_eq.mpr c9
      have c9b1 : (t132 != t134) = false := bne_eq_false_iff_eq.mpr c9
      clear c9
      by_cases c10 : t133 = t135
      · rw [if_pos c10] at H
        have c10b0 : (t133 == t135) = true := beq_iff_eq.mpr c10
        have c10b1 : (t133 != t135) = false := bne_eq_false_iff_eq.mpr c10
        clear c10
        replace H := Option.bind_eq_some_iff.mp H
        obtain ⟨t140, A110, H⟩ := H
        replace H : ((peerageref05_Count.f k a0).bind fun t141 => (if t140 = t141 then ((fold_Right.f k a0).bind fun t142 => ((peerageref05_Count.f k a0).bind fun t143 => (if (t142 == (decide (t143 ≥ 0))) = true then ((fold_Fold.f a0).bind fun t144 => ((peerageref05_Fold.f k a0).bind fun t145 => (if t144.toList = t145.toList then ((fold_Piece.f a0).bind fun t146 => ((peerageref05_Piece.f k a0).bind fun t147 => (if t146.toList = t147.toList then ((fold_Exact.f a0).bind fun t148 => ((peerageref05_Exact.f k a0).bind fun t149 => (if t148.toList = t149.toList then (if t136.toList = t138.toList then (if (t137 == t139) = true then ((fold_Find.f a0 a1 a2).bind fun t150 => ((peerageref05_Find.f k a0 a1 a2).bind fun t151 => (if t150 = t151 then ((fold_Fold.f (⟨#[32, 70, 111, 111, 32, 32, 66, 97, 114, 32]⟩ : ByteArray)).bind fun t152 => (some (t152.toList == ([102, 111, 111, 32, 98, 97, 114] : List UInt8)))) else (some false)))) else (some false)) else (some false)) else (some false)))) else (some false)))) else (some false)))) else (some false)))) else (some false))) = some true := H
        have A11 := Aside0.mk A110
        clear A110
        replace H := Option.bind_eq_some_iff.mp H
        obtain ⟨t141, A120, H⟩ := H
        replace H : (if t140 = t141 then ((fold_Right.f k a0).bind fun t142 => ((peerageref05_Count.f k a0).bind fun t143 => (if (t142 == (decide (t143 ≥ 0))) = true then ((fold_Fold.f a0).bind fun t144 => ((peerageref05_Fold.f k a0).bind fun t145 => (if t144.toList = t145.toList then ((fold_Piece.f a0).bind fun t146 => ((peerageref05_Piece.f k a0).bind fun t147 => (if t146.toList = t147.toList then ((fold_Exact.f a0).bind fun t148 => ((peerageref05_Exact.f k a0).bind fun t149 => (if t148.toList = t149.toList then (if t136.toList = t138.toList then (if (t137 == t139) = true then ((fold_Find.f a0 a1 a2).bind fun t150 => ((peerageref05_Find.f k a0 a1 a2).bind fun t151 => (if t150 = t151 then ((fold_Fold.f (⟨#[32, 70, 111, 111, 32, 32, 66, 97, 114, 32]⟩ : ByteArray)).bind fun t152 => (some (t152.toList == ([102, 111, 111, 32, 98, 97, 114] : List UInt8)))) else (some false)))) else (some false)) else (some false)) else (some false)))) else (some false)))) else (some false)))) else (some false)))) else (some false)) = some true := H
        have A12 := Aside0.mk A120
        clear A120
        by_cases c13 : t140 = t141
        · rw [if_pos c13] at H
          have c13b0 : (t140 == t141) = true := beq_iff_eq.mpr c13
          have c13b1 : (t140 != t141) = false := bne_eq_false_iff_eq.mpr c13
          clear c13
          replace H := Option.bind_eq_some_iff.mp H
          obtain ⟨t142, A140, H⟩ := H
          replace H : ((peerageref05_Count.f k a0).bind fun t143 => (if (t142 == (decide (t143 ≥ 0))) = true then ((fold_Fold.f a0).bind fun t144 => ((peerageref05_Fold.f k a0).bind fun t145 => (if t144.toList = t145.toList then ((fold_Piece.f a0).bind fun t146 => ((peerageref05_Piece.f k a0).bind fun t147 => (if t146.toList = t147.toList then ((fold_Exact.f a0).bind fun t148 => ((peerageref05_Exact.f k a0).bind fun t149 => (if t148.toList = t149.toList then (if t136.toList = t138.toList then (if (t137 == t139) = true then ((fold_Find.f a0 a1 a2).bind fun t150 => ((peerageref05_Find.f k a0 a1 a2).bind fun t151 => (if t150 = t151 then ((fold_Fold.f (⟨#[32, 70, 111, 111, 32, 32, 66, 97, 114, 32]⟩ : ByteArray)).bind fun t152 => (some (t152.toList == ([102, 111, 111, 32, 98, 97, 114] : List UInt8)))) else (some false)))) else (some false)) else (some false)) else (some false)))) else (some false)))) else (some false)))) else (some false))) = some true := H
          have A14 := Aside0.mk A140
          clear A140
          replace H := Option.bind_eq_some_iff.mp H
          obtain ⟨t143, A150, H⟩ := H
          replace H : (if (t142 == (decide (t143 ≥ 0))) = true then ((fold_Fold.f a0).bind fun t144 => ((peerageref05_Fold.f k a0).bind fun t145 => (if t144.toList = t145.toList then ((fold_Piece.f a0).bind fun t146 => ((peerageref05_Piece.f k a0).bind fun t147 => (if t146.toList = t147.toList then ((fold_Exact.f a0).bind fun t148 => ((peerageref05_Exact.f k a0).bind fun t149 => (if t148.toList = t149.toList then (if t136.toList = t138.toList then (if (t137 == t139) = true then ((fold_Find.f a0 a1 a2).bind fun t150 => ((peerageref05_Find.f k a0 a1 a2).bind fun t151 => (if t150 = t151 then ((fold_Fold.f (⟨#[32, 70, 111, 111, 32, 32, 66, 97, 114, 32]⟩ : ByteArray)).bind fun t152 => (some (t152.toList == ([102, 111, 111, 32, 98, 97, 114] : List UInt8)))) else (some false)))) else (some false)) else (some false)) else (some false)))) else (some false)))) else (some false)))) else (some false)) = some true := H
          have A15 := Aside0.mk A150
          obtain rfl : t141 = t143 := Option.some.inj (A12.out.symm.trans A150)
          clear A150
          by_cases c16 : (t142 == (decide (t141 ≥ 0))) = true
          · rw [if_pos c16] at H
            have c16b0 : (t142 == (decide (t141 ≥ 0))) = true := c16
            (try (have c16b1 : decide (t142 = (decide (t141 ≥ 0))) = true := by simpa using c16))
            (try (have c16b2 : (t142 == (decide (t141 ≥ 0))) = true := by simpa using c16))
            clear c16
            replace H := Option.bind_eq_some_iff.mp H
            obtain ⟨t144, A170, H⟩ := H
            replace H : ((peerageref05_Fold.f k a0).bind fun t145 => (if t144.toList = t145.toList then ((fold_Piece.f a0).bind fun t146 => ((peerageref05_Piece.f k a0).bind fun t147 => (if t146.toList = t147.toList then ((fold_Exact.f a0).bind fun t148 => ((peerageref05_Exact.f k a0).bind fun t149 => (if t148.toList = t149.toList then (if t136.toList = t138.toList then (if (t137 == t139) = true then ((fold_Find.f a0 a1 a2).bind fun t150 => ((peerageref05_Find.f k a0 a1 a2).bind fun t151 => (if t150 = t151 then ((fold_Fold.f (⟨#[32, 70, 111, 111, 32, 32, 66, 97, 114, 32]⟩ : ByteArray)).bind fun t152 => (some (t152.toList == ([102, 111, 111, 32, 98, 97, 114] : List UInt8)))) else (some false)))) else (some false)) else (some false)) else (some false)))) else (some false)))) else (some false))) = some true := H
            have A17 := Aside0.mk A170
            clear A170
            replace H := Option.bind_eq_some_iff.mp H
            obtain ⟨t145, A180, H⟩ := H
            replace H : (if t144.toList = t145.toList then ((fold_Piece.f a0).bind fun t146 => ((peerageref05_Piece.f k a0).bind fun t147 => (if t146.toList = t147.toList then ((fold_Exact.f a0).bind fun t148 => ((peerageref05_Exact.f k a0).bind fun t149 => (if t148.toList = t149.toList then (if t136.toList = t138.toList then (if (t137 == t139) = true then ((fold_Find.f a0 a1 a2).bind fun t150 => ((peerageref05_Find.f k a0 a1 a2).bind fun t151 => (if t150 = t151 then ((fold_Fold.f (⟨#[32, 70, 111, 111, 32, 32, 66, 97, 114, 32]⟩ : ByteArray)).bind fun t152 => (some (t152.toList == ([102, 111, 111, 32, 98, 97, 114] : List UInt8)))) else (some false)))) else (some false)) else (some false)) else (some false)))) else (some false)))) else (some false)) = some true := H
            have A18 := Aside0.mk A180
            clear A180
            by_cases c19 : t144.toList = t145.toList
            · rw [if_pos c19] at H
              have c19b0 : (t144.toList == t145.toList) = true := beq_iff_eq.mpr c19
              have c19b1 : (t144.toList != t145.toList) = false := bne_eq_false_iff_eq.mpr c19
              clear c19
              replace H := Option.bind_eq_some_iff.mp H
              obtain ⟨t146, A200, H⟩ := H
              replace H : ((peerageref05_Piece.f k a0).bind fun t147 => (if t146.toList = t147.toList then ((fold_Exact.f a0).bind fun t148 => ((peerageref05_Exact.f k a0).bind fun t149 => (if t148.toList = t149.toList then (if t136.toList = t138.toList then (if (t137 == t139) = true then ((fold_Find.f a0 a1 a2).bind fun t150 => ((peerageref05_Find.f k a0 a1 a2).bind fun t151 => (if t150 = t151 then ((fold_Fold.f (⟨#[32, 70, 111, 111, 32, 32, 66, 97, 114, 32]⟩ : ByteArray)).bind fun t152 => (some (t152.toList == ([102, 111, 111, 32, 98, 97, 114] : List UInt8)))) else (some false)))) else (some false)) else (some false)) else (some false)))) else (some false))) = some true := H
              have A20 := Aside0.mk A200
              clear A200
              replace H := Option.bind_eq_some_iff.mp H
              obtain ⟨t147, A210, H⟩ := H
              replace H : (if t146.toList = t147.toList then ((fold_Exact.f a0).bind fun t148 => ((peerageref05_Exact.f k a0).bind fun t149 => (if t148.toList = t149.toList then (if t136.toList = t138.toList then (if (t137 == t139) = true then ((fold_Find.f a0 a1 a2).bind fun t150 => ((peerageref05_Find.f k a0 a1 a2).bind fun t151 => (if t150 = t151 then ((fold_Fold.f (⟨#[32, 70, 111, 111, 32, 32, 66, 97, 114, 32]⟩ : ByteArray)).bind fun t152 => (some (t152.toList == ([102, 111, 111, 32, 98, 97, 114] : List UInt8)))) else (some false)))) else (some false)) else (some false)) else (some false)))) else (some false)) = some true := H
              have A21 := Aside0.mk A210
              clear A210
              by_cases c22 : t146.toList = t147.toList
              · rw [if_pos c22] at H
                have c22b0 : (t146.toList == t147.toList) = true := beq_iff_eq.mpr c22
                have c22b1 : (t146.toList != t147.toList) = false := bne_eq_false_iff_eq.mpr c22
                clear c22
                replace H := Option.bind_eq_some_iff.mp H
                obtain ⟨t148, A230, H⟩ := H
                replace H : ((peerageref05_Exact.f k a0).bind fun t149 => (if t148.toList = t149.toList then (if t136.toList = t138.toList then (if (t137 == t139) = true then ((fold_Find.f a0 a1 a2).bind fun t150 => ((peerageref05_Find.f k a0 a1 a2).bind fun t151 => (if t150 = t151 then ((fold_Fold.f (⟨#[32, 70, 111, 111, 32, 32, 66, 97, 114, 32]⟩ : ByteArray)).bind fun t152 => (some (t152.toList == ([102, 111, 111, 32, 98, 97, 114] : List UInt8)))) else (some false)))) else (some false)) else (some false)) else (some false))) = some true := H
                have A23 := Aside0.mk A230
                clear A230
                replace H := Option.bind_eq_some_iff.mp H
                obtain ⟨t149, A240, H⟩ := H
                replace H : (if t148.toList = t149.toList then (if t136.toList = t138.toList then (if (t137 == t139) = true then ((fold_Find.f a0 a1 a2).bind fun t150 => ((peerageref05_Find.f k a0 a1 a2).bind fun t151 => (if t150 = t151 then ((fold_Fold.f (⟨#[32, 70, 111, 111, 32, 32, 66, 97, 114, 32]⟩ : ByteArray)).bind fun t152 => (some (t152.toList == ([102, 111, 111, 32, 98, 97, 114] : List UInt8)))) else (some false)))) else (some false)) else (some false)) else (some false)) = some true := H
                have A24 := Aside0.mk A240
                clear A240
                by_cases c25 : t148.toList = t149.toList
                · rw [if_pos c25] at H
                  have c25b0 : (t148.toList == t149.toList) = true := beq_iff_eq.mpr c25
                  have c25b1 : (t148.toList != t149.toList) = false := bne_eq_false_iff_eq.mpr c25
                  clear c25
                  by_cases c26 : t136.toList = t138.toList
                  · rw [if_pos c26] at H
                    have c26b0 : (t136.toList == t138.toList) = true := beq_iff_eq.mpr c26
                    have c26b1 : (t136.toList != t138.toList) = false := bne_eq_false_iff_eq.mpr c26
                    clear c26
                    by_cases c27 : (t137 == t139) = true
                    · rw [if_pos c27] at H
                      have c27b0 : (t137 == t139) = true := c27
                      (try (have c27b1 : decide (t137 = t139) = true := by simpa using c27))
                      (try (have c27b2 : (t137 == t139) = true := by simpa using c27))
                      clear c27
                      replace H := Option.bind_eq_some_iff.mp H
                      obtain ⟨t150, A280, H⟩ := H
                      replace H : ((peerageref05_Find.f k a0 a1 a2).bind fun t151 => (if t150 = t151 then ((fold_Fold.f (⟨#[32, 70, 111, 111, 32, 32, 66, 97, 114, 32]⟩ : ByteArray)).bind fun t152 => (some (t152.toList == ([102, 111, 111, 32, 98, 97, 114] : List UInt8)))) else (some false))) = some true := H
                      have A28 := Aside0.mk A280
                      clear A280
                      replace H := Option.bind_eq_some_iff.mp H
                      obtain ⟨t151, A290, H⟩ := H
                      replace H : (if t150 = t151 then ((fold_Fold.f (⟨#[32, 70, 111, 111, 32, 32, 66, 97, 114, 32]⟩ : ByteArray)).bind fun t152 => (some (t152.toList == ([102, 111, 111, 32, 98, 97, 114] : List UInt8)))) else (some false)) = some true := H
                      have A29 := Aside0.mk A290
                      clear A290
                      by_cases c30 : t150 = t151
                      · rw [if_pos c30] at H
                        have c30b0 : (t150 == t151) = true := beq_iff_eq.mpr c30
                        have c30b1 : (t150 != t151) = false := bne_eq_false_iff_eq.mpr c30
                        clear c30
                        replace H := Option.bind_eq_some_iff.mp H
                        obtain ⟨t152, A310, H⟩ := H
                        replace H : (some (t152.toList == ([102, 111, 111, 32, 98, 97, 114] : List UInt8))) = some true := H
                        have A31 := Aside0.mk A310
                        clear A310
                        have hr_ := Option.some.inj H
                        go_enter Tryd.func3, Tryd.ntmps3
                        go_wp2_with (first | ((with_reducible refine gate_callee (f := 5) rfl ?_); refine goesL_ (some 23) rfl rfl Tryd.func5 (by kernel_rfl) rfl #[.string a0] rfl (by (try simp only [List.map_toArray, List.map_cons, List.map_nil]); first | done | rfl | (simp only [List.length_drop, List.length_take]; rfl)) ?_; (with_reducible refine (fold_Next.calls k a0 t132 t133 _ A5.out).mono ?_); rintro e w' ⟨rfl, ⟨nd, rfl⟩⟩; refine ⟨_, rfl, ?_⟩) | ((with_reducible refine gate_callee (f := 6) rfl ?_); refine goesL_ (some 28) rfl rfl Tryd.func6 (by kernel_rfl) rfl #[.string a0] rfl (by (try simp only [List.map_toArray, List.map_cons, List.map_nil]); first | done | rfl | (simp only [List.length_drop, List.length_take]; rfl)) ?_; (with_reducible refine (peerageref05_Next.calls k a0 t134 t135 _ A6.out).mono ?_); rintro e w' ⟨rfl, ⟨nd, rfl⟩⟩; refine ⟨_, rfl, ?_⟩) | ((with_reducible refine gate_callee (f := 7) rfl ?_); refine goesL_ (some 33) rfl rfl Tryd.func7 (by kernel_rfl) rfl #[.string a0] rfl (by (try simp only [List.map_toArray, List.map_cons, List.map_nil]); first | done | rfl | (simp only [List.length_drop, List.length_take]; rfl)) ?_; (with_reducible refine (fold_Numeric.calls k a0 t136 t137 _ (Aside0.mk (HM.out.below (by repeat (first | (with_reducible first | exact HB.out | apply below_alloc | apply pw_below_drewN | apply below_drew1) | exact HB.out)))) A7.out).mono ?_); rintro e w32 ⟨rfl, hb⟩; refine ⟨_, rfl, ?_⟩; have n0_ := Aside0.mk (below_step (by repeat (first | (with_reducible first | exact HB.out | apply below_alloc | apply pw_below_drewN | apply below_drew1) | exact HB.out)) hb); clear HB; have HB := n0_; clear n0_; (try clear hb); (try clear hb2); (try clear hk); (try clear hi)) | ((with_reducible refine gate_callee (f := 8) rfl ?_); refine goesL_ (some 38) rfl rfl Tryd.func8 (by kernel_rfl) rfl #[.string a0] rfl (by (try simp only [List.map_toArray, List.map_cons, List.map_nil]); first | done | rfl | (simp only [List.length_drop, List.length_take]; rfl)) ?_; (with_reducible refine (peerageref05_Numeric.calls k a0 t138 t139 _ A8.out).mono ?_); rintro e w' ⟨rfl, ⟨nd, rfl⟩⟩; refine ⟨_, rfl, ?_⟩) | (go_at_call 9; (refine (fold_Count.calls k a0 t140 _ A11.out).mono ?_); rintro e w' ⟨rfl, ⟨nd, rfl⟩⟩) | (go_at_call 10; (refine (peerageref05_Count.calls k a0 t141 _ A12.out).mono ?_); rintro e w' ⟨rfl, ⟨nd, rfl⟩⟩) | (go_at_call 11; (refine (fold_Right.calls k a0 t142 _ A14.out).mono ?_); rintro e w' ⟨rfl, ⟨nd, rfl⟩⟩) | (go_at_call 10; (refine (peerageref05_Count.calls k a0 t141 _ A15.out).mono ?_); rintro e w' ⟨rfl, ⟨nd, rfl⟩⟩) | (go_at_call 12; (refine (fold_Fold.calls a0 t144 _ A17.out).mono ?_); rintro e w33 ⟨rfl, hb⟩; have n0_ := Aside0.mk (below_step (by repeat (first | (with_reducible first | exact HB.out | apply below_alloc | apply pw_below_drewN | apply below_drew1) | exact HB.out)) hb); clear HB; have HB := n0_; clear n0_; (try clear hb); (try clear hb2); (try clear hk); (try clear hi)) | (go_at_call 13; (refine (peerageref05_Fold.calls k a0 t145 _ A18.out).mono ?_); rintro e w34 ⟨rfl, hb⟩; have n0_ := Aside0.mk (below_step (by repeat (first | (with_reducible first | exact HB.out | apply below_alloc | apply pw_below_drewN | apply below_drew1) | exact HB.out)) hb); clear HB; have HB := n0_; clear n0_; (try clear hb); (try clear hb2); (try clear hk); (try clear hi)) | (go_at_call 14; (refine (fold_Piece.calls a0 t146 _ A20.out).mono ?_); rintro e w35 ⟨rfl, hb⟩; have n0_ := Aside0.mk (below_step (by repeat (first | (with_reducible first | exact HB.out | apply below_alloc | apply pw_below_drewN | apply below_drew1) | exact HB.out)) hb); clear HB; have HB := n0_; clear n0_; (try clear hb); (try clear hb2); (try clear hk); (try clear hi)) | (go_at_call 15; (refine (peerageref05_Piece.calls k a0 t147 _ A21.out).mono ?_); rintro e w36 ⟨rfl, hb⟩; have n0_ := Aside0.mk (below_step (by repeat (first | (with_reducible first | exact HB.out | apply below_alloc | apply pw_below_drewN | apply below_drew1) | exact HB.out)) hb); clear HB; have HB := n0_; clear n0_; (try clear hb); (try clear hb2); (try clear hk); (try clear hi)) | (go_at_call 16; (refine (fold_Exact.calls a0 t148 _ A23.out).mono ?_); rintro e w37 ⟨rfl, hb⟩; have n0_ := Aside0.mk (below_step (by repeat (first | (with_reducible first | exact HB.out | apply below_alloc | apply pw_below_drewN | apply below_drew1) | exact HB.out)) hb); clear HB; have HB := n0_; clear n0_; (try clear hb); (try clear hb2); (try clear hk); (try clear hi)) | (go_at_call 17; (refine (peerageref05_Exact.calls k a0 t149 _ A24.out).mono ?_); rintro e w38 ⟨rfl, hb⟩; have n0_ := Aside0.mk (below_step (by repeat (first | (with_reducible first | exact HB.out | apply below_alloc | apply pw_below_drewN | apply below_drew1) | exact HB.out)) hb); clear HB; have HB := n0_; clear n0_; (try clear hb); (try clear hb2); (try clear hk); (try clear hi)) | (go_at_call 18; (refine (fold_Find.calls a0 a1 a2 t150 _ A28.out (HM.out.below (by repeat (first | (with_reducible first | exact HB.out | apply below_alloc | apply pw_below_drewN | apply below_drew1) | exact HB.out)))).mono ?_); rintro e w39 ⟨rfl, hb⟩; have n0_ := Aside0.mk (below_step (by repeat (first | (with_reducible first | exact HB.out | apply below_alloc | apply pw_below_drewN | apply below_drew1) | exact HB.out)) hb); clear HB; have HB := n0_; clear n0_; (try clear hb); (try clear hb2); (try clear hk); (try clear hi)) | (go_at_call 19; (refine (peerageref05_Find.calls k a0 a1 a2 t151 _ A29.out).mono ?_); rintro e w' ⟨rfl, ⟨nd, rfl⟩⟩) | (go_at_call 12; (refine (fold_Fold.calls (⟨#[32, 70, 111, 111, 32, 32, 66, 97, 114, 32]⟩ : ByteArray) t152 _ A31.out).mono ?_); rintro e w40 ⟨rfl, hb⟩; have n0_ := Aside0.mk (below_step (by repeat (first | (with_reducible first | exact HB.out | apply below_alloc | apply pw_below_drewN | apply below_drew1) | exact HB.out)) hb); clear HB; have HB := n0_; clear n0_; (try clear hb); (try clear hb2); (try clear hk); (try clear hi)))
                        go_ret
                        exact ⟨by first | rfl | (rw [hr_]) | (simp [errW_none, errW_some] <;> rfl) | (simp [*, errW_none, errW_some] <;> rfl), by repeat (first | (with_reducible first | exact HB.out | apply below_alloc | apply pw_below_drewN | apply below_drew1) | exact HB.out)⟩
                      · exact absurd (Option.some.inj ((if_neg c30).symm.trans H)) (by decide)
                    · exact absurd (Option.some.inj ((if_neg c27).symm.trans H)) (by decide)
                  · exact absurd (Option.some.inj ((if_neg c26).symm.trans H)) (by decide)
                · exact absurd (Option.some.inj ((if_neg c25).symm.trans H)) (by decide)
              · exact absurd (Option.some.inj ((if_neg c22).symm.trans H)) (by decide)
            · exact absurd (Option.some.inj ((if_neg c19).symm.trans H)) (by decide)
          · exact absurd (Option.some.inj ((if_neg c16).symm.trans H)) (by decide)
        · exact absurd (Option.some.inj ((if_neg c13).symm.trans H)) (by decide)
      · exact absurd (Option.some.inj ((if_neg c10).symm.trans H)) (by decide)
    · exact absurd (Option.some.inj ((if_neg c9).symm.trans H)) (by decide)
/-- THE ONE PURE STATEMENT of peeragelaw05_FoldTells: yours. -/
def peeragelaw05_FoldTells.Pure : Prop := ∀ (a0 : ByteArray) (a1 : ByteArray) (a2 : Int), a0.size ≤ 140737488351232 → a1.size ≤ 140737488351232 → (Lit.int .i64 a2).wf = true → ∃ k, peeragelaw05_FoldTells.f k a0 a1 a2 = some true

end Go.Proofs.YtmlihcknkgfhaaaDoor.LFoldTells
