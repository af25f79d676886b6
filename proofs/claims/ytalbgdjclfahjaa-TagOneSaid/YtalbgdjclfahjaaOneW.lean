/- Two tags have the same bytes just if they are one; so two lengths: the walk of the law. -/
import Derived.Test.YtalbgdjclfahjaaOneP
import Derived.Test.YtalbgdjclfahjaaPureTagPuts
import Derived.Deep.RegionWith
import Derived.Test.YtalbgdjclfahjaaPureTagSizes
import Derived.Test.YtalbgdjclfahjaaWEqStruct
import Derived.Test.YtalbgdjclfahjaaGrow
namespace Go.Proofs.Ytalbgdjclfahjaa.OneW
open Go.RowKit H Go.Proofs.Ytalbgdjclfahjaa.Pure Go.Proofs.YtalbgdjclfahjaaW.PrintWords Go.Proofs.YtalbgdjclfahjaaW.PrintLast Go.Proofs.YtalbgdjclfahjaaW.PrintMore
set_option linter.unusedVariables false
set_option linter.unusedSimpArgs false

theorem eqA24 (d : Nat) (w : World) (x0 y0 : Int) (x1 y1 : Bool) (x2 y2 : Int) :
    (Op.equalIn (d + 2) 24 (.agg #[.int .i64 x0, .bool x1, .int .i64 x2]) (.agg #[.int .i64 y0, .bool y1, .int .i64 y2])).run Try.prog w = .ok (x0 == y0 && (x1 == y1 && (x2 == y2))) w := by
  refine eqA_of Try.underlying24 (by kernel_rfl) ?_
  refine eqf_cons (by rfl) (by go_simp; rfl) (by go_simp; rfl) (by go_simp) ?_
  refine eqf_cons (by rfl) (by go_simp; rfl) (by go_simp; rfl) (by go_simp) ?_
  exact eqf_last (by rfl) (by go_simp; rfl) (by go_simp; rfl) (by go_simp)
attribute [local go_sem high] eqA24

set_option maxHeartbeats 16000000 in
theorem both (c1 n1 c2 n2 x y : Int) (m1 m2 : Bool) (w : World) (h1 : right c1 n1 = true) (h2 : right c2 n2 = true) :
    Calls Try.prog 4 #[tagw c1 m1 n1, tagw c2 m2 n2, .agg #[.int .i64 x, .int .i64 y]] w fun e w' => e = .returned (.bool true) ∧ Below w.heap.size w w' := by
  have R1 := Lib.hid h1
  have R2 := Lib.hid h2
  clear h1 h2
  go_enter Try.func4, Try.ntmps4
  go_wp2_with (first | ((with_reducible refine gate_dst (N := 3) rfl ?_); refine box_event ?hg (N := 3) ?hd (cs := #[.int .i64 c1, .bool m1, .int .i64 n1]) (t := 24) ?hr ?_; (case hd => rfl); (case hg => rfl); (case hr => first | (go_simp; done) | (go_simp; rfl)); intro g3 hg w3 hbox hb; have B3 := Lib.hid hbox; have HB := Lib.hid hb; clear hbox hb hg) | ((with_reducible refine gate_dst (N := 4) rfl ?_); refine box_event ?hg (N := 4) ?hd (cs := #[.int .i64 c2, .bool m2, .int .i64 n2]) (t := 24) ?hr ?_; (case hd => rfl); (case hg => rfl); (case hr => first | (go_simp; done) | (go_simp; rfl)); intro g4 hg w4 hbox hb; (have B3' := Lib.hid (blk_below B3.out hb)); (have HB' := Lib.hid (below_step HB.out hb)); clear B3 HB; have B4 := Lib.hid hbox; have B3 := B3'; have HB := HB'; clear hbox hb hg B3' HB') | ((with_reducible refine gate_dst (N := 5) rfl ?_); refine box_event ?hg (N := 5) ?hd (cs := #[.int .i64 x, .int .i64 y]) (t := 31) ?hr ?_; (case hd => rfl); (case hg => rfl); (case hr => first | (go_simp; done) | (go_simp; rfl)); intro g5 hg w5 hbox hb; (have B3' := Lib.hid (blk_below B3.out hb)); (have B4' := Lib.hid (blk_below B4.out hb)); (have HB' := Lib.hid (below_step HB.out hb)); clear B3 B4 HB; have B5 := Lib.hid hbox; have B3 := B3'; have B4 := B4'; have HB := HB'; clear hbox hb hg B3' B4' HB'; (have hz30 : w5.cell? ⟨g3, 0, none⟩ = some (.int .i64 c1) := (blk_cell B3.out 0).trans rfl); (have hz31 : w5.cell? ⟨g3, 1, none⟩ = some (.bool m1) := (blk_cell B3.out 1).trans rfl); (have hz32 : w5.cell? ⟨g3, 2, none⟩ = some (.int .i64 n1) := (blk_cell B3.out 2).trans rfl); (have hz40 : w5.cell? ⟨g4, 0, none⟩ = some (.int .i64 c2) := (blk_cell B4.out 0).trans rfl); (have hz41 : w5.cell? ⟨g4, 1, none⟩ = some (.bool m2) := (blk_cell B4.out 1).trans rfl); (have hz42 : w5.cell? ⟨g4, 2, none⟩ = some (.int .i64 n2) := (blk_cell B4.out 2).trans rfl); (have hz50 : w5.cell? ⟨g5, 0, none⟩ = some (.int .i64 x) := (blk_cell B5.out 0).trans rfl); (have hz51 : w5.cell? ⟨g5, 1, none⟩ = some (.int .i64 y) := (blk_cell B5.out 1).trans rfl)) | (go_at_call_of 10 (Value.agg #[Value.int IntKind.i64 c1, Value.bool m1, Value.int IntKind.i64 n1]); refine (right_calls _ _ _ _).mono ?_; rintro e wa ⟨rfl, hb⟩; rw [R1.out]; (have B3' := Lib.hid (blk_below B3.out hb)); (have B4' := Lib.hid (blk_below B4.out hb)); (have B5' := Lib.hid (blk_below B5.out hb)); (have HB' := Lib.hid (below_step HB.out hb)); clear B3 B4 B5 HB hz30 hz31 hz32 hz40 hz41 hz42 hz50 hz51; have B3 := B3'; have B4 := B4'; have B5 := B5'; have HB := HB'; clear hb B3' B4' B5' HB'; (have hz30 : wa.cell? ⟨g3, 0, none⟩ = some (.int .i64 c1) := (blk_cell B3.out 0).trans rfl); (have hz31 : wa.cell? ⟨g3, 1, none⟩ = some (.bool m1) := (blk_cell B3.out 1).trans rfl); (have hz32 : wa.cell? ⟨g3, 2, none⟩ = some (.int .i64 n1) := (blk_cell B3.out 2).trans rfl); (have hz40 : wa.cell? ⟨g4, 0, none⟩ = some (.int .i64 c2) := (blk_cell B4.out 0).trans rfl); (have hz41 : wa.cell? ⟨g4, 1, none⟩ = some (.bool m2) := (blk_cell B4.out 1).trans rfl); (have hz42 : wa.cell? ⟨g4, 2, none⟩ = some (.int .i64 n2) := (blk_cell B4.out 2).trans rfl); (have hz50 : wa.cell? ⟨g5, 0, none⟩ = some (.int .i64 x) := (blk_cell B5.out 0).trans rfl); (have hz51 : wa.cell? ⟨g5, 1, none⟩ = some (.int .i64 y) := (blk_cell B5.out 1).trans rfl)) | (go_at_call_of 10 (Value.agg #[Value.int IntKind.i64 c2, Value.bool m2, Value.int IntKind.i64 n2]); refine (right_calls _ _ _ _).mono ?_; rintro e wb ⟨rfl, hb⟩; rw [R2.out]; (have B3' := Lib.hid (blk_below B3.out hb)); (have B4' := Lib.hid (blk_below B4.out hb)); (have B5' := Lib.hid (blk_below B5.out hb)); (have HB' := Lib.hid (below_step HB.out hb)); clear B3 B4 B5 HB hz30 hz31 hz32 hz40 hz41 hz42 hz50 hz51; have B3 := B3'; have B4 := B4'; have B5 := B5'; have HB := HB'; clear hb B3' B4' B5' HB'; (have hz30 : wb.cell? ⟨g3, 0, none⟩ = some (.int .i64 c1) := (blk_cell B3.out 0).trans rfl); (have hz31 : wb.cell? ⟨g3, 1, none⟩ = some (.bool m1) := (blk_cell B3.out 1).trans rfl); (have hz32 : wb.cell? ⟨g3, 2, none⟩ = some (.int .i64 n1) := (blk_cell B3.out 2).trans rfl); (have hz40 : wb.cell? ⟨g4, 0, none⟩ = some (.int .i64 c2) := (blk_cell B4.out 0).trans rfl); (have hz41 : wb.cell? ⟨g4, 1, none⟩ = some (.bool m2) := (blk_cell B4.out 1).trans rfl); (have hz42 : wb.cell? ⟨g4, 2, none⟩ = some (.int .i64 n2) := (blk_cell B4.out 2).trans rfl); (have hz50 : wb.cell? ⟨g5, 0, none⟩ = some (.int .i64 x) := (blk_cell B5.out 0).trans rfl); (have hz51 : wb.cell? ⟨g5, 1, none⟩ = some (.int .i64 y) := (blk_cell B5.out 1).trans rfl)))
  go_region
  go_wp2_with fail
  have P1 := Lib.hid (show tag_Put.f [] c1 m1 n1 = some (put [] c1 m1 n1) by unfold tag_Put.f; rw [if_pos (by simp)])
  have P2 := Lib.hid (show tag_Put.f [] c2 m2 n2 = some (put [] c2 m2 n2) by unfold tag_Put.f; rw [if_pos (by simp)])
  have hX : bits .and .i64 x 2147483647 = x % 2147483648 := and31_ x
  have hY : bits .and .i64 y 2147483647 = y % 2147483648 := and31_ y
  have x0 : 0 ≤ x % 2147483648 ∧ x % 2147483648 < 2147483648 := by omega
  have y0 : 0 ≤ y % 2147483648 ∧ y % 2147483648 < 2147483648 := by omega
  rw [← hX] at x0
  rw [← hY] at y0
  clear hX hY
  generalize bits .and .i64 x 2147483647 = X at *
  generalize bits .and .i64 y 2147483647 = Y at *
  have P3 := Lib.hid (show tag_PutLen.f [] X = some (putLen [] X) by unfold tag_PutLen.f; rw [if_pos ⟨by simp, by omega⟩])
  have P4 := Lib.hid (show tag_PutLen.f [] Y = some (putLen [] Y) by unfold tag_PutLen.f; rw [if_pos ⟨by simp, by omega⟩])
  have E34 := lens_eq x0.1 x0.2 y0.1 y0.2
  have E12 := tags_eq (m1 := m1) (m2 := m2) R1.out R2.out
  have F12 : (((strOfNums (put [] c1 m1 n1)).toList == (strOfNums (put [] c2 m2 n2)).toList) == (c1 == c2 && (m1 == m2 && (n1 == n2)))) = true := by rw [E12]; simp
  have F34 : (((strOfNums (putLen [] X)).toList == (strOfNums (putLen [] Y)).toList) == (X == Y)) = true := by rw [E34]; simp
  clear E12 E34
  refine start_ (n := 25) (S := fun w' => (w'.heap[g3]? = some (.cells #[.int .i64 c1, .bool m1, .int .i64 n1] 24 (0, 0))) ∧ (w'.heap[g4]? = some (.cells #[.int .i64 c2, .bool m2, .int .i64 n2] 24 (0, 0))) ∧ (Below w.heap.size w w')) (ds := []) #[false, false, false, false, false, false, false, false, false, false, false, false, false, false, false, false, false, false, false, false, false, false, false, false, false] (by kernel_rfl) rfl rfl ⟨(by exact B3.out), (by exact B4.out), (by repeat (first | exact HB.out | apply below_drew))⟩ (fun hHeld => ?_)
  refine take_ (i := 0) (N := some 29) (v := ?_) (a' := ?_) #[true, false, false, false, false, false, false, false, false, false, false, false, false, false, false, false, false, false, false, false, false, false, false, false, false] rfl rfl (by kernel_rfl) (fun _ _ _ h => h) (Or.inl ⟨by rfl, ?_⟩) hHeld ?_ ?_
  rotate_left
  · rintro w' ⟨b3, b4, hB⟩
    have hz30 : w'.cell? ⟨g3, 0, none⟩ = some (.int .i64 c1) := (blk_cell b3 0).trans rfl
    have hz31 : w'.cell? ⟨g3, 1, none⟩ = some (.bool m1) := (blk_cell b3 1).trans rfl
    have hz32 : w'.cell? ⟨g3, 2, none⟩ = some (.int .i64 n1) := (blk_cell b3 2).trans rfl
    go_simp
    with_reducible rfl
  rotate_left
  · simp only [Act.put, List.setIfInBounds_toArray, List.set_cons_zero, List.set_cons_succ, i64_w, i32_w]
    rfl
  refine take_ (i := 3) (N := some 32) (v := ?_) (a' := ?_) #[true, false, false, true, false, false, false, false, false, false, false, false, false, false, false, false, false, false, false, false, false, false, false, false, false] rfl rfl (by kernel_rfl) (fun _ _ _ h => h) (Or.inl ⟨by rfl, ?_⟩) hHeld ?_ ?_
  rotate_left
  · rintro w' ⟨b3, b4, hB⟩
    have hz40 : w'.cell? ⟨g4, 0, none⟩ = some (.int .i64 c2) := (blk_cell b4 0).trans rfl
    have hz41 : w'.cell? ⟨g4, 1, none⟩ = some (.bool m2) := (blk_cell b4 1).trans rfl
    have hz42 : w'.cell? ⟨g4, 2, none⟩ = some (.int .i64 n2) := (blk_cell b4 2).trans rfl
    go_simp
    with_reducible rfl
  rotate_left
  · simp only [Act.put, List.setIfInBounds_toArray, List.set_cons_zero, List.set_cons_succ, i64_w, i32_w]
    rfl
  refine take_ (i := 7) (N := some 36) (v := ?_) (a' := ?_) #[true, false, false, true, false, false, false, true, false, false, false, false, false, false, false, false, false, false, false, false, false, false, false, false, false] rfl rfl (by kernel_rfl) (fun _ _ _ h => h) (Or.inl ⟨by rfl, ?_⟩) hHeld ?_ ?_
  rotate_left
  · rintro w' ⟨b3, b4, hB⟩
    have hz30 : w'.cell? ⟨g3, 0, none⟩ = some (.int .i64 c1) := (blk_cell b3 0).trans rfl
    have hz31 : w'.cell? ⟨g3, 1, none⟩ = some (.bool m1) := (blk_cell b3 1).trans rfl
    have hz32 : w'.cell? ⟨g3, 2, none⟩ = some (.int .i64 n1) := (blk_cell b3 2).trans rfl
    go_simp
    with_reducible rfl
  rotate_left
  · simp only [Act.put, List.setIfInBounds_toArray, List.set_cons_zero, List.set_cons_succ, i64_w, i32_w]
    rfl
  refine take_ (i := 8) (N := some 37) (v := ?_) (a' := ?_) #[true, false, false, true, false, false, false, true, true, false, false, false, false, false, false, false, false, false, false, false, false, false, false, false, false] rfl rfl (by kernel_rfl) (fun _ _ _ h => h) (Or.inl ⟨by rfl, ?_⟩) hHeld ?_ ?_
  rotate_left
  · rintro w' ⟨b3, b4, hB⟩
    have hz40 : w'.cell? ⟨g4, 0, none⟩ = some (.int .i64 c2) := (blk_cell b4 0).trans rfl
    have hz41 : w'.cell? ⟨g4, 1, none⟩ = some (.bool m2) := (blk_cell b4 1).trans rfl
    have hz42 : w'.cell? ⟨g4, 2, none⟩ = some (.int .i64 n2) := (blk_cell b4 2).trans rfl
    go_simp
    with_reducible rfl
  rotate_left
  · simp only [Act.put, List.setIfInBounds_toArray, List.set_cons_zero, List.set_cons_succ, i64_w, i32_w]
    rfl
  refine pure_ (i := 9) (N := some 38) (v := ?_) (a' := ?_) #[true, false, false, true, false, false, false, true, true, true, false, false, false, false, false, false, false, false, false, false, false, false, false, false, false] rfl rfl (by kernel_rfl) (fun _ _ _ h => h) (Or.inl ⟨by rfl, ?_⟩) ?_ ?_
  rotate_left
  · intro w'
    go_simp
    with_reducible rfl
  rotate_left
  · simp only [Act.put, List.setIfInBounds_toArray, List.set_cons_zero, List.set_cons_succ, i64_w, i32_w]
    rfl
  refine one_ (i := 1) (N := some 30) #[true, true, false, true, false, false, false, true, true, true, false, false, false, false, false, false, false, false, false, false, false, false, false, false, false] rfl rfl (by kernel_rfl) (by decide) (fun K hK => ?_)
  obtain ⟨b3, b4, hB⟩ := hHeld
  refine goes_ Try.func8 (by kernel_rfl) rfl #[.slice none ([] : List Int).length 0, .agg #[.int .i64 c1, .bool m1, .int .i64 n1]] (by rfl) rfl rfl (by simp only [List.map_toArray, List.map_cons, List.map_nil]; rfl) ?_
  with_reducible refine (tag_Put.calls none 0 [] c1 m1 n1 (put [] c1 m1 n1) _ (Kd.C_nil _ _) (Nat.le_refl _) P1.out).mono ?_
  rintro e w30 ⟨v30, rfl, ho, hb⟩
  refine ⟨_, rfl, ?_⟩
  obtain ⟨q30, ho⟩ : ∃ q, Kd.R (Kd.int .u8) 5 w30 q (fun _ => True) v30 (put [] c1 m1 n1) := ⟨_, ho⟩
  refine hK.out _ _ ⟨(blk_below b3 hb), (blk_below b4 hb), (below_step hB hb)⟩ (fun hHeld => ?_)
  clear hK K
  obtain ⟨b3, b4, hB⟩ := hHeld
  refine more_ (S1 := fun w' => (w'.heap[g3]? = some (.cells #[.int .i64 c1, .bool m1, .int .i64 n1] 24 (0, 0))) ∧ (w'.heap[g4]? = some (.cells #[.int .i64 c2, .bool m2, .int .i64 n2] 24 (0, 0))) ∧ (Below w.heap.size w w') ∧ (Kd.R (Kd.int .u8) 5 w' q30 (fun _ => True) v30 (put [] c1 m1 n1))) (fun w' h' => by have ⟨b3, b4, hB, o30⟩ := h'; exact ⟨b3, b4, hB⟩) ⟨b3, b4, hB, ho⟩ (fun hHeld => ?_)
  refine norm_ (a' := ?_) ?_ ?_
  rotate_left
  · show Act.put _ (some 30) _ = _
    simp only [Act.put, List.setIfInBounds_toArray, List.set_cons_zero, List.set_cons_succ, i64_w, i32_w]
    rfl
  refine take_ (i := 2) (N := some 31) (v := ?_) (a' := ?_) #[true, true, true, true, false, false, false, true, true, true, false, false, false, false, false, false, false, false, false, false, false, false, false, false, false] rfl rfl (by kernel_rfl) (fun _ _ _ h => h) (Or.inl ⟨by rfl, ?_⟩) hHeld ?_ ?_
  rotate_left
  · rintro w' ⟨b3, b4, hB, o30⟩
    have cv30 := own_string (P := Try.prog) Try.underlying22 Try.underlying5 Try.underlying9 (Kd.own_of_R o30)
    go_simp
    with_reducible rfl
  rotate_left
  · simp only [Act.put, List.setIfInBounds_toArray, List.set_cons_zero, List.set_cons_succ, i64_w, i32_w]
    rfl
  refine one_ (i := 4) (N := some 33) #[true, true, true, true, true, false, false, true, true, true, false, false, false, false, false, false, false, false, false, false, false, false, false, false, false] rfl rfl (by kernel_rfl) (by decide) (fun K hK => ?_)
  obtain ⟨b3, b4, hB, o30⟩ := hHeld
  refine goes_ Try.func8 (by kernel_rfl) rfl #[.slice none ([] : List Int).length 0, .agg #[.int .i64 c2, .bool m2, .int .i64 n2]] (by rfl) rfl rfl (by simp only [List.map_toArray, List.map_cons, List.map_nil]; rfl) ?_
  with_reducible refine (tag_Put.calls none 0 [] c2 m2 n2 (put [] c2 m2 n2) _ (Kd.C_nil _ _) (Nat.le_refl _) P2.out).mono ?_
  rintro e w33 ⟨v33, rfl, ho, hb⟩
  refine ⟨_, rfl, ?_⟩
  obtain ⟨q33, ho⟩ : ∃ q, Kd.R (Kd.int .u8) 5 w33 q (fun _ => True) v33 (put [] c2 m2 n2) := ⟨_, ho⟩
  refine hK.out _ _ ⟨(blk_below b3 hb), (blk_below b4 hb), (below_step hB hb), (Kd.R_below o30 hb)⟩ (fun hHeld => ?_)
  clear hK K
  obtain ⟨b3, b4, hB, o30⟩ := hHeld
  refine more_ (S1 := fun w' => (w'.heap[g3]? = some (.cells #[.int .i64 c1, .bool m1, .int .i64 n1] 24 (0, 0))) ∧ (w'.heap[g4]? = some (.cells #[.int .i64 c2, .bool m2, .int .i64 n2] 24 (0, 0))) ∧ (Below w.heap.size w w') ∧ (Kd.R (Kd.int .u8) 5 w' q30 (fun _ => True) v30 (put [] c1 m1 n1)) ∧ (Kd.R (Kd.int .u8) 5 w' q33 (fun _ => True) v33 (put [] c2 m2 n2))) (fun w' h' => by have ⟨b3, b4, hB, o30, o33⟩ := h'; exact ⟨b3, b4, hB, o30⟩) ⟨b3, b4, hB, o30, ho⟩ (fun hHeld => ?_)
  refine norm_ (a' := ?_) ?_ ?_
  rotate_left
  · show Act.put _ (some 33) _ = _
    simp only [Act.put, List.setIfInBounds_toArray, List.set_cons_zero, List.set_cons_succ, i64_w, i32_w]
    rfl
  refine take_ (i := 5) (N := some 34) (v := ?_) (a' := ?_) #[true, true, true, true, true, true, false, true, true, true, false, false, false, false, false, false, false, false, false, false, false, false, false, false, false] rfl rfl (by kernel_rfl) (fun _ _ _ h => h) (Or.inl ⟨by rfl, ?_⟩) hHeld ?_ ?_
  rotate_left
  · rintro w' ⟨b3, b4, hB, o30, o33⟩
    have cv33 := own_string (P := Try.prog) Try.underlying22 Try.underlying5 Try.underlying9 (Kd.own_of_R o33)
    go_simp
    with_reducible rfl
  rotate_left
  · simp only [Act.put, List.setIfInBounds_toArray, List.set_cons_zero, List.set_cons_succ, i64_w, i32_w]
    rfl
  refine pure_ (i := 6) (N := some 35) (v := ?_) (a' := ?_) #[true, true, true, true, true, true, true, true, true, true, false, false, false, false, false, false, false, false, false, false, false, false, false, false, false] rfl rfl (by kernel_rfl) (fun _ _ _ h => h) (Or.inl ⟨by rfl, ?_⟩) ?_ ?_
  rotate_left
  · intro w'
    go_simp
    with_reducible rfl
  rotate_left
  · simp only [Act.put, List.setIfInBounds_toArray, List.set_cons_zero, List.set_cons_succ, i64_w, i32_w]
    rfl
  refine pure_ (i := 10) (N := some 39) (v := ?_) (a' := ?_) #[true, true, true, true, true, true, true, true, true, true, true, false, false, false, false, false, false, false, false, false, false, false, false, false, false] rfl rfl (by kernel_rfl) (fun _ _ _ h => h) (Or.inl ⟨by rfl, ?_⟩) ?_ ?_
  rotate_left
  · intro w'
    go_simp
    with_reducible rfl
  rotate_left
  · simp only [Act.put, List.setIfInBounds_toArray, List.set_cons_zero, List.set_cons_succ, i64_w, i32_w]
    rfl
  refine pure_ (i := 11) (N := some 40) (v := ?_) (a' := ?_) #[true, true, true, true, true, true, true, true, true, true, true, true, false, false, false, false, false, false, false, false, false, false, false, false, false] rfl rfl (by kernel_rfl) (fun _ _ _ h => h) (Or.inl ⟨by rfl, ?_⟩) ?_ ?_
  rotate_left
  · intro w'
    go_simp
    with_reducible rfl
  rotate_left
  · simp only [Act.put, List.setIfInBounds_toArray, List.set_cons_zero, List.set_cons_succ, i64_w, i32_w]
    rfl
  refine pure_ (i := 12) (N := some 41) (v := ?_) (a' := ?_) #[true, true, true, true, true, true, true, true, true, true, true, true, true, false, false, false, false, false, false, false, false, false, false, false, false] rfl rfl (by kernel_rfl) (fun _ _ _ h => h) (Or.inl ⟨by rfl, ?_⟩) ?_ ?_
  rotate_left
  · intro w'
    go_simp
    with_reducible rfl
  rotate_left
  · simp only [Act.put, List.setIfInBounds_toArray, List.set_cons_zero, List.set_cons_succ, i64_w, i32_w]
    rfl
  refine pure_ (i := 15) (N := some 44) (v := ?_) (a' := ?_) #[true, true, true, true, true, true, true, true, true, true, true, true, true, false, false, true, false, false, false, false, false, false, false, false, false] rfl rfl (by kernel_rfl) (fun _ _ _ h => h) (Or.inl ⟨by rfl, ?_⟩) ?_ ?_
  rotate_left
  · intro w'
    go_simp
    with_reducible rfl
  rotate_left
  · simp only [Act.put, List.setIfInBounds_toArray, List.set_cons_zero, List.set_cons_succ, i64_w, i32_w]
    rfl
  refine pure_ (i := 19) (N := some 48) (v := ?_) (a' := ?_) #[true, true, true, true, true, true, true, true, true, true, true, true, true, false, false, true, false, false, false, true, false, false, false, false, false] rfl rfl (by kernel_rfl) (fun _ _ _ h => h) (Or.inl ⟨by rfl, ?_⟩) ?_ ?_
  rotate_left
  · intro w'
    go_simp
    with_reducible rfl
  rotate_left
  · simp only [Act.put, List.setIfInBounds_toArray, List.set_cons_zero, List.set_cons_succ, i64_w, i32_w]
    rfl
  refine pure_ (i := 20) (N := some 49) (v := ?_) (a' := ?_) #[true, true, true, true, true, true, true, true, true, true, true, true, true, false, false, true, false, false, false, true, true, false, false, false, false] rfl rfl (by kernel_rfl) (fun _ _ _ h => h) (Or.inl ⟨by rfl, ?_⟩) ?_ ?_
  rotate_left
  · intro w'
    go_simp
    with_reducible rfl
  rotate_left
  · simp only [Act.put, List.setIfInBounds_toArray, List.set_cons_zero, List.set_cons_succ, i64_w, i32_w]
    rfl
  refine pure_ (i := 21) (N := some 50) (v := ?_) (a' := ?_) #[true, true, true, true, true, true, true, true, true, true, true, true, true, false, false, true, false, false, false, true, true, true, false, false, false] rfl rfl (by kernel_rfl) (fun _ _ _ h => h) (Or.inl ⟨by rfl, ?_⟩) ?_ ?_
  rotate_left
  · intro w'
    go_simp
    with_reducible rfl
  rotate_left
  · simp only [Act.put, List.setIfInBounds_toArray, List.set_cons_zero, List.set_cons_succ, i64_w, i32_w]
    rfl
  refine one_ (i := 13) (N := some 42) #[true, true, true, true, true, true, true, true, true, true, true, true, true, true, false, true, false, false, false, true, true, true, false, false, false] rfl rfl (by kernel_rfl) (by decide) (fun K hK => ?_)
  obtain ⟨b3, b4, hB, o30, o33⟩ := hHeld
  refine goes_ Try.func9 (by kernel_rfl) rfl #[.slice none ([] : List Int).length 0, .int .i64 X] (by rfl) rfl rfl (by simp only [List.map_toArray, List.map_cons, List.map_nil]; rfl) ?_
  with_reducible refine (tag_PutLen.calls none 0 [] X (putLen [] X) _ (Kd.C_nil _ _) (Nat.le_refl _) P3.out).mono ?_
  rintro e w42 ⟨v42, rfl, ho, hb⟩
  refine ⟨_, rfl, ?_⟩
  obtain ⟨q42, ho⟩ : ∃ q, Kd.R (Kd.int .u8) 5 w42 q (fun _ => True) v42 (putLen [] X) := ⟨_, ho⟩
  refine hK.out _ _ ⟨(blk_below b3 hb), (blk_below b4 hb), (below_step hB hb), (Kd.R_below o30 hb), (Kd.R_below o33 hb)⟩ (fun hHeld => ?_)
  clear hK K
  obtain ⟨b3, b4, hB, o30, o33⟩ := hHeld
  refine more_ (S1 := fun w' => (w'.heap[g3]? = some (.cells #[.int .i64 c1, .bool m1, .int .i64 n1] 24 (0, 0))) ∧ (w'.heap[g4]? = some (.cells #[.int .i64 c2, .bool m2, .int .i64 n2] 24 (0, 0))) ∧ (Below w.heap.size w w') ∧ (Kd.R (Kd.int .u8) 5 w' q30 (fun _ => True) v30 (put [] c1 m1 n1)) ∧ (Kd.R (Kd.int .u8) 5 w' q33 (fun _ => True) v33 (put [] c2 m2 n2)) ∧ (Kd.R (Kd.int .u8) 5 w' q42 (fun _ => True) v42 (putLen [] X))) (fun w' h' => by have ⟨b3, b4, hB, o30, o33, o42⟩ := h'; exact ⟨b3, b4, hB, o30, o33⟩) ⟨b3, b4, hB, o30, o33, ho⟩ (fun hHeld => ?_)
  refine norm_ (a' := ?_) ?_ ?_
  rotate_left
  · show Act.put _ (some 42) _ = _
    simp only [Act.put, List.setIfInBounds_toArray, List.set_cons_zero, List.set_cons_succ, i64_w, i32_w]
    rfl
  refine take_ (i := 14) (N := some 43) (v := ?_) (a' := ?_) #[true, true, true, true, true, true, true, true, true, true, true, true, true, true, true, true, false, false, false, true, true, true, false, false, false] rfl rfl (by kernel_rfl) (fun _ _ _ h => h) (Or.inl ⟨by rfl, ?_⟩) hHeld ?_ ?_
  rotate_left
  · rintro w' ⟨b3, b4, hB, o30, o33, o42⟩
    have cv42 := own_string (P := Try.prog) Try.underlying22 Try.underlying5 Try.underlying9 (Kd.own_of_R o42)
    go_simp
    with_reducible rfl
  rotate_left
  · simp only [Act.put, List.setIfInBounds_toArray, List.set_cons_zero, List.set_cons_succ, i64_w, i32_w]
    rfl
  refine one_ (i := 16) (N := some 45) #[true, true, true, true, true, true, true, true, true, true, true, true, true, true, true, true, true, false, false, true, true, true, false, false, false] rfl rfl (by kernel_rfl) (by decide) (fun K hK => ?_)
  obtain ⟨b3, b4, hB, o30, o33, o42⟩ := hHeld
  refine goes_ Try.func9 (by kernel_rfl) rfl #[.slice none ([] : List Int).length 0, .int .i64 Y] (by rfl) rfl rfl (by simp only [List.map_toArray, List.map_cons, List.map_nil]; rfl) ?_
  with_reducible refine (tag_PutLen.calls none 0 [] Y (putLen [] Y) _ (Kd.C_nil _ _) (Nat.le_refl _) P4.out).mono ?_
  rintro e w45 ⟨v45, rfl, ho, hb⟩
  refine ⟨_, rfl, ?_⟩
  obtain ⟨q45, ho⟩ : ∃ q, Kd.R (Kd.int .u8) 5 w45 q (fun _ => True) v45 (putLen [] Y) := ⟨_, ho⟩
  refine hK.out _ _ ⟨(blk_below b3 hb), (blk_below b4 hb), (below_step hB hb), (Kd.R_below o30 hb), (Kd.R_below o33 hb), (Kd.R_below o42 hb)⟩ (fun hHeld => ?_)
  clear hK K
  obtain ⟨b3, b4, hB, o30, o33, o42⟩ := hHeld
  refine more_ (S1 := fun w' => (w'.heap[g3]? = some (.cells #[.int .i64 c1, .bool m1, .int .i64 n1] 24 (0, 0))) ∧ (w'.heap[g4]? = some (.cells #[.int .i64 c2, .bool m2, .int .i64 n2] 24 (0, 0))) ∧ (Below w.heap.size w w') ∧ (Kd.R (Kd.int .u8) 5 w' q30 (fun _ => True) v30 (put [] c1 m1 n1)) ∧ (Kd.R (Kd.int .u8) 5 w' q33 (fun _ => True) v33 (put [] c2 m2 n2)) ∧ (Kd.R (Kd.int .u8) 5 w' q42 (fun _ => True) v42 (putLen [] X)) ∧ (Kd.R (Kd.int .u8) 5 w' q45 (fun _ => True) v45 (putLen [] Y))) (fun w' h' => by have ⟨b3, b4, hB, o30, o33, o42, o45⟩ := h'; exact ⟨b3, b4, hB, o30, o33, o42⟩) ⟨b3, b4, hB, o30, o33, o42, ho⟩ (fun hHeld => ?_)
  refine norm_ (a' := ?_) ?_ ?_
  rotate_left
  · show Act.put _ (some 45) _ = _
    simp only [Act.put, List.setIfInBounds_toArray, List.set_cons_zero, List.set_cons_succ, i64_w, i32_w]
    rfl
  refine take_ (i := 17) (N := some 46) (v := ?_) (a' := ?_) #[true, true, true, true, true, true, true, true, true, true, true, true, true, true, true, true, true, true, false, true, true, true, false, false, false] rfl rfl (by kernel_rfl) (fun _ _ _ h => h) (Or.inl ⟨by rfl, ?_⟩) hHeld ?_ ?_
  rotate_left
  · rintro w' ⟨b3, b4, hB, o30, o33, o42, o45⟩
    have cv45 := own_string (P := Try.prog) Try.underlying22 Try.underlying5 Try.underlying9 (Kd.own_of_R o45)
    go_simp
    with_reducible rfl
  rotate_left
  · simp only [Act.put, List.setIfInBounds_toArray, List.set_cons_zero, List.set_cons_succ, i64_w, i32_w]
    rfl
  refine pure_ (i := 18) (N := some 47) (v := ?_) (a' := ?_) #[true, true, true, true, true, true, true, true, true, true, true, true, true, true, true, true, true, true, true, true, true, true, false, false, false] rfl rfl (by kernel_rfl) (fun _ _ _ h => h) (Or.inl ⟨by rfl, ?_⟩) ?_ ?_
  rotate_left
  · intro w'
    go_simp
    with_reducible rfl
  rotate_left
  · simp only [Act.put, List.setIfInBounds_toArray, List.set_cons_zero, List.set_cons_succ, i64_w, i32_w]
    rfl
  refine pure_ (i := 22) (N := some 51) (v := ?_) (a' := ?_) #[true, true, true, true, true, true, true, true, true, true, true, true, true, true, true, true, true, true, true, true, true, true, true, false, false] rfl rfl (by kernel_rfl) (fun _ _ _ h => h) (Or.inl ⟨by rfl, ?_⟩) ?_ ?_
  rotate_left
  · intro w'
    go_simp
    with_reducible rfl
  rotate_left
  · simp only [Act.put, List.setIfInBounds_toArray, List.set_cons_zero, List.set_cons_succ, i64_w, i32_w]
    rfl
  refine pure_ (i := 23) (N := some 52) (v := ?_) (a' := ?_) #[true, true, true, true, true, true, true, true, true, true, true, true, true, true, true, true, true, true, true, true, true, true, true, true, false] rfl rfl (by kernel_rfl) (fun _ _ _ h => h) (Or.inl ⟨by rfl, ?_⟩) ?_ ?_
  rotate_left
  · intro w'
    go_simp
    with_reducible rfl
  rotate_left
  · simp only [Act.put, List.setIfInBounds_toArray, List.set_cons_zero, List.set_cons_succ, i64_w, i32_w]
    rfl
  refine pure_ (i := 24) (N := some 6) (v := ?_) (a' := ?_) #[true, true, true, true, true, true, true, true, true, true, true, true, true, true, true, true, true, true, true, true, true, true, true, true, true] rfl rfl (by kernel_rfl) (fun _ _ _ h => h) (Or.inl ⟨by rfl, ?_⟩) ?_ ?_
  rotate_left
  · intro w'
    go_simp
    with_reducible rfl
  rotate_left
  · simp only [Act.put, List.setIfInBounds_toArray, List.set_cons_zero, List.set_cons_succ, i64_w, i32_w]
    rfl
  refine done_ (by kernel_rfl) ?_
  obtain ⟨b3, b4, hB, _⟩ := hHeld
  go_wp2_with fail
  go_ret
  exact ⟨rfl, hB⟩
end Go.Proofs.Ytalbgdjclfahjaa.OneW
