/- What slices.Delete and Take answer on a net of two messages: contracts. -/
import Derived.Test.YtbojccpaohccfaaNetC
namespace Go.Proofs.Ytbojccpaohccfaa.H
open Go.RowKit Go.Proofs.YtbojccpaohccfaaW.PrintWords Go.Proofs.YtbojccpaohccfaaW.PrintLast Go.Proofs.YtbojccpaohccfaaW.PrintMore
set_option linter.unusedVariables false
set_option linter.unusedSimpArgs false
theorem info39s : (Try.prog.info? 39).map (·.size) = some (Kd.raw 11).sz := by kernel_rfl
/-- A row of one's own, its block. -/
theorem own_head {w : World} {B e n c g : Nat} {ok : Nat → Prop} {sz : Nat} {xs : List (List Value)} (h : (Kd.raw sz).R e w B ok (.slice (some ⟨g, 0, none⟩) n c) xs) : n ≤ c ∧ ∃ cur, w.heap[g]? = some (.cells cur e (0, 0)) ∧ cur.size = c * sz := by
  obtain ⟨_, inner, ho, _⟩ := h
  rcases ho.2 with ⟨hv, _⟩ | ⟨g', cap, cur, hv, hb, hh, hnc, hcm, hcs, _⟩
  · cases hv
  · injection hv with ha hn hc
    injection ha with ha
    injection ha with hg'
    subst hg' hc
    exact ⟨by rw [hn]; exact hnc, cur, hh, hcs⟩
section
variable {P : Program} {ops : Array Oper} {rest : List Oper} {o : Oper} {a : Act} {Q : Exit → Act → World → Prop}
theorem zero_one : (Builtin.zeroCells (mcs 0) 1).toList = (mcs 0).toList := by kernel_rfl
/-- clear of one message that stands in a row of one's own. -/
theorem clear_event {W : World} {g off m e : Nat} {cur : Array Value} (hN : o.dst = none) (hgd : o.guard = none) (x : Operand) (ho : o.op = .call { callee := .builtin .clear, args := #[x], argTypes := #[47] })
    (hx : a.eval x = .slice (some ⟨g, off, none⟩) 1 m) (hh : W.heap[g]? = some (.cells cur e (0, 0))) (hfit : off + 11 ≤ cur.size)
    (h : ∀ w1, W.grownBy w1 (some g) → wpList Try.prog ops Q rest a w1) : wpList Try.prog ops Q (o :: rest) a W := by
  have hst := run_storeCells_cells (P := Try.prog) g off (mcs 0).toList 0 W (fun j hj => by rw [cell_of_row W g _ cur e (0, 0) hh]; simp at hj; simp; omega) (fun j _ => blk_frozen hh _) (mcs_one 0)
  obtain ⟨s1, s2, s3, s4⟩ := setCells_same g (mcs 0).toList off W
  have hr : (Builtin.clear_ #[47] o.type #[.slice (some ⟨g, off, none⟩) 1 m]).run Try.prog W = .ok (.tuple #[]) (W.setCells g off (mcs 0).toList) := by
    simp only [Nat.add_zero] at hst
    unfold Builtin.clear_
    simp [run_underlying Try.underlying47, Try.zeroValue39, zero_one, Value.cells, hst]
  refine wpList_plain hgd fun K hK => ?_
  unfold Oper.wp execOp
  simp only [ho, resolve, invoke, builtin, Sem.run_bind, Sem.run_pure, Result.andThen_ok, List.map_toArray, List.map_cons, List.map_nil, hx, hr]
  show K (a.put o.dst _) _
  rw [hN]
  exact hK _ _ (h _ ⟨s1, s2, s3, by rw [s4]; exact Nat.le_refl _, fun k _ hk => setCells_far _ _ k (fun he => hk (by rw [he]))⟩)
end

set_option maxRecDepth 100000 in
set_option maxHeartbeats 4000000 in
theorem delete_two (g B : Nat) (t0 t1 : Int) (w : World) (hR : (Kd.raw 11).R 39 w B (fun _ => True) (.slice (some ⟨g, 0, none⟩) 2 2) [ml t0, ml t1]) (hBW : B ≤ w.heap.size) :
    Calls Try.prog 21 #[.slice (some ⟨g, 0, none⟩) 2 2, .int .i64 1, .int .i64 2] w fun e w' => e = .returned (.slice (some ⟨g, 0, none⟩) 1 2) ∧ w.drew.grownBy w' (some g) := by
  have HR := Lib.hid hR
  have HBW := Lib.hid hBW
  clear hR hBW
  go_enter Try.func21, Try.ntmps21
  go_wp2_with fail
  refine start_ (n := 8) (S := fun w' => (True) ∧ (True)) (ds := [6]) #[false, false, false, false, false, false, false, false] (by kernel_rfl) rfl rfl ⟨trivial, trivial⟩ (fun hHeld => ?_)
  refine pure_ (i := 0) (N := some 20) (v := ?_) (a' := ?_) #[true, false, false, false, false, false, false, false] rfl rfl (by kernel_rfl) (fun _ _ _ h => h) (Or.inl ⟨by rfl, ?_⟩) ?_ ?_
  rotate_left
  · intro w'
    go_simp
    with_reducible rfl
  rotate_left
  · simp only [Act.put, List.setIfInBounds_toArray, List.set_cons_zero, List.set_cons_succ, i64_w, i32_w]
    rfl
  refine pure_ (i := 1) (N := some 21) (v := ?_) (a' := ?_) #[true, true, false, false, false, false, false, false] rfl rfl (by kernel_rfl) (fun _ _ _ h => h) (Or.inl ⟨by rfl, ?_⟩) ?_ ?_
  rotate_left
  · intro w'
    go_simp
    with_reducible rfl
  rotate_left
  · simp only [Act.put, List.setIfInBounds_toArray, List.set_cons_zero, List.set_cons_succ, i64_w, i32_w]
    rfl
  refine pure_ (i := 2) (N := some 22) (v := ?_) (a' := ?_) #[true, true, true, false, false, false, false, false] rfl rfl (by kernel_rfl) (fun _ _ _ h => h) (Or.inl ⟨by rfl, ?_⟩) ?_ ?_
  rotate_left
  · intro w'
    go_simp
    with_reducible rfl
  rotate_left
  · simp only [Act.put, List.setIfInBounds_toArray, List.set_cons_zero, List.set_cons_succ, i64_w, i32_w]
    rfl
  refine pure_ (i := 3) (N := some 23) (v := ?_) (a' := ?_) #[true, true, true, true, false, false, false, false] rfl rfl (by kernel_rfl) (fun _ _ _ h => h) (Or.inl ⟨by rfl, ?_⟩) ?_ ?_
  rotate_left
  · intro w'
    go_simp
    with_reducible rfl
  rotate_left
  · simp only [Act.put, List.setIfInBounds_toArray, List.set_cons_zero, List.set_cons_succ, i64_w, i32_w]
    rfl
  refine pure_ (i := 4) (N := some 24) (v := ?_) (a' := ?_) #[true, true, true, true, true, false, false, false] rfl rfl (by kernel_rfl) (fun _ _ _ h => h) (Or.inl ⟨by rfl, ?_⟩) ?_ ?_
  rotate_left
  · intro w'
    go_simp
    with_reducible rfl
  rotate_left
  · simp only [Act.put, List.setIfInBounds_toArray, List.set_cons_zero, List.set_cons_succ, i64_w, i32_w]
    rfl
  refine pure_ (i := 5) (N := some 25) (v := ?_) (a' := ?_) #[true, true, true, true, true, true, false, false] rfl rfl (by kernel_rfl) (fun _ _ _ h => h) (Or.inl ⟨by rfl, ?_⟩) ?_ ?_
  rotate_left
  · intro w'
    go_simp
    with_reducible rfl
  rotate_left
  · simp only [Act.put, List.setIfInBounds_toArray, List.set_cons_zero, List.set_cons_succ, i64_w, i32_w]
    rfl
  refine last_ (i := 6) (N := some 26) #[true, true, true, true, true, true, true, false] rfl rfl (by kernel_rfl) (by decide) (fun K hK => ?_)
  obtain ⟨hT, hU⟩ := hHeld
  refine Kd.R_delete_step (Kd.raw 11) (w0 := w.drew) B ?hw6 (.tmp 22) (.tmp 25) 47 39 ?ho6 Try.underlying47 info39s (g := g) (n := 2) (c := 2) (k := 1) (m := 0) (c2 := 0) (A := some ⟨g, 0, none⟩) ?hs6 ?hx6 ?hA6 rfl (Kd.R_drew HR.out) (by omega) (Below.refl _ _) HBW.out ?_
  case hw6 => rfl
  case ho6 => rfl
  case hs6 => rfl
  case hx6 => first | rfl | (simp; done)
  case hA6 => rfl
  intro w6 hR6 _ hg
  refine hK.out _ _ ?_
  clear hK K
  have HR6 := Lib.hid hR6
  have HG6 := Lib.hid hg
  clear hR6 hg
  refine norm_ (a' := ?_) ?_ ?_
  rotate_left
  · show Act.put _ (some 26) _ = _
    simp only [Act.put, List.setIfInBounds_toArray, List.set_cons_zero, List.set_cons_succ, i64_w, i32_w]
    rfl
  refine pure_ (i := 7) (N := some 0) (v := ?_) (a' := ?_) #[true, true, true, true, true, true, true, true] rfl rfl (by kernel_rfl) (fun _ _ _ h => h) (Or.inl ⟨by rfl, ?_⟩) ?_ ?_
  rotate_left
  · intro w'
    go_simp
    with_reducible rfl
  rotate_left
  · simp only [Act.put, List.setIfInBounds_toArray, List.set_cons_zero, List.set_cons_succ, i64_w, i32_w]
    rfl
  refine done_ (by kernel_rfl) ?_
  obtain ⟨_, cur6, hh6, hs6⟩ := own_head HR6.out
  go_wp2_with (refine gate_ (.call { callee := .builtin .clear, args := #[.tmp 31], argTypes := #[47] }) rfl ?_; refine clear_event rfl rfl (.tmp 31) rfl (g := g) (off := 11) (m := 1) (by rfl) hh6 (by omega) ?_; intro w9 hg9; have HG9 := Lib.hid hg9; clear hg9)
  go_ret
  exact ⟨rfl, HG6.out.trans HG9.out⟩

set_option maxRecDepth 100000 in
set_option maxHeartbeats 4000000 in
theorem delete_more (g c B : Nat) (t0 t1 : Int) (w : World) (hc : 2 < c) (hR : (Kd.raw 11).R 39 w B (fun _ => True) (.slice (some ⟨g, 0, none⟩) 2 c) [ml t0, ml t1]) (hBW : B ≤ w.heap.size) :
    Calls Try.prog 21 #[.slice (some ⟨g, 0, none⟩) 2 c, .int .i64 1, .int .i64 2] w fun e w' => e = .returned (.slice (some ⟨g, 0, none⟩) 1 c) ∧ w.drew.grownBy w' (some g) := by
  have k1 : ((1 : Int) ≤ (c : Int)) = True := eq_true (by omega)
  have k2 : ((2 : Int) ≤ (c : Int)) = True := eq_true (by omega)
  have k3 : ((2 : Nat) ≤ c) = True := eq_true (by omega)
  have k4 : ((c : Int) = 2) = False := eq_false (by omega)
  have k5 : (c = 2) = False := eq_false (by omega)
  have k6 : ((c : Int) = 1) = False := eq_false (by omega)
  have k7 : (c = 1) = False := eq_false (by omega)
  have HR := Lib.hid hR
  have HBW := Lib.hid hBW
  clear hR hBW
  go_enter Try.func21, Try.ntmps21
  go_wp2_with fail
  refine start_ (n := 8) (S := fun w' => (True) ∧ (True)) (ds := [6]) #[false, false, false, false, false, false, false, false] (by kernel_rfl) rfl rfl ⟨trivial, trivial⟩ (fun hHeld => ?_)
  refine pure_ (i := 0) (N := some 20) (v := ?_) (a' := ?_) #[true, false, false, false, false, false, false, false] rfl rfl (by kernel_rfl) (fun _ _ _ h => h) (Or.inl ⟨by rfl, ?_⟩) ?_ ?_
  rotate_left
  · intro w'
    go_simp
    with_reducible rfl
  rotate_left
  · simp only [Act.put, List.setIfInBounds_toArray, List.set_cons_zero, List.set_cons_succ, i64_w, i32_w]
    rfl
  refine pure_ (i := 1) (N := some 21) (v := ?_) (a' := ?_) #[true, true, false, false, false, false, false, false] rfl rfl (by kernel_rfl) (fun _ _ _ h => h) (Or.inl ⟨by rfl, ?_⟩) ?_ ?_
  rotate_left
  · intro w'
    go_simp
    with_reducible rfl
  rotate_left
  · simp only [Act.put, List.setIfInBounds_toArray, List.set_cons_zero, List.set_cons_succ, i64_w, i32_w]
    rfl
  refine pure_ (i := 2) (N := some 22) (v := ?_) (a' := ?_) #[true, true, true, false, false, false, false, false] rfl rfl (by kernel_rfl) (fun _ _ _ h => h) (Or.inl ⟨by rfl, ?_⟩) ?_ ?_
  rotate_left
  · intro w'
    go_simp
    with_reducible rfl
  rotate_left
  · simp only [Act.put, List.setIfInBounds_toArray, List.set_cons_zero, List.set_cons_succ, i64_w, i32_w]
    rfl
  refine pure_ (i := 3) (N := some 23) (v := ?_) (a' := ?_) #[true, true, true, true, false, false, false, false] rfl rfl (by kernel_rfl) (fun _ _ _ h => h) (Or.inl ⟨by rfl, ?_⟩) ?_ ?_
  rotate_left
  · intro w'
    go_simp
    with_reducible rfl
  rotate_left
  · simp only [Act.put, List.setIfInBounds_toArray, List.set_cons_zero, List.set_cons_succ, i64_w, i32_w]
    rfl
  refine pure_ (i := 4) (N := some 24) (v := ?_) (a' := ?_) #[true, true, true, true, true, false, false, false] rfl rfl (by kernel_rfl) (fun _ _ _ h => h) (Or.inl ⟨by rfl, ?_⟩) ?_ ?_
  rotate_left
  · intro w'
    go_simp
    with_reducible rfl
  rotate_left
  · simp only [Act.put, List.setIfInBounds_toArray, List.set_cons_zero, List.set_cons_succ, i64_w, i32_w]
    rfl
  refine pure_ (i := 5) (N := some 25) (v := ?_) (a' := ?_) #[true, true, true, true, true, true, false, false] rfl rfl (by kernel_rfl) (fun _ _ _ h => h) (Or.inl ⟨by rfl, ?_⟩) ?_ ?_
  rotate_left
  · intro w'
    go_simp
    with_reducible rfl
  rotate_left
  · simp only [Act.put, List.setIfInBounds_toArray, List.set_cons_zero, List.set_cons_succ, i64_w, i32_w]
    rfl
  refine last_ (i := 6) (N := some 26) #[true, true, true, true, true, true, true, false] rfl rfl (by kernel_rfl) (by decide) (fun K hK => ?_)
  obtain ⟨hT, hU⟩ := hHeld
  refine Kd.R_delete_step (Kd.raw 11) (w0 := w.drew) B ?hw6 (.tmp 22) (.tmp 25) 47 39 ?ho6 Try.underlying47 info39s (g := g) (n := 2) (c := c) (k := 1) (m := 0) (c2 := c - 2) (A := some ⟨g, 22, none⟩) ?hs6 ?hx6 ?hA6 rfl (Kd.R_drew HR.out) (by omega) (Below.refl _ _) HBW.out ?_
  case hw6 => rfl
  case ho6 => rfl
  case hs6 => rfl
  case hx6 => first | rfl | (simp; done)
  case hA6 => rw [if_neg (by omega)]; rfl
  intro w6 hR6 _ hg
  refine hK.out _ _ ?_
  clear hK K
  have HR6 := Lib.hid hR6
  have HG6 := Lib.hid hg
  clear hR6 hg
  refine norm_ (a' := ?_) ?_ ?_
  rotate_left
  · show Act.put _ (some 26) _ = _
    simp only [Act.put, List.setIfInBounds_toArray, List.set_cons_zero, List.set_cons_succ, i64_w, i32_w]
    rfl
  refine pure_ (i := 7) (N := some 0) (v := ?_) (a' := ?_) #[true, true, true, true, true, true, true, true] rfl rfl (by kernel_rfl) (fun _ _ _ h => h) (Or.inl ⟨by rfl, ?_⟩) ?_ ?_
  rotate_left
  · intro w'
    go_simp
    with_reducible rfl
  rotate_left
  · simp only [Act.put, List.setIfInBounds_toArray, List.set_cons_zero, List.set_cons_succ, i64_w, i32_w]
    rfl
  refine done_ (by kernel_rfl) ?_
  obtain ⟨_, cur6, hh6, hs6⟩ := own_head HR6.out
  go_wp2_with (refine gate_ (.call { callee := .builtin .clear, args := #[.tmp 31], argTypes := #[47] }) rfl ?_; refine clear_event rfl rfl (.tmp 31) rfl (g := g) (off := 11) (m := c - 1) (by rfl) hh6 (by omega) ?_; intro w9 hg9; have HG9 := Lib.hid hg9; clear hg9)
  go_ret
  exact ⟨rfl, HG6.out.trans HG9.out⟩
end Go.Proofs.Ytbojccpaohccfaa.H
