/- What PutLen answers: contracts. Condition: the slice holds bytes, not too many of them. -/
import Derived.Test.YtkhghgmonjebnaaPut
import Derived.Test.YtkhghgmonjebnaaWLast
namespace Go.Proofs.Ytkhghgmonjebnaa.H
open Go.RowKit Go.Proofs.YtkhghgmonjebnaaW.PrintWords Go.Proofs.YtkhghgmonjebnaaW.PrintLast Go.Proofs.YtkhghgmonjebnaaW.PrintMore
set_option linter.unusedVariables false
set_option linter.unusedSimpArgs false

set_option maxHeartbeats 2000000 in
theorem putLen_not (A : Option Addr) (c : Nat) (l : List Int) (n : Int) (w : World) (HR : Kd.C (Kd.int .u8) w A l.length l) (hc : l.length ≤ c) (hl : l.length < 140737488350000) (hn : n < 0) :
    Calls Try.prog 19 #[.slice A l.length c, .int .i64 n] w fun e w' => ∃ v0_ : Value, e = .returned v0_ ∧ Kd.R (Kd.int .u8) 5 w' w.heap.size (fun _ => True) v0_ (l) ∧ Below w.heap.size w w' := by
  have HR := Lib.hid HR
  go_enter Try.func19, Try.ntmps19
  go_wp2_with (first | ((with_reducible refine gate_dst (N := 7) rfl ?_); refine Kd.R_lit (Kd.int .u8) (w0 := w) w.heap.size 5 ?hg (N := 7) ?hd (xs := ([] : List Int)) (inner := []) (ok := fun _ => True) (okp := fun _ => True) ?hr ?hp (fun _ hk => hk) trivial (Below.refl _ _) (Nat.le_refl _) (by simp) ?_; (case hd => rfl); (case hg => rfl); (case hr => first | (go_simp; done) | (go_simp; rfl)); (case hp => exact (Reps.none _ _)); intro v7 w7 ho7 hb7 hg7 hnew7; clear hg7 hnew7; have HO := Lib.hid ho7; have HB := Lib.hid hb7; clear ho7 hb7) | ((with_reducible refine gate_builtin (b := .append) (xs := #[.tmp 7, .tmp 8]) rfl ?_); at_builtin; refine Kd.R_append_rows (Kd.int .u8) (w0 := w) w.heap.size rfl (.tmp 7) (.tmp 8) 24 5 (.int .u8 0) 1 rfl Try.underlying24 info5 rfl (by decide) (by omega) v7 [] l _ _ _ (fun _ => True) (fun _ => False) rfl rfl HO.out (Kd.C_below HR.out HB.out) (fun _ _ h => h) (fun _ h => h.elim) (fun _ _ => trivial) HB.out HB.out.size (by simp; omega) ?_; intro v9 w9 ho9 hb9 hg9 hat9; clear hg9 hat9 HB HO; rw [List.nil_append] at ho9; (obtain ⟨A9, c9, e9⟩ := Kd.R_slice ho9); subst e9; have HO := Lib.hid ho9; have HB := Lib.hid hb9; clear ho9 hb9))
  go_ret
  exact ⟨_, rfl, HO.out, HB.out⟩

set_option maxHeartbeats 2000000 in
theorem putLen_short (A : Option Addr) (c : Nat) (l : List Int) (n : Int) (w : World) (HR : Kd.C (Kd.int .u8) w A l.length l) (hc : l.length ≤ c) (hl : l.length < 140737488350000) (hn : 0 ≤ n) (hn1 : n < 128) :
    Calls Try.prog 19 #[.slice A l.length c, .int .i64 n] w fun e w' => ∃ v0_ : Value, e = .returned v0_ ∧ Kd.R (Kd.int .u8) 5 w' w.heap.size (fun _ => True) v0_ (l ++ [n]) ∧ Below w.heap.size w w' := by
  have HR := Lib.hid HR
  go_enter Try.func19, Try.ntmps19
  go_wp2_with (first | ((with_reducible refine gate_dst (N := 7) rfl ?_); refine Kd.R_lit (Kd.int .u8) (w0 := w) w.heap.size 5 ?hg (N := 7) ?hd (xs := ([] : List Int)) (inner := []) (ok := fun _ => True) (okp := fun _ => True) ?hr ?hp (fun _ hk => hk) trivial (Below.refl _ _) (Nat.le_refl _) (by simp) ?_; (case hd => rfl); (case hg => rfl); (case hr => first | (go_simp; done) | (go_simp; rfl)); (case hp => exact (Reps.none _ _)); intro v7 w7 ho7 hb7 hg7 hnew7; clear hg7 hnew7; have HO := Lib.hid ho7; have HB := Lib.hid hb7; clear ho7 hb7) | ((with_reducible refine gate_builtin (b := .append) (xs := #[.tmp 7, .tmp 8]) rfl ?_); at_builtin; refine Kd.R_append_rows (Kd.int .u8) (w0 := w) w.heap.size rfl (.tmp 7) (.tmp 8) 24 5 (.int .u8 0) 1 rfl Try.underlying24 info5 rfl (by decide) (by omega) v7 [] l _ _ _ (fun _ => True) (fun _ => False) rfl rfl HO.out (Kd.C_below HR.out HB.out) (fun _ _ h => h) (fun _ h => h.elim) (fun _ _ => trivial) HB.out HB.out.size (by simp; omega) ?_; intro v9 w9 ho9 hb9 hg9 hat9; clear hg9 hat9 HB HO; rw [List.nil_append] at ho9; (obtain ⟨A9, c9, e9⟩ := Kd.R_slice ho9); subst e9; have HO := Lib.hid ho9; have HB := Lib.hid hb9; clear ho9 hb9) | ((with_reducible refine gate_builtin (b := .append) (xs := #[.tmp 15, .tmp 18]) rfl ?_); at_builtin; refine Kd.R_append (Kd.int .u8) (w0 := w) w.heap.size rfl (.tmp 15) (.tmp 18) 24 5 (.int .u8 0) 1 rfl Try.underlying24 info5 rfl (by decide) (by omega) _ l n [.int .u8 n] (fun _ => True) (fun _ => False) rfl rfl ?aP (fun _ hk => hk.elim) (fun _ _ => trivial) HO.out HB.out HB.out.size ?aL ?_; (case aP => exact rfl); (case aL => omega); intro v19 w19 ho hb hg hat; have HO2 := Lib.hid ho; have HB2 := Lib.hid hb; clear ho hb hg hat))
  go_ret
  exact ⟨_, rfl, HO2.out, HB2.out⟩

theorem grp8_len (n : Int) (m : Nat) : (grp8 n m).length = m + 1 := by
  induction m with
  | zero => rfl
  | succ m ih => simp [grp8, ih]
set_option maxHeartbeats 4000000 in
theorem putLen_long (A : Option Addr) (c : Nat) (l : List Int) (n : Int) (m : Nat) (w : World) (HR : Kd.C (Kd.int .u8) w A l.length l) (hc : l.length ≤ c) (hl : l.length < 140737488350000) (hn0 : 128 ≤ n) (hn1 : n < 9223372036854775808) (hm : m ≤ 7) (hm1 : n / 2 ^ (8 * m) < 256) (hm2 : ∀ j, j < m → 256 ≤ n / 2 ^ (8 * j)) :
    Calls Try.prog 19 #[.slice A l.length c, .int .i64 n] w fun e w' => ∃ v0_ : Value, e = .returned v0_ ∧ Kd.R (Kd.int .u8) 5 w' w.heap.size (fun _ => True) v0_ (l ++ [128 + ((m : Int) + 1)] ++ grp8 n m) ∧ Below w.heap.size w w' := by
  have HR := Lib.hid HR
  have H1 := Lib.hid hm1
  have H2 := Lib.hid hm2
  clear hm1 hm2
  go_enter Try.func19, Try.ntmps19
  go_wp2_with (first | ((with_reducible refine gate_dst (N := 7) rfl ?_); refine Kd.R_lit (Kd.int .u8) (w0 := w) w.heap.size 5 ?hg (N := 7) ?hd (xs := ([] : List Int)) (inner := []) (ok := fun _ => True) (okp := fun _ => True) ?hr ?hp (fun _ hk => hk) trivial (Below.refl _ _) (Nat.le_refl _) (by simp) ?_; (case hd => rfl); (case hg => rfl); (case hr => first | (go_simp; done) | (go_simp; rfl)); (case hp => exact (Reps.none _ _)); intro v7 w7 ho7 hb7 hg7 hnew7; clear hg7 hnew7; have HO := Lib.hid ho7; have HB := Lib.hid hb7; clear ho7 hb7) | ((with_reducible refine gate_builtin (b := .append) (xs := #[.tmp 7, .tmp 8]) rfl ?_); at_builtin; refine Kd.R_append_rows (Kd.int .u8) (w0 := w) w.heap.size rfl (.tmp 7) (.tmp 8) 24 5 (.int .u8 0) 1 rfl Try.underlying24 info5 rfl (by decide) (by omega) v7 [] l _ _ _ (fun _ => True) (fun _ => False) rfl rfl HO.out (Kd.C_below HR.out HB.out) (fun _ _ h => h) (fun _ h => h.elim) (fun _ _ => trivial) HB.out HB.out.size (by simp; omega) ?_; intro v9 w9 ho9 hb9 hg9 hat9; clear hg9 hat9 HB HO; rw [List.nil_append] at ho9; (obtain ⟨A9, c9, e9⟩ := Kd.R_slice ho9); subst e9; have HO := Lib.hid ho9; have HB := Lib.hid hb9; clear ho9 hb9) | ((with_reducible refine gate_dst (N := 6) rfl ?_); refine box_event ?hg (N := 6) ?hd (cs := #[.slice none 0 0]) (t := 24) ?hr ?_; (case hd => rfl); (case hg => rfl); (case hr => first | (go_simp; done) | (go_simp; rfl)); intro g6 hg6 w6 hbox6 hb6; (have HVar := Lib.hid (show Var w9.heap.size w6 g6 (.slice none 0 0) [] from ⟨hbox6, Kd.R_nil _ _ _ _ _, by omega⟩)); have HG := Lib.hid hg6; have HB6 := Lib.hid hb6; clear hg6 hbox6 hb6) | (go_at_call 32; refine (digits20 w9.heap.size g6 _ [] n m w9 _ HVar.out HB6.out (by omega) (by omega) hm H1.out H2.out (by simp)).mono ?_; rintro e w18 ⟨rfl, ⟨v18, hV⟩, hb18⟩; rw [List.nil_append] at hV; (have hc18 : w18.cell? ⟨g6, 0, none⟩ = some v18 := blk_cell hV.blk 0); (obtain ⟨A18, c18, e18⟩ := Kd.R_slice hV.row); subst e18; (obtain ⟨N18, e19⟩ : ∃ N, (grp8 n m).length = N := ⟨_, rfl⟩); (rw [e19] at hc18 hV); have E18 := Lib.hid e19; have HV := Lib.hid hV; have HB18 := Lib.hid hb18; clear e19 hV hb18 HVar HB6))
  have hN : N18 = m + 1 := by rw [← E18.out]; exact grp8_len n m
  have HN := Lib.hid hN
  have HY := Lib.hid (show IntKind.u8.wrap (wrap64 (128 + (N18 : Int))) = 128 + (N18 : Int) by rw [IntKind.wrap_u8]; unfold wrap64; omega)
  have B9 := Lib.hid (below_step HB.out HB18.out)
  have hl9 := Kd.R_lt HO.out
  have hb18 := Kd.R_base HV.out.row
  have R9 := Lib.hid (show Kd.R (Kd.int .u8) 5 w18 w.heap.size (fun k => some k ≠ (Value.slice A18 N18 c18).ownBlock) (.slice A9 l.length c9) l from ⟨fun k hk e => by have h1 := hl9 k hk; have h2 := hb18 k e.symm; omega, (Kd.R_below HO.out HB18.out).2⟩)
  have G9 := Lib.hid (show some g6 ≠ (Value.slice A9 l.length c9).ownBlock from fun e => by have h1 := hl9 g6 e.symm; have h2 := HG.out; omega)
  have R18a := Lib.hid (show Kd.R (Kd.int .u8) 5 w18 w9.heap.size (fun k => some k ≠ (Value.slice A9 l.length c9).ownBlock) (.slice A18 N18 c18) (grp8 n m) from ⟨fun k hk e => by have h1 := hl9 k e.symm; have h2 := hb18 k hk; omega, HV.out.row.2⟩)
  clear hN hl9 hb18
  refine start_ (n := 10) (S := fun w' => w'.cell? ⟨g6, 0, none⟩ = some (.slice A18 N18 c18)) (ds := [8, 9]) #[false, false, false, false, false, false, false, false, false, false] (by kernel_rfl) rfl rfl (hc18) (fun hHeld => ?_)
  refine pure_ (i := 0) (N := some 23) (v := ?_) (a' := ?_) #[true, false, false, false, false, false, false, false, false, false] rfl rfl (by kernel_rfl) (fun _ _ _ h => h) (Or.inl ⟨by rfl, ?_⟩) ?_ ?_
  rotate_left
  · intro w'
    go_simp
    with_reducible rfl
  rotate_left
  · simp only [Act.put, List.setIfInBounds_toArray, List.set_cons_zero, List.set_cons_succ, i64_w, i32_w]
    rfl
  refine take_ (i := 1) (N := some 24) (v := ?_) (a' := ?_) #[true, true, false, false, false, false, false, false, false, false] rfl rfl (by kernel_rfl) (fun _ _ _ h => h) (Or.inl ⟨by rfl, ?_⟩) hHeld ?_ ?_
  rotate_left
  · intro w' s0
    go_simp
    with_reducible rfl
  rotate_left
  · simp only [Act.put, List.setIfInBounds_toArray, List.set_cons_zero, List.set_cons_succ, i64_w, i32_w]
    rfl
  refine pure_ (i := 2) (N := some 25) (v := ?_) (a' := ?_) #[true, true, true, false, false, false, false, false, false, false] rfl rfl (by kernel_rfl) (fun _ _ _ h => h) (Or.inl ⟨by rfl, ?_⟩) ?_ ?_
  rotate_left
  · intro w'
    go_simp
    with_reducible rfl
  rotate_left
  · simp only [Act.put, List.setIfInBounds_toArray, List.set_cons_zero, List.set_cons_succ, i64_w, i32_w]
    rfl
  refine pure_ (i := 3) (N := some 26) (v := ?_) (a' := ?_) #[true, true, true, true, false, false, false, false, false, false] rfl rfl (by kernel_rfl) (fun _ _ _ h => h) (Or.inl ⟨by rfl, ?_⟩) ?_ ?_
  rotate_left
  · intro w'
    go_simp
    with_reducible rfl
  rotate_left
  · simp only [Act.put, List.setIfInBounds_toArray, List.set_cons_zero, List.set_cons_succ, i64_w, i32_w]
    rfl
  refine pure_ (i := 4) (N := some 27) (v := ?_) (a' := ?_) #[true, true, true, true, true, false, false, false, false, false] rfl rfl (by kernel_rfl) (fun _ _ _ h => h) (Or.inl ⟨by rfl, ?_⟩) ?_ ?_
  rotate_left
  · intro w'
    go_simp
    with_reducible rfl
  rotate_left
  · simp only [Act.put, List.setIfInBounds_toArray, List.set_cons_zero, List.set_cons_succ, i64_w, i32_w]
    rfl
  refine take_ (i := 7) (N := some 30) (v := ?_) (a' := ?_) #[true, true, true, true, true, false, false, true, false, false] rfl rfl (by kernel_rfl) (fun _ _ _ h => h) (Or.inl ⟨by rfl, ?_⟩) hHeld ?_ ?_
  rotate_left
  · intro w' s0
    go_simp
    with_reducible rfl
  rotate_left
  · simp only [Act.put, List.setIfInBounds_toArray, List.set_cons_zero, List.set_cons_succ, i64_w, i32_w]
    rfl
  refine one_ (i := 5) (N := some 28) #[true, true, true, true, true, true, false, true, false, false] rfl rfl (by kernel_rfl) (by decide) (fun K hK => ?_)
  refine value_ (w1 := ?_) (v := ?_) (by rfl) rfl ?_ ?_
  rotate_left 2
  · go_simp
    constructor
    · rfl
    · rfl
  have HW0 := Lib.hid hc18
  refine hK.out _ _ ((pw_cell_below (below_alloc (Below.refl _ _) _) (show w18.drew.cell? ⟨g6, 0, none⟩ = _ from hc18))) (fun hHeld => ?_)
  clear hK K
  refine norm_ (a' := ?_) ?_ ?_
  rotate_left
  · show Act.put _ (some 28) _ = _
    simp only [Act.put, List.setIfInBounds_toArray, List.set_cons_zero, List.set_cons_succ, i64_w, i32_w]
    rfl
  refine one_ (i := 6) (N := some 29) #[true, true, true, true, true, true, true, true, false, false] rfl rfl (by kernel_rfl) (by decide) (fun K hK => ?_)
  rw [HY.out]
  refine Kd.R_append_step (Kd.int .u8) (w0 := w) (W := w18.drew) w.heap.size (by rfl) (.tmp 23) (.tmp 28) 24 5 (.int .u8 0) 1 (by rfl) Try.underlying24 info5 rfl (by decide) (by omega) _ l (128 + (N18 : Int)) [.int .u8 (128 + (N18 : Int))] (fun k => some k ≠ (Value.slice A18 N18 c18).ownBlock) (fun _ => False) (by rfl) (by rfl) rfl (fun _ hk => hk.elim) (fun k hk e => by have h1 := Kd.R_lt R18a.out k e.symm; have h2 : w18.heap.size ≤ k := hk; omega) (Kd.R_drew R9.out) (below_drew B9.out) (below_size (below_drew B9.out)) (by omega) ?_
  intro v29 w29 ho hb hg hat
  have S29 := Lib.hid (blk_cell (blk_grown HV.out.drew.blk hg (G9.out)) 0)
  have R18 := Lib.hid (Kd.R_grown (Kd.R_drew R18a.out) hg (fun _ hk => hk))
  have R29 := Lib.hid ho
  have B29 := Lib.hid hb
  clear ho hb hg hat
  refine hK.out _ _ (S29.out) (fun hHeld => ?_)
  clear hK K
  refine norm_ (a' := ?_) ?_ ?_
  rotate_left
  · show Act.put _ (some 29) _ = _
    simp only [Act.put, List.setIfInBounds_toArray, List.set_cons_zero, List.set_cons_succ, i64_w, i32_w]
    rfl
  refine last_ (i := 8) (N := some 31) #[true, true, true, true, true, true, true, true, true, false] rfl rfl (by kernel_rfl) (by decide) (fun K hK => ?_)
  refine Kd.R_append_rows_step (Kd.int .u8) (w0 := w) w.heap.size (by rfl) (.tmp 29) (.tmp 30) 24 5 (.int .u8 0) 1 (by rfl) Try.underlying24 info5 rfl (by decide) (by omega) v29 (l ++ [128 + (N18 : Int)]) (grp8 n m) A18 N18 c18 (fun k => some k ≠ (Value.slice A18 N18 c18).ownBlock) (fun _ => False) (by rfl) (by rfl) R29.out (by have h := Kd.R_reads' R18.out; have h2 := h.2.2; rw [← h.1] at h2; exact h2) (fun _ _ h => h) (fun _ h => h.elim) (fun k hk e => by have := Kd.R_lt R18.out k e.symm; omega) B29.out (below_size B29.out) (by have := grp8_len n m; have := E18.out; simp; omega) ?_
  intro v31 w31 ho hb hg hat
  have R31 := Lib.hid ho
  have B31 := Lib.hid hb
  clear ho hb hg hat
  refine hK.out _ _ ?_
  clear hK K
  refine norm_ (a' := ?_) ?_ ?_
  rotate_left
  · show Act.put _ (some 31) _ = _
    simp only [Act.put, List.setIfInBounds_toArray, List.set_cons_zero, List.set_cons_succ, i64_w, i32_w]
    rfl
  refine pure_ (i := 9) (N := some 4) (v := ?_) (a' := ?_) #[true, true, true, true, true, true, true, true, true, true] rfl rfl (by kernel_rfl) (fun _ _ _ h => h) (Or.inl ⟨by rfl, ?_⟩) ?_ ?_
  rotate_left
  · intro w'
    go_simp
    with_reducible rfl
  rotate_left
  · simp only [Act.put, List.setIfInBounds_toArray, List.set_cons_zero, List.set_cons_succ, i64_w, i32_w]
    rfl
  refine done_ (by kernel_rfl) ?_

  have e31 : l ++ [128 + ((m : Int) + 1)] ++ grp8 n m = l ++ [128 + (N18 : Int)] ++ grp8 n m := by rw [HN.out]; simp
  go_wp2_with fail
  go_ret
  exact ⟨_, rfl, by rw [e31]; exact Kd.R_mono R31.out (fun _ _ => trivial), B31.out⟩
end Go.Proofs.Ytkhghgmonjebnaa.H
