/- What a disk's Bytes and Crash answer: contracts. Condition: a disk that was made, that any number of calls may write. -/
import Derived.Test.YtkckmikpmjecdaaDkB
namespace Go.Proofs.Ytkckmikpmjecdaa.H
open Go.RowKit Go.Proofs.YtkckmikpmjecdaaW.PrintWords Go.Proofs.YtkckmikpmjecdaaW.PrintLast Go.Proofs.YtkckmikpmjecdaaW.PrintMore
set_option linter.unusedVariables false
set_option linter.unusedSimpArgs false
set_option maxHeartbeats 1000000 in
theorem bytes_calls (p : Nat) (A : Option Addr) (n c : Nat) (s : Int) (xs : List Int) (w : World) (h : Dk w p (.slice A n c) s) (hC : Kd.C (Kd.int .u8) w A n xs) (hn : n ≤ 100000) :
    Calls Try.prog 14 #[.pointer (some ⟨p, 0, none⟩)] w fun e w' => ∃ v, e = .returned v ∧ Kd.R (Kd.int .u8) 5 w' w.heap.size (fun _ => True) v xs ∧ Below w.heap.size w w' := by
  have H := Lib.hid h
  have HC := Lib.hid hC
  have h1 := h.c1
  clear h hC
  go_enter Try.func14, Try.ntmps14
  go_wp2_with (first | (go_at_call 33; refine (is_calls _ _ _ _ H.out).mono ?_; rintro e w1 ⟨rfl, rfl⟩) | ((with_reducible refine gate_dst (N := 6) rfl ?_); refine Kd.R_lit (Kd.int .u8) (w0 := w) w.heap.size 5 ?hg6 (N := 6) ?hd6 (xs := ([] : List Int)) (inner := []) (ok := fun _ => True) (okp := fun _ => True) ?hr6 ?hp6 (fun _ hk => hk) trivial (Below.refl _ _) (Nat.le_refl _) (by simp) ?_; (case hd6 => rfl); (case hg6 => rfl); (case hr6 => first | (go_simp; done) | (go_simp; rfl)); (case hp6 => exact (Reps.none _ _)); intro v6 w6 ho hb hg hnew; clear hg hnew; have Pv6 := Lib.hid ho; have Hv6 := Lib.hid hb; clear ho hb; have h16 := (show Dk w6 p (.slice A n c) s from blk_below H.out Hv6.out).c1) | ((with_reducible refine gate_builtin (b := .append) (xs := #[.tmp 6, .tmp 10]) rfl ?_); at_builtin; refine Kd.R_append_rows (Kd.int .u8) (w0 := w) w.heap.size rfl (.tmp 6) (.tmp 10) 22 5 (.int .u8 0) 1 rfl Try.underlying22 info5 rfl (by decide) (by omega) v6 [] xs A n c (fun _ => True) (fun _ => False) rfl rfl Pv6.out (Kd.C_below HC.out Hv6.out) (fun _ _ h => h) (fun _ h => h.elim) (fun _ _ => trivial) Hv6.out Hv6.out.size (by simp; omega) ?_; intro v11 w11 ho hb hg hat; clear hg hat; rw [List.nil_append] at ho; have Pv11 := Lib.hid ho; have Hv11 := Lib.hid hb; clear ho hb Pv6 Hv6))
  go_ret
  exact ⟨_, rfl, Pv11.out, Hv11.out⟩

/-- Which byte is the last that is kept. -/
def kk (s N x : Int) : Int := wrap64 (s + (wrap64 (x.tmod N + N)).tmod N)
theorem kk_range {s N x : Int} (hs : 0 ≤ s) (hs1 : s ≤ 100000) (hN : 1 ≤ N) (hN1 : N ≤ 100001) : s ≤ kk s N x ∧ kk s N x ≤ s + N - 1 := by
  have h1 := Int.tmod_lt_of_pos x (show (0 : Int) < N by omega)
  have h2 := Int.lt_tmod_of_pos x (show (0 : Int) < N by omega)
  unfold kk
  have e1 : wrap64 (x.tmod N + N) = x.tmod N + N := by unfold wrap64; omega
  rw [e1]
  generalize x.tmod N = y at *
  have h3 : (y + N).tmod N = (y + N) % N := Int.tmod_eq_emod_of_nonneg (by omega)
  have h4 := Int.emod_nonneg (y + N) (show N ≠ 0 by omega)
  have h5 := Int.emod_lt_of_pos (y + N) (show (0 : Int) < N by omega)
  rw [h3]
  unfold wrap64
  omega
theorem slice_cap (A : Option Addr) (n c k : Nat) (xs : List Int) (w : World) (hC : Kd.C (Kd.int .u8) w A n xs) (hk : k ≤ n) (hc : n ≤ c) :
    ∃ A2, (∀ W : World, (Instr.slice 22 (.slice A n c) none (some (.int .i64 (k : Int))) (some (.int .i64 (k : Int)))).run Try.prog W = .ok (.slice A2 k k) W) ∧ Kd.C (Kd.int .u8) w A2 k (xs.take k) := by
  obtain ⟨i5, hi5, _, hsz5, _⟩ := info_parts info5
  have hel : Try.prog.elem 22 = 5 := by kernel_rfl
  have hn : n = xs.length := hC.1.symm
  refine ⟨A, fun W => ?_, ?_⟩
  · rw [run_slice_hm W 22 A n c (by rw [hel]; exact Try.underlying22) .i64 .i64 (k : Int) (k : Int) (by omega) (by omega) (by omega), hel]
    have ha : (A.map fun x => x.add 0) = A := by cases A <;> simp [Addr.add]
    simp [sizeOf, typeInfo, hi5, hsz5, sliced, Result.andThen, ha]
  · subst hn
    have h := Kd.C_take (m := k) hC hk
    rw [show (xs.take k).length = k by rw [List.length_take]; omega] at h
    exact h
abbrev PostC (w : World) (k : Nat) (zs : List Int) : Ending → World → Prop := fun e w' => ∃ (q : Nat) (A' : Option Addr) (c' : Nat), e = .returned (.pointer (some ⟨q, 0, none⟩)) ∧ w.heap.size ≤ q ∧ Dk w' q (.slice A' k c') k ∧ Kd.R (Kd.int .u8) 5 w' w.heap.size (fun _ => True) (.slice A' k c') zs ∧ Below w.heap.size w w'
set_option maxHeartbeats 4000000 in
theorem crash_calls (p : Nat) (A : Option Addr) (n c : Nat) (s k : Nat) (x : Int) (xs : List Int) (w : World) (h : Dk w p (.slice A n c) s) (hC : Kd.C (Kd.int .u8) w A n xs) (hc : n ≤ c) (hs : s ≤ n) (hn : n ≤ 100000) (hk : kk s ((n : Int) - s + 1) x = k) :
    Calls Try.prog 13 #[.pointer (some ⟨p, 0, none⟩), .int .i64 x] w (PostC w k (xs.take k)) := by
  have hr := kk_range (s := (s : Int)) (N := (n : Int) - s + 1) (x := x) (by omega) (by omega) (by omega) (by omega)
  rw [hk] at hr
  have hkn : k ≤ n := by omega
  have H := Lib.hid h
  have HC := Lib.hid hC
  have HKK := Lib.hid (show wrap64 ((s : Int) + (wrap64 (x.tmod ((n : Int) - s + 1) + ((n : Int) - s + 1))).tmod ((n : Int) - s + 1)) = (k : Int) from hk)
  have HK := Lib.hid (show k ≤ 100000 by omega)
  have h1 := h.c1
  have h2 := h.c2
  have HLT := Lib.hid (show (xs.take k).length = k by have := hC.1; rw [List.length_take]; omega)
  clear h hC hk hr
  unfold PostC
  go_enter Try.func13, Try.ntmps13
  go_wp2_with (first | (go_at_call 33; refine (is_calls _ _ _ _ H.out).mono ?_; rintro e w1 ⟨rfl, rfl⟩))
  go_region
  go_wp2_with fail
  go_region
  rw [HKK.out]
  go_wp2_with (go_at_call 8; refine (new_calls _).mono ?_; rintro e w34 ⟨q, rfl, hq, hd, hb⟩; have DQ := Lib.hid hd; have DP := Lib.hid (show Dk w34 p (.slice A n c) s from blk_below (by exact H.out) hb); have CP := Lib.hid (Kd.C_below (by exact HC.out) hb); have HQ := Lib.hid hq; have B34 := Lib.hid (show Below w.heap.size w w34 from below_step (by repeat (first | exact Below.refl _ _ | apply below_drew)) hb); clear hd hb hq)
  obtain ⟨A2, hsl, hY⟩ := slice_cap A n c k xs w34 CP.out hkn hc
  have HY := Lib.hid hY
  have hq1 := DQ.out.c1
  have hp1 := DP.out.c1
  clear hY
  refine start_ (n := 16) (S := fun w' => w'.cell? ⟨q, 1, none⟩ = some (.slice none 0 0) ∧ w'.cell? ⟨p, 1, none⟩ = some (.slice A n c)) (ds := [15]) #[false, false, false, false, false, false, false, false, false, false, false, false, false, false, false, false] (by kernel_rfl) rfl rfl ⟨hq1, hp1⟩ (fun hHeld => ?_)
  refine pure_ (i := 0) (N := some 35) (v := ?_) (a' := ?_) #[true, false, false, false, false, false, false, false, false, false, false, false, false, false, false, false] rfl rfl (by kernel_rfl) (fun _ _ _ h => h) (Or.inl ⟨by rfl, ?_⟩) ?_ ?_
  rotate_left
  · intro w'
    go_simp
    with_reducible rfl
  rotate_left
  · simp only [Act.put, List.setIfInBounds_toArray, List.set_cons_zero, List.set_cons_succ, i64_w, i32_w]
    rfl
  refine pure_ (i := 1) (N := some 36) (v := ?_) (a' := ?_) #[true, true, false, false, false, false, false, false, false, false, false, false, false, false, false, false] rfl rfl (by kernel_rfl) (fun _ _ _ h => h) (Or.inl ⟨by rfl, ?_⟩) ?_ ?_
  rotate_left
  · intro w'
    go_simp
    with_reducible rfl
  rotate_left
  · simp only [Act.put, List.setIfInBounds_toArray, List.set_cons_zero, List.set_cons_succ, i64_w, i32_w]
    rfl
  refine pure_ (i := 2) (N := some 37) (v := ?_) (a' := ?_) #[true, true, true, false, false, false, false, false, false, false, false, false, false, false, false, false] rfl rfl (by kernel_rfl) (fun _ _ _ h => h) (Or.inl ⟨by rfl, ?_⟩) ?_ ?_
  rotate_left
  · intro w'
    go_simp
    with_reducible rfl
  rotate_left
  · simp only [Act.put, List.setIfInBounds_toArray, List.set_cons_zero, List.set_cons_succ, i64_w, i32_w]
    rfl
  refine pure_ (i := 3) (N := some 38) (v := ?_) (a' := ?_) #[true, true, true, true, false, false, false, false, false, false, false, false, false, false, false, false] rfl rfl (by kernel_rfl) (fun _ _ _ h => h) (Or.inl ⟨by rfl, ?_⟩) ?_ ?_
  rotate_left
  · intro w'
    go_simp
    with_reducible rfl
  rotate_left
  · simp only [Act.put, List.setIfInBounds_toArray, List.set_cons_zero, List.set_cons_succ, i64_w, i32_w]
    rfl
  refine pure_ (i := 5) (N := some 40) (v := ?_) (a' := ?_) #[true, true, true, true, false, true, false, false, false, false, false, false, false, false, false, false] rfl rfl (by kernel_rfl) (fun _ _ _ h => h) (Or.inl ⟨by rfl, ?_⟩) ?_ ?_
  rotate_left
  · intro w'
    go_simp
    with_reducible rfl
  rotate_left
  · simp only [Act.put, List.setIfInBounds_toArray, List.set_cons_zero, List.set_cons_succ, i64_w, i32_w]
    rfl
  refine pure_ (i := 6) (N := some 41) (v := ?_) (a' := ?_) #[true, true, true, true, false, true, true, false, false, false, false, false, false, false, false, false] rfl rfl (by kernel_rfl) (fun _ _ _ h => h) (Or.inl ⟨by rfl, ?_⟩) ?_ ?_
  rotate_left
  · intro w'
    go_simp
    with_reducible rfl
  rotate_left
  · simp only [Act.put, List.setIfInBounds_toArray, List.set_cons_zero, List.set_cons_succ, i64_w, i32_w]
    rfl
  refine pure_ (i := 7) (N := some 42) (v := ?_) (a' := ?_) #[true, true, true, true, false, true, true, true, false, false, false, false, false, false, false, false] rfl rfl (by kernel_rfl) (fun _ _ _ h => h) (Or.inl ⟨by rfl, ?_⟩) ?_ ?_
  rotate_left
  · intro w'
    go_simp
    with_reducible rfl
  rotate_left
  · simp only [Act.put, List.setIfInBounds_toArray, List.set_cons_zero, List.set_cons_succ, i64_w, i32_w]
    rfl
  refine pure_ (i := 9) (N := some 44) (v := ?_) (a' := ?_) #[true, true, true, true, false, true, true, true, false, true, false, false, false, false, false, false] rfl rfl (by kernel_rfl) (fun _ _ _ h => h) (Or.inl ⟨by rfl, ?_⟩) ?_ ?_
  rotate_left
  · intro w'
    go_simp
    with_reducible rfl
  rotate_left
  · simp only [Act.put, List.setIfInBounds_toArray, List.set_cons_zero, List.set_cons_succ, i64_w, i32_w]
    rfl
  refine pure_ (i := 10) (N := some 45) (v := ?_) (a' := ?_) #[true, true, true, true, false, true, true, true, false, true, true, false, false, false, false, false] rfl rfl (by kernel_rfl) (fun _ _ _ h => h) (Or.inl ⟨by rfl, ?_⟩) ?_ ?_
  rotate_left
  · intro w'
    go_simp
    with_reducible rfl
  rotate_left
  · simp only [Act.put, List.setIfInBounds_toArray, List.set_cons_zero, List.set_cons_succ, i64_w, i32_w]
    rfl
  refine take_ (i := 4) (N := some 39) (v := ?_) (a' := ?_) #[true, true, true, true, true, true, true, true, false, true, true, false, false, false, false, false] rfl rfl (by kernel_rfl) (fun _ _ _ h => h) (Or.inl ⟨by rfl, ?_⟩) hHeld ?_ ?_
  rotate_left
  · rintro w' ⟨s0, s1⟩
    go_simp
    with_reducible rfl
  rotate_left
  · simp only [Act.put, List.setIfInBounds_toArray, List.set_cons_zero, List.set_cons_succ, i64_w, i32_w]
    rfl
  refine take_ (i := 8) (N := some 43) (v := ?_) (a' := ?_) #[true, true, true, true, true, true, true, true, true, true, true, false, false, false, false, false] rfl rfl (by kernel_rfl) (fun _ _ _ h => h) (Or.inl ⟨by rfl, ?_⟩) hHeld ?_ ?_
  rotate_left
  · rintro w' ⟨s0, s1⟩
    go_simp
    with_reducible rfl
  rotate_left
  · simp only [Act.put, List.setIfInBounds_toArray, List.set_cons_zero, List.set_cons_succ, i64_w, i32_w]
    rfl
  refine pure_ (i := 11) (N := some 46) (v := ?_) (a' := ?_) #[true, true, true, true, true, true, true, true, true, true, true, true, false, false, false, false] rfl rfl (by kernel_rfl) (fun _ _ _ h => h) (Or.inl ⟨by rfl, ?_⟩) ?_ ?_
  rotate_left
  · intro w'
    go_simp
    with_reducible rfl
  rotate_left
  · simp only [Act.put, List.setIfInBounds_toArray, List.set_cons_zero, List.set_cons_succ, i64_w, i32_w]
    rfl
  refine one_ (i := 12) (N := some 47) #[true, true, true, true, true, true, true, true, true, true, true, true, true, false, false, false] rfl rfl (by kernel_rfl) (by decide) (fun K hK => ?_)
  refine Kd.R_append_rows_step (Kd.int .u8) (w0 := w34) (W := w34.drew) w34.heap.size (by rfl) (.tmp 39) (.tmp 46) 22 5 (.int .u8 0) 1 (by rfl) Try.underlying22 info5 rfl (by decide) (by omega) (.slice none 0 0) [] (xs.take k) A2 k k (fun _ => True) (fun _ => False) (by rfl) (by rfl) (Kd.R_nil _ _ _ _ _) (Kd.C_drew HY.out) (fun _ _ h => h) (fun _ h => h.elim) (fun _ _ => trivial) (below_drew (Below.refl _ _)) (below_size (below_drew (Below.refl _ _))) (by have := HK.out; simp; omega) ?_
  intro v9 w9 ho hb hg hat
  rw [List.nil_append] at ho
  obtain ⟨A9, c9, e9⟩ := Kd.R_slice ho
  rw [HLT.out] at e9
  subst e9
  have D9 := Lib.hid (blk_grown (blk_drew DQ.out) hg (by simp [Value.ownBlock]))
  have G9 := Lib.hid (blk_grown (blk_drew DP.out) hg (by simp [Value.ownBlock]))
  have R9 := Lib.hid ho
  have B9 := Lib.hid hb
  clear ho hb hg hat
  refine hK.out _ _ ⟨(blk_cell D9.out 1).trans rfl, (blk_cell G9.out 1).trans rfl⟩ (fun hHeld => ?_)
  clear hK K
  refine norm_ (a' := ?_) ?_ ?_
  rotate_left
  · show Act.put _ (some 47) _ = _
    simp only [Act.put, List.setIfInBounds_toArray, List.set_cons_zero, List.set_cons_succ, i64_w, i32_w]
    rfl
  refine pure_ (i := 13) (N := some 48) (v := ?_) (a' := ?_) #[true, true, true, true, true, true, true, true, true, true, true, true, true, true, false, false] rfl rfl (by kernel_rfl) (fun _ _ _ h => h) (Or.inl ⟨by rfl, ?_⟩) ?_ ?_
  rotate_left
  · intro w'
    go_simp
    with_reducible rfl
  rotate_left
  · simp only [Act.put, List.setIfInBounds_toArray, List.set_cons_zero, List.set_cons_succ, i64_w, i32_w]
    rfl
  refine pure_ (i := 14) (N := some 49) (v := ?_) (a' := ?_) #[true, true, true, true, true, true, true, true, true, true, true, true, true, true, true, false] rfl rfl (by kernel_rfl) (fun _ _ _ h => h) (Or.inl ⟨by rfl, ?_⟩) ?_ ?_
  rotate_left
  · intro w'
    go_simp
    with_reducible rfl
  rotate_left
  · simp only [Act.put, List.setIfInBounds_toArray, List.set_cons_zero, List.set_cons_succ, i64_w, i32_w]
    rfl
  refine last_ (i := 15) (N := none) #[true, true, true, true, true, true, true, true, true, true, true, true, true, true, true, true] rfl rfl (by kernel_rfl) (by decide) (fun K hK => ?_)
  have hf9 := blk_frozen D9.out 1
  have hc9 : w9.cell? ⟨q, 1, none⟩ = some (.slice none 0 0) := (blk_cell D9.out 1).trans rfl
  refine skip_ (w1 := ?_) (by rfl) rfl ?_ ?_
  rotate_left
  · go_simp
    rfl
  refine hK.out _ _ ?_
  clear hK K
  refine done_ (by kernel_rfl) ?_
  have hDQ2 : Dk (w9.setCell ⟨q, 1, none⟩ (.slice A9 k c9)) q (.slice A9 k c9) 0 := blk_put D9.out 1 (.slice A9 k c9) rfl
  have hR2 := Kd.R_set R9.out D9.out types5 1 (.slice A9 k c9)
  have hB2 : Below w.heap.size w (w9.setCell ⟨q, 1, none⟩ (.slice A9 k c9)) := below_set (below_step B34.out B9.out) (by have := HQ.out; exact this)
  generalize w9.setCell ⟨q, 1, none⟩ (.slice A9 k c9) = w10 at *
  have DQ2 := Lib.hid hDQ2
  have R2 := Lib.hid hR2
  have B2 := Lib.hid hB2
  have hz2 := DQ2.out.c2
  have hf2 := blk_frozen DQ2.out 2
  clear hDQ2 hR2 hB2
  go_wp2_with fail
  go_ret
  exact ⟨q, A9, c9, rfl, HQ.out, blk_put DQ2.out 2 _ rfl, Kd.R_lower (Kd.R_set R2.out DQ2.out types5 2 _) B34.out.size, below_set B2.out HQ.out⟩
end Go.Proofs.Ytkckmikpmjecdaa.H
