/- What a disk's calls that write answer: contracts. Condition: a disk that was made, that any number of calls may write. -/
import Derived.Test.YtkckmikpmjecdaaDiskW
import Derived.Test.YtkckmikpmjecdaaWLast
namespace Go.Proofs.Ytkckmikpmjecdaa.H
open Go.RowKit Go.Proofs.YtkckmikpmjecdaaW.PrintWords Go.Proofs.YtkckmikpmjecdaaW.PrintLast Go.Proofs.YtkckmikpmjecdaaW.PrintMore
set_option linter.unusedVariables false
set_option linter.unusedSimpArgs false
theorem types5 : ∀ q, q ∈ 5 :: (Kd.int .u8).E → q ≠ 36 := by intro q hq; simp [Kd.int, Kd.scalar] at hq; omega

set_option maxHeartbeats 2000000 in
theorem what_calls (w0 : World) (p g : Nat) (A D : Option Addr) (n c m k : Nat) (s : Int) (xs ys : List Int) (w : World) (h : Dk w p (.slice A n c) s) (hR : Kd.R (Kd.int .u8) 5 w w0.heap.size (fun _ => True) (.slice A n c) xs) (hp : w0.heap.size ≤ p) (hB : Below w0.heap.size w0 w)
    (hg : w.heap[g]? = some (.cells #[.slice D m k] 22 (0, 0))) (hY : Kd.C (Kd.int .u8) w D m ys) (hx : xs.length + m ≤ 4000) :
    Calls Try.prog 30 #[.pointer (some ⟨p, 0, none⟩), .pointer (some ⟨g, 0, none⟩)] w fun e w' => e = .returned (.tuple #[]) ∧ ∃ A' c', Dk w' p (.slice A' (xs ++ ys).length c') s ∧ Kd.R (Kd.int .u8) 5 w' w0.heap.size (fun _ => True) (.slice A' (xs ++ ys).length c') (xs ++ ys) ∧ Below w0.heap.size w0 w' := by
  have h1 := h.c1
  have hg0 : w.cell? ⟨g, 0, none⟩ = some (.slice D m k) := (blk_cell hg 0).trans rfl
  have H := Lib.hid h
  have HR := Lib.hid hR
  have HB := Lib.hid hB
  have HG := Lib.hid hg
  have HY := Lib.hid hY
  have HX := Lib.hid hx
  have NP := Lib.hid (Kd.R_ne hR h (by decide))
  have NG := Lib.hid (Kd.R_ne hR hg (by decide))
  clear h hR hB hg hY hx
  go_enter Try.func30, Try.ntmps30
  refine start_ (n := 10) (S := fun w' => w'.cell? ⟨p, 1, none⟩ = some (.slice A n c) ∧ w'.cell? ⟨g, 0, none⟩ = some (.slice D m k)) (ds := [9]) #[false, false, false, false, false, false, false, false, false, false] (by kernel_rfl) rfl rfl ⟨h1, hg0⟩ (fun hHeld => ?_)
  refine pure_ (i := 0) (N := some 3) (v := ?_) (a' := ?_) #[true, false, false, false, false, false, false, false, false, false] rfl rfl (by kernel_rfl) (fun _ _ _ h => h) (Or.inl ⟨by rfl, ?_⟩) ?_ ?_
  rotate_left
  · intro w'
    go_simp
    with_reducible rfl
  rotate_left
  · simp only [Act.put, List.setIfInBounds_toArray, List.set_cons_zero, List.set_cons_succ, i64_w, i32_w]
    rfl
  refine pure_ (i := 1) (N := some 4) (v := ?_) (a' := ?_) #[true, true, false, false, false, false, false, false, false, false] rfl rfl (by kernel_rfl) (fun _ _ _ h => h) (Or.inl ⟨by rfl, ?_⟩) ?_ ?_
  rotate_left
  · intro w'
    go_simp
    with_reducible rfl
  rotate_left
  · simp only [Act.put, List.setIfInBounds_toArray, List.set_cons_zero, List.set_cons_succ, i64_w, i32_w]
    rfl
  refine pure_ (i := 2) (N := some 5) (v := ?_) (a' := ?_) #[true, true, true, false, false, false, false, false, false, false] rfl rfl (by kernel_rfl) (fun _ _ _ h => h) (Or.inl ⟨by rfl, ?_⟩) ?_ ?_
  rotate_left
  · intro w'
    go_simp
    with_reducible rfl
  rotate_left
  · simp only [Act.put, List.setIfInBounds_toArray, List.set_cons_zero, List.set_cons_succ, i64_w, i32_w]
    rfl
  refine pure_ (i := 3) (N := some 6) (v := ?_) (a' := ?_) #[true, true, true, true, false, false, false, false, false, false] rfl rfl (by kernel_rfl) (fun _ _ _ h => h) (Or.inl ⟨by rfl, ?_⟩) ?_ ?_
  rotate_left
  · intro w'
    go_simp
    with_reducible rfl
  rotate_left
  · simp only [Act.put, List.setIfInBounds_toArray, List.set_cons_zero, List.set_cons_succ, i64_w, i32_w]
    rfl
  refine take_ (i := 4) (N := some 7) (v := ?_) (a' := ?_) #[true, true, true, true, true, false, false, false, false, false] rfl rfl (by kernel_rfl) (fun _ _ _ h => h) (Or.inl ⟨by rfl, ?_⟩) hHeld ?_ ?_
  rotate_left
  · rintro w' ⟨s0, s1⟩
    go_simp
    with_reducible rfl
  rotate_left
  · simp only [Act.put, List.setIfInBounds_toArray, List.set_cons_zero, List.set_cons_succ, i64_w, i32_w]
    rfl
  refine take_ (i := 5) (N := some 8) (v := ?_) (a' := ?_) #[true, true, true, true, true, true, false, false, false, false] rfl rfl (by kernel_rfl) (fun _ _ _ h => h) (Or.inl ⟨by rfl, ?_⟩) hHeld ?_ ?_
  rotate_left
  · rintro w' ⟨s0, s1⟩
    go_simp
    with_reducible rfl
  rotate_left
  · simp only [Act.put, List.setIfInBounds_toArray, List.set_cons_zero, List.set_cons_succ, i64_w, i32_w]
    rfl
  refine one_ (i := 6) (N := some 9) #[true, true, true, true, true, true, true, false, false, false] rfl rfl (by kernel_rfl) (by decide) (fun K hK => ?_)
  refine Kd.R_append_rows_step (Kd.int .u8) (w0 := w0) (W := w.drew) w0.heap.size (by rfl) (.tmp 7) (.tmp 8) 22 5 (.int .u8 0) 1 (by rfl) Try.underlying22 info5 rfl (by decide) (by omega) (.slice A n c) xs ys D m k (fun _ => True) (fun _ => False) (by rfl) (by rfl) (Kd.R_drew HR.out) (Kd.C_drew HY.out) (fun _ _ h => h) (fun _ h => h.elim) (fun _ _ => trivial) (below_drew HB.out) (below_size (below_drew HB.out)) (by have := HX.out; omega) ?_
  intro v9 w9 ho hb hg hat
  obtain ⟨A9, c9, e9⟩ := Kd.R_slice ho
  subst e9
  have D9 := Lib.hid (blk_grown (blk_drew H.out) hg NP.out)
  have G9 := Lib.hid (blk_grown (blk_drew HG.out) hg NG.out)
  have R9 := Lib.hid ho
  have B9 := Lib.hid hb
  clear ho hb hg hat
  refine hK.out _ _ ⟨(blk_cell D9.out 1).trans rfl, (blk_cell G9.out 0).trans rfl⟩ (fun hHeld => ?_)
  clear hK K
  refine norm_ (a' := ?_) ?_ ?_
  rotate_left
  · show Act.put _ (some 9) _ = _
    simp only [Act.put, List.setIfInBounds_toArray, List.set_cons_zero, List.set_cons_succ, i64_w, i32_w]
    rfl
  refine pure_ (i := 7) (N := some 10) (v := ?_) (a' := ?_) #[true, true, true, true, true, true, true, true, false, false] rfl rfl (by kernel_rfl) (fun _ _ _ h => h) (Or.inl ⟨by rfl, ?_⟩) ?_ ?_
  rotate_left
  · intro w'
    go_simp
    with_reducible rfl
  rotate_left
  · simp only [Act.put, List.setIfInBounds_toArray, List.set_cons_zero, List.set_cons_succ, i64_w, i32_w]
    rfl
  refine pure_ (i := 8) (N := some 11) (v := ?_) (a' := ?_) #[true, true, true, true, true, true, true, true, true, false] rfl rfl (by kernel_rfl) (fun _ _ _ h => h) (Or.inl ⟨by rfl, ?_⟩) ?_ ?_
  rotate_left
  · intro w'
    go_simp
    with_reducible rfl
  rotate_left
  · simp only [Act.put, List.setIfInBounds_toArray, List.set_cons_zero, List.set_cons_succ, i64_w, i32_w]
    rfl
  refine last_ (i := 9) (N := none) #[true, true, true, true, true, true, true, true, true, true] rfl rfl (by kernel_rfl) (by decide) (fun K hK => ?_)
  have hf9 := blk_frozen D9.out 1
  have hc9 : w9.cell? ⟨p, 1, none⟩ = some (.slice A n c) := (blk_cell D9.out 1).trans rfl
  refine skip_ (w1 := ?_) (by rfl) rfl ?_ ?_
  rotate_left
  · go_simp
    rfl
  refine hK.out _ _ ?_
  clear hK K
  refine done_ (by kernel_rfl) ?_
  refine bodyPost_end (v := .tuple #[]) (by simp [results, Try.results30, go_sem]) rfl ⟨rfl, A9, c9, blk_put D9.out 1 _ (by rw [List.length_append]; rfl), Kd.R_set R9.out D9.out types5 _ _, below_set B9.out hp⟩

abbrev PostA (w0 : World) (p : Nat) (s : Int) (zs : List Int) : Ending → World → Prop := fun e w' => e = .returned (.int .i64 0) ∧ ∃ A' c', Dk w' p (.slice A' zs.length c') s ∧ Kd.R (Kd.int .u8) 5 w' w0.heap.size (fun _ => True) (.slice A' zs.length c') zs ∧ Below w0.heap.size w0 w'
set_option maxHeartbeats 2000000 in
theorem on_append (w0 : World) (p g : Nat) (A D : Option Addr) (n c m k : Nat) (s : Int) (xs ys : List Int) (w : World) (h : Dk w p (.slice A n c) s) (hR : Kd.R (Kd.int .u8) 5 w w0.heap.size (fun _ => True) (.slice A n c) xs) (hp : w0.heap.size ≤ p) (hB : Below w0.heap.size w0 w)
    (hg : w.heap[g]? = some (.cells #[.slice D m k] 22 (0, 0))) (hY : Kd.C (Kd.int .u8) w D m ys) (hx : xs.length + m ≤ 4000) :
    Calls Try.prog 28 #[.pointer (some ⟨p, 0, none⟩), .func (Fn.func 29) #[] #[.pointer (some ⟨g, 0, none⟩)], .func (Fn.func 30) #[] #[.pointer (some ⟨g, 0, none⟩)]] w (PostA w0 p s (xs ++ ys)) := by
  have hn : n = xs.length := (Kd.R_reads' hR).1
  have hg0 : w.cell? ⟨g, 0, none⟩ = some (.slice D m k) := (blk_cell hg 0).trans rfl
  have H := Lib.hid h
  have HR := Lib.hid hR
  have HB := Lib.hid hB
  have HG := Lib.hid hg
  have HG0 := Lib.hid hg0
  have HY := Lib.hid hY
  have HX := Lib.hid hx
  have HNx := Lib.hid hn
  have h3 := h.c3
  clear h hR hB hg hY hx hn hg0
  unfold PostA
  go_enter Try.func28, Try.ntmps28
  go_wp2_with (first | (go_at_call 33; refine (is_calls _ _ _ _ H.out).mono ?_; rintro e w1 ⟨rfl, rfl⟩) | (go_at_call 29; refine (wrong_calls p g A D n c m k s _ H.out HG0.out (by have := HX.out; have := HNx.out; omega)).mono ?_; rintro e w2 ⟨rfl, q, rfl⟩) | (go_at_call 30; refine (what_calls w0 p g A D n c m k s xs ys _ (by exact H.out) (Kd.R_drewN HR.out _) hp (pw_below_drewN HB.out _) (by exact HG.out) (Kd.C_drewN HY.out _) HX.out).mono ?_; rintro e w3 ⟨rfl, A3, c3, hd, ho, hb⟩; have D3 := Lib.hid hd; have R3 := Lib.hid ho; have B3 := Lib.hid hb; clear hd ho hb))
  go_ret
  exact ⟨rfl, A3, c3, D3.out, R3.out, B3.out⟩
set_option maxHeartbeats 1000000 in
theorem append_calls (w0 : World) (p : Nat) (A D : Option Addr) (n c m k : Nat) (s : Int) (xs ys : List Int) (w : World) (h : Dk w p (.slice A n c) s) (hR : Kd.R (Kd.int .u8) 5 w w0.heap.size (fun _ => True) (.slice A n c) xs) (hp : w0.heap.size ≤ p) (hB : Below w0.heap.size w0 w)
    (hY : Kd.C (Kd.int .u8) w D m ys) (hx : xs.length + m ≤ 4000) :
    Calls Try.prog 9 #[.pointer (some ⟨p, 0, none⟩), .slice D m k] w (PostA w0 p s (xs ++ ys)) := by
  have H := Lib.hid h
  have HR := Lib.hid hR
  have HB := Lib.hid hB
  have HY := Lib.hid hY
  have HX := Lib.hid hx
  clear h hR hB hY hx
  unfold PostA
  go_enter Try.func9, Try.ntmps9
  go_wp2_with (first | ((with_reducible refine gate_dst (N := 3) rfl ?_); refine box_event ?hg (N := 3) ?hd (cs := #[.slice D m k]) (t := 22) ?hr ?_; (case hd => rfl); (case hg => rfl); (case hr => first | (go_simp; done) | (go_simp; rfl)); intro g hgz w3 hbox hb; have G3 := Lib.hid hbox; have D3 := Lib.hid (show Dk w3 p (.slice A n c) s from blk_below H.out hb); have R3 := Lib.hid (Kd.R_below HR.out hb); have Y3 := Lib.hid (Kd.C_below HY.out hb); have B3 := Lib.hid (show Below w0.heap.size w0 w3 from below_then HB.out HB.out.size hb); clear hbox hb hgz) | (go_at_call 28; refine (on_append w0 p g A D n c m k s xs ys _ D3.out R3.out hp B3.out G3.out Y3.out HX.out).mono ?_; rintro e w8 ⟨rfl, A8, c8, hd, ho, hb⟩; have D8 := Lib.hid hd; have R8 := Lib.hid ho; have B8 := Lib.hid hb; clear hd ho hb))
  go_ret
  exact ⟨rfl, A8, c8, D8.out, R8.out, B8.out⟩
set_option maxHeartbeats 1000000 in
theorem on_sync (w0 : World) (p : Nat) (A : Option Addr) (n c : Nat) (s : Int) (xs : List Int) (f1 f2 : Value) (w : World) (h : Dk w p (.slice A n c) s) (hR : Kd.R (Kd.int .u8) 5 w w0.heap.size (fun _ => True) (.slice A n c) xs) (hp : w0.heap.size ≤ p) (hB : Below w0.heap.size w0 w) :
    Calls Try.prog 28 #[.pointer (some ⟨p, 0, none⟩), .func (Fn.func 31) #[] #[], .func (Fn.func 32) #[] #[]] w fun e w' => e = .returned (.int .i64 0) ∧ Dk w' p (.slice A n c) n ∧ Kd.R (Kd.int .u8) 5 w' w0.heap.size (fun _ => True) (.slice A n c) xs ∧ Below w0.heap.size w0 w' := by
  have H := Lib.hid h
  have HR := Lib.hid hR
  have HB := Lib.hid hB
  have h3 := h.c3
  clear h hR hB
  go_enter Try.func28, Try.ntmps28
  go_wp2_with (first | (go_at_call 33; refine (is_calls _ _ _ _ H.out).mono ?_; rintro e w1 ⟨rfl, rfl⟩) | (go_at_call 31; refine (nothing_calls _ _).mono ?_; rintro e w2 ⟨rfl, rfl⟩) | (go_at_call 32; refine (flush_calls 0 w0 p A n c s _ H.out hp HB.out).mono ?_; rintro e w3 ⟨rfl, hd, hb, u, rfl⟩; have D3 := Lib.hid hd; have B3 := Lib.hid hb; clear hd hb))
  go_ret
  exact ⟨rfl, D3.out, Kd.R_set HR.out H.out types5 _ _, B3.out⟩
set_option maxHeartbeats 1000000 in
theorem sync_calls (w0 : World) (p : Nat) (A : Option Addr) (n c : Nat) (s : Int) (xs : List Int) (w : World) (h : Dk w p (.slice A n c) s) (hR : Kd.R (Kd.int .u8) 5 w w0.heap.size (fun _ => True) (.slice A n c) xs) (hp : w0.heap.size ≤ p) (hB : Below w0.heap.size w0 w) :
    Calls Try.prog 10 #[.pointer (some ⟨p, 0, none⟩)] w fun e w' => e = .returned (.int .i64 0) ∧ Dk w' p (.slice A n c) n ∧ Kd.R (Kd.int .u8) 5 w' w0.heap.size (fun _ => True) (.slice A n c) xs ∧ Below w0.heap.size w0 w' := by
  have H := Lib.hid h
  have HR := Lib.hid hR
  have HB := Lib.hid hB
  clear h hR hB
  go_enter Try.func10, Try.ntmps10
  go_wp2_with (go_at_call 28; refine (on_sync w0 p A n c s xs (.int .i64 0) (.int .i64 0) _ H.out HR.out hp HB.out).mono ?_; rintro e w3 ⟨rfl, hd, ho, hb⟩; have D3 := Lib.hid hd; have R3 := Lib.hid ho; have B3 := Lib.hid hb; clear hd ho hb)
  go_ret
  exact ⟨rfl, D3.out, R3.out, B3.out⟩
end Go.Proofs.Ytkckmikpmjecdaa.H
