/- What a disk's calls that write answer: contracts. Condition: a disk that was made, that any number of calls may write. -/
import Derived.Test.YtkckmikpmjecdaaBr
import Derived.Test.YtkckmikpmjecdaaWLast
namespace Go.Proofs.Ytkckmikpmjecdaa.H
open Go.RowKit Go.Proofs.YtkckmikpmjecdaaW.PrintWords Go.Proofs.YtkckmikpmjecdaaW.PrintLast Go.Proofs.YtkckmikpmjecdaaW.PrintMore
set_option linter.unusedVariables false
set_option linter.unusedSimpArgs false
theorem types5 : ∀ q, q ∈ 5 :: (Kd.int .u8).E → q ≠ 36 := by intro q hq; simp [Kd.int, Kd.scalar] at hq; omega

set_option maxHeartbeats 2000000 in
theorem what_calls (w0 : World) (p g : Nat) (A D : Option Addr) (n c m k : Nat) (s : Int) (xs ys : List Int) (w : World) (h : Dk w p (.slice A n c) s) (hR : Br w w0.heap.size (.slice A n c) xs) (hp : w0.heap.size ≤ p) (hB : Below w0.heap.size w0 w)
    (hg : w.heap[g]? = some (.cells #[.slice D m k] 22 (0, 0))) (hY : Kd.C (Kd.int .u8) w D m ys) (hx : xs.length + m ≤ 100000) :
    Calls Try.prog 30 #[.pointer (some ⟨p, 0, none⟩), .pointer (some ⟨g, 0, none⟩)] w fun e w' => e = .returned (.tuple #[]) ∧ ∃ A' c', Dk w' p (.slice A' (xs ++ ys).length c') s ∧ Br w' w0.heap.size (.slice A' (xs ++ ys).length c') (xs ++ ys) ∧ Below w0.heap.size w0 w' ∧ KeepBut w w' p (Value.slice A n c).ownBlock := by
  have h1 := h.c1
  have hg0 : w.cell? ⟨g, 0, none⟩ = some (.slice D m k) := (blk_cell hg 0).trans rfl
  have H := Lib.hid h
  have HR := Lib.hid hR
  have HB := Lib.hid hB
  have HG := Lib.hid hg
  have HY := Lib.hid hY
  have HX := Lib.hid hx
  have NP := Lib.hid (hR.ne h (by decide))
  have NG := Lib.hid (hR.ne hg (by decide))
  clear h hR hB hg hY hx
  go_enter Try.func30, Try.ntmps30
  refine start_ (n := 10) (S := fun w' => w'.cell? ⟨p, 1, none⟩ = some (.slice A n c) ∧ w'.cell? ⟨g, 0, none⟩ = some (.slice D m k)) (ds := [9]) #[false, false, false, false, false, false, false, false, false, false] (by kernel_rfl) rfl rfl ⟨h1, hg0⟩ (fun hHeld => ?_)
  refine pure_ (i := 0) (N := some 3) (v := ?_) (a' := ?_) #[true, false, false, false, false, false, false, false, false, false] rfl rfl (by kernel_rfl) (fun _ _ _ h => h) (Or.inl ⟨by rfl, ?_⟩) ?_ ?_
  rotate_left
  · intro w'
    go_simp
    with_reducible rfl
  rotate_left
  · simp only [Act.put, List.setIfInBounds_toArray, List.set_cons_zero, List.set_cons_succ, i64_w, i32_w]
    rfl
  refine pure_ (i := 1) (N := some 4) (v := ?_) (a' := ?_) #[true, true, false, false, false, false, false, false, false, false] rfl rfl (by kernel_rfl) (fun _ _ _ h => h) (Or.inl ⟨by rfl, ?_⟩) ?_ ?_
  rotate_left
  · intro w'
    go_simp
    with_reducible rfl
  rotate_left
  · simp only [Act.put, List.setIfInBounds_toArray, List.set_cons_zero, List.set_cons_succ, i64_w, i32_w]
    rfl
  refine pure_ (i := 2) (N := some 5) (v := ?_) (a' := ?_) #[true, true, true, false, false, false, false, false, false, false] rfl rfl (by kernel_rfl) (fun _ _ _ h => h) (Or.inl ⟨by rfl, ?_⟩) ?_ ?_
  rotate_left
  · intro w'
    go_simp
    with_reducible rfl
  rotate_left
  · simp only [Act.put, List.setIfInBounds_toArray, List.set_cons_zero, List.set_cons_succ, i64_w, i32_w]
    rfl
  refine pure_ (i := 3) (N := some 6) (v := ?_) (a' := ?_) #[true, true, true, true, false, false, false, false, false, false] rfl rfl (by kernel_rfl) (fun _ _ _ h => h) (Or.inl ⟨by rfl, ?_⟩) ?_ ?_
  rotate_left
  · intro w'
    go_simp
    with_reducible rfl
  rotate_left
  · simp only [Act.put, List.setIfInBounds_toArray, List.set_cons_zero, List.set_cons_succ, i64_w, i32_w]
    rfl
  refine take_ (i := 4) (N := some 7) (v := ?_) (a' := ?_) #[true, true, true, true, true, false, false, false, false, false] rfl rfl (by kernel_rfl) (fun _ _ _ h => h) (Or.inl ⟨by rfl, ?_⟩) hHeld ?_ ?_
  rotate_left
  · rintro w' ⟨s0, s1⟩
    go_simp
    with_reducible rfl
  rotate_left
  · simp only [Act.put, List.setIfInBounds_toArray, List.set_cons_zero, List.set_cons_succ, i64_w, i32_w]
    rfl
  refine take_ (i := 5) (N := some 8) (v := ?_) (a' := ?_) #[true, true, true, true, true, true, false, false, false, false] rfl rfl (by kernel_rfl) (fun _ _ _ h => h) (Or.inl ⟨by rfl, ?_⟩) hHeld ?_ ?_
  rotate_left
  · rintro w' ⟨s0, s1⟩
    go_simp
    with_reducible rfl
  rotate_left
  · simp only [Act.put, List.setIfInBounds_toArray, List.set_cons_zero, List.set_cons_succ, i64_w, i32_w]
    rfl
  refine one_ (i := 6) (N := some 9) #[true, true, true, true, true, true, true, false, false, false] rfl rfl (by kernel_rfl) (by decide) (fun K hK => ?_)
  refine Br_append_step (B := w0.heap.size) (W := w.drew) (by rfl) (.tmp 7) (.tmp 8) (by rfl) (.slice A n c) xs ys D m k (by rfl) (by rfl) (HR.out.below (below_drew (Below.refl _ _))) (Kd.C_drew HY.out) (below_size (below_drew HB.out)) (by have := HX.out; omega) ?_
  intro v9 w9 ho hg
  have hb := pw_below_grown (below_drew HB.out) _ (below_size (below_drew HB.out)) hg (fun q hq => HR.out.base q hq)
  obtain ⟨A9, c9, e9, _, _⟩ := ho.reads (by rw [List.length_append]; have := HX.out; have := HY.out.1; omega)
  subst e9
  have D9 := Lib.hid (blk_grown (blk_drew H.out) hg NP.out)
  have G9 := Lib.hid (blk_grown (blk_drew HG.out) hg NG.out)
  have R9 := Lib.hid ho
  have B9 := Lib.hid hb
  have K9 := Lib.hid ((keep_drew (KeepBut.refl w p (Value.slice A n c).ownBlock)).trans (KeepBut.of_grown hg p) (.inl rfl))
  clear ho hb hg
  refine hK.out _ _ ⟨(blk_cell D9.out 1).trans rfl, (blk_cell G9.out 0).trans rfl⟩ (fun hHeld => ?_)
  clear hK K
  refine norm_ (a' := ?_) ?_ ?_
  rotate_left
  · show Act.put _ (some 9) _ = _
    simp only [Act.put, List.setIfInBounds_toArray, List.set_cons_zero, List.set_cons_succ, i64_w, i32_w]
    rfl
  refine pure_ (i := 7) (N := some 10) (v := ?_) (a' := ?_) #[true, true, true, true, true, true, true, true, false, false] rfl rfl (by kernel_rfl) (fun _ _ _ h => h) (Or.inl ⟨by rfl, ?_⟩) ?_ ?_
  rotate_left
  · intro w'
    go_simp
    with_reducible rfl
  rotate_left
  · simp only [Act.put, List.setIfInBounds_toArray, List.set_cons_zero, List.set_cons_succ, i64_w, i32_w]
    rfl
  refine pure_ (i := 8) (N := some 11) (v := ?_) (a' := ?_) #[true, true, true, true, true, true, true, true, true, false] rfl rfl (by kernel_rfl) (fun _ _ _ h => h) (Or.inl ⟨by rfl, ?_⟩) ?_ ?_
  rotate_left
  · intro w'
    go_simp
    with_reducible rfl
  rotate_left
  · simp only [Act.put, List.setIfInBounds_toArray, List.set_cons_zero, List.set_cons_succ, i64_w, i32_w]
    rfl
  refine last_ (i := 9) (N := none) #[true, true, true, true, true, true, true, true, true, true] rfl rfl (by kernel_rfl) (by decide) (fun K hK => ?_)
  have hf9 := blk_frozen D9.out 1
  have hc9 : w9.cell? ⟨p, 1, none⟩ = some (.slice A n c) := (blk_cell D9.out 1).trans rfl
  refine skip_ (w1 := ?_) (by rfl) rfl ?_ ?_
  rotate_left
  · go_simp
    rfl
  refine hK.out _ _ ?_
  clear hK K
  refine done_ (by kernel_rfl) ?_
  refine bodyPost_end (v := .tuple #[]) (by simp [results, Try.results30, go_sem]) rfl ⟨rfl, A9, c9, blk_put D9.out 1 _ (by rw [List.length_append]; rfl), R9.out.set D9.out (by decide) _ _, below_set B9.out hp, KeepBut.set_ K9.out 1 _⟩

abbrev PostA (w0 w : World) (p : Nat) (row : Option Nat) (s : Int) (zs : List Int) : Ending → World → Prop := fun e w' => e = .returned (.int .i64 0) ∧ ∃ A' c', Dk w' p (.slice A' zs.length c') s ∧ Br w' w0.heap.size (.slice A' zs.length c') zs ∧ Below w0.heap.size w0 w' ∧ KeepBut w w' p row
set_option maxHeartbeats 2000000 in
theorem on_append (w0 : World) (p g : Nat) (A D : Option Addr) (n c m k : Nat) (s : Int) (xs ys : List Int) (w : World) (h : Dk w p (.slice A n c) s) (hR : Br w w0.heap.size (.slice A n c) xs) (hp : w0.heap.size ≤ p) (hB : Below w0.heap.size w0 w)
    (hg : w.heap[g]? = some (.cells #[.slice D m k] 22 (0, 0))) (hY : Kd.C (Kd.int .u8) w D m ys) (hx : xs.length + m ≤ 100000) :
    Calls Try.prog 28 #[.pointer (some ⟨p, 0, none⟩), .func (Fn.func 29) #[] #[.pointer (some ⟨g, 0, none⟩)], .func (Fn.func 30) #[] #[.pointer (some ⟨g, 0, none⟩)]] w (PostA w0 w p (Value.slice A n c).ownBlock s (xs ++ ys)) := by
  have hn : n = xs.length := by
    obtain ⟨_, _, e, _⟩ := hR.reads (by omega)
    injection e
  have hg0 : w.cell? ⟨g, 0, none⟩ = some (.slice D m k) := (blk_cell hg 0).trans rfl
  have H := Lib.hid h
  have HR := Lib.hid hR
  have HB := Lib.hid hB
  have HG := Lib.hid hg
  have HG0 := Lib.hid hg0
  have HY := Lib.hid hY
  have HX := Lib.hid hx
  have HNx := Lib.hid hn
  have h3 := h.c3
  clear h hR hB hg hY hx hn hg0
  unfold PostA
  go_enter Try.func28, Try.ntmps28
  go_wp2_with (first | (go_at_call 33; refine (is_calls _ _ _ _ H.out).mono ?_; rintro e w1 ⟨rfl, rfl⟩) | (go_at_call 29; refine (wrong_calls p g A D n c m k s _ H.out HG0.out (by have := HX.out; have := HNx.out; omega)).mono ?_; rintro e w2 ⟨rfl, q, rfl⟩) | (go_at_call 30; refine (what_calls w0 p g A D n c m k s xs ys _ (by exact H.out) (HR.out.below (pw_below_drewN (Below.refl _ _) _)) hp (pw_below_drewN HB.out _) (by exact HG.out) (Kd.C_drewN HY.out _) HX.out).mono ?_; rintro e w3 ⟨rfl, A3, c3, hd, ho, hb, hk⟩; have D3 := Lib.hid hd; have R3 := Lib.hid ho; have B3 := Lib.hid hb; have K3 := Lib.hid ((keep_drewN (KeepBut.refl w p (Value.slice A n c).ownBlock) q).trans hk (.inl rfl)); clear hd ho hb hk))
  go_ret
  exact ⟨rfl, A3, c3, D3.out, R3.out, B3.out, K3.out⟩
set_option maxHeartbeats 1000000 in
theorem append_calls (w0 : World) (p : Nat) (A D : Option Addr) (n c m k : Nat) (s : Int) (xs ys : List Int) (w : World) (h : Dk w p (.slice A n c) s) (hR : Br w w0.heap.size (.slice A n c) xs) (hp : w0.heap.size ≤ p) (hB : Below w0.heap.size w0 w)
    (hY : Kd.C (Kd.int .u8) w D m ys) (hx : xs.length + m ≤ 100000) :
    Calls Try.prog 9 #[.pointer (some ⟨p, 0, none⟩), .slice D m k] w (PostA w0 w p (Value.slice A n c).ownBlock s (xs ++ ys)) := by
  have H := Lib.hid h
  have HR := Lib.hid hR
  have HB := Lib.hid hB
  have HY := Lib.hid hY
  have HX := Lib.hid hx
  clear h hR hB hY hx
  unfold PostA
  go_enter Try.func9, Try.ntmps9
  go_wp2_with (first | ((with_reducible refine gate_dst (N := 3) rfl ?_); refine box_event ?hg (N := 3) ?hd (cs := #[.slice D m k]) (t := 22) ?hr ?_; (case hd => rfl); (case hg => rfl); (case hr => first | (go_simp; done) | (go_simp; rfl)); intro g hgz w3 hbox hb; have K3 := Lib.hid (KeepBut.of_below hb p (Value.slice A n c).ownBlock); have G3 := Lib.hid hbox; have D3 := Lib.hid (show Dk w3 p (.slice A n c) s from blk_below H.out hb); have R3 := Lib.hid (HR.out.below hb); have Y3 := Lib.hid (Kd.C_below HY.out hb); have B3 := Lib.hid (show Below w0.heap.size w0 w3 from below_then HB.out HB.out.size hb); clear hbox hb hgz) | (go_at_call 28; refine (on_append w0 p g A D n c m k s xs ys _ D3.out R3.out hp B3.out G3.out Y3.out HX.out).mono ?_; rintro e w8 ⟨rfl, A8, c8, hd, ho, hb, hk⟩; have D8 := Lib.hid hd; have R8 := Lib.hid ho; have B8 := Lib.hid hb; have K8 := Lib.hid (K3.out.trans hk (.inl rfl)); clear hd ho hb hk))
  go_ret
  exact ⟨rfl, A8, c8, D8.out, R8.out, B8.out, K8.out⟩
set_option maxHeartbeats 1000000 in
theorem on_sync (w0 : World) (p : Nat) (A : Option Addr) (n c : Nat) (s : Int) (xs : List Int) (f1 f2 : Value) (w : World) (h : Dk w p (.slice A n c) s) (hR : Br w w0.heap.size (.slice A n c) xs) (hp : w0.heap.size ≤ p) (hB : Below w0.heap.size w0 w) :
    Calls Try.prog 28 #[.pointer (some ⟨p, 0, none⟩), .func (Fn.func 31) #[] #[], .func (Fn.func 32) #[] #[]] w fun e w' => e = .returned (.int .i64 0) ∧ Dk w' p (.slice A n c) n ∧ Br w' w0.heap.size (.slice A n c) xs ∧ Below w0.heap.size w0 w' ∧ KeepBut w w' p none := by
  have H := Lib.hid h
  have HR := Lib.hid hR
  have HB := Lib.hid hB
  have h3 := h.c3
  clear h hR hB
  go_enter Try.func28, Try.ntmps28
  go_wp2_with (first | (go_at_call 33; refine (is_calls _ _ _ _ H.out).mono ?_; rintro e w1 ⟨rfl, rfl⟩) | (go_at_call 31; refine (nothing_calls _ _).mono ?_; rintro e w2 ⟨rfl, rfl⟩) | (go_at_call 32; refine (flush_calls 0 w0 p A n c s _ H.out hp HB.out).mono ?_; rintro e w3 ⟨rfl, hd, hb, u, rfl⟩; have K3 := Lib.hid (KeepBut.set_ (KeepBut.refl w p none) 2 u); have D3 := Lib.hid hd; have B3 := Lib.hid hb; clear hd hb))
  go_ret
  exact ⟨rfl, D3.out, HR.out.set H.out (by decide) _ _, B3.out, K3.out⟩
set_option maxHeartbeats 1000000 in
theorem sync_calls (w0 : World) (p : Nat) (A : Option Addr) (n c : Nat) (s : Int) (xs : List Int) (w : World) (h : Dk w p (.slice A n c) s) (hR : Br w w0.heap.size (.slice A n c) xs) (hp : w0.heap.size ≤ p) (hB : Below w0.heap.size w0 w) :
    Calls Try.prog 10 #[.pointer (some ⟨p, 0, none⟩)] w fun e w' => e = .returned (.int .i64 0) ∧ Dk w' p (.slice A n c) n ∧ Br w' w0.heap.size (.slice A n c) xs ∧ Below w0.heap.size w0 w' ∧ KeepBut w w' p none := by
  have H := Lib.hid h
  have HR := Lib.hid hR
  have HB := Lib.hid hB
  clear h hR hB
  go_enter Try.func10, Try.ntmps10
  go_wp2_with (go_at_call 28; refine (on_sync w0 p A n c s xs (.int .i64 0) (.int .i64 0) _ H.out HR.out hp HB.out).mono ?_; rintro e w3 ⟨rfl, hd, ho, hb, hk⟩; have D3 := Lib.hid hd; have R3 := Lib.hid ho; have B3 := Lib.hid hb; have K3 := Lib.hid hk; clear hd ho hb hk)
  go_ret
  exact ⟨rfl, D3.out, R3.out, B3.out, K3.out⟩
end Go.Proofs.Ytkckmikpmjecdaa.H
