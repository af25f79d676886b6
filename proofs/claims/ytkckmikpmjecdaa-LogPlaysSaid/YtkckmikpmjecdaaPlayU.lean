/- What the calls of a disk with any fuse answer: contracts. Condition: a disk that was made. What Append, Sync and Fuse of a disk with any fuse answer: contracts. Condition: a disk that was made. What Append, Sync and Fuse of a disk with any fuse answer, with its bytes: contracts. Condition: a disk that was made. What the calls of a log on a disk with any fuse answer: contracts. Condition: a disk that was made. Scanning a beginning that is whole, and what stands behind it: plain laws. Condition: bytes. The reference's disk: strings of bytes, plain laws and contracts. Condition: bytes. The reference's Sync and Cut: contracts. Condition: the disk's fuse. The reference's Open, the log's Open and Records for any bytes: contracts. Condition: bytes. The log's Open and Records for any bytes: contracts. Condition: bytes. The reference's disk and log, by the disk's own numbers: contracts. Condition: bytes. -/
import Derived.Test.YtkckmikpmjecdaaKeepsB
import Derived.Test.YtkckmikpmjecdaaDkY
import Derived.Test.YtkckmikpmjecdaaCutC
import Derived.Test.YtkckmikpmjecdaaScanQ
import Derived.Test.YtkckmikpmjecdaaScanW
namespace Go.Proofs.Ytkckmikpmjecdaa.HF
open Go.RowKit Go.Proofs.Ytkckmikpmjecdaa.H Go.Proofs.YtkckmikpmjecdaaW.PrintWords Go.Proofs.YtkckmikpmjecdaaW.PrintLast Go.Proofs.YtkckmikpmjecdaaW.PrintMore
set_option linter.unusedVariables false
set_option linter.unusedSimpArgs false
/-- A disk in memory that so many calls may write. -/
def Fk (f : Int) (w : World) (p : Nat) (v : Value) (s : Int) : Prop := w.heap[p]? = some (.cells #[.bool true, v, .int .i64 s, .int .i64 f] 36 (0, 0))
variable {f : Int}
theorem Fk.c0 {w p v s} (h : Fk f w p v s) : w.cell? ⟨p, 0, none⟩ = some (.bool true) := (blk_cell h 0).trans rfl
theorem Fk.c1 {w p v s} (h : Fk f w p v s) : w.cell? ⟨p, 1, none⟩ = some v := (blk_cell h 1).trans rfl
theorem Fk.c2 {w p v s} (h : Fk f w p v s) : w.cell? ⟨p, 2, none⟩ = some (.int .i64 s) := (blk_cell h 2).trans rfl
theorem Fk.c3 {w p v s} (h : Fk f w p v s) : w.cell? ⟨p, 3, none⟩ = some (.int .i64 f) := (blk_cell h 3).trans rfl
theorem is_calls (p : Nat) (v : Value) (s : Int) (w : World) (h : Fk f w p v s) : Calls Try.prog 33 #[.pointer (some ⟨p, 0, none⟩)] w fun e w' => e = .returned (.bool true) ∧ w = w' := by
  have h0 := h.c0
  clear h
  go_enter Try.func33, Try.ntmps33
  go_wp2
  go_ret
  exact ⟨rfl, rfl⟩
theorem len_calls (p : Nat) (A : Option Addr) (n c : Nat) (s : Int) (w : World) (h : Fk f w p (.slice A n c) s) : Calls Try.prog 12 #[.pointer (some ⟨p, 0, none⟩)] w fun e w' => e = .returned (.int .i64 n) ∧ w = w' := by
  have h1 := h.c1
  have H := Lib.hid h
  clear h
  go_enter Try.func12, Try.ntmps12
  go_wp2_with (go_at_call 33; refine (is_calls _ _ _ _ H.out).mono ?_; rintro e w1 ⟨rfl, rfl⟩)
  go_ret
  exact ⟨rfl, rfl⟩
theorem synced_calls (p : Nat) (v : Value) (s : Int) (w : World) (h : Fk f w p v s) : Calls Try.prog 11 #[.pointer (some ⟨p, 0, none⟩)] w fun e w' => e = .returned (.int .i64 s) ∧ w = w' := by
  have h2 := h.c2
  have H := Lib.hid h
  clear h
  go_enter Try.func11, Try.ntmps11
  go_wp2_with (go_at_call 33; refine (is_calls _ _ _ _ H.out).mono ?_; rintro e w1 ⟨rfl, rfl⟩)
  go_ret
  exact ⟨rfl, rfl⟩
theorem flush_calls (B : Nat) (w0 : World) (p : Nat) (A : Option Addr) (n c : Nat) (s : Int) (w : World) (h : Fk f w p (.slice A n c) s) (hp : w0.heap.size ≤ p) (hB : Below w0.heap.size w0 w) : Calls Try.prog 32 #[.pointer (some ⟨p, 0, none⟩)] w fun e w' => e = .returned (.tuple #[]) ∧ Fk f w' p (.slice A n c) n ∧ Below w0.heap.size w0 w' ∧ ∃ u, w' = w.setCell ⟨p, 2, none⟩ u := by
  have h1 := h.c1
  have h2 := h.c2
  have h2f := blk_frozen h 2
  have H := Lib.hid h
  have HB := Lib.hid hB
  clear h hB
  go_enter Try.func32, Try.ntmps32
  go_wp2
  exact bodyPost_end (v := .tuple #[]) (by simp [results, Try.results32, go_sem]) rfl ⟨rfl, blk_put H.out 2 _ rfl, below_set HB.out hp, _, rfl⟩
/-- The question of Append. -/
theorem wrong_calls (p g : Nat) (A D : Option Addr) (n c m k : Nat) (s : Int) (w : World) (h : Fk f w p (.slice A n c) s) (hg : w.cell? ⟨g, 0, none⟩ = some (.slice D m k)) (hs : n + m ≤ 100000) : Calls Try.prog 29 #[.pointer (some ⟨p, 0, none⟩), .pointer (some ⟨g, 0, none⟩)] w fun e w' => e = .returned (.int .i64 0) ∧ ∃ q, w' = w.drewN q := by
  have h1 := h.c1
  have ht : decide ((4194304 : Int) - (n : Int) < (m : Int)) = false := by simp; omega
  clear h
  go_enter Try.func29, Try.ntmps29
  go_wp2
  go_region
  go_wp2
  go_ret
  exact ⟨rfl, 1, rfl⟩
set_option maxHeartbeats 2000000 in
theorem what_calls (w0 : World) (p g : Nat) (A D : Option Addr) (n c m k : Nat) (s : Int) (xs ys : List Int) (w : World) (h : Fk f w p (.slice A n c) s) (hR : Br w w0.heap.size (.slice A n c) xs) (hp : w0.heap.size ≤ p) (hB : Below w0.heap.size w0 w)
    (hg : w.heap[g]? = some (.cells #[.slice D m k] 22 (0, 0))) (hY : Kd.C (Kd.int .u8) w D m ys) (hx : xs.length + m ≤ 100000) :
    Calls Try.prog 30 #[.pointer (some ⟨p, 0, none⟩), .pointer (some ⟨g, 0, none⟩)] w fun e w' => e = .returned (.tuple #[]) ∧ ∃ A' c', Fk f w' p (.slice A' (xs ++ ys).length c') s ∧ Br w' w0.heap.size (.slice A' (xs ++ ys).length c') (xs ++ ys) ∧ Below w0.heap.size w0 w' ∧ KeepBut w w' p (Value.slice A n c).ownBlock := by
  have h1 := h.c1
  have hg0 : w.cell? ⟨g, 0, none⟩ = some (.slice D m k) := (blk_cell hg 0).trans rfl
  have H := Lib.hid h
  have HR := Lib.hid hR
  have HB := Lib.hid hB
  have HG := Lib.hid hg
  have HY := Lib.hid hY
  have HX := Lib.hid hx
  have NP := Lib.hid (hR.ne h (by decide))
  have NG := Lib.hid (hR.ne hg (by decide))
  clear h hR hB hg hY hx
  go_enter Try.func30, Try.ntmps30
  refine start_ (n := 10) (S := fun w' => w'.cell? ⟨p, 1, none⟩ = some (.slice A n c) ∧ w'.cell? ⟨g, 0, none⟩ = some (.slice D m k)) (ds := [9]) #[false, false, false, false, false, false, false, false, false, false] (by kernel_rfl) rfl rfl ⟨h1, hg0⟩ (fun hHeld => ?_)
  refine pure_ (i := 0) (N := some 3) (v := ?_) (a' := ?_) #[true, false, false, false, false, false, false, false, false, false] rfl rfl (by kernel_rfl) (fun _ _ _ h => h) (Or.inl ⟨by rfl, ?_⟩) ?_ ?_
  rotate_left
  · intro w'
    go_simp
    with_reducible rfl
  rotate_left
  · simp only [Act.put, List.setIfInBounds_toArray, List.set_cons_zero, List.set_cons_succ, i64_w, i32_w]
    rfl
  refine pure_ (i := 1) (N := some 4) (v := ?_) (a' := ?_) #[true, true, false, false, false, false, false, false, false, false] rfl rfl (by kernel_rfl) (fun _ _ _ h => h) (Or.inl ⟨by rfl, ?_⟩) ?_ ?_
  rotate_left
  · intro w'
    go_simp
    with_reducible rfl
  rotate_left
  · simp only [Act.put, List.setIfInBounds_toArray, List.set_cons_zero, List.set_cons_succ, i64_w, i32_w]
    rfl
  refine pure_ (i := 2) (N := some 5) (v := ?_) (a' := ?_) #[true, true, true, false, false, false, false, false, false, false] rfl rfl (by kernel_rfl) (fun _ _ _ h => h) (Or.inl ⟨by rfl, ?_⟩) ?_ ?_
  rotate_left
  · intro w'
    go_simp
    with_reducible rfl
  rotate_left
  · simp only [Act.put, List.setIfInBounds_toArray, List.set_cons_zero, List.set_cons_succ, i64_w, i32_w]
    rfl
  refine pure_ (i := 3) (N := some 6) (v := ?_) (a' := ?_) #[true, true, true, true, false, false, false, false, false, false] rfl rfl (by kernel_rfl) (fun _ _ _ h => h) (Or.inl ⟨by rfl, ?_⟩) ?_ ?_
  rotate_left
  · intro w'
    go_simp
    with_reducible rfl
  rotate_left
  · simp only [Act.put, List.setIfInBounds_toArray, List.set_cons_zero, List.set_cons_succ, i64_w, i32_w]
    rfl
  refine take_ (i := 4) (N := some 7) (v := ?_) (a' := ?_) #[true, true, true, true, true, false, false, false, false, false] rfl rfl (by kernel_rfl) (fun _ _ _ h => h) (Or.inl ⟨by rfl, ?_⟩) hHeld ?_ ?_
  rotate_left
  · rintro w' ⟨s0, s1⟩
    go_simp
    with_reducible rfl
  rotate_left
  · simp only [Act.put, List.setIfInBounds_toArray, List.set_cons_zero, List.set_cons_succ, i64_w, i32_w]
    rfl
  refine take_ (i := 5) (N := some 8) (v := ?_) (a' := ?_) #[true, true, true, true, true, true, false, false, false, false] rfl rfl (by kernel_rfl) (fun _ _ _ h => h) (Or.inl ⟨by rfl, ?_⟩) hHeld ?_ ?_
  rotate_left
  · rintro w' ⟨s0, s1⟩
    go_simp
    with_reducible rfl
  rotate_left
  · simp only [Act.put, List.setIfInBounds_toArray, List.set_cons_zero, List.set_cons_succ, i64_w, i32_w]
    rfl
  refine one_ (i := 6) (N := some 9) #[true, true, true, true, true, true, true, false, false, false] rfl rfl (by kernel_rfl) (by decide) (fun K hK => ?_)
  refine Br_append_step (B := w0.heap.size) (W := w.drew) (by rfl) (.tmp 7) (.tmp 8) (by rfl) (.slice A n c) xs ys D m k (by rfl) (by rfl) (HR.out.below (below_drew (Below.refl _ _))) (Kd.C_drew HY.out) (below_size (below_drew HB.out)) (by have := HX.out; omega) ?_
  intro v9 w9 ho hg
  have hb := pw_below_grown (below_drew HB.out) _ (below_size (below_drew HB.out)) hg (fun q hq => HR.out.base q hq)
  obtain ⟨A9, c9, e9, _, _⟩ := ho.reads (by rw [List.length_append]; have := HX.out; have := HY.out.1; omega)
  subst e9
  have D9 := Lib.hid (blk_grown (blk_drew H.out) hg NP.out)
  have G9 := Lib.hid (blk_grown (blk_drew HG.out) hg NG.out)
  have R9 := Lib.hid ho
  have B9 := Lib.hid hb
  have K9 := Lib.hid ((keep_drew (KeepBut.refl w p (Value.slice A n c).ownBlock)).trans (KeepBut.of_grown hg p) (.inl rfl))
  clear ho hb hg
  refine hK.out _ _ ⟨(blk_cell D9.out 1).trans rfl, (blk_cell G9.out 0).trans rfl⟩ (fun hHeld => ?_)
  clear hK K
  refine norm_ (a' := ?_) ?_ ?_
  rotate_left
  · show Act.put _ (some 9) _ = _
    simp only [Act.put, List.setIfInBounds_toArray, List.set_cons_zero, List.set_cons_succ, i64_w, i32_w]
    rfl
  refine pure_ (i := 7) (N := some 10) (v := ?_) (a' := ?_) #[true, true, true, true, true, true, true, true, false, false] rfl rfl (by kernel_rfl) (fun _ _ _ h => h) (Or.inl ⟨by rfl, ?_⟩) ?_ ?_
  rotate_left
  · intro w'
    go_simp
    with_reducible rfl
  rotate_left
  · simp only [Act.put, List.setIfInBounds_toArray, List.set_cons_zero, List.set_cons_succ, i64_w, i32_w]
    rfl
  refine pure_ (i := 8) (N := some 11) (v := ?_) (a' := ?_) #[true, true, true, true, true, true, true, true, true, false] rfl rfl (by kernel_rfl) (fun _ _ _ h => h) (Or.inl ⟨by rfl, ?_⟩) ?_ ?_
  rotate_left
  · intro w'
    go_simp
    with_reducible rfl
  rotate_left
  · simp only [Act.put, List.setIfInBounds_toArray, List.set_cons_zero, List.set_cons_succ, i64_w, i32_w]
    rfl
  refine last_ (i := 9) (N := none) #[true, true, true, true, true, true, true, true, true, true] rfl rfl (by kernel_rfl) (by decide) (fun K hK => ?_)
  have hf9 := blk_frozen D9.out 1
  have hc9 : w9.cell? ⟨p, 1, none⟩ = some (.slice A n c) := (blk_cell D9.out 1).trans rfl
  refine skip_ (w1 := ?_) (by rfl) rfl ?_ ?_
  rotate_left
  · go_simp
    rfl
  refine hK.out _ _ ?_
  clear hK K
  refine done_ (by kernel_rfl) ?_
  refine bodyPost_end (v := .tuple #[]) (by simp [results, Try.results30, go_sem]) rfl ⟨rfl, A9, c9, blk_put D9.out 1 _ (by rw [List.length_append]; rfl), R9.out.set D9.out (by decide) _ _, below_set B9.out hp, KeepBut.set_ K9.out 1 _⟩

set_option maxHeartbeats 1000000 in
theorem bytes_calls (p : Nat) (A : Option Addr) (n c : Nat) (s : Int) (xs : List Int) (w : World) (h : Fk f w p (.slice A n c) s) (hC : Kd.C (Kd.int .u8) w A n xs) (hn : n ≤ 100000) :
    Calls Try.prog 14 #[.pointer (some ⟨p, 0, none⟩)] w fun e w' => ∃ v, e = .returned v ∧ Kd.R (Kd.int .u8) 5 w' w.heap.size (fun _ => True) v xs ∧ Below w.heap.size w w' := by
  have H := Lib.hid h
  have HC := Lib.hid hC
  have h1 := h.c1
  clear h hC
  go_enter Try.func14, Try.ntmps14
  go_wp2_with (first | (go_at_call 33; refine (is_calls _ _ _ _ H.out).mono ?_; rintro e w1 ⟨rfl, rfl⟩) | ((with_reducible refine gate_dst (N := 6) rfl ?_); refine Kd.R_lit (Kd.int .u8) (w0 := w) w.heap.size 5 ?hg6 (N := 6) ?hd6 (xs := ([] : List Int)) (inner := []) (ok := fun _ => True) (okp := fun _ => True) ?hr6 ?hp6 (fun _ hk => hk) trivial (Below.refl _ _) (Nat.le_refl _) (by simp) ?_; (case hd6 => rfl); (case hg6 => rfl); (case hr6 => first | (go_simp; done) | (go_simp; rfl)); (case hp6 => exact (Reps.none _ _)); intro v6 w6 ho hb hg hnew; clear hg hnew; have Pv6 := Lib.hid ho; have Hv6 := Lib.hid hb; clear ho hb; have h16 := (show Fk f w6 p (.slice A n c) s from blk_below H.out Hv6.out).c1) | ((with_reducible refine gate_builtin (b := .append) (xs := #[.tmp 6, .tmp 10]) rfl ?_); at_builtin; refine Kd.R_append_rows (Kd.int .u8) (w0 := w) w.heap.size rfl (.tmp 6) (.tmp 10) 22 5 (.int .u8 0) 1 rfl Try.underlying22 info5 rfl (by decide) (by omega) v6 [] xs A n c (fun _ => True) (fun _ => False) rfl rfl Pv6.out (Kd.C_below HC.out Hv6.out) (fun _ _ h => h) (fun _ h => h.elim) (fun _ _ => trivial) Hv6.out Hv6.out.size (by simp; omega) ?_; intro v11 w11 ho hb hg hat; clear hg hat; rw [List.nil_append] at ho; have Pv11 := Lib.hid ho; have Hv11 := Lib.hid hb; clear ho hb Pv6 Hv6))
  go_ret
  exact ⟨_, rfl, Pv11.out, Hv11.out⟩

set_option maxHeartbeats 4000000 in
theorem crash_calls (p : Nat) (A : Option Addr) (n c : Nat) (s k : Nat) (x : Int) (xs : List Int) (w : World) (h : Fk f w p (.slice A n c) s) (hC : Kd.C (Kd.int .u8) w A n xs) (hc : n ≤ c) (hs : s ≤ n) (hn : n ≤ 100000) (hk : kk s ((n : Int) - s + 1) x = k) :
    Calls Try.prog 13 #[.pointer (some ⟨p, 0, none⟩), .int .i64 x] w (PostC w k (xs.take k)) := by
  have hr := kk_range (s := (s : Int)) (N := (n : Int) - s + 1) (x := x) (by omega) (by omega) (by omega) (by omega)
  rw [hk] at hr
  have hkn : k ≤ n := by omega
  have H := Lib.hid h
  have HC := Lib.hid hC
  have HKK := Lib.hid (show wrap64 ((s : Int) + (wrap64 (x.tmod ((n : Int) - s + 1) + ((n : Int) - s + 1))).tmod ((n : Int) - s + 1)) = (k : Int) from hk)
  have HK := Lib.hid (show k ≤ 100000 by omega)
  have h1 := h.c1
  have h2 := h.c2
  have HLT := Lib.hid (show (xs.take k).length = k by have := hC.1; rw [List.length_take]; omega)
  clear h hC hk hr
  unfold PostC
  go_enter Try.func13, Try.ntmps13
  go_wp2_with (first | (go_at_call 33; refine (is_calls _ _ _ _ H.out).mono ?_; rintro e w1 ⟨rfl, rfl⟩))
  go_region
  go_wp2_with fail
  go_region
  rw [HKK.out]
  go_wp2_with (go_at_call 8; refine (new_calls _).mono ?_; rintro e w34 ⟨q, rfl, hq, hd, hb⟩; have DQ := Lib.hid hd; have DP := Lib.hid (show Fk f w34 p (.slice A n c) s from blk_below (by exact H.out) hb); have CP := Lib.hid (Kd.C_below (by exact HC.out) hb); have HQ := Lib.hid hq; have B34 := Lib.hid (show Below w.heap.size w w34 from below_step (by repeat (first | exact Below.refl _ _ | apply below_drew)) hb); clear hd hb hq)
  obtain ⟨A2, hsl, hY⟩ := slice_cap A n c k xs w34 CP.out hkn hc
  have HY := Lib.hid hY
  have hq1 := DQ.out.c1
  have hp1 := DP.out.c1
  clear hY
  refine start_ (n := 16) (S := fun w' => w'.cell? ⟨q, 1, none⟩ = some (.slice none 0 0) ∧ w'.cell? ⟨p, 1, none⟩ = some (.slice A n c)) (ds := [15]) #[false, false, false, false, false, false, false, false, false, false, false, false, false, false, false, false] (by kernel_rfl) rfl rfl ⟨hq1, hp1⟩ (fun hHeld => ?_)
  refine pure_ (i := 0) (N := some 35) (v := ?_) (a' := ?_) #[true, false, false, false, false, false, false, false, false, false, false, false, false, false, false, false] rfl rfl (by kernel_rfl) (fun _ _ _ h => h) (Or.inl ⟨by rfl, ?_⟩) ?_ ?_
  rotate_left
  · intro w'
    go_simp
    with_reducible rfl
  rotate_left
  · simp only [Act.put, List.setIfInBounds_toArray, List.set_cons_zero, List.set_cons_succ, i64_w, i32_w]
    rfl
  refine pure_ (i := 1) (N := some 36) (v := ?_) (a' := ?_) #[true, true, false, false, false, false, false, false, false, false, false, false, false, false, false, false] rfl rfl (by kernel_rfl) (fun _ _ _ h => h) (Or.inl ⟨by rfl, ?_⟩) ?_ ?_
  rotate_left
  · intro w'
    go_simp
    with_reducible rfl
  rotate_left
  · simp only [Act.put, List.setIfInBounds_toArray, List.set_cons_zero, List.set_cons_succ, i64_w, i32_w]
    rfl
  refine pure_ (i := 2) (N := some 37) (v := ?_) (a' := ?_) #[true, true, true, false, false, false, false, false, false, false, false, false, false, false, false, false] rfl rfl (by kernel_rfl) (fun _ _ _ h => h) (Or.inl ⟨by rfl, ?_⟩) ?_ ?_
  rotate_left
  · intro w'
    go_simp
    with_reducible rfl
  rotate_left
  · simp only [Act.put, List.setIfInBounds_toArray, List.set_cons_zero, List.set_cons_succ, i64_w, i32_w]
    rfl
  refine pure_ (i := 3) (N := some 38) (v := ?_) (a' := ?_) #[true, true, true, true, false, false, false, false, false, false, false, false, false, false, false, false] rfl rfl (by kernel_rfl) (fun _ _ _ h => h) (Or.inl ⟨by rfl, ?_⟩) ?_ ?_
  rotate_left
  · intro w'
    go_simp
    with_reducible rfl
  rotate_left
  · simp only [Act.put, List.setIfInBounds_toArray, List.set_cons_zero, List.set_cons_succ, i64_w, i32_w]
    rfl
  refine pure_ (i := 5) (N := some 40) (v := ?_) (a' := ?_) #[true, true, true, true, false, true, false, false, false, false, false, false, false, false, false, false] rfl rfl (by kernel_rfl) (fun _ _ _ h => h) (Or.inl ⟨by rfl, ?_⟩) ?_ ?_
  rotate_left
  · intro w'
    go_simp
    with_reducible rfl
  rotate_left
  · simp only [Act.put, List.setIfInBounds_toArray, List.set_cons_zero, List.set_cons_succ, i64_w, i32_w]
    rfl
  refine pure_ (i := 6) (N := some 41) (v := ?_) (a' := ?_) #[true, true, true, true, false, true, true, false, false, false, false, false, false, false, false, false] rfl rfl (by kernel_rfl) (fun _ _ _ h => h) (Or.inl ⟨by rfl, ?_⟩) ?_ ?_
  rotate_left
  · intro w'
    go_simp
    with_reducible rfl
  rotate_left
  · simp only [Act.put, List.setIfInBounds_toArray, List.set_cons_zero, List.set_cons_succ, i64_w, i32_w]
    rfl
  refine pure_ (i := 7) (N := some 42) (v := ?_) (a' := ?_) #[true, true, true, true, false, true, true, true, false, false, false, false, false, false, false, false] rfl rfl (by kernel_rfl) (fun _ _ _ h => h) (Or.inl ⟨by rfl, ?_⟩) ?_ ?_
  rotate_left
  · intro w'
    go_simp
    with_reducible rfl
  rotate_left
  · simp only [Act.put, List.setIfInBounds_toArray, List.set_cons_zero, List.set_cons_succ, i64_w, i32_w]
    rfl
  refine pure_ (i := 9) (N := some 44) (v := ?_) (a' := ?_) #[true, true, true, true, false, true, true, true, false, true, false, false, false, false, false, false] rfl rfl (by kernel_rfl) (fun _ _ _ h => h) (Or.inl ⟨by rfl, ?_⟩) ?_ ?_
  rotate_left
  · intro w'
    go_simp
    with_reducible rfl
  rotate_left
  · simp only [Act.put, List.setIfInBounds_toArray, List.set_cons_zero, List.set_cons_succ, i64_w, i32_w]
    rfl
  refine pure_ (i := 10) (N := some 45) (v := ?_) (a' := ?_) #[true, true, true, true, false, true, true, true, false, true, true, false, false, false, false, false] rfl rfl (by kernel_rfl) (fun _ _ _ h => h) (Or.inl ⟨by rfl, ?_⟩) ?_ ?_
  rotate_left
  · intro w'
    go_simp
    with_reducible rfl
  rotate_left
  · simp only [Act.put, List.setIfInBounds_toArray, List.set_cons_zero, List.set_cons_succ, i64_w, i32_w]
    rfl
  refine take_ (i := 4) (N := some 39) (v := ?_) (a' := ?_) #[true, true, true, true, true, true, true, true, false, true, true, false, false, false, false, false] rfl rfl (by kernel_rfl) (fun _ _ _ h => h) (Or.inl ⟨by rfl, ?_⟩) hHeld ?_ ?_
  rotate_left
  · rintro w' ⟨s0, s1⟩
    go_simp
    with_reducible rfl
  rotate_left
  · simp only [Act.put, List.setIfInBounds_toArray, List.set_cons_zero, List.set_cons_succ, i64_w, i32_w]
    rfl
  refine take_ (i := 8) (N := some 43) (v := ?_) (a' := ?_) #[true, true, true, true, true, true, true, true, true, true, true, false, false, false, false, false] rfl rfl (by kernel_rfl) (fun _ _ _ h => h) (Or.inl ⟨by rfl, ?_⟩) hHeld ?_ ?_
  rotate_left
  · rintro w' ⟨s0, s1⟩
    go_simp
    with_reducible rfl
  rotate_left
  · simp only [Act.put, List.setIfInBounds_toArray, List.set_cons_zero, List.set_cons_succ, i64_w, i32_w]
    rfl
  refine pure_ (i := 11) (N := some 46) (v := ?_) (a' := ?_) #[true, true, true, true, true, true, true, true, true, true, true, true, false, false, false, false] rfl rfl (by kernel_rfl) (fun _ _ _ h => h) (Or.inl ⟨by rfl, ?_⟩) ?_ ?_
  rotate_left
  · intro w'
    go_simp
    with_reducible rfl
  rotate_left
  · simp only [Act.put, List.setIfInBounds_toArray, List.set_cons_zero, List.set_cons_succ, i64_w, i32_w]
    rfl
  refine one_ (i := 12) (N := some 47) #[true, true, true, true, true, true, true, true, true, true, true, true, true, false, false, false] rfl rfl (by kernel_rfl) (by decide) (fun K hK => ?_)
  refine Kd.R_append_rows_step (Kd.int .u8) (w0 := w34) (W := w34.drew) w34.heap.size (by rfl) (.tmp 39) (.tmp 46) 22 5 (.int .u8 0) 1 (by rfl) Try.underlying22 info5 rfl (by decide) (by omega) (.slice none 0 0) [] (xs.take k) A2 k k (fun _ => True) (fun _ => False) (by rfl) (by rfl) (Kd.R_nil _ _ _ _ _) (Kd.C_drew HY.out) (fun _ _ h => h) (fun _ h => h.elim) (fun _ _ => trivial) (below_drew (Below.refl _ _)) (below_size (below_drew (Below.refl _ _))) (by have := HK.out; simp; omega) ?_
  intro v9 w9 ho hb hg hat
  rw [List.nil_append] at ho
  obtain ⟨A9, c9, e9⟩ := Kd.R_slice ho
  rw [HLT.out] at e9
  subst e9
  have D9 := Lib.hid (blk_grown (blk_drew DQ.out) hg (by simp [Value.ownBlock]))
  have G9 := Lib.hid (blk_grown (blk_drew DP.out) hg (by simp [Value.ownBlock]))
  have R9 := Lib.hid ho
  have B9 := Lib.hid hb
  clear ho hb hg hat
  refine hK.out _ _ ⟨(blk_cell D9.out 1).trans rfl, (blk_cell G9.out 1).trans rfl⟩ (fun hHeld => ?_)
  clear hK K
  refine norm_ (a' := ?_) ?_ ?_
  rotate_left
  · show Act.put _ (some 47) _ = _
    simp only [Act.put, List.setIfInBounds_toArray, List.set_cons_zero, List.set_cons_succ, i64_w, i32_w]
    rfl
  refine pure_ (i := 13) (N := some 48) (v := ?_) (a' := ?_) #[true, true, true, true, true, true, true, true, true, true, true, true, true, true, false, false] rfl rfl (by kernel_rfl) (fun _ _ _ h => h) (Or.inl ⟨by rfl, ?_⟩) ?_ ?_
  rotate_left
  · intro w'
    go_simp
    with_reducible rfl
  rotate_left
  · simp only [Act.put, List.setIfInBounds_toArray, List.set_cons_zero, List.set_cons_succ, i64_w, i32_w]
    rfl
  refine pure_ (i := 14) (N := some 49) (v := ?_) (a' := ?_) #[true, true, true, true, true, true, true, true, true, true, true, true, true, true, true, false] rfl rfl (by kernel_rfl) (fun _ _ _ h => h) (Or.inl ⟨by rfl, ?_⟩) ?_ ?_
  rotate_left
  · intro w'
    go_simp
    with_reducible rfl
  rotate_left
  · simp only [Act.put, List.setIfInBounds_toArray, List.set_cons_zero, List.set_cons_succ, i64_w, i32_w]
    rfl
  refine last_ (i := 15) (N := none) #[true, true, true, true, true, true, true, true, true, true, true, true, true, true, true, true] rfl rfl (by kernel_rfl) (by decide) (fun K hK => ?_)
  have hf9 := blk_frozen D9.out 1
  have hc9 : w9.cell? ⟨q, 1, none⟩ = some (.slice none 0 0) := (blk_cell D9.out 1).trans rfl
  refine skip_ (w1 := ?_) (by rfl) rfl ?_ ?_
  rotate_left
  · go_simp
    rfl
  refine hK.out _ _ ?_
  clear hK K
  refine done_ (by kernel_rfl) ?_
  have hDQ2 : Dk (w9.setCell ⟨q, 1, none⟩ (.slice A9 k c9)) q (.slice A9 k c9) 0 := blk_put D9.out 1 (.slice A9 k c9) rfl
  have hR2 := Kd.R_set R9.out D9.out types5 1 (.slice A9 k c9)
  have hB2 : Below w.heap.size w (w9.setCell ⟨q, 1, none⟩ (.slice A9 k c9)) := below_set (below_step B34.out B9.out) (by have := HQ.out; exact this)
  generalize w9.setCell ⟨q, 1, none⟩ (.slice A9 k c9) = w10 at *
  have DQ2 := Lib.hid hDQ2
  have R2 := Lib.hid hR2
  have B2 := Lib.hid hB2
  have hz2 := DQ2.out.c2
  have hf2 := blk_frozen DQ2.out 2
  clear hDQ2 hR2 hB2
  go_wp2_with fail
  go_ret
  exact ⟨q, A9, c9, rfl, HQ.out, blk_put DQ2.out 2 _ rfl, Kd.R_lower (Kd.R_set R2.out DQ2.out types5 2 _) B34.out.size, below_set B2.out HQ.out⟩
theorem cut_bad (p g : Nat) (v : Value) (s x : Int) (w : World) (h : Fk f w p v s) (hg : w.cell? ⟨g, 0, none⟩ = some (.int .i64 x)) (hx : x < 0) : Calls Try.prog 41 #[.pointer (some ⟨p, 0, none⟩), .pointer (some ⟨g, 0, none⟩)] w fun e w' => e = .returned (.int .i64 2) ∧ ∃ q, w' = w.drewN q := by
  have h1 := h.c1
  have ht : decide (x < (0 : Int)) = true := decide_eq_true hx
  clear h
  go_enter Try.func41, Try.ntmps41
  go_wp2
  go_region
  go_wp2
  go_ret
  exact ⟨rfl, 1, rfl⟩
theorem on_cut_bad (p g : Nat) (v : Value) (s x : Int) (w : World) (h : Fk f w p v s) (hg : w.cell? ⟨g, 0, none⟩ = some (.int .i64 x)) (hx : x < 0) :
    Calls Try.prog 28 #[.pointer (some ⟨p, 0, none⟩), .func (Fn.func 41) #[] #[.pointer (some ⟨g, 0, none⟩)], .func (Fn.func 42) #[] #[.pointer (some ⟨g, 0, none⟩)]] w fun e w' => e = .returned (.int .i64 2) ∧ ∃ q, w' = w.drewN q := by
  have H := Lib.hid h
  have HG := Lib.hid hg
  have HX := Lib.hid hx
  clear h hg hx
  go_enter Try.func28, Try.ntmps28
  go_wp2_with (first | (go_at_call 33; refine (is_calls _ _ _ _ H.out).mono ?_; rintro e w1 ⟨rfl, rfl⟩) | (go_at_call 41; refine (cut_bad p g _ s x _ H.out HG.out HX.out).mono ?_; rintro e w2 ⟨rfl, q, rfl⟩))
  go_ret
  exact ⟨rfl, _, rfl⟩
theorem cut_bad_calls (p : Nat) (v : Value) (s x : Int) (w : World) (h : Fk f w p v s) (hx : x < 0) :
    Calls Try.prog 34 #[.pointer (some ⟨p, 0, none⟩), .int .i64 x] w fun e w' => e = .returned (.int .i64 2) ∧ Below w.heap.size w w' := by
  have H := Lib.hid h
  have HX := Lib.hid hx
  clear h hx
  go_enter Try.func34, Try.ntmps34
  go_wp2_with (first | ((with_reducible refine gate_dst (N := 3) rfl ?_); refine box_event ?hg (N := 3) ?hd (cs := #[.int .i64 x]) (t := 3) ?hr ?_; (case hd => rfl); (case hg => rfl); (case hr => first | (go_simp; done) | (go_simp; rfl)); intro g hgz w3 hbox hb; have D3 := Lib.hid (show Fk f w3 p v s from blk_below H.out hb); have G3 := Lib.hid ((blk_cell hbox 0).trans (show (#[.int .i64 x] : Array Value)[0]? = some (.int .i64 x) from rfl)); have B3 := Lib.hid hb; clear hbox hb hgz) | (go_at_call 28; refine (on_cut_bad p g v s x _ D3.out G3.out HX.out).mono ?_; rintro e w1 ⟨rfl, q, rfl⟩))
  go_ret
  exact ⟨rfl, pw_below_drewN B3.out _⟩
end Go.Proofs.Ytkckmikpmjecdaa.HF
namespace Go.Proofs.Ytkckmikpmjecdaa.HF
open Go.RowKit Go.Proofs.Ytkckmikpmjecdaa.H Go.Proofs.YtkckmikpmjecdaaW.PrintWords Go.Proofs.YtkckmikpmjecdaaW.PrintLast Go.Proofs.YtkckmikpmjecdaaW.PrintMore
set_option linter.unusedVariables false
set_option linter.unusedSimpArgs false
variable {f : Int}
theorem C_fk {w : World} {p n n0 c0 : Nat} {A A0 : Option Addr} {s : Int} {l : List Int} (hD : Fk f w p (.slice A0 n0 c0) s) (h : Kd.C (Kd.int .u8) w A n l) (j : Nat) (u : Value) : Kd.C (Kd.int .u8) (w.setCell ⟨p, j, none⟩ u) A n l := by
  obtain ⟨h1, h2, h3⟩ := h
  refine ⟨h1, h2, fun hn => ?_⟩
  obtain ⟨ad, e, hc⟩ := h3 hn
  have hb : ∀ i, (ad.add i).block = ad.block := by intro i; unfold Addr.add; split <;> rfl
  have hne : ad.block ≠ p := by
    intro he
    have hl : 0 < l.length := by omega
    obtain ⟨c, e1, e2, e3⟩ := hc 0 _ (List.getElem?_eq_getElem hl)
    have e2' : c = [.int .u8 (l[0]'hl)] := e2
    subst e2'
    have e4 := e3 0 _ rfl
    have e6 : w.heap[(ad.add (0 * (Kd.int .u8).sz + 0)).block]? = some (.cells #[.bool true, .slice A0 n0 c0, .int .i64 s, .int .i64 f] 36 (0, 0)) := by rw [hb, he]; exact hD
    generalize ad.add (0 * (Kd.int .u8).sz + 0) = z at e4 e6
    obtain ⟨zb, zo, zs⟩ := z
    cases zs with
    | some q => simp [World.cell?, e6] at e4
    | none =>
      rw [cell_of_row w zb zo _ _ _ e6] at e4
      match zo, e4 with
      | 0, e4 => simp at e4
      | 1, e4 => simp at e4
      | 2, e4 => simp at e4
      | 3, e4 => simp at e4
      | o + 4, e4 => simp at e4
  refine ⟨ad, e, fun i x hi => ?_⟩
  obtain ⟨c, e1, e2, e3⟩ := hc i x hi
  exact ⟨c, e1, e2, fun i2 u2 h2 => (World.cell?_of_block (w := w) (Below.heap_setCell w ⟨p, j, none⟩ u _ (by rw [hb]; exact hne))).trans (e3 i2 u2 h2)⟩
theorem wrong_calls1 (p g : Nat) (A D : Option Addr) (n c m k : Nat) (s : Int) (w : World) (h : Fk f w p (.slice A n c) s) (hg : w.cell? ⟨g, 0, none⟩ = some (.slice D m k)) (hs : n + m ≤ 100000) : Calls Try.prog 29 #[.pointer (some ⟨p, 0, none⟩), .pointer (some ⟨g, 0, none⟩)] w fun e w' => e = .returned (.int .i64 0) ∧ w' = w.drewN 1 := by
  have h1 := h.c1
  have ht : decide ((4194304 : Int) - (n : Int) < (m : Int)) = false := by simp; omega
  clear h
  go_enter Try.func29, Try.ntmps29
  go_wp2
  go_region
  go_wp2
  go_ret
  exact ⟨rfl, rfl⟩
def fd (f : Int) : Int := if f > 0 then wrap64 (f - 1) else f
abbrev PostF (f : Int) (w0 w : World) (p : Nat) (row : Option Nat) (s : Int) (zs : List Int) : Ending → World → Prop := fun e w' => e = .returned (.int .i64 0) ∧ ∃ A' c', Fk f w' p (.slice A' zs.length c') s ∧ Br w' w0.heap.size (.slice A' zs.length c') zs ∧ Below w0.heap.size w0 w' ∧ KeepBut w w' p row
set_option maxHeartbeats 2000000 in
theorem on_append_neg (w0 : World) (p g : Nat) (A D : Option Addr) (n c m k : Nat) (s : Int) (xs ys : List Int) (w : World) (h : Fk f w p (.slice A n c) s) (hR : Br w w0.heap.size (.slice A n c) xs) (hp : w0.heap.size ≤ p) (hB : Below w0.heap.size w0 w)
    (hg : w.heap[g]? = some (.cells #[.slice D m k] 22 (0, 0))) (hY : Kd.C (Kd.int .u8) w D m ys) (hx : xs.length + m ≤ 100000) (hf : f < 0) :
    Calls Try.prog 28 #[.pointer (some ⟨p, 0, none⟩), .func (Fn.func 29) #[] #[.pointer (some ⟨g, 0, none⟩)], .func (Fn.func 30) #[] #[.pointer (some ⟨g, 0, none⟩)]] w (PostF f w0 w p (Value.slice A n c).ownBlock s (xs ++ ys)) := by
  have hn : n = xs.length := by
    obtain ⟨_, _, e, _⟩ := hR.reads (by omega)
    injection e
  have hg0 : w.cell? ⟨g, 0, none⟩ = some (.slice D m k) := (blk_cell hg 0).trans rfl
  have H := Lib.hid h
  have HR := Lib.hid hR
  have HB := Lib.hid hB
  have HG := Lib.hid hg
  have HG0 := Lib.hid hg0
  have HY := Lib.hid hY
  have HX := Lib.hid hx
  have HNx := Lib.hid hn
  have h3 := h.c3
  have q0 : (f == 0) = false := by simp; omega
  have q1 : decide ((0 : Int) < f) = false := decide_eq_false (by omega)
  clear h hR hB hg hY hx hn hg0 hf
  unfold PostF
  go_enter Try.func28, Try.ntmps28
  go_wp2_with (first | (go_at_call 33; refine (is_calls _ _ _ _ H.out).mono ?_; rintro e w1 ⟨rfl, rfl⟩) | (go_at_call 29; refine (wrong_calls p g A D n c m k s _ H.out HG0.out (by have := HX.out; have := HNx.out; omega)).mono ?_; rintro e w2 ⟨rfl, q, rfl⟩) | (go_at_call 30; refine (what_calls w0 p g A D n c m k s xs ys _ (by exact H.out) (HR.out.below (pw_below_drewN (Below.refl _ _) _)) hp (pw_below_drewN HB.out _) (by exact HG.out) (Kd.C_drewN HY.out _) HX.out).mono ?_; rintro e w3 ⟨rfl, A3, c3, hd, ho, hb, hk⟩; have D3 := Lib.hid hd; have R3 := Lib.hid ho; have B3 := Lib.hid hb; have K3 := Lib.hid ((keep_drewN (KeepBut.refl w p (Value.slice A n c).ownBlock) q).trans hk (.inl rfl)); clear hd ho hb hk))
  go_ret
  exact ⟨rfl, A3, c3, D3.out, R3.out, B3.out, K3.out⟩
set_option maxHeartbeats 2000000 in
theorem on_append_zero (w0 : World) (p g : Nat) (A D : Option Addr) (n c m k : Nat) (s : Int) (xs ys : List Int) (w : World) (h : Fk f w p (.slice A n c) s) (hR : Br w w0.heap.size (.slice A n c) xs) (hp : w0.heap.size ≤ p) (hB : Below w0.heap.size w0 w)
    (hg : w.heap[g]? = some (.cells #[.slice D m k] 22 (0, 0))) (hY : Kd.C (Kd.int .u8) w D m ys) (hx : xs.length + m ≤ 100000) (hf : f = 0) :
    Calls Try.prog 28 #[.pointer (some ⟨p, 0, none⟩), .func (Fn.func 29) #[] #[.pointer (some ⟨g, 0, none⟩)], .func (Fn.func 30) #[] #[.pointer (some ⟨g, 0, none⟩)]] w fun e w' => e = .returned (.int .i64 17) ∧ Below w.heap.size w w' := by
  have hn : n = xs.length := by
    obtain ⟨_, _, e, _⟩ := hR.reads (by omega)
    injection e
  have hg0 : w.cell? ⟨g, 0, none⟩ = some (.slice D m k) := (blk_cell hg 0).trans rfl
  have H := Lib.hid h
  have HR := Lib.hid hR
  have HB := Lib.hid hB
  have HG := Lib.hid hg
  have HG0 := Lib.hid hg0
  have HY := Lib.hid hY
  have HX := Lib.hid hx
  have HNx := Lib.hid hn
  have h3 := h.c3
  have q0 : (f == 0) = true := by simp [hf]
  clear h hR hB hg hY hx hn hg0 hf
  go_enter Try.func28, Try.ntmps28
  go_wp2_with (first | (go_at_call 33; refine (is_calls _ _ _ _ H.out).mono ?_; rintro e w1 ⟨rfl, rfl⟩) | (go_at_call 29; refine (wrong_calls p g A D n c m k s _ H.out HG0.out (by have := HX.out; have := HNx.out; omega)).mono ?_; rintro e w2 ⟨rfl, q, rfl⟩))
  go_ret
  exact ⟨rfl, pw_below_drewN (Below.refl _ _) _⟩
set_option maxHeartbeats 2000000 in
theorem on_append_pos (w0 : World) (p g : Nat) (A D : Option Addr) (n c m k : Nat) (s : Int) (xs ys : List Int) (w : World) (h : Fk f w p (.slice A n c) s) (hR : Br w w0.heap.size (.slice A n c) xs) (hp : w0.heap.size ≤ p) (hB : Below w0.heap.size w0 w)
    (hg : w.heap[g]? = some (.cells #[.slice D m k] 22 (0, 0))) (hY : Kd.C (Kd.int .u8) w D m ys) (hx : xs.length + m ≤ 100000) (hf : 0 < f) :
    Calls Try.prog 28 #[.pointer (some ⟨p, 0, none⟩), .func (Fn.func 29) #[] #[.pointer (some ⟨g, 0, none⟩)], .func (Fn.func 30) #[] #[.pointer (some ⟨g, 0, none⟩)]] w (PostF (wrap64 (f - 1)) w0 w p (Value.slice A n c).ownBlock s (xs ++ ys)) := by
  have hn : n = xs.length := by
    obtain ⟨_, _, e, _⟩ := hR.reads (by omega)
    injection e
  have hg0 : w.cell? ⟨g, 0, none⟩ = some (.slice D m k) := (blk_cell hg 0).trans rfl
  have H := Lib.hid h
  have HR := Lib.hid hR
  have HB := Lib.hid hB
  have HG := Lib.hid hg
  have HG0 := Lib.hid hg0
  have HY := Lib.hid hY
  have HX := Lib.hid hx
  have HNx := Lib.hid hn
  have h3 := h.c3
  have q0 : (f == 0) = false := by simp; omega
  have q1 : decide ((0 : Int) < f) = true := decide_eq_true hf
  have h3f := blk_frozen (blk_drewN h 1) 3
  have hgp : g ≠ p := blk_ne hg h (by decide)
  have HF := Lib.hid (show Fk (wrap64 (f - 1)) ((w.drewN 1).setCell ⟨p, 3, none⟩ (.int .i64 (wrap64 (f - 1)))) p (.slice A n c) s from blk_put (blk_drewN h 1) 3 _ rfl)
  have HRF := Lib.hid (show Br ((w.drewN 1).setCell ⟨p, 3, none⟩ (.int .i64 (wrap64 (f - 1)))) w0.heap.size (.slice A n c) xs from (hR.below (pw_below_drewN (Below.refl _ _) _)).set (blk_drewN h 1) (by decide) _ _)
  have HBF := Lib.hid (show Below w0.heap.size w0 ((w.drewN 1).setCell ⟨p, 3, none⟩ (.int .i64 (wrap64 (f - 1)))) from below_set (pw_below_drewN hB _) hp)
  have HGF := Lib.hid (show ((w.drewN 1).setCell ⟨p, 3, none⟩ (.int .i64 (wrap64 (f - 1)))).heap[g]? = some (.cells #[.slice D m k] 22 (0, 0)) from (Below.heap_setCell _ _ _ g hgp).trans (blk_drewN hg 1))
  have HYF := Lib.hid (C_fk (f := f) (w := w.drewN 1) (blk_drewN h 1) (Kd.C_drewN hY 1) 3 (.int .i64 (wrap64 (f - 1))))
  clear h hR hB hg hY hx hn hg0 hf
  unfold PostF
  go_enter Try.func28, Try.ntmps28
  go_wp2_with (first | (go_at_call 33; refine (is_calls _ _ _ _ H.out).mono ?_; rintro e w1 ⟨rfl, rfl⟩) | (go_at_call 29; refine (wrong_calls1 p g A D n c m k s _ H.out HG0.out (by have := HX.out; have := HNx.out; omega)).mono ?_; rintro e w2 ⟨rfl, rfl⟩) | (go_at_call 30; refine (what_calls w0 p g A D n c m k s xs ys _ HF.out HRF.out hp HBF.out HGF.out HYF.out HX.out).mono ?_; rintro e w3 ⟨rfl, A3, c3, hd, ho, hb, hk⟩; have D3 := Lib.hid hd; have R3 := Lib.hid ho; have B3 := Lib.hid hb; have K3 := Lib.hid ((KeepBut.set_ (keep_drewN (KeepBut.refl w p (Value.slice A n c).ownBlock) 1) 3 (.int .i64 (wrap64 (f - 1)))).trans hk (.inl rfl)); clear hd ho hb hk))
  go_ret
  exact ⟨rfl, A3, c3, D3.out, R3.out, B3.out, K3.out⟩
end Go.Proofs.Ytkckmikpmjecdaa.HF
namespace Go.Proofs.Ytkckmikpmjecdaa.HF
open Go.RowKit Go.Proofs.Ytkckmikpmjecdaa.H Go.Proofs.YtkckmikpmjecdaaW.PrintWords Go.Proofs.YtkckmikpmjecdaaW.PrintLast Go.Proofs.YtkckmikpmjecdaaW.PrintMore
set_option linter.unusedVariables false
set_option linter.unusedSimpArgs false
variable {f : Int}
set_option maxHeartbeats 1000000 in
theorem append_neg (w0 : World) (p : Nat) (A D : Option Addr) (n c m k : Nat) (s : Int) (xs ys : List Int) (w : World) (h : Fk f w p (.slice A n c) s) (hR : Br w w0.heap.size (.slice A n c) xs) (hp : w0.heap.size ≤ p) (hB : Below w0.heap.size w0 w)
    (hY : Kd.C (Kd.int .u8) w D m ys) (hx : xs.length + m ≤ 100000) (hf : f < 0) :
    Calls Try.prog 9 #[.pointer (some ⟨p, 0, none⟩), .slice D m k] w (PostF (f) w0 w p (Value.slice A n c).ownBlock s (xs ++ ys)) := by
  have H := Lib.hid h
  have HR := Lib.hid hR
  have HB := Lib.hid hB
  have HY := Lib.hid hY
  have HX := Lib.hid hx
  clear h hR hB hY hx
  unfold PostF
  go_enter Try.func9, Try.ntmps9
  go_wp2_with (first | ((with_reducible refine gate_dst (N := 3) rfl ?_); refine box_event ?hg (N := 3) ?hd (cs := #[.slice D m k]) (t := 22) ?hr ?_; (case hd => rfl); (case hg => rfl); (case hr => first | (go_simp; done) | (go_simp; rfl)); intro g hgz w3 hbox hb; have K3 := Lib.hid (KeepBut.of_below hb p (Value.slice A n c).ownBlock); have G3 := Lib.hid hbox; have D3 := Lib.hid (show Fk f w3 p (.slice A n c) s from blk_below H.out hb); have R3 := Lib.hid (HR.out.below hb); have Y3 := Lib.hid (Kd.C_below HY.out hb); have B3 := Lib.hid (show Below w0.heap.size w0 w3 from below_then HB.out HB.out.size hb); have BW := Lib.hid hb; clear hbox hb hgz) | (go_at_call 28; refine (on_append_neg w0 p g A D n c m k s xs ys _ D3.out R3.out hp B3.out G3.out Y3.out HX.out hf).mono ?_; rintro e w8 ⟨rfl, A8, c8, hd, ho, hb, hk⟩; have D8 := Lib.hid hd; have R8 := Lib.hid ho; have B8 := Lib.hid hb; have K8 := Lib.hid (K3.out.trans hk (.inl rfl)); clear hd ho hb hk))
  go_ret
  exact ⟨rfl, A8, c8, D8.out, R8.out, B8.out, K8.out⟩
set_option maxHeartbeats 1000000 in
theorem append_pos (w0 : World) (p : Nat) (A D : Option Addr) (n c m k : Nat) (s : Int) (xs ys : List Int) (w : World) (h : Fk f w p (.slice A n c) s) (hR : Br w w0.heap.size (.slice A n c) xs) (hp : w0.heap.size ≤ p) (hB : Below w0.heap.size w0 w)
    (hY : Kd.C (Kd.int .u8) w D m ys) (hx : xs.length + m ≤ 100000) (hf : 0 < f) :
    Calls Try.prog 9 #[.pointer (some ⟨p, 0, none⟩), .slice D m k] w (PostF (wrap64 (f - 1)) w0 w p (Value.slice A n c).ownBlock s (xs ++ ys)) := by
  have H := Lib.hid h
  have HR := Lib.hid hR
  have HB := Lib.hid hB
  have HY := Lib.hid hY
  have HX := Lib.hid hx
  clear h hR hB hY hx
  unfold PostF
  go_enter Try.func9, Try.ntmps9
  go_wp2_with (first | ((with_reducible refine gate_dst (N := 3) rfl ?_); refine box_event ?hg (N := 3) ?hd (cs := #[.slice D m k]) (t := 22) ?hr ?_; (case hd => rfl); (case hg => rfl); (case hr => first | (go_simp; done) | (go_simp; rfl)); intro g hgz w3 hbox hb; have K3 := Lib.hid (KeepBut.of_below hb p (Value.slice A n c).ownBlock); have G3 := Lib.hid hbox; have D3 := Lib.hid (show Fk f w3 p (.slice A n c) s from blk_below H.out hb); have R3 := Lib.hid (HR.out.below hb); have Y3 := Lib.hid (Kd.C_below HY.out hb); have B3 := Lib.hid (show Below w0.heap.size w0 w3 from below_then HB.out HB.out.size hb); have BW := Lib.hid hb; clear hbox hb hgz) | (go_at_call 28; refine (on_append_pos w0 p g A D n c m k s xs ys _ D3.out R3.out hp B3.out G3.out Y3.out HX.out hf).mono ?_; rintro e w8 ⟨rfl, A8, c8, hd, ho, hb, hk⟩; have D8 := Lib.hid hd; have R8 := Lib.hid ho; have B8 := Lib.hid hb; have K8 := Lib.hid (K3.out.trans hk (.inl rfl)); clear hd ho hb hk))
  go_ret
  exact ⟨rfl, A8, c8, D8.out, R8.out, B8.out, K8.out⟩
set_option maxHeartbeats 1000000 in
theorem append_zero (w0 : World) (p : Nat) (A D : Option Addr) (n c m k : Nat) (s : Int) (xs ys : List Int) (w : World) (h : Fk f w p (.slice A n c) s) (hR : Br w w0.heap.size (.slice A n c) xs) (hp : w0.heap.size ≤ p) (hB : Below w0.heap.size w0 w)
    (hY : Kd.C (Kd.int .u8) w D m ys) (hx : xs.length + m ≤ 100000) (hf : f = 0) :
    Calls Try.prog 9 #[.pointer (some ⟨p, 0, none⟩), .slice D m k] w fun e w' => e = .returned (.int .i64 17) ∧ Below w.heap.size w w' := by
  have H := Lib.hid h
  have HR := Lib.hid hR
  have HB := Lib.hid hB
  have HY := Lib.hid hY
  have HX := Lib.hid hx
  clear h hR hB hY hx
  go_enter Try.func9, Try.ntmps9
  go_wp2_with (first | ((with_reducible refine gate_dst (N := 3) rfl ?_); refine box_event ?hg (N := 3) ?hd (cs := #[.slice D m k]) (t := 22) ?hr ?_; (case hd => rfl); (case hg => rfl); (case hr => first | (go_simp; done) | (go_simp; rfl)); intro g hgz w3 hbox hb; have K3 := Lib.hid (KeepBut.of_below hb p (Value.slice A n c).ownBlock); have G3 := Lib.hid hbox; have D3 := Lib.hid (show Fk f w3 p (.slice A n c) s from blk_below H.out hb); have R3 := Lib.hid (HR.out.below hb); have Y3 := Lib.hid (Kd.C_below HY.out hb); have B3 := Lib.hid (show Below w0.heap.size w0 w3 from below_then HB.out HB.out.size hb); have BW := Lib.hid hb; clear hbox hb hgz) | (go_at_call 28; refine (on_append_zero w0 p g A D n c m k s xs ys _ D3.out R3.out hp B3.out G3.out Y3.out HX.out hf).mono ?_; rintro e w8 ⟨rfl, hb⟩; have B8 := Lib.hid (below_then BW.out BW.out.size hb); clear hb))
  go_ret
  exact ⟨rfl, B8.out⟩
set_option maxHeartbeats 1000000 in
theorem on_sync_neg (w0 : World) (p : Nat) (A : Option Addr) (n c : Nat) (s : Int) (xs : List Int) (w : World) (h : Fk f w p (.slice A n c) s) (hR : Br w w0.heap.size (.slice A n c) xs) (hp : w0.heap.size ≤ p) (hB : Below w0.heap.size w0 w) (hf : f < 0) :
    Calls Try.prog 28 #[.pointer (some ⟨p, 0, none⟩), .func (Fn.func 31) #[] #[], .func (Fn.func 32) #[] #[]] w fun e w' => e = .returned (.int .i64 0) ∧ Fk (f) w' p (.slice A n c) n ∧ Br w' w0.heap.size (.slice A n c) xs ∧ Below w0.heap.size w0 w' ∧ KeepBut w w' p none := by
  have H := Lib.hid h
  have HR := Lib.hid hR
  have HB := Lib.hid hB
  have h3 := h.c3
  have q0 : (f == 0) = false := by simp; omega
  have q1 : decide ((0 : Int) < f) = false := decide_eq_false (by omega)
  clear h hR hB hf
  go_enter Try.func28, Try.ntmps28
  go_wp2_with (first | (go_at_call 33; refine (is_calls _ _ _ _ H.out).mono ?_; rintro e w1 ⟨rfl, rfl⟩) | (go_at_call 31; refine (nothing_calls _ _).mono ?_; rintro e w2 ⟨rfl, rfl⟩) | (go_at_call 32; refine (flush_calls 0 w0 p A n c s _ H.out hp HB.out).mono ?_; rintro e w3 ⟨rfl, hd, hb, u, rfl⟩; have K3 := Lib.hid (KeepBut.set_ (KeepBut.refl w p none) 2 u); have D3 := Lib.hid hd; have B3 := Lib.hid hb; clear hd hb))
  go_ret
  exact ⟨rfl, D3.out, HR.out.set H.out (by decide) _ _, B3.out, K3.out⟩
set_option maxHeartbeats 1000000 in
theorem on_sync_zero (w0 : World) (p : Nat) (A : Option Addr) (n c : Nat) (s : Int) (xs : List Int) (w : World) (h : Fk f w p (.slice A n c) s) (hR : Br w w0.heap.size (.slice A n c) xs) (hp : w0.heap.size ≤ p) (hB : Below w0.heap.size w0 w) (hf : f = 0) :
    Calls Try.prog 28 #[.pointer (some ⟨p, 0, none⟩), .func (Fn.func 31) #[] #[], .func (Fn.func 32) #[] #[]] w fun e w' => e = .returned (.int .i64 17) ∧ Below w.heap.size w w' := by
  have H := Lib.hid h
  have HR := Lib.hid hR
  have HB := Lib.hid hB
  have h3 := h.c3
  have q0 : (f == 0) = true := by simp [hf]
  clear h hR hB hf
  go_enter Try.func28, Try.ntmps28
  go_wp2_with (first | (go_at_call 33; refine (is_calls _ _ _ _ H.out).mono ?_; rintro e w1 ⟨rfl, rfl⟩) | (go_at_call 31; refine (nothing_calls _ _).mono ?_; rintro e w2 ⟨rfl, rfl⟩))
  go_ret
  exact ⟨rfl, Below.refl _ _⟩
set_option maxHeartbeats 1000000 in
theorem on_sync_pos (w0 : World) (p : Nat) (A : Option Addr) (n c : Nat) (s : Int) (xs : List Int) (w : World) (h : Fk f w p (.slice A n c) s) (hR : Br w w0.heap.size (.slice A n c) xs) (hp : w0.heap.size ≤ p) (hB : Below w0.heap.size w0 w) (hf : 0 < f) :
    Calls Try.prog 28 #[.pointer (some ⟨p, 0, none⟩), .func (Fn.func 31) #[] #[], .func (Fn.func 32) #[] #[]] w fun e w' => e = .returned (.int .i64 0) ∧ Fk (wrap64 (f - 1)) w' p (.slice A n c) n ∧ Br w' w0.heap.size (.slice A n c) xs ∧ Below w0.heap.size w0 w' ∧ KeepBut w w' p none := by
  have H := Lib.hid h
  have HR := Lib.hid hR
  have HB := Lib.hid hB
  have h3 := h.c3
  have q0 : (f == 0) = false := by simp; omega
  have q1 : decide ((0 : Int) < f) = true := decide_eq_true hf
  have h3f := blk_frozen h 3
  have HF := Lib.hid (show Fk (wrap64 (f - 1)) (w.setCell ⟨p, 3, none⟩ (.int .i64 (wrap64 (f - 1)))) p (.slice A n c) s from blk_put h 3 _ rfl)
  have HRF := Lib.hid (show Br (w.setCell ⟨p, 3, none⟩ (.int .i64 (wrap64 (f - 1)))) w0.heap.size (.slice A n c) xs from hR.set h (by decide) _ _)
  have HBF := Lib.hid (show Below w0.heap.size w0 (w.setCell ⟨p, 3, none⟩ (.int .i64 (wrap64 (f - 1)))) from below_set hB hp)
  clear h hR hB hf
  go_enter Try.func28, Try.ntmps28
  go_wp2_with (first | (go_at_call 33; refine (is_calls _ _ _ _ H.out).mono ?_; rintro e w1 ⟨rfl, rfl⟩) | (go_at_call 31; refine (nothing_calls _ _).mono ?_; rintro e w2 ⟨rfl, rfl⟩) | (go_at_call 32; refine (flush_calls 0 w0 p A n c s _ HF.out hp HBF.out).mono ?_; rintro e w3 ⟨rfl, hd, hb, u, rfl⟩; have K3 := Lib.hid (KeepBut.set_ (KeepBut.set_ (KeepBut.refl w p none) 3 (.int .i64 (wrap64 (f - 1)))) 2 u); have D3 := Lib.hid hd; have B3 := Lib.hid hb; clear hd hb))
  go_ret
  exact ⟨rfl, D3.out, HRF.out.set HF.out (by decide) _ _, B3.out, K3.out⟩
set_option maxHeartbeats 1000000 in
theorem sync_neg (w0 : World) (p : Nat) (A : Option Addr) (n c : Nat) (s : Int) (xs : List Int) (w : World) (h : Fk f w p (.slice A n c) s) (hR : Br w w0.heap.size (.slice A n c) xs) (hp : w0.heap.size ≤ p) (hB : Below w0.heap.size w0 w) (hf : f < 0) :
    Calls Try.prog 10 #[.pointer (some ⟨p, 0, none⟩)] w fun e w' => e = .returned (.int .i64 0) ∧ Fk (f) w' p (.slice A n c) n ∧ Br w' w0.heap.size (.slice A n c) xs ∧ Below w0.heap.size w0 w' ∧ KeepBut w w' p none := by
  have H := Lib.hid h
  have HR := Lib.hid hR
  have HB := Lib.hid hB
  clear h hR hB
  go_enter Try.func10, Try.ntmps10
  go_wp2_with (go_at_call 28; refine (on_sync_neg w0 p A n c s xs _ H.out HR.out hp HB.out hf).mono ?_; rintro e w3 ⟨rfl, hd, ho, hb, hk⟩; have D3 := Lib.hid hd; have R3 := Lib.hid ho; have B3 := Lib.hid hb; have K3 := Lib.hid hk; clear hd ho hb hk)
  go_ret
  exact ⟨rfl, D3.out, R3.out, B3.out, K3.out⟩
set_option maxHeartbeats 1000000 in
theorem sync_pos (w0 : World) (p : Nat) (A : Option Addr) (n c : Nat) (s : Int) (xs : List Int) (w : World) (h : Fk f w p (.slice A n c) s) (hR : Br w w0.heap.size (.slice A n c) xs) (hp : w0.heap.size ≤ p) (hB : Below w0.heap.size w0 w) (hf : 0 < f) :
    Calls Try.prog 10 #[.pointer (some ⟨p, 0, none⟩)] w fun e w' => e = .returned (.int .i64 0) ∧ Fk (wrap64 (f - 1)) w' p (.slice A n c) n ∧ Br w' w0.heap.size (.slice A n c) xs ∧ Below w0.heap.size w0 w' ∧ KeepBut w w' p none := by
  have H := Lib.hid h
  have HR := Lib.hid hR
  have HB := Lib.hid hB
  clear h hR hB
  go_enter Try.func10, Try.ntmps10
  go_wp2_with (go_at_call 28; refine (on_sync_pos w0 p A n c s xs _ H.out HR.out hp HB.out hf).mono ?_; rintro e w3 ⟨rfl, hd, ho, hb, hk⟩; have D3 := Lib.hid hd; have R3 := Lib.hid ho; have B3 := Lib.hid hb; have K3 := Lib.hid hk; clear hd ho hb hk)
  go_ret
  exact ⟨rfl, D3.out, R3.out, B3.out, K3.out⟩
set_option maxHeartbeats 1000000 in
theorem sync_zero (w0 : World) (p : Nat) (A : Option Addr) (n c : Nat) (s : Int) (xs : List Int) (w : World) (h : Fk f w p (.slice A n c) s) (hR : Br w w0.heap.size (.slice A n c) xs) (hp : w0.heap.size ≤ p) (hB : Below w0.heap.size w0 w) (hf : f = 0) :
    Calls Try.prog 10 #[.pointer (some ⟨p, 0, none⟩)] w fun e w' => e = .returned (.int .i64 17) ∧ Below w.heap.size w w' := by
  have H := Lib.hid h
  have HR := Lib.hid hR
  have HB := Lib.hid hB
  clear h hR hB
  go_enter Try.func10, Try.ntmps10
  go_wp2_with (go_at_call 28; refine (on_sync_zero w0 p A n c s xs _ H.out HR.out hp HB.out hf).mono ?_; rintro e w3 ⟨rfl, hb⟩; have B3 := Lib.hid hb; clear hb)
  go_ret
  exact ⟨rfl, B3.out⟩

/-- A disk with any fuse, and its bytes. -/
def Fq (f : Int) (w : World) (B p : Nat) (xs : List Int) (s : Nat) : Prop := ∃ A c, Fk f w p (.slice A xs.length c) s ∧ Br w B (.slice A xs.length c) xs
theorem Fq.below {w w' : World} {B p : Nat} {xs : List Int} {s : Nat} (h : Fq f w B p xs s) (hb : Below w.heap.size w w') : Fq f w' B p xs s := by
  obtain ⟨A, c, h1, h2⟩ := h
  exact ⟨A, c, blk_below h1 hb, h2.below hb⟩
theorem Fq.lt {w : World} {B p : Nat} {xs : List Int} {s : Nat} (h : Fq f w B p xs s) : p < w.heap.size := by
  obtain ⟨A, c, h1, h2⟩ := h
  exact blk_lt h1
theorem Fq.of_dq {w : World} {B p : Nat} {xs : List Int} {s : Nat} (h : Dq w B p xs s) : Fq (-1) w B p xs s := h
theorem Fq.block {w : World} {B p : Nat} {xs : List Int} {s : Nat} (h : Fq f w B p xs s) : ∃ cells, w.heap[p]? = some (.cells cells 36 (0, 0)) := by
  obtain ⟨A, c, hD, _⟩ := h
  exact ⟨_, hD⟩
def dn (f : Int) (n : Int) : Int := if f = 0 then 17 else 0
/-- What Append answers. -/
theorem Fq.append {w0 w : World} {p : Nat} {xs ys : List Int} {s : Nat} {D : Option Addr} {m k : Nat} (h : Fq f w w0.heap.size p xs s) (hp : w0.heap.size ≤ p) (hB : Below w0.heap.size w0 w) (hY : Kd.C (Kd.int .u8) w D m ys) (hx : xs.length + m ≤ 100000) :
    Calls Try.prog 9 #[.pointer (some ⟨p, 0, none⟩), .slice D m k] w fun e w' => e = .returned (.int .i64 (if f = 0 then 17 else 0)) ∧ Fq (fd f) w' w0.heap.size p (if f = 0 then xs else xs ++ ys) s ∧ Below w0.heap.size w0 w' ∧ Stays w w' p := by
  obtain ⟨A, c, hD, hR⟩ := h
  rcases Int.lt_trichotomy f 0 with hf | hf | hf
  · refine (append_neg w0 p A D xs.length c m k s xs ys w hD hR hp hB hY hx hf).mono ?_
    rintro e w' ⟨rfl, A', c', hd, hr, hb, hk⟩
    rw [if_neg (by omega), if_neg (by omega), fd, if_neg (by omega)]
    exact ⟨rfl, ⟨A', c', hd, hr⟩, hb, ⟨_, hk, hR.typed⟩⟩
  · refine (append_zero w0 p A D xs.length c m k s xs ys w hD hR hp hB hY hx hf).mono ?_
    rintro e w' ⟨rfl, hb⟩
    rw [if_pos hf, if_pos hf, fd, if_neg (by omega)]
    exact ⟨rfl, ⟨A, c, blk_below hD hb, hR.below hb⟩, below_then hB hB.size hb, stays_keep (KeepBut.of_below hb p none)⟩
  · refine (append_pos w0 p A D xs.length c m k s xs ys w hD hR hp hB hY hx hf).mono ?_
    rintro e w' ⟨rfl, A', c', hd, hr, hb, hk⟩
    rw [if_neg (by omega), if_neg (by omega), fd, if_pos (by omega)]
    exact ⟨rfl, ⟨A', c', hd, hr⟩, hb, ⟨_, hk, hR.typed⟩⟩
theorem Fq.sync {w0 w : World} {p : Nat} {xs : List Int} {s : Nat} (h : Fq f w w0.heap.size p xs s) (hp : w0.heap.size ≤ p) (hB : Below w0.heap.size w0 w) :
    Calls Try.prog 10 #[.pointer (some ⟨p, 0, none⟩)] w fun e w' => e = .returned (.int .i64 (if f = 0 then 17 else 0)) ∧ Fq (fd f) w' w0.heap.size p xs (if f = 0 then s else xs.length) ∧ Below w0.heap.size w0 w' ∧ KeepBut w w' p none := by
  obtain ⟨A, c, hD, hR⟩ := h
  rcases Int.lt_trichotomy f 0 with hf | hf | hf
  · refine (sync_neg w0 p A xs.length c s xs w hD hR hp hB hf).mono ?_
    rintro e w' ⟨rfl, hd, hr, hb, hk⟩
    rw [if_neg (by omega), if_neg (by omega), fd, if_neg (by omega)]
    exact ⟨rfl, ⟨A, c, hd, hr⟩, hb, hk⟩
  · refine (sync_zero w0 p A xs.length c s xs w hD hR hp hB hf).mono ?_
    rintro e w' ⟨rfl, hb⟩
    rw [if_pos hf, if_pos hf, fd, if_neg (by omega)]
    exact ⟨rfl, ⟨A, c, blk_below hD hb, hR.below hb⟩, below_then hB hB.size hb, KeepBut.of_below hb p none⟩
  · refine (sync_pos w0 p A xs.length c s xs w hD hR hp hB hf).mono ?_
    rintro e w' ⟨rfl, hd, hr, hb, hk⟩
    rw [if_neg (by omega), if_neg (by omega), fd, if_pos (by omega)]
    exact ⟨rfl, ⟨A, c, hd, hr⟩, hb, hk⟩
end Go.Proofs.Ytkckmikpmjecdaa.HF
namespace Go.Proofs.Ytkckmikpmjecdaa.HF
open Go.RowKit Go.Proofs.Ytkckmikpmjecdaa.H Go.Proofs.YtkckmikpmjecdaaW.PrintWords Go.Proofs.YtkckmikpmjecdaaW.PrintLast Go.Proofs.YtkckmikpmjecdaaW.PrintMore
set_option linter.unusedVariables false
set_option linter.unusedSimpArgs false
variable {f : Int}
theorem Stays.before {w w2 w3 : World} {p : Nat} (hb : Below w.heap.size w w2) (h : Stays w2 w3 p) : Stays w w3 p := by
  obtain ⟨row, hk, hr⟩ := h
  have hk2 := (KeepBut.of_below hb p row).trans hk (.inl rfl)
  cases row with
  | none => exact ⟨none, hk2, fun k hk => by cases hk⟩
  | some r =>
    by_cases hlt : r < w.heap.size
    · refine ⟨some r, hk2, fun k hk3 => ?_⟩
      injection hk3 with hk3
      subst hk3
      obtain ⟨cells, hc⟩ := hr r rfl
      exact ⟨cells, (hb.block r hlt).symm.trans hc⟩
    · exact ⟨none, ⟨hk2.1, fun i hi hne _ => hk2.2 i hi hne (fun e => hlt (by injection e with e; omega))⟩, fun k hk => by cases hk⟩
theorem Fq.synced {w : World} {B p : Nat} {xs : List Int} {s : Nat} (h : Fq f w B p xs s) : Calls Try.prog 11 #[.pointer (some ⟨p, 0, none⟩)] w fun e w' => e = .returned (.int .i64 s) ∧ w = w' := by
  obtain ⟨A, c, hD, _⟩ := h
  exact synced_calls p _ s w hD
theorem Fq.bytes {w : World} {B p : Nat} {xs : List Int} {s : Nat} (h : Fq f w B p xs s) (hx : xs.length ≤ 100000) :
    Calls Try.prog 14 #[.pointer (some ⟨p, 0, none⟩)] w fun e w' => ∃ A c, e = .returned (.slice A xs.length c) ∧ xs.length ≤ c ∧ Kd.C (Kd.int .u8) w' A xs.length xs ∧ Below w.heap.size w w' := by
  obtain ⟨A, c, hD, hR⟩ := h
  obtain ⟨_, _, e, hc, hC⟩ := hR.reads (by omega)
  injection e with eA _ ec
  subst eA ec
  refine (bytes_calls p A xs.length c s xs w hD hC hx).mono ?_
  rintro e w' ⟨v, rfl, hr, hb⟩
  obtain ⟨A', c', e', h1, h2⟩ := Kd.R_reads hr
  subst e'
  exact ⟨A', c', rfl, h1, h2, hb⟩
theorem Fq.crash {w0 w : World} {p : Nat} {xs : List Int} {s : Nat} (h : Fq f w w0.heap.size p xs s) (hB : Below w0.heap.size w0 w) (hs : s ≤ xs.length) (hx : xs.length ≤ 100000) (x : Int) (k : Nat) (hk : kk s ((xs.length : Int) - s + 1) x = k) :
    Calls Try.prog 13 #[.pointer (some ⟨p, 0, none⟩), .int .i64 x] w fun e w' => ∃ p2, e = .returned (.pointer (some ⟨p2, 0, none⟩)) ∧ w.heap.size ≤ p2 ∧ Dq w' w0.heap.size p2 (xs.take k) k ∧ Below w.heap.size w w' := by
  obtain ⟨A, c, hD, hR⟩ := h
  obtain ⟨_, _, e, hc, hC⟩ := hR.reads (by omega)
  injection e with eA _ ec
  subst eA ec
  have hkr := kk_range (s := (s : Int)) (N := (xs.length : Int) - s + 1) (x := x) (by omega) (by omega) (by omega) (by omega)
  refine (crash_calls p A xs.length c s k x xs w hD hC hc hs hx hk).mono ?_
  rintro e w' ⟨p2, A', c', rfl, hp2, hd, hr, hb⟩
  have hkl : (xs.take k).length = k := by rw [List.length_take]; omega
  exact ⟨p2, rfl, hp2, ⟨A', c', by rw [hkl]; exact hd, by rw [hkl]; exact .inl (Kd.R_lower hr hB.size)⟩, hb⟩
theorem Fq.fuse {w0 w : World} {p : Nat} {xs : List Int} {s : Nat} (h : Fq f w w0.heap.size p xs s) (hp : w0.heap.size ≤ p) (hB : Below w0.heap.size w0 w) (x : Int) :
    Calls Try.prog 26 #[.pointer (some ⟨p, 0, none⟩), .int .i64 x] w fun e w' => e = .returned (.tuple #[]) ∧ Fq (max x (-1)) w' w0.heap.size p xs s ∧ Below w0.heap.size w0 w' ∧ Stays w w' p := by
  obtain ⟨A, c, hD, hR⟩ := h
  have H := Lib.hid hD
  have h3 := hD.c3
  have h3f := blk_frozen hD 3
  go_enter Try.func26, Try.ntmps26
  go_wp2_with (go_at_call 33; refine (is_calls _ _ _ _ H.out).mono ?_; rintro e w1 ⟨rfl, rfl⟩)
  all_goals first
    | (have e : max x (-1) = -1 := by omega
       rw [e]
       exact bodyPost_end (v := .tuple #[]) (by simp [results, Try.results26, go_sem]) rfl ⟨rfl, ⟨A, c, blk_put hD 3 _ rfl, hR.set hD (by decide) _ _⟩, below_set hB hp, stays_keep (KeepBut.set_ (KeepBut.refl w p none) 3 _)⟩)
    | (have e : max x (-1) = x := by omega
       rw [e]
       exact bodyPost_end (v := .tuple #[]) (by simp [results, Try.results26, go_sem]) rfl ⟨rfl, ⟨A, c, blk_put hD 3 _ rfl, hR.set hD (by decide) _ _⟩, below_set hB hp, stays_keep (KeepBut.set_ (KeepBut.refl w p none) 3 _)⟩)
set_option maxHeartbeats 1000000 in
theorem Fq.write {w0 w : World} {p q : Nat} {xs ys : List Int} {s : Nat} {D : Option Addr} {k : Nat} (h : Fq f w w0.heap.size p xs s) (hL : Lg w q p) (hp : w0.heap.size ≤ p) (hB : Below w0.heap.size w0 w)
    (hY : Kd.C (Kd.int .u8) w D ys.length ys) (hk : ys.length ≤ k) (hb : okb ys = true) (hy : ys.length ≤ 300) (hx : xs.length ≤ 90000) :
    Calls Try.prog 16 #[.pointer (some ⟨q, 0, none⟩), .slice D ys.length k] w fun e w' => e = .returned (.int .i64 (if f = 0 then 17 else 0)) ∧ Fq (fd f) w' w0.heap.size p (if f = 0 then xs else xs ++ sealed ys) s ∧ Lg w' q p ∧ Below w0.heap.size w0 w' ∧ Stays w w' p := by
  have hqp : q ≠ p := by
    obtain ⟨A, c, hD, _⟩ := h
    exact blk_ne hL hD (by decide)
  have hl0 := (blk_cell hL 0).trans (show (#[.pointer (some ⟨p, 0, none⟩)] : Array Value)[0]? = some (.pointer (some ⟨p, 0, none⟩)) from rfl)
  have HF := Lib.hid h
  have HL := Lib.hid hL
  have HB := Lib.hid hB
  have HP := Lib.hid hp
  have HY := Lib.hid hY
  have HO := Lib.hid hb
  have HX := Lib.hid hx
  have HK := Lib.hid hk
  have HQ := Lib.hid hqp
  have HYL := Lib.hid hy
  have hsl : (sealed ys).length = ys.length + 8 := by unfold sealed; simp [hdr, tail4] <;> omega
  have HSL := Lib.hid hsl
  generalize hz : (if f = 0 then (17 : Int) else 0) = z
  generalize hzs : (if f = 0 then xs else xs ++ sealed ys) = zs
  have HZ := Lib.hid hz
  have HZS := Lib.hid hzs
  clear h hL hB hp hY hb hx hk hqp hy hsl hz hzs
  go_enter Try.func16, Try.ntmps16
  go_wp2_with (first
    | (go_at_call 34; obtain ⟨A, c, hD, _⟩ := HF.out; refine (cut_bad_calls p _ s (-1) _ hD (by decide)).mono ?_; rintro e w1 ⟨rfl, hb⟩; clear hD; have HF1 := Lib.hid (HF.out.below hb); have HY1 := Lib.hid (Kd.C_below HY.out hb); have HB1 := Lib.hid hb; clear hb)
    | (go_at_call 35; refine (seal_calls D k ys _ HY1.out HK.out HO.out (by have := HYL.out; omega)).mono ?_; rintro e w2 ⟨v2, rfl, hr, hb⟩; obtain ⟨A2, c2, e2, hl2, hC2⟩ := Kd.R_reads hr; subst e2; have HC2 := Lib.hid hC2; have HF2 := Lib.hid (HF1.out.below hb); have HB2 := Lib.hid (below_then HB1.out HB1.out.size hb); have l2 := (blk_cell (blk_below HL.out HB2.out) 0).trans (show (#[.pointer (some ⟨p, 0, none⟩)] : Array Value)[0]? = some (.pointer (some ⟨p, 0, none⟩)) from rfl); clear hr hb hl2 hC2)
    | (go_at_call 9; refine (HF2.out.append (D := A2) (m := (sealed ys).length) (k := c2) HP.out (below_then HB.out HB.out.size HB2.out) HC2.out (by have := HSL.out; have := HX.out; have := HYL.out; omega)).mono ?_; rintro e w3 ⟨rfl, hf, hb, hst⟩; rw [HZ.out]; rw [HZS.out] at hf; have HF3 := Lib.hid hf; have HB3 := Lib.hid hb; have HST := Lib.hid (Stays.before HB2.out hst); clear hf hb hst))
  go_ret
  exact ⟨rfl, HF3.out, HST.out.blk HL.out HQ.out (by decide), HB3.out, HST.out⟩
def fe (f : Int) : Int := if f = 0 then 17 else if fd f = 0 then 17 else 0
/-- Force: Write, and where that did something Sync. -/
theorem Fq.force {w0 w : World} {p q : Nat} {xs ys : List Int} {s : Nat} {D : Option Addr} {k : Nat} (h : Fq f w w0.heap.size p xs s) (hL : Lg w q p) (hp : w0.heap.size ≤ p) (hB : Below w0.heap.size w0 w)
    (hY : Kd.C (Kd.int .u8) w D ys.length ys) (hk : ys.length ≤ k) (hb : okb ys = true) (hy : ys.length ≤ 300) (hx : xs.length ≤ 90000) :
    Calls Try.prog 17 #[.pointer (some ⟨q, 0, none⟩), .slice D ys.length k] w fun e w' => e = .returned (.int .i64 (if f = 0 then 17 else if fd f = 0 then 17 else 0)) ∧
      Fq (if f = 0 then f else fd (fd f)) w' w0.heap.size p (if f = 0 then xs else xs ++ sealed ys) (if f = 0 then s else if fd f = 0 then s else (xs ++ sealed ys).length) ∧ Lg w' q p ∧ Below w0.heap.size w0 w' ∧ Stays w w' p := by
  have hqp : q ≠ p := by
    obtain ⟨A, c, hD, _⟩ := h
    exact blk_ne hL hD (by decide)
  have HF := Lib.hid h
  have HL := Lib.hid hL
  have HB := Lib.hid hB
  have HP := Lib.hid hp
  have HY := Lib.hid hY
  have HO := Lib.hid hb
  have HX := Lib.hid hx
  have HK := Lib.hid hk
  have HQ := Lib.hid hqp
  have HYL := Lib.hid hy
  clear h hL hB hp hY hb hx hk hqp hy
  by_cases hf0 : f = 0
  · have HF0 := Lib.hid hf0
    rw [if_pos hf0, if_pos hf0, if_pos hf0, if_pos hf0]
    clear hf0
    go_enter Try.func17, Try.ntmps17
    go_wp2_with (go_at_call 16; refine (HF.out.write HL.out HP.out HB.out HY.out HK.out HO.out HYL.out HX.out).mono ?_; rintro e w3 ⟨rfl, hf, hlg, hb, hst⟩; rw [if_pos HF0.out]; rw [if_pos HF0.out, fd, if_neg (by have := HF0.out; omega)] at hf; have HF3 := Lib.hid hf; have HL3 := Lib.hid hlg; have HB3 := Lib.hid hb; have HST := Lib.hid hst; clear hf hlg hb hst)
    go_ret
    exact ⟨rfl, HF3.out, HL3.out, HB3.out, HST.out⟩
  · have HF0 := Lib.hid hf0
    rw [if_neg hf0, if_neg hf0, if_neg hf0, if_neg hf0]
    clear hf0
    generalize hz : (if fd f = 0 then (17 : Int) else 0) = z
    generalize hzs : (if fd f = 0 then s else (xs ++ sealed ys).length) = zs
    have HZ := Lib.hid hz
    have HZS := Lib.hid hzs
    clear hz hzs
    go_enter Try.func17, Try.ntmps17
    go_wp2_with (first
      | (go_at_call 16; refine (HF.out.write HL.out HP.out HB.out HY.out HK.out HO.out HYL.out HX.out).mono ?_; rintro e w3 ⟨rfl, hf, hlg, hb, hst⟩; rw [if_neg HF0.out]; rw [if_neg HF0.out] at hf; have HF3 := Lib.hid hf; have HL3 := Lib.hid hlg; have HB3 := Lib.hid hb; have HST := Lib.hid hst; have lq3 := (blk_cell hlg 0).trans (show (#[.pointer (some ⟨p, 0, none⟩)] : Array Value)[0]? = some (.pointer (some ⟨p, 0, none⟩)) from rfl); clear hf hlg hb hst)
      | (go_at_call 10; refine (HF3.out.sync HP.out HB3.out).mono ?_; rintro e w4 ⟨rfl, hf, hb, hkb⟩; rw [HZ.out]; rw [HZS.out] at hf; have HF4 := Lib.hid hf; have HB4 := Lib.hid hb; have HL4 := Lib.hid ((stays_keep hkb).blk HL3.out HQ.out (by decide)); have HST4 := Lib.hid (HST.out.then hkb); clear hf hb hkb))
    go_ret
    exact ⟨rfl, HF4.out, HL4.out, HB4.out, HST4.out⟩
end Go.Proofs.Ytkckmikpmjecdaa.HF
namespace Go.Proofs.Ytkckmikpmjecdaa.H
open Go.RowKit Go.Proofs.YtkckmikpmjecdaaW.PrintWords Go.Proofs.YtkckmikpmjecdaaW.PrintLast Go.Proofs.YtkckmikpmjecdaaW.PrintMore
set_option linter.unusedVariables false
set_option linter.unusedSimpArgs false
theorem take_of_take {a b : List Int} {n m : Nat} (h : a.take n = b.take n) (hm : m ≤ n) : a.take m = b.take m := by
  have := congrArg (List.take m) h
  rwa [List.take_take, List.take_take, Nat.min_eq_left hm] at this
theorem opened_pre {z z' : List Int} {n : Nat} (hb : okb z = true) (h : (opened z).2.2 = 0) (hn : (opened z).2.1 = 8 + (n : Int)) (hl : n + 8 ≤ z'.length) (ht : z'.take (n + 8) = z.take (n + 8)) : opened z' = opened z := by
  have e4 := take_of_take ht (show 4 ≤ n + 8 by omega)
  unfold opened at *
  split at h
  · simp at h
  split at h
  · simp at h
  split at h
  · simp at h
  split at h
  · simp at h
  rename_i h1 h2 h3 h4
  rw [if_neg h1, if_neg h2, if_neg h3, if_neg h4] at hn
  have hN : big (z.take 4) = n := by
    have : 8 + big (z.take 4) = 8 + (n : Int) := hn
    omega
  rw [if_neg h1, if_neg h2, if_neg h3, if_neg h4]
  rw [hN] at h2 h3 h4
  rw [Int.toNat_natCast] at h4
  rw [e4, hN, Int.toNat_natCast, take_of_take ht (show 8 + n ≤ n + 8 by omega), take_of_take ht (show 4 + n ≤ n + 8 by omega)]
  rw [if_neg (by omega), if_neg h2, if_neg (by omega), if_neg h4]
theorem scanl_pre {l l' : List Int} (hb : okb l = true) : ∀ (k : Nat) (acc : List (List Int)) (u : Nat) (rows : List (List Int)) (u1 : Nat) (e : Int), u ≤ l.length → acc.length ≤ u → l.length - u < k → scanl k l acc u = (rows, u1, e) →
    u ≤ u1 ∧ u1 ≤ l.length ∧ rows.length ≤ u1 ∧ (e = 0 → u1 = l.length) ∧ (u1 ≤ l'.length → l'.take u1 = l.take u1 → ∃ j, j ≤ u1 - u ∧ ∀ k', scanl (k' + j) l' acc u = scanl k' l' rows u1)
  | 0, acc, u, rows, u1, e, hu, ha, hk, h => by omega
  | k + 1, acc, u, rows, u1, e, hu, ha, hk, h => by
    unfold scanl at h
    by_cases hlt : u < l.length
    · rw [if_pos hlt] at h
      by_cases ho : (opened (l.drop u)).2.2 = 0
      · rw [if_pos ho] at h
        obtain ⟨n, hn, hnl, _, _⟩ := opened_ok (okb_drop hb u) ho
        rw [List.length_drop] at hnl
        have hu' : (opened (l.drop u)).2.1.toNat = 8 + n := by rw [hn]; omega
        rw [hu'] at h
        obtain ⟨r1, r2, r3, r4, r5⟩ := scanl_pre hb k _ _ rows u1 e (by omega) (by rw [List.length_append, List.length_singleton]; omega) (by omega) h
        refine ⟨by omega, r2, r3, r4, fun hl ht => ?_⟩
        obtain ⟨j, hj, hs⟩ := r5 hl ht
        refine ⟨j + 1, by omega, fun k' => ?_⟩
        have hd : (l'.drop u).take (n + 8) = (l.drop u).take (n + 8) := by
          rw [List.take_drop, List.take_drop, take_of_take ht (show u + (n + 8) ≤ u1 by omega)]
        have eo := opened_pre (okb_drop hb u) ho hn (by rw [List.length_drop]; omega) hd
        rw [← Nat.add_assoc]
        conv => lhs; unfold scanl
        rw [if_pos (by omega), eo, if_pos ho, hu']
        exact hs k'
      · rw [if_neg ho] at h
        simp only [Prod.mk.injEq] at h
        obtain ⟨rfl, rfl, rfl⟩ := h
        exact ⟨Nat.le_refl _, hu, ha, fun e0 => absurd e0 ho, fun _ _ => ⟨0, Nat.zero_le _, fun k' => rfl⟩⟩
    · rw [if_neg hlt] at h
      simp only [Prod.mk.injEq] at h
      obtain ⟨rfl, rfl, rfl⟩ := h
      exact ⟨Nat.le_refl _, hu, ha, fun _ => by omega, fun _ _ => ⟨0, Nat.zero_le _, fun k' => rfl⟩⟩
theorem scan_bound {l : List Int} (hb : okb l = true) {rows : List (List Int)} {u : Nat} {e : Int} (h : scan l = (rows, u, e)) : u ≤ l.length ∧ rows.length ≤ u ∧ (e = 0 → u = l.length) := by
  obtain ⟨_, h1, h2, h3, _⟩ := scanl_pre (l' := l) hb (l.length + 1) [] 0 rows u e (Nat.zero_le _) (Nat.zero_le _) (by omega) h
  exact ⟨h1, h2, h3⟩
theorem scan_take {l : List Int} (hb : okb l = true) {rows : List (List Int)} {u : Nat} {e : Int} (h : scan l = (rows, u, e)) : scan (l.take u) = (rows, u, 0) := by
  obtain ⟨_, h1, h2, h3, h4⟩ := scanl_pre (l' := l.take u) hb (l.length + 1) [] 0 rows u e (Nat.zero_le _) (Nat.zero_le _) (by omega) h
  have hl : (l.take u).length = u := by rw [List.length_take]; omega
  obtain ⟨j, hj, hs⟩ := h4 (by omega) (by rw [List.take_take, Nat.min_self])
  unfold scan
  rw [hl, show u + 1 = (u - j) + 1 + j by omega, hs]
  unfold scanl
  rw [if_neg (by omega)]
theorem scan_add {l ys : List Int} (hb : okb l = true) {rows : List (List Int)} (h : scan l = (rows, l.length, 0)) (hy : okb ys = true) (hl : ys.length ≤ 65536) : scan (l ++ sealed ys) = (rows ++ [ys], (l ++ sealed ys).length, 0) := by
  obtain ⟨_, h1, h2, h3, h4⟩ := scanl_pre (l' := l ++ sealed ys) hb (l.length + 1) [] 0 rows l.length 0 (Nat.zero_le _) (Nat.zero_le _) (by omega) h
  have hsl := sealed_length ys
  have hlen : (l ++ sealed ys).length = l.length + (ys.length + 8) := by rw [List.length_append, hsl]
  obtain ⟨j, hj, hs⟩ := h4 (by omega) (by rw [List.take_left, List.take_length])
  unfold scan
  rw [show (l ++ sealed ys).length + 1 = (l.length - j + ys.length + 7) + 1 + 1 + j by omega, hs]
  unfold scanl
  have ho : opened ((l ++ sealed ys).drop l.length) = (ys, 8 + (ys.length : Int), 0) := by
    rw [List.drop_left]
    have := opened_sealed hy hl []
    rwa [List.append_nil] at this
  rw [if_pos (by omega), ho, if_pos rfl]
  unfold scanl
  have e : l.length + (8 + (ys.length : Int)).toNat = (l ++ sealed ys).length := by omega
  simp only [e]
  rw [if_neg (by omega)]
end Go.Proofs.Ytkckmikpmjecdaa.H
namespace Go.Proofs.Ytkckmikpmjecdaa.HF
open Go.RowKit Go.Proofs.Ytkckmikpmjecdaa.H Go.Proofs.YtkckmikpmjecdaaW.PrintWords Go.Proofs.YtkckmikpmjecdaaW.PrintLast Go.Proofs.YtkckmikpmjecdaaW.PrintMore Go.Proofs.Ytkckmikpmjecdaa.PRefDisk
set_option linter.unusedVariables false
set_option linter.unusedSimpArgs false
theorem nums_str : ∀ {l : List Int}, okb l = true → bytesOf (strOfNums l) = l := by
  intro l h
  rw [bytesOf, strOfNums_data, List.map_map]
  conv => rhs; rw [← List.map_id l]
  refine List.map_congr_left fun x hx => ?_
  have := List.all_eq_true.1 h x hx
  simp only [Bool.and_eq_true, decide_eq_true_eq] at this
  show ((UInt8.ofNat x.toNat).toNat : Int) = x
  rw [UInt8.toNat_ofNat']
  omega
theorem str_append (a b : List Int) : strOfNums a ++ strOfNums b = strOfNums (a ++ b) := by
  apply ByteArray.ext
  simp [strOfNums]
theorem str_take (a : List Int) (n : Nat) : (strOfNums a).extract 0 n = strOfNums (a.take n) := by
  apply ByteArray.ext
  simp [strOfNums, List.map_take]
/-- The reference's fuse is the disk's. -/
def Fz (f L : Int) (F : Bool) : Prop := (F = false ∧ f < 0) ∨ (F = true ∧ L = f ∧ 0 ≤ f)
def ld (L : Int) (F : Bool) : Int := if F = true then (if L = 0 then L else wrap64 (L - 1)) else L
theorem Fz.step {f L : Int} {F : Bool} (h : Fz f L F) (hr : f ≤ 9223372036854775807) : Fz (fd f) (ld L F) F := by
  rcases h with ⟨rfl, h⟩ | ⟨rfl, rfl, h⟩
  · left
    rw [fd, if_neg (by omega)]
    exact ⟨rfl, h⟩
  · right
    by_cases h0 : L = 0
    · rw [fd, if_neg (by omega), ld, if_pos rfl, if_pos h0]
      exact ⟨rfl, rfl, h⟩
    · have e : wrap64 (L - 1) = L - 1 := by unfold wrap64; omega
      rw [fd, if_pos (by omega), ld, if_pos rfl, if_neg h0, e]
      exact ⟨rfl, rfl, by omega⟩
theorem used_f {f L : Int} {F : Bool} (h : Fz f L F) (b : ByteArray) (s : Int) : peerageref22_Disk_used.f b s L F = some (b, s, ld L F, F, if f = 0 then false else true) := by
  unfold peerageref22_Disk_used.f ld
  rcases h with ⟨rfl, h⟩ | ⟨rfl, rfl, h⟩
  · rw [if_neg (by simp), if_neg (by simp), if_neg (by omega)]
  · rw [if_pos rfl, if_pos rfl]
    by_cases h0 : L = 0
    · rw [if_pos h0, if_pos h0, if_pos h0]
    · rw [if_neg h0, if_neg h0, if_neg h0]
theorem append_f {f L : Int} {F : Bool} (h : Fz f L F) (xs ys : List Int) (s : Int) (hx : xs.length + ys.length ≤ 100000) :
    peerageref22_Disk_Append.f (strOfNums xs) s L F (strOfNums ys) = some (strOfNums (if f = 0 then xs else xs ++ ys), s, ld L F, F, if f = 0 then 17 else 0) := by
  unfold peerageref22_Disk_Append.f
  have e : wrap64 (4194304 - ((strOfNums xs).size : Int)) = 4194304 - (xs.length : Int) := by rw [strOfNums_size]; unfold wrap64; omega
  rw [e, strOfNums_size, if_neg (by omega), used_f h]
  simp only [Option.bind_some]
  by_cases h0 : f = 0
  · rw [if_pos h0, if_pos h0, if_pos h0]; rfl
  · rw [if_neg h0, if_neg h0, if_neg h0, if_pos rfl, if_pos (by rw [strOfNums_size]; omega), str_append]
theorem write_f {f L : Int} {F : Bool} (h : Fz f L F) (xs ys : List Int) (s : Int) (hy : okb ys = true) (hl : ys.length ≤ 300) (hx : xs.length ≤ 90000) :
    peerageref23_Write.f (10 * (hdr ys.length ++ ys).length + 1) (strOfNums xs) s L F ys = some (strOfNums (if f = 0 then xs else xs ++ sealed ys), s, ld L F, F, if f = 0 then 17 else 0) := by
  unfold peerageref23_Write.f
  have hsl := sealed_length ys
  rw [HR.ref_seal_f hy (by omega)]
  simp only [Option.bind_some]
  rw [if_pos trivial, append_f h xs (sealed ys) s (by omega)]
  rfl
end Go.Proofs.Ytkckmikpmjecdaa.HF
namespace Go.Proofs.Ytkckmikpmjecdaa.HF
open Go.RowKit Go.Proofs.Ytkckmikpmjecdaa.H Go.Proofs.YtkckmikpmjecdaaW.PrintWords Go.Proofs.YtkckmikpmjecdaaW.PrintLast Go.Proofs.YtkckmikpmjecdaaW.PrintMore Go.Proofs.Ytkckmikpmjecdaa.PRefDisk
set_option linter.unusedVariables false
set_option linter.unusedSimpArgs false
theorem conv_str (W : World) {xs : List Int} (hb : okb xs = true) (hx : xs.length ≤ 100000) : ∃ (W' : World) (c : Nat), (convert 9 22 (.string (strOfNums xs))).run Try.prog W = .ok (.slice (some ⟨W.heap.size, 0, none⟩) xs.length c) W' ∧ xs.length ≤ c ∧ Kd.C (Kd.int .u8) W' (some ⟨W.heap.size, 0, none⟩) xs.length xs ∧ Below W.heap.size W W' := by
  have h1 := print_bytes (P := Try.prog) 9 22 5 Try.underlying9 Try.underlying22 Try.underlying5 (strOfNums xs) W
  have hs : (strOfNums xs).size = xs.length := strOfNums_size xs
  have h2 := bytes_reads W 5 (strOfNums xs) (by omega)
  rw [nums_str hb, hs] at h2
  rw [hs] at h1
  exact ⟨_, _, h1, grownCap_ge _ _ _ _, Kd.C_of_reads (d := (0 : Int)) (h1 := fun _ => rfl) h2, bytes_below (Below.refl _ _) (Nat.le_refl _) 5 _⟩
/-- Four cells of one block are written. -/
def put4 (w : World) (b : Nat) (S : ByteArray) (s L : Int) (F : Bool) : World := (((w.setCell ⟨b, 0, none⟩ (.string S)).setCell ⟨b, 1, none⟩ (.int .i64 s)).setCell ⟨b, 2, none⟩ (.int .i64 L)).setCell ⟨b, 3, none⟩ (.bool F)
theorem put4_blk {w : World} {b : Nat} {S S0 : ByteArray} {s L s0 L0 : Int} {F F0 : Bool} (h : w.heap[b]? = some (.cells #[.string S0, .int .i64 s0, .int .i64 L0, .bool F0] 50 (0, 0))) : (put4 w b S s L F).heap[b]? = some (.cells #[.string S, .int .i64 s, .int .i64 L, .bool F] 50 (0, 0)) :=
  blk_put (cs := #[.string S, .int .i64 s, .int .i64 L, .bool F0]) (blk_put (cs := #[.string S, .int .i64 s, .int .i64 L0, .bool F0]) (blk_put (cs := #[.string S, .int .i64 s0, .int .i64 L0, .bool F0]) (blk_put (cs := #[.string S0, .int .i64 s0, .int .i64 L0, .bool F0]) h 0 _ rfl) 1 _ rfl) 2 _ rfl) 3 _ rfl
theorem put4_other {w : World} {b g : Nat} {S : ByteArray} {s L : Int} {F : Bool} (hne : g ≠ b) : (put4 w b S s L F).heap[g]? = w.heap[g]? :=
  (Below.heap_setCell _ _ _ g hne).trans ((Below.heap_setCell _ _ _ g hne).trans ((Below.heap_setCell _ _ _ g hne).trans (Below.heap_setCell _ _ _ g hne)))
theorem put4_below {w0 w : World} {b : Nat} {S : ByteArray} {s L : Int} {F : Bool} (h : Below w0.heap.size w0 w) (hb : w0.heap.size ≤ b) : Below w0.heap.size w0 (put4 w b S s L F) := below_set (below_set (below_set (below_set h hb) hb) hb) hb
theorem put4_keep {w w1 : World} {b : Nat} {S : ByteArray} {s L : Int} {F : Bool} (h : KeepBut w w1 b none) : KeepBut w (put4 w1 b S s L F) b none := KeepBut.set_ (KeepBut.set_ (KeepBut.set_ (KeepBut.set_ h 0 _) 1 _) 2 _) 3 _
theorem ref_sync0 (S : ByteArray) (s L L2 : Int) (F : Bool) (w : World) (hu : peerageref22_Disk_used.f S s L F = some (S, s, L2, F, false)) :
    Calls Try.prog 22 #[.agg #[.string S, .int .i64 s, .int .i64 L, .bool F]] w fun e w' => e = .returned (.tuple #[.agg #[.string S, .int .i64 s, .int .i64 L2, .bool F], .int .i64 17]) ∧ Below w.heap.size w w' := by
  have HU := Lib.hid hu
  clear hu
  go_enter Try.func22, Try.ntmps22
  go_upto_region 2 with (first | ((with_reducible refine gate_dst (N := 1) rfl ?_); refine box_event ?hg (N := 1) ?hd (cs := #[.string S, .int .i64 s, .int .i64 L, .bool F]) (t := 50) ?hr ?_; (case hd => rfl); (case hg => rfl); (case hr => first | (go_simp; done) | (go_simp; rfl)); intro b1 hgb1 w1 hkb1 hbb1; have HB1 := Lib.hid hbb1; have BK1 := Lib.hid hkb1; have G1 := Lib.hid (show w.heap.size ≤ b1 by omega); clear hbb1 hkb1 hgb1) | ((with_reducible refine gate_dst (N := 2) rfl ?_); refine box_event ?hg (N := 2) ?hd (cs := #[.string (⟨#[]⟩ : ByteArray), .int .i64 0, .int .i64 0, .bool false]) (t := 50) ?hr ?_; (case hd => rfl); (case hg => rfl); (case hr => first | (go_simp; done) | (go_simp; rfl)); intro b2 hgb2 w2 hkb2 hbb2; have HB2 := Lib.hid (below_then HB1.out HB1.out.size hbb2); have BK1b := Lib.hid (blk_below BK1.out hbb2); have BK2 := Lib.hid hkb2; have NE := Lib.hid (show b1 ≠ b2 by have := blk_lt BK1.out; omega); have G2 := Lib.hid (show w.heap.size ≤ b2 by have := HB1.out.size; omega); clear hbb2 hkb2 hgb2; have xc0 : w2.cell? ⟨b1, 0, none⟩ = some (.string S) := (blk_cell BK1b.out 0).trans rfl; have xc1 : w2.cell? ⟨b1, 1, none⟩ = some (.int .i64 s) := (blk_cell BK1b.out 1).trans rfl; have xc2 : w2.cell? ⟨b1, 2, none⟩ = some (.int .i64 L) := (blk_cell BK1b.out 2).trans rfl; have xc3 : w2.cell? ⟨b1, 3, none⟩ = some (.bool F) := (blk_cell BK1b.out 3).trans rfl; have xf0 := blk_frozen BK1b.out 0; have xf1 := blk_frozen BK1b.out 1; have xf2 := blk_frozen BK1b.out 2; have xf3 := blk_frozen BK1b.out 3) | (go_at_call 38; refine (peerageref22_Disk_used.calls _ _ _ _ _ _ _ _ _ _ HU.out).mono ?_; rintro e w3 ⟨rfl, hb⟩; have HB3 := Lib.hid (below_then HB2.out HB2.out.size hb); have BK3 := Lib.hid (blk_below BK1b.out hb); have BK4 := Lib.hid (blk_below BK2.out hb); clear hb; have yc0 : w3.cell? ⟨b1, 0, none⟩ = some (.string S) := (blk_cell BK3.out 0).trans rfl; have yc1 : w3.cell? ⟨b1, 1, none⟩ = some (.int .i64 s) := (blk_cell BK3.out 1).trans rfl; have yc2 : w3.cell? ⟨b1, 2, none⟩ = some (.int .i64 L) := (blk_cell BK3.out 2).trans rfl; have yc3 : w3.cell? ⟨b1, 3, none⟩ = some (.bool F) := (blk_cell BK3.out 3).trans rfl; have yf0 := blk_frozen BK3.out 0; have yf1 := blk_frozen BK3.out 1; have yf2 := blk_frozen BK3.out 2; have yf3 := blk_frozen BK3.out 3))
  have HB5 := Lib.hid (put4_below (S := S) (s := s) (L := L2) (F := F) HB3.out G1.out)
  have BK5 := Lib.hid (put4_blk (S := S) (s := s) (L := L2) (F := F) BK3.out)
  have BK6 := Lib.hid (show (put4 w3 b1 S s L2 F).heap[b2]? = _ from (put4_other (fun e => NE.out e.symm)).trans BK4.out)
  unfold put4 at HB5 BK5 BK6
  generalize (((w3.setCell ⟨b1, 0, none⟩ (.string S)).setCell ⟨b1, 1, none⟩ (.int .i64 s)).setCell ⟨b1, 2, none⟩ (.int .i64 L2)).setCell ⟨b1, 3, none⟩ (.bool F) = w5 at HB5 BK5 BK6 ⊢
  clear yc0 yc1 yc2 yc3 yf0 yf1 yf2 yf3 xc0 xc1 xc2 xc3 xf0 xf1 xf2 xf3
  have zc0 : w5.cell? ⟨b1, 0, none⟩ = some (.string S) := (blk_cell BK5.out 0).trans rfl
  have zc1 : w5.cell? ⟨b1, 1, none⟩ = some (.int .i64 s) := (blk_cell BK5.out 1).trans rfl
  have zc2 : w5.cell? ⟨b1, 2, none⟩ = some (.int .i64 L2) := (blk_cell BK5.out 2).trans rfl
  have zc3 : w5.cell? ⟨b1, 3, none⟩ = some (.bool F) := (blk_cell BK5.out 3).trans rfl
  have zf0 := blk_frozen BK5.out 0
  have zf1 := blk_frozen BK5.out 1
  have zf2 := blk_frozen BK5.out 2
  have zf3 := blk_frozen BK5.out 3
  have uc0 : w5.cell? ⟨b2, 0, none⟩ = some (.string (⟨#[]⟩ : ByteArray)) := (blk_cell BK6.out 0).trans rfl
  have uc1 : w5.cell? ⟨b2, 1, none⟩ = some (.int .i64 0) := (blk_cell BK6.out 1).trans rfl
  have uc2 : w5.cell? ⟨b2, 2, none⟩ = some (.int .i64 0) := (blk_cell BK6.out 2).trans rfl
  have uc3 : w5.cell? ⟨b2, 3, none⟩ = some (.bool false) := (blk_cell BK6.out 3).trans rfl
  have uf0 := blk_frozen BK6.out 0
  have uf1 := blk_frozen BK6.out 1
  have uf2 := blk_frozen BK6.out 2
  have uf3 := blk_frozen BK6.out 3
  go_wp2
  have HB7 := Lib.hid (put4_below (S := S) (s := s) (L := L2) (F := F) HB5.out G2.out)
  have BK7 := Lib.hid (put4_blk (S := S) (s := s) (L := L2) (F := F) BK6.out)
  exact bodyPost_ret (results_ct rfl _ _ b2 50 #[.string S, .int .i64 s, .int .i64 L2, .bool F] (0, 0) _ rfl BK7.out Try.underlying50 rfl (by kernel_rfl)) rfl ⟨rfl, HB7.out⟩
theorem ref_sync1 (S : ByteArray) (s L L2 : Int) (F : Bool) (w : World) (hu : peerageref22_Disk_used.f S s L F = some (S, s, L2, F, true)) :
    Calls Try.prog 22 #[.agg #[.string S, .int .i64 s, .int .i64 L, .bool F]] w fun e w' => e = .returned (.tuple #[.agg #[.string S, .int .i64 (S.size : Int), .int .i64 L2, .bool F], .int .i64 0]) ∧ Below w.heap.size w w' := by
  have HU := Lib.hid hu
  clear hu
  go_enter Try.func22, Try.ntmps22
  go_upto_region 2 with (first | ((with_reducible refine gate_dst (N := 1) rfl ?_); refine box_event ?hg (N := 1) ?hd (cs := #[.string S, .int .i64 s, .int .i64 L, .bool F]) (t := 50) ?hr ?_; (case hd => rfl); (case hg => rfl); (case hr => first | (go_simp; done) | (go_simp; rfl)); intro b1 hgb1 w1 hkb1 hbb1; have HB1 := Lib.hid hbb1; have BK1 := Lib.hid hkb1; have G1 := Lib.hid (show w.heap.size ≤ b1 by omega); clear hbb1 hkb1 hgb1) | ((with_reducible refine gate_dst (N := 2) rfl ?_); refine box_event ?hg (N := 2) ?hd (cs := #[.string (⟨#[]⟩ : ByteArray), .int .i64 0, .int .i64 0, .bool false]) (t := 50) ?hr ?_; (case hd => rfl); (case hg => rfl); (case hr => first | (go_simp; done) | (go_simp; rfl)); intro b2 hgb2 w2 hkb2 hbb2; have HB2 := Lib.hid (below_then HB1.out HB1.out.size hbb2); have BK1b := Lib.hid (blk_below BK1.out hbb2); have BK2 := Lib.hid hkb2; have NE := Lib.hid (show b1 ≠ b2 by have := blk_lt BK1.out; omega); have G2 := Lib.hid (show w.heap.size ≤ b2 by have := HB1.out.size; omega); clear hbb2 hkb2 hgb2; have xc0 : w2.cell? ⟨b1, 0, none⟩ = some (.string S) := (blk_cell BK1b.out 0).trans rfl; have xc1 : w2.cell? ⟨b1, 1, none⟩ = some (.int .i64 s) := (blk_cell BK1b.out 1).trans rfl; have xc2 : w2.cell? ⟨b1, 2, none⟩ = some (.int .i64 L) := (blk_cell BK1b.out 2).trans rfl; have xc3 : w2.cell? ⟨b1, 3, none⟩ = some (.bool F) := (blk_cell BK1b.out 3).trans rfl; have xf0 := blk_frozen BK1b.out 0; have xf1 := blk_frozen BK1b.out 1; have xf2 := blk_frozen BK1b.out 2; have xf3 := blk_frozen BK1b.out 3) | (go_at_call 38; refine (peerageref22_Disk_used.calls _ _ _ _ _ _ _ _ _ _ HU.out).mono ?_; rintro e w3 ⟨rfl, hb⟩; have HB3 := Lib.hid (below_then HB2.out HB2.out.size hb); have BK3 := Lib.hid (blk_below BK1b.out hb); have BK4 := Lib.hid (blk_below BK2.out hb); clear hb; have yc0 : w3.cell? ⟨b1, 0, none⟩ = some (.string S) := (blk_cell BK3.out 0).trans rfl; have yc1 : w3.cell? ⟨b1, 1, none⟩ = some (.int .i64 s) := (blk_cell BK3.out 1).trans rfl; have yc2 : w3.cell? ⟨b1, 2, none⟩ = some (.int .i64 L) := (blk_cell BK3.out 2).trans rfl; have yc3 : w3.cell? ⟨b1, 3, none⟩ = some (.bool F) := (blk_cell BK3.out 3).trans rfl; have yf0 := blk_frozen BK3.out 0; have yf1 := blk_frozen BK3.out 1; have yf2 := blk_frozen BK3.out 2; have yf3 := blk_frozen BK3.out 3))
  have HB5 := Lib.hid (put4_below (S := S) (s := s) (L := L2) (F := F) HB3.out G1.out)
  have BK5 := Lib.hid (put4_blk (S := S) (s := s) (L := L2) (F := F) BK3.out)
  have BK6 := Lib.hid (show (put4 w3 b1 S s L2 F).heap[b2]? = _ from (put4_other (fun e => NE.out e.symm)).trans BK4.out)
  unfold put4 at HB5 BK5 BK6
  generalize (((w3.setCell ⟨b1, 0, none⟩ (.string S)).setCell ⟨b1, 1, none⟩ (.int .i64 s)).setCell ⟨b1, 2, none⟩ (.int .i64 L2)).setCell ⟨b1, 3, none⟩ (.bool F) = w5 at HB5 BK5 BK6 ⊢
  clear yc0 yc1 yc2 yc3 yf0 yf1 yf2 yf3 xc0 xc1 xc2 xc3 xf0 xf1 xf2 xf3
  have zc0 : w5.cell? ⟨b1, 0, none⟩ = some (.string S) := (blk_cell BK5.out 0).trans rfl
  have zc1 : w5.cell? ⟨b1, 1, none⟩ = some (.int .i64 s) := (blk_cell BK5.out 1).trans rfl
  have zc2 : w5.cell? ⟨b1, 2, none⟩ = some (.int .i64 L2) := (blk_cell BK5.out 2).trans rfl
  have zc3 : w5.cell? ⟨b1, 3, none⟩ = some (.bool F) := (blk_cell BK5.out 3).trans rfl
  have zf0 := blk_frozen BK5.out 0
  have zf1 := blk_frozen BK5.out 1
  have zf2 := blk_frozen BK5.out 2
  have zf3 := blk_frozen BK5.out 3
  have uc0 : w5.cell? ⟨b2, 0, none⟩ = some (.string (⟨#[]⟩ : ByteArray)) := (blk_cell BK6.out 0).trans rfl
  have uc1 : w5.cell? ⟨b2, 1, none⟩ = some (.int .i64 0) := (blk_cell BK6.out 1).trans rfl
  have uc2 : w5.cell? ⟨b2, 2, none⟩ = some (.int .i64 0) := (blk_cell BK6.out 2).trans rfl
  have uc3 : w5.cell? ⟨b2, 3, none⟩ = some (.bool false) := (blk_cell BK6.out 3).trans rfl
  have uf0 := blk_frozen BK6.out 0
  have uf1 := blk_frozen BK6.out 1
  have uf2 := blk_frozen BK6.out 2
  have uf3 := blk_frozen BK6.out 3
  go_upto_region 5 with fail
  have HB6 := Lib.hid (show Below w.heap.size w (w5.setCell ⟨b1, 1, none⟩ (.int .i64 (S.size : Int))) from below_set HB5.out G1.out)
  have BK8 := Lib.hid (blk_put (cs := #[.string S, .int .i64 s, .int .i64 L2, .bool F]) BK5.out 1 (.int .i64 (S.size : Int)) rfl)
  have BK9 := Lib.hid ((Below.heap_setCell w5 ⟨b1, 1, none⟩ (.int .i64 (S.size : Int)) b2 (fun e => NE.out e.symm)).trans BK6.out)
  generalize w5.setCell ⟨b1, 1, none⟩ (.int .i64 (S.size : Int)) = w6 at HB6 BK8 BK9 ⊢
  clear zc0 zc1 zc2 zc3 zf0 zf1 zf2 zf3 uc0 uc1 uc2 uc3 uf0 uf1 uf2 uf3
  have zc0 : w6.cell? ⟨b1, 0, none⟩ = some (.string S) := (blk_cell BK8.out 0).trans rfl
  have zc1 : w6.cell? ⟨b1, 1, none⟩ = some (.int .i64 (S.size : Int)) := (blk_cell BK8.out 1).trans rfl
  have zc2 : w6.cell? ⟨b1, 2, none⟩ = some (.int .i64 L2) := (blk_cell BK8.out 2).trans rfl
  have zc3 : w6.cell? ⟨b1, 3, none⟩ = some (.bool F) := (blk_cell BK8.out 3).trans rfl
  have zf0 := blk_frozen BK8.out 0
  have zf1 := blk_frozen BK8.out 1
  have zf2 := blk_frozen BK8.out 2
  have zf3 := blk_frozen BK8.out 3
  have uc0 : w6.cell? ⟨b2, 0, none⟩ = some (.string (⟨#[]⟩ : ByteArray)) := (blk_cell BK9.out 0).trans rfl
  have uc1 : w6.cell? ⟨b2, 1, none⟩ = some (.int .i64 0) := (blk_cell BK9.out 1).trans rfl
  have uc2 : w6.cell? ⟨b2, 2, none⟩ = some (.int .i64 0) := (blk_cell BK9.out 2).trans rfl
  have uc3 : w6.cell? ⟨b2, 3, none⟩ = some (.bool false) := (blk_cell BK9.out 3).trans rfl
  have uf0 := blk_frozen BK9.out 0
  have uf1 := blk_frozen BK9.out 1
  have uf2 := blk_frozen BK9.out 2
  have uf3 := blk_frozen BK9.out 3
  go_wp2
  have HB7 := Lib.hid (put4_below (S := S) (s := (S.size : Int)) (L := L2) (F := F) HB6.out G2.out)
  have BK7 := Lib.hid (put4_blk (S := S) (s := (S.size : Int)) (L := L2) (F := F) BK9.out)
  exact bodyPost_ret (results_ct rfl _ _ b2 50 #[.string S, .int .i64 (S.size : Int), .int .i64 L2, .bool F] (0, 0) _ rfl BK7.out Try.underlying50 rfl (by kernel_rfl)) rfl ⟨rfl, HB7.out⟩
theorem ref_cut1 (S : ByteArray) (s L L2 : Int) (F : Bool) (u : Nat) (w : World) (hu : peerageref22_Disk_used.f S s L F = some (S, s, L2, F, true)) (hu1 : u ≤ S.size) :
    Calls Try.prog 40 #[.agg #[.string S, .int .i64 s, .int .i64 L, .bool F], .int .i64 (u : Int)] w fun e w' => e = .returned (.tuple #[.agg #[.string (S.extract 0 u), .int .i64 (u : Int), .int .i64 L2, .bool F], .int .i64 0]) ∧ Below w.heap.size w w' := by
  have HU := Lib.hid hu
  clear hu
  have q0 : decide ((u : Int) < 0) = false := decide_eq_false (by omega)
  have q1 : decide ((S.size : Int) < (u : Int)) = false := decide_eq_false (by omega)
  have q2 : (0 : Int) ≤ (u : Int) := by omega
  have q3 : (u : Int) ≤ (S.size : Int) := by omega
  go_enter Try.func40, Try.ntmps40
  go_upto_region 4 with (first | ((with_reducible refine gate_dst (N := 2) rfl ?_); refine box_event ?hg (N := 2) ?hd (cs := #[.string S, .int .i64 s, .int .i64 L, .bool F]) (t := 50) ?hr ?_; (case hd => rfl); (case hg => rfl); (case hr => first | (go_simp; done) | (go_simp; rfl)); intro b1 hgb1 w1 hkb1 hbb1; have HB1 := Lib.hid hbb1; have BK1 := Lib.hid hkb1; have G1 := Lib.hid (show w.heap.size ≤ b1 by omega); clear hbb1 hkb1 hgb1; have vc0 : w1.cell? ⟨b1, 0, none⟩ = some (.string S) := (blk_cell BK1.out 0).trans rfl; have vc1 : w1.cell? ⟨b1, 1, none⟩ = some (.int .i64 s) := (blk_cell BK1.out 1).trans rfl; have vc2 : w1.cell? ⟨b1, 2, none⟩ = some (.int .i64 L) := (blk_cell BK1.out 2).trans rfl; have vc3 : w1.cell? ⟨b1, 3, none⟩ = some (.bool F) := (blk_cell BK1.out 3).trans rfl; have vf0 := blk_frozen BK1.out 0; have vf1 := blk_frozen BK1.out 1; have vf2 := blk_frozen BK1.out 2; have vf3 := blk_frozen BK1.out 3) | ((with_reducible refine gate_dst (N := 4) rfl ?_); refine box_event ?hg (N := 4) ?hd (cs := #[.string (⟨#[]⟩ : ByteArray), .int .i64 0, .int .i64 0, .bool false]) (t := 50) ?hr ?_; (case hd => rfl); (case hg => rfl); (case hr => first | (go_simp; done) | (go_simp; rfl)); intro b2 hgb2 w2 hkb2 hbb2; have HB2 := Lib.hid (below_then HB1.out HB1.out.size hbb2); have BK1b := Lib.hid (blk_below BK1.out hbb2); have BK2 := Lib.hid hkb2; have NE := Lib.hid (show b1 ≠ b2 by have := blk_lt BK1.out; omega); have G2 := Lib.hid (show w.heap.size ≤ b2 by have := HB1.out.size; omega); clear hbb2 hkb2 hgb2; have xc0 : w2.cell? ⟨b1, 0, none⟩ = some (.string S) := (blk_cell BK1b.out 0).trans rfl; have xc1 : w2.cell? ⟨b1, 1, none⟩ = some (.int .i64 s) := (blk_cell BK1b.out 1).trans rfl; have xc2 : w2.cell? ⟨b1, 2, none⟩ = some (.int .i64 L) := (blk_cell BK1b.out 2).trans rfl; have xc3 : w2.cell? ⟨b1, 3, none⟩ = some (.bool F) := (blk_cell BK1b.out 3).trans rfl; have xf0 := blk_frozen BK1b.out 0; have xf1 := blk_frozen BK1b.out 1; have xf2 := blk_frozen BK1b.out 2; have xf3 := blk_frozen BK1b.out 3) | (go_at_call 38; refine (peerageref22_Disk_used.calls _ _ _ _ _ _ _ _ _ _ HU.out).mono ?_; rintro e w3 ⟨rfl, hb⟩; have HB3 := Lib.hid (below_then HB2.out HB2.out.size hb); have BK3 := Lib.hid (blk_below BK1b.out hb); have BK4 := Lib.hid (blk_below BK2.out hb); clear hb; have yc0 : w3.cell? ⟨b1, 0, none⟩ = some (.string S) := (blk_cell BK3.out 0).trans rfl; have yc1 : w3.cell? ⟨b1, 1, none⟩ = some (.int .i64 s) := (blk_cell BK3.out 1).trans rfl; have yc2 : w3.cell? ⟨b1, 2, none⟩ = some (.int .i64 L) := (blk_cell BK3.out 2).trans rfl; have yc3 : w3.cell? ⟨b1, 3, none⟩ = some (.bool F) := (blk_cell BK3.out 3).trans rfl; have yf0 := blk_frozen BK3.out 0; have yf1 := blk_frozen BK3.out 1; have yf2 := blk_frozen BK3.out 2; have yf3 := blk_frozen BK3.out 3))
  have HB5 := Lib.hid (put4_below (S := S) (s := s) (L := L2) (F := F) HB3.out G1.out)
  have BK5 := Lib.hid (put4_blk (S := S) (s := s) (L := L2) (F := F) BK3.out)
  have BK6 := Lib.hid (show (put4 w3 b1 S s L2 F).heap[b2]? = _ from (put4_other (fun e => NE.out e.symm)).trans BK4.out)
  unfold put4 at HB5 BK5 BK6
  generalize (((w3.setCell ⟨b1, 0, none⟩ (.string S)).setCell ⟨b1, 1, none⟩ (.int .i64 s)).setCell ⟨b1, 2, none⟩ (.int .i64 L2)).setCell ⟨b1, 3, none⟩ (.bool F) = w5 at HB5 BK5 BK6 ⊢
  clear yc0 yc1 yc2 yc3 yf0 yf1 yf2 yf3 xc0 xc1 xc2 xc3 xf0 xf1 xf2 xf3
  have zc0 : w5.cell? ⟨b1, 0, none⟩ = some (.string S) := (blk_cell BK5.out 0).trans rfl
  have zc1 : w5.cell? ⟨b1, 1, none⟩ = some (.int .i64 s) := (blk_cell BK5.out 1).trans rfl
  have zc2 : w5.cell? ⟨b1, 2, none⟩ = some (.int .i64 L2) := (blk_cell BK5.out 2).trans rfl
  have zc3 : w5.cell? ⟨b1, 3, none⟩ = some (.bool F) := (blk_cell BK5.out 3).trans rfl
  have zf0 := blk_frozen BK5.out 0
  have zf1 := blk_frozen BK5.out 1
  have zf2 := blk_frozen BK5.out 2
  have zf3 := blk_frozen BK5.out 3
  have uc0 : w5.cell? ⟨b2, 0, none⟩ = some (.string (⟨#[]⟩ : ByteArray)) := (blk_cell BK6.out 0).trans rfl
  have uc1 : w5.cell? ⟨b2, 1, none⟩ = some (.int .i64 0) := (blk_cell BK6.out 1).trans rfl
  have uc2 : w5.cell? ⟨b2, 2, none⟩ = some (.int .i64 0) := (blk_cell BK6.out 2).trans rfl
  have uc3 : w5.cell? ⟨b2, 3, none⟩ = some (.bool false) := (blk_cell BK6.out 3).trans rfl
  have uf0 := blk_frozen BK6.out 0
  have uf1 := blk_frozen BK6.out 1
  have uf2 := blk_frozen BK6.out 2
  have uf3 := blk_frozen BK6.out 3
  go_upto_region 7 with fail
  have HB6 := Lib.hid (show Below w.heap.size w (w5.setCell ⟨b1, 0, none⟩ (.string (S.extract 0 u))) from below_set HB5.out G1.out)
  have BK8 := Lib.hid (blk_put (cs := #[.string S, .int .i64 s, .int .i64 L2, .bool F]) BK5.out 0 (.string (S.extract 0 u)) rfl)
  have BK9 := Lib.hid ((Below.heap_setCell w5 ⟨b1, 0, none⟩ (.string (S.extract 0 u)) b2 (fun e => NE.out e.symm)).trans BK6.out)
  generalize w5.setCell ⟨b1, 0, none⟩ (.string (S.extract 0 u)) = w6 at HB6 BK8 BK9 ⊢
  clear zc0 zc1 zc2 zc3 zf0 zf1 zf2 zf3 uc0 uc1 uc2 uc3 uf0 uf1 uf2 uf3
  have zc0 : w6.cell? ⟨b1, 0, none⟩ = some (.string (S.extract 0 u)) := (blk_cell BK8.out 0).trans rfl
  have zc1 : w6.cell? ⟨b1, 1, none⟩ = some (.int .i64 s) := (blk_cell BK8.out 1).trans rfl
  have zc2 : w6.cell? ⟨b1, 2, none⟩ = some (.int .i64 L2) := (blk_cell BK8.out 2).trans rfl
  have zc3 : w6.cell? ⟨b1, 3, none⟩ = some (.bool F) := (blk_cell BK8.out 3).trans rfl
  have zf0 := blk_frozen BK8.out 0
  have zf1 := blk_frozen BK8.out 1
  have zf2 := blk_frozen BK8.out 2
  have zf3 := blk_frozen BK8.out 3
  have uc0 : w6.cell? ⟨b2, 0, none⟩ = some (.string (⟨#[]⟩ : ByteArray)) := (blk_cell BK9.out 0).trans rfl
  have uc1 : w6.cell? ⟨b2, 1, none⟩ = some (.int .i64 0) := (blk_cell BK9.out 1).trans rfl
  have uc2 : w6.cell? ⟨b2, 2, none⟩ = some (.int .i64 0) := (blk_cell BK9.out 2).trans rfl
  have uc3 : w6.cell? ⟨b2, 3, none⟩ = some (.bool false) := (blk_cell BK9.out 3).trans rfl
  have uf0 := blk_frozen BK9.out 0
  have uf1 := blk_frozen BK9.out 1
  have uf2 := blk_frozen BK9.out 2
  have uf3 := blk_frozen BK9.out 3
  go_upto_region 8 with fail
  have HB8 := Lib.hid (show Below w.heap.size w (w6.setCell ⟨b1, 1, none⟩ (.int .i64 (u : Int))) from below_set HB6.out G1.out)
  have BKa := Lib.hid (blk_put (cs := #[.string (S.extract 0 u), .int .i64 s, .int .i64 L2, .bool F]) BK8.out 1 (.int .i64 (u : Int)) rfl)
  have BKb := Lib.hid ((Below.heap_setCell w6 ⟨b1, 1, none⟩ (.int .i64 (u : Int)) b2 (fun e => NE.out e.symm)).trans BK9.out)
  generalize w6.setCell ⟨b1, 1, none⟩ (.int .i64 (u : Int)) = w7 at HB8 BKa BKb ⊢
  clear zc0 zc1 zc2 zc3 zf0 zf1 zf2 zf3 uc0 uc1 uc2 uc3 uf0 uf1 uf2 uf3
  have zc0 : w7.cell? ⟨b1, 0, none⟩ = some (.string (S.extract 0 u)) := (blk_cell BKa.out 0).trans rfl
  have zc1 : w7.cell? ⟨b1, 1, none⟩ = some (.int .i64 (u : Int)) := (blk_cell BKa.out 1).trans rfl
  have zc2 : w7.cell? ⟨b1, 2, none⟩ = some (.int .i64 L2) := (blk_cell BKa.out 2).trans rfl
  have zc3 : w7.cell? ⟨b1, 3, none⟩ = some (.bool F) := (blk_cell BKa.out 3).trans rfl
  have zf0 := blk_frozen BKa.out 0
  have zf1 := blk_frozen BKa.out 1
  have zf2 := blk_frozen BKa.out 2
  have zf3 := blk_frozen BKa.out 3
  have uc0 : w7.cell? ⟨b2, 0, none⟩ = some (.string (⟨#[]⟩ : ByteArray)) := (blk_cell BKb.out 0).trans rfl
  have uc1 : w7.cell? ⟨b2, 1, none⟩ = some (.int .i64 0) := (blk_cell BKb.out 1).trans rfl
  have uc2 : w7.cell? ⟨b2, 2, none⟩ = some (.int .i64 0) := (blk_cell BKb.out 2).trans rfl
  have uc3 : w7.cell? ⟨b2, 3, none⟩ = some (.bool false) := (blk_cell BKb.out 3).trans rfl
  have uf0 := blk_frozen BKb.out 0
  have uf1 := blk_frozen BKb.out 1
  have uf2 := blk_frozen BKb.out 2
  have uf3 := blk_frozen BKb.out 3
  go_wp2
  have HB7 := Lib.hid (put4_below (S := (S.extract 0 u)) (s := (u : Int)) (L := L2) (F := F) HB8.out G2.out)
  have BK7 := Lib.hid (put4_blk (S := (S.extract 0 u)) (s := (u : Int)) (L := L2) (F := F) BKb.out)
  exact bodyPost_ret (results_ct rfl _ _ b2 50 #[.string (S.extract 0 u), .int .i64 (u : Int), .int .i64 L2, .bool F] (0, 0) _ rfl BK7.out Try.underlying50 rfl (by kernel_rfl)) rfl ⟨rfl, HB7.out⟩
end Go.Proofs.Ytkckmikpmjecdaa.HF
namespace Go.Proofs.Ytkckmikpmjecdaa.HF
open Go.RowKit Go.Proofs.Ytkckmikpmjecdaa.H Go.Proofs.YtkckmikpmjecdaaW.PrintWords Go.Proofs.YtkckmikpmjecdaaW.PrintLast Go.Proofs.YtkckmikpmjecdaaW.PrintMore Go.Proofs.Ytkckmikpmjecdaa.PRefDisk
set_option linter.unusedVariables false
set_option linter.unusedSimpArgs false
theorem cell_ne {w : World} {b : Nat} {S0 : ByteArray} {s0 L0 : Int} {F0 : Bool} (hb : w.heap[b]? = some (.cells #[.string S0, .int .i64 s0, .int .i64 L0, .bool F0] 50 (0, 0))) {a : Addr} {v : Value} (h : w.cell? a = some v)
    (h1 : ∀ x, v ≠ .string x) (h2 : ∀ x, v ≠ .int .i64 x) (h3 : ∀ x, v ≠ .bool x) : a.block ≠ b := by
  intro he
  obtain ⟨zb, zo, zs⟩ := a
  subst he
  cases zs with
  | some q => simp [World.cell?, hb] at h
  | none =>
    rw [cell_of_row w zb zo _ _ _ hb] at h
    match zo, h with
    | 0, h => simp at h; exact h1 _ h.symm
    | 1, h => simp at h; exact h2 _ h.symm
    | 2, h => simp at h; exact h2 _ h.symm
    | 3, h => simp at h; exact h3 _ h.symm
    | o + 4, h => simp at h
theorem C_ne {w w' : World} {b : Nat} {S0 : ByteArray} {s0 L0 : Int} {F0 : Bool} (hb : w.heap[b]? = some (.cells #[.string S0, .int .i64 s0, .int .i64 L0, .bool F0] 50 (0, 0))) (hw : ∀ g, g ≠ b → w'.heap[g]? = w.heap[g]?) {A : Option Addr} {n : Nat} {l : List Int} (h : Kd.C (Kd.int .u8) w A n l) : Kd.C (Kd.int .u8) w' A n l := by
  obtain ⟨h1, h2, h3⟩ := h
  refine ⟨h1, h2, fun hn => ?_⟩
  obtain ⟨ad, e, hc⟩ := h3 hn
  refine ⟨ad, e, fun i x hi => ?_⟩
  obtain ⟨c, e1, e2, e3⟩ := hc i x hi
  have e2' : c = [.int .u8 x] := e2
  refine ⟨c, e1, e2, fun i2 u2 h2 => ?_⟩
  have e4 := e3 i2 u2 h2
  rw [e2'] at h2
  have hu : u2 = .int .u8 x := by
    match i2, h2 with
    | 0, h2 => simpa using h2.symm
    | i2 + 1, h2 => simp at h2
  exact (World.cell?_of_block (w := w) (hw _ (cell_ne hb e4 (by rw [hu]; intro y; simp) (by rw [hu]; intro y; simp) (by rw [hu]; intro y; simp)))).trans e4
theorem KL_ne {w w' : World} {b : Nat} {S0 : ByteArray} {s0 L0 : Int} {F0 : Bool} (hb : w.heap[b]? = some (.cells #[.string S0, .int .i64 s0, .int .i64 L0, .bool F0] 50 (0, 0))) (hw : ∀ g, g ≠ b → w'.heap[g]? = w.heap[g]?) {A : Option Addr} {n : Nat} {l : List (List Int)} (h : Kd.C KL w A n l) : Kd.C KL w' A n l := by
  obtain ⟨h1, h2, h3⟩ := h
  refine ⟨h1, h2, fun hn => ?_⟩
  obtain ⟨ad, e, hc⟩ := h3 hn
  refine ⟨ad, e, fun i x hi => ?_⟩
  obtain ⟨c, e1, ⟨B, d, e2, hle, hC⟩, e3⟩ := hc i x hi
  refine ⟨c, e1, ⟨B, d, e2, hle, C_ne hb hw hC⟩, fun i2 u2 h2 => ?_⟩
  have e4 := e3 i2 u2 h2
  rw [e2] at h2
  have hu : u2 = .slice B x.length d := by
    match i2, h2 with
    | 0, h2 => simpa using h2.symm
    | i2 + 1, h2 => simp at h2
  exact (World.cell?_of_block (w := w) (hw _ (cell_ne hb e4 (by rw [hu]; intro y; simp) (by rw [hu]; intro y; simp) (by rw [hu]; intro y; simp)))).trans e4
theorem put4_C {w : World} {b : Nat} {S S0 : ByteArray} {s s0 L L0 : Int} {F F0 : Bool} (hb : w.heap[b]? = some (.cells #[.string S0, .int .i64 s0, .int .i64 L0, .bool F0] 50 (0, 0))) {A : Option Addr} {n : Nat} {l : List (List Int)} (h : Kd.C KL w A n l) : Kd.C KL (put4 w b S s L F) A n l := KL_ne hb (fun g hg => put4_other hg) h
theorem ref_scan_n (A : Option Addr) (c : Nat) (l : List Int) (w : World) (hr : Kd.C (Kd.int .u8) w A l.length l) (hc : l.length ≤ c) (hb : okb l = true) (hm : l.length ≤ 90000000) {rows : List (List Int)} {u : Nat} {ee : Int} (hsc : scan l = (rows, u, ee)) :
    Calls Try.prog 39 #[.slice A l.length c] w fun e w' => ∃ A' n' c', e = .returned (.tuple #[.slice A' n' c', .int .i64 (u : Int), .int .i64 ee]) ∧ n' = rows.length ∧ n' ≤ c' ∧ Kd.C KL w' A' n' rows ∧ Below w.heap.size w w' := by
  have h := HR.ref_scan_calls A c l w hr hc hb hm
  rw [hsc] at h
  refine h.mono ?_
  rintro e w' ⟨A', c', rfl, hC, hB, hl⟩
  exact ⟨A', _, c', rfl, rfl, hl, hC, hB⟩
theorem ref_open0 (xs : List Int) (s L : Int) (F : Bool) (rows : List (List Int)) (u : Nat) (ee : Int) (w : World) (hb : okb xs = true) (hx : xs.length ≤ 100000) (hsc : scan xs = (rows, u, ee)) (he : ee = 0) :
    Calls Try.prog 24 #[.agg #[.string (strOfNums xs), .int .i64 s, .int .i64 L, .bool F]] w fun e w' => ∃ A n c, e = .returned (.tuple #[.agg #[.string (strOfNums xs), .int .i64 s, .int .i64 L, .bool F], .slice A n c, .int .i64 0]) ∧ n = rows.length ∧ n ≤ c ∧ Kd.C KL w' A n rows ∧ Below w.heap.size w w' := by
  generalize hS : strOfNums xs = S
  have HS := Lib.hid hS
  have HO := Lib.hid hb
  have HX := Lib.hid hx
  have HSC := Lib.hid hsc
  subst he
  clear hb hx hsc
  go_enter Try.func24, Try.ntmps24
  go_wp2_with (first
    | ((with_reducible refine gate_dst (N := 1) rfl ?_); refine box_event ?hg (N := 1) ?hd (cs := #[.string S, .int .i64 s, .int .i64 L, .bool F]) (t := 50) ?hr ?_; (case hd => rfl); (case hg => rfl); (case hr => first | (go_simp; done) | (go_simp; rfl)); intro b1 hgb1 w1 hkb1 hbb1; have HB1 := Lib.hid hbb1; have BK1 := Lib.hid hkb1; have G1 := Lib.hid (show w.heap.size ≤ b1 by omega); clear hbb1 hkb1 hgb1)
    | ((with_reducible refine gate_dst (N := 2) rfl ?_); refine box_event ?hg (N := 2) ?hd (cs := #[.string (⟨#[]⟩ : ByteArray), .int .i64 0, .int .i64 0, .bool false]) (t := 50) ?hr ?_; (case hd => rfl); (case hg => rfl); (case hr => first | (go_simp; done) | (go_simp; rfl)); intro b2 hgb2 w2 hkb2 hbb2; have HB2 := Lib.hid (below_then HB1.out HB1.out.size hbb2); have BK1b := Lib.hid (blk_below BK1.out hbb2); have BK2 := Lib.hid hkb2; have NE := Lib.hid (show b1 ≠ b2 by have := blk_lt BK1.out; omega); have G2 := Lib.hid (show w.heap.size ≤ b2 by have := HB1.out.size; omega); clear hbb2 hkb2 hgb2; have xc0 : w2.cell? ⟨b1, 0, none⟩ = some (.string S) := (blk_cell BK1b.out 0).trans rfl; obtain ⟨w3, c3, hcv, hc3, hC3, hb3⟩ := conv_str w2 HO.out HX.out; rw [HS.out] at hcv; have HC3 := Lib.hid hC3; have HCL3 := Lib.hid hc3; have HB3 := Lib.hid (below_then HB2.out HB2.out.size hb3); have BK3 := Lib.hid (blk_below BK1b.out hb3); have BK4 := Lib.hid (blk_below BK2.out hb3); clear hC3 hc3 hb3)
    | (go_at_call 39; refine (ref_scan_n (some ⟨w2.heap.size, 0, none⟩) c3 xs _ HC3.out HCL3.out HO.out (by have := HX.out; omega) HSC.out).mono ?_; rintro e w4 ⟨A4, n4, c4, rfl, hn4, hl4, hC4, hb4⟩; have HN4 := Lib.hid hn4; have HC4 := Lib.hid hC4; have HL4 := Lib.hid hl4; have HB4 := Lib.hid (below_then HB3.out HB3.out.size hb4); have BK5 := Lib.hid (blk_below BK3.out hb4); have BK6 := Lib.hid (blk_below BK4.out hb4); clear hC4 hb4 hn4 hl4; have zc0 : w4.cell? ⟨b1, 0, none⟩ = some (.string S) := (blk_cell BK5.out 0).trans rfl; have zc1 : w4.cell? ⟨b1, 1, none⟩ = some (.int .i64 s) := (blk_cell BK5.out 1).trans rfl; have zc2 : w4.cell? ⟨b1, 2, none⟩ = some (.int .i64 L) := (blk_cell BK5.out 2).trans rfl; have zc3 : w4.cell? ⟨b1, 3, none⟩ = some (.bool F) := (blk_cell BK5.out 3).trans rfl; have zf0 := blk_frozen BK5.out 0; have zf1 := blk_frozen BK5.out 1; have zf2 := blk_frozen BK5.out 2; have zf3 := blk_frozen BK5.out 3; have uc0 : w4.cell? ⟨b2, 0, none⟩ = some (.string (⟨#[]⟩ : ByteArray)) := (blk_cell BK6.out 0).trans rfl; have uc1 : w4.cell? ⟨b2, 1, none⟩ = some (.int .i64 0) := (blk_cell BK6.out 1).trans rfl; have uc2 : w4.cell? ⟨b2, 2, none⟩ = some (.int .i64 0) := (blk_cell BK6.out 2).trans rfl; have uc3 : w4.cell? ⟨b2, 3, none⟩ = some (.bool false) := (blk_cell BK6.out 3).trans rfl; have uf0 := blk_frozen BK6.out 0; have uf1 := blk_frozen BK6.out 1; have uf2 := blk_frozen BK6.out 2; have uf3 := blk_frozen BK6.out 3))
  have HB7 := Lib.hid (put4_below (S := S) (s := s) (L := L) (F := F) HB4.out G2.out)
  have BK7 := Lib.hid (put4_blk (S := S) (s := s) (L := L) (F := F) BK6.out)
  exact bodyPost_ret (results_ctt rfl _ _ b2 50 #[.string S, .int .i64 s, .int .i64 L, .bool F] (0, 0) _ rfl BK7.out Try.underlying50 rfl (by kernel_rfl)) rfl ⟨A4, n4, c4, rfl, HN4.out, HL4.out, put4_C BK6.out HC4.out, HB7.out⟩
theorem ref_open_bad (xs : List Int) (s L : Int) (F : Bool) (rows : List (List Int)) (u : Nat) (ee : Int) (w : World) (hb : okb xs = true) (hx : xs.length ≤ 100000) (hsc : scan xs = (rows, u, ee)) (he : ee ≠ 0) (he2 : ee ≠ 10) :
    Calls Try.prog 24 #[.agg #[.string (strOfNums xs), .int .i64 s, .int .i64 L, .bool F]] w fun e w' => e = .returned (.tuple #[.agg #[.string (strOfNums xs), .int .i64 s, .int .i64 L, .bool F], .slice none 0 0, .int .i64 ee]) ∧ Below w.heap.size w w' := by
  generalize hS : strOfNums xs = S
  have HS := Lib.hid hS
  have HO := Lib.hid hb
  have HX := Lib.hid hx
  have HSC := Lib.hid hsc
  have q0 : (ee == 10) = false := by simp [he2]
  have q1 : (ee != 0) = true := by simp [he]
  clear hb hx hsc he he2
  go_enter Try.func24, Try.ntmps24
  go_wp2_with (first
    | ((with_reducible refine gate_dst (N := 1) rfl ?_); refine box_event ?hg (N := 1) ?hd (cs := #[.string S, .int .i64 s, .int .i64 L, .bool F]) (t := 50) ?hr ?_; (case hd => rfl); (case hg => rfl); (case hr => first | (go_simp; done) | (go_simp; rfl)); intro b1 hgb1 w1 hkb1 hbb1; have HB1 := Lib.hid hbb1; have BK1 := Lib.hid hkb1; have G1 := Lib.hid (show w.heap.size ≤ b1 by omega); clear hbb1 hkb1 hgb1)
    | ((with_reducible refine gate_dst (N := 2) rfl ?_); refine box_event ?hg (N := 2) ?hd (cs := #[.string (⟨#[]⟩ : ByteArray), .int .i64 0, .int .i64 0, .bool false]) (t := 50) ?hr ?_; (case hd => rfl); (case hg => rfl); (case hr => first | (go_simp; done) | (go_simp; rfl)); intro b2 hgb2 w2 hkb2 hbb2; have HB2 := Lib.hid (below_then HB1.out HB1.out.size hbb2); have BK1b := Lib.hid (blk_below BK1.out hbb2); have BK2 := Lib.hid hkb2; have NE := Lib.hid (show b1 ≠ b2 by have := blk_lt BK1.out; omega); have G2 := Lib.hid (show w.heap.size ≤ b2 by have := HB1.out.size; omega); clear hbb2 hkb2 hgb2; have xc0 : w2.cell? ⟨b1, 0, none⟩ = some (.string S) := (blk_cell BK1b.out 0).trans rfl; obtain ⟨w3, c3, hcv, hc3, hC3, hb3⟩ := conv_str w2 HO.out HX.out; rw [HS.out] at hcv; have HC3 := Lib.hid hC3; have HCL3 := Lib.hid hc3; have HB3 := Lib.hid (below_then HB2.out HB2.out.size hb3); have BK3 := Lib.hid (blk_below BK1b.out hb3); have BK4 := Lib.hid (blk_below BK2.out hb3); clear hC3 hc3 hb3)
    | (go_at_call 39; refine (ref_scan_n (some ⟨w2.heap.size, 0, none⟩) c3 xs _ HC3.out HCL3.out HO.out (by have := HX.out; omega) HSC.out).mono ?_; rintro e w4 ⟨A4, n4, c4, rfl, hn4, hl4, hC4, hb4⟩; have HN4 := Lib.hid hn4; have HC4 := Lib.hid hC4; have HL4 := Lib.hid hl4; have HB4 := Lib.hid (below_then HB3.out HB3.out.size hb4); have BK5 := Lib.hid (blk_below BK3.out hb4); have BK6 := Lib.hid (blk_below BK4.out hb4); clear hC4 hb4 hn4 hl4; have zc0 : w4.cell? ⟨b1, 0, none⟩ = some (.string S) := (blk_cell BK5.out 0).trans rfl; have zc1 : w4.cell? ⟨b1, 1, none⟩ = some (.int .i64 s) := (blk_cell BK5.out 1).trans rfl; have zc2 : w4.cell? ⟨b1, 2, none⟩ = some (.int .i64 L) := (blk_cell BK5.out 2).trans rfl; have zc3 : w4.cell? ⟨b1, 3, none⟩ = some (.bool F) := (blk_cell BK5.out 3).trans rfl; have zf0 := blk_frozen BK5.out 0; have zf1 := blk_frozen BK5.out 1; have zf2 := blk_frozen BK5.out 2; have zf3 := blk_frozen BK5.out 3; have uc0 : w4.cell? ⟨b2, 0, none⟩ = some (.string (⟨#[]⟩ : ByteArray)) := (blk_cell BK6.out 0).trans rfl; have uc1 : w4.cell? ⟨b2, 1, none⟩ = some (.int .i64 0) := (blk_cell BK6.out 1).trans rfl; have uc2 : w4.cell? ⟨b2, 2, none⟩ = some (.int .i64 0) := (blk_cell BK6.out 2).trans rfl; have uc3 : w4.cell? ⟨b2, 3, none⟩ = some (.bool false) := (blk_cell BK6.out 3).trans rfl; have uf0 := blk_frozen BK6.out 0; have uf1 := blk_frozen BK6.out 1; have uf2 := blk_frozen BK6.out 2; have uf3 := blk_frozen BK6.out 3))
  have HB7 := Lib.hid (put4_below (S := S) (s := s) (L := L) (F := F) HB4.out G2.out)
  have BK7 := Lib.hid (put4_blk (S := S) (s := s) (L := L) (F := F) BK6.out)
  exact bodyPost_ret (results_ctt rfl _ _ b2 50 #[.string S, .int .i64 s, .int .i64 L, .bool F] (0, 0) _ rfl BK7.out Try.underlying50 rfl (by kernel_rfl)) rfl ⟨rfl, HB7.out⟩
theorem ref_open10 (xs : List Int) (s L : Int) (F : Bool) (rows : List (List Int)) (u : Nat) (ee : Int) (w : World) (hb : okb xs = true) (hx : xs.length ≤ 100000) (hsc : scan xs = (rows, u, ee)) (he : ee = 10) (hF : F = false) :
    Calls Try.prog 24 #[.agg #[.string (strOfNums xs), .int .i64 s, .int .i64 L, .bool F]] w fun e w' => ∃ A n c, e = .returned (.tuple #[.agg #[.string (strOfNums (xs.take u)), .int .i64 u, .int .i64 L, .bool false], .slice A n c, .int .i64 0]) ∧ n = rows.length ∧ n ≤ c ∧ Kd.C KL w' A n rows ∧ Below w.heap.size w w' := by
  generalize hS : strOfNums xs = S
  have HS := Lib.hid hS
  have HO := Lib.hid hb
  have HX := Lib.hid hx
  have HSC := Lib.hid hsc
  subst he
  subst hF
  have hus : peerageref22_Disk_used.f S s L false = some (S, s, L, false, true) := by unfold peerageref22_Disk_used.f; rw [if_neg (by simp)]
  have HUS := Lib.hid hus
  have HSZ := Lib.hid (show u ≤ S.size by have := (scan_bound hb hsc).1; rw [← hS, strOfNums_size]; exact this)
  have HTK := Lib.hid (show S.extract 0 u = strOfNums (xs.take u) by rw [← hS]; exact str_take xs u)
  clear hb hx hsc hus hS
  go_enter Try.func24, Try.ntmps24
  go_upto_region 4 with (first
    | ((with_reducible refine gate_dst (N := 1) rfl ?_); refine box_event ?hg (N := 1) ?hd (cs := #[.string S, .int .i64 s, .int .i64 L, .bool false]) (t := 50) ?hr ?_; (case hd => rfl); (case hg => rfl); (case hr => first | (go_simp; done) | (go_simp; rfl)); intro b1 hgb1 w1 hkb1 hbb1; have HB1 := Lib.hid hbb1; have BK1 := Lib.hid hkb1; have G1 := Lib.hid (show w.heap.size ≤ b1 by omega); clear hbb1 hkb1 hgb1)
    | ((with_reducible refine gate_dst (N := 2) rfl ?_); refine box_event ?hg (N := 2) ?hd (cs := #[.string (⟨#[]⟩ : ByteArray), .int .i64 0, .int .i64 0, .bool false]) (t := 50) ?hr ?_; (case hd => rfl); (case hg => rfl); (case hr => first | (go_simp; done) | (go_simp; rfl)); intro b2 hgb2 w2 hkb2 hbb2; have HB2 := Lib.hid (below_then HB1.out HB1.out.size hbb2); have BK1b := Lib.hid (blk_below BK1.out hbb2); have BK2 := Lib.hid hkb2; have NE := Lib.hid (show b1 ≠ b2 by have := blk_lt BK1.out; omega); have G2 := Lib.hid (show w.heap.size ≤ b2 by have := HB1.out.size; omega); clear hbb2 hkb2 hgb2; have xc0 : w2.cell? ⟨b1, 0, none⟩ = some (.string S) := (blk_cell BK1b.out 0).trans rfl; obtain ⟨w3, c3, hcv, hc3, hC3, hb3⟩ := conv_str w2 HO.out HX.out; rw [HS.out] at hcv; have HC3 := Lib.hid hC3; have HCL3 := Lib.hid hc3; have HB3 := Lib.hid (below_then HB2.out HB2.out.size hb3); have BK3 := Lib.hid (blk_below BK1b.out hb3); have BK4 := Lib.hid (blk_below BK2.out hb3); clear hC3 hc3 hb3)
    | (go_at_call 39; refine (ref_scan_n (some ⟨w2.heap.size, 0, none⟩) c3 xs _ HC3.out HCL3.out HO.out (by have := HX.out; omega) HSC.out).mono ?_; rintro e w4 ⟨A4, n4, c4, rfl, hn4, hl4, hC4, hb4⟩; have HN4 := Lib.hid hn4; have HC4 := Lib.hid hC4; have HL4 := Lib.hid hl4; have HB4 := Lib.hid (below_then HB3.out HB3.out.size hb4); have BK5 := Lib.hid (blk_below BK3.out hb4); have BK6 := Lib.hid (blk_below BK4.out hb4); clear hC4 hb4 hn4 hl4; have zc0 : w4.cell? ⟨b1, 0, none⟩ = some (.string S) := (blk_cell BK5.out 0).trans rfl; have zc1 : w4.cell? ⟨b1, 1, none⟩ = some (.int .i64 s) := (blk_cell BK5.out 1).trans rfl; have zc2 : w4.cell? ⟨b1, 2, none⟩ = some (.int .i64 L) := (blk_cell BK5.out 2).trans rfl; have zc3 : w4.cell? ⟨b1, 3, none⟩ = some (.bool false) := (blk_cell BK5.out 3).trans rfl; have zf0 := blk_frozen BK5.out 0; have zf1 := blk_frozen BK5.out 1; have zf2 := blk_frozen BK5.out 2; have zf3 := blk_frozen BK5.out 3; have uc0 : w4.cell? ⟨b2, 0, none⟩ = some (.string (⟨#[]⟩ : ByteArray)) := (blk_cell BK6.out 0).trans rfl; have uc1 : w4.cell? ⟨b2, 1, none⟩ = some (.int .i64 0) := (blk_cell BK6.out 1).trans rfl; have uc2 : w4.cell? ⟨b2, 2, none⟩ = some (.int .i64 0) := (blk_cell BK6.out 2).trans rfl; have uc3 : w4.cell? ⟨b2, 3, none⟩ = some (.bool false) := (blk_cell BK6.out 3).trans rfl; have uf0 := blk_frozen BK6.out 0; have uf1 := blk_frozen BK6.out 1; have uf2 := blk_frozen BK6.out 2; have uf3 := blk_frozen BK6.out 3) | (go_at_call 40; refine (ref_cut1 S s L L false u _ HUS.out HSZ.out).mono ?_; rintro e w5 ⟨rfl, hb5⟩; have HC5 := Lib.hid (Kd.C_below HC4.out hb5); have HB5 := Lib.hid (below_then HB4.out HB4.out.size hb5); have BK7 := Lib.hid (blk_below BK5.out hb5); have BK8 := Lib.hid (blk_below BK6.out hb5); clear hb5; have rc0 : w5.cell? ⟨b1, 0, none⟩ = some (.string S) := (blk_cell BK7.out 0).trans rfl; have rc1 : w5.cell? ⟨b1, 1, none⟩ = some (.int .i64 s) := (blk_cell BK7.out 1).trans rfl; have rc2 : w5.cell? ⟨b1, 2, none⟩ = some (.int .i64 L) := (blk_cell BK7.out 2).trans rfl; have rc3 : w5.cell? ⟨b1, 3, none⟩ = some (.bool false) := (blk_cell BK7.out 3).trans rfl; have rf0 := blk_frozen BK7.out 0; have rf1 := blk_frozen BK7.out 1; have rf2 := blk_frozen BK7.out 2; have rf3 := blk_frozen BK7.out 3))
  have HB6 := Lib.hid (put4_below (S := (S.extract 0 u)) (s := (u : Int)) (L := L) (F := false) HB5.out G1.out)
  have BK9 := Lib.hid (put4_blk (S := (S.extract 0 u)) (s := (u : Int)) (L := L) (F := false) BK7.out)
  have BKa := Lib.hid (show (put4 w5 b1 (S.extract 0 u) u L false).heap[b2]? = _ from (put4_other (fun e => NE.out e.symm)).trans BK8.out)
  have HC6 := Lib.hid (put4_C (S := (S.extract 0 u)) (s := (u : Int)) (L := L) (F := false) BK7.out HC5.out)
  unfold put4 at HB6 BK9 BKa HC6
  generalize (((w5.setCell ⟨b1, 0, none⟩ (.string (S.extract 0 u))).setCell ⟨b1, 1, none⟩ (.int .i64 (u : Int))).setCell ⟨b1, 2, none⟩ (.int .i64 L)).setCell ⟨b1, 3, none⟩ (.bool false) = w6 at HB6 BK9 BKa HC6 ⊢
  clear rc0 rc1 rc2 rc3 rf0 rf1 rf2 rf3 zc0 zc1 zc2 zc3 zf0 zf1 zf2 zf3 uc0 uc1 uc2 uc3 uf0 uf1 uf2 uf3
  have zc0 : w6.cell? ⟨b1, 0, none⟩ = some (.string (S.extract 0 u)) := (blk_cell BK9.out 0).trans rfl
  have zc1 : w6.cell? ⟨b1, 1, none⟩ = some (.int .i64 (u : Int)) := (blk_cell BK9.out 1).trans rfl
  have zc2 : w6.cell? ⟨b1, 2, none⟩ = some (.int .i64 L) := (blk_cell BK9.out 2).trans rfl
  have zc3 : w6.cell? ⟨b1, 3, none⟩ = some (.bool false) := (blk_cell BK9.out 3).trans rfl
  have zf0 := blk_frozen BK9.out 0
  have zf1 := blk_frozen BK9.out 1
  have zf2 := blk_frozen BK9.out 2
  have zf3 := blk_frozen BK9.out 3
  have uc0 : w6.cell? ⟨b2, 0, none⟩ = some (.string (⟨#[]⟩ : ByteArray)) := (blk_cell BKa.out 0).trans rfl
  have uc1 : w6.cell? ⟨b2, 1, none⟩ = some (.int .i64 0) := (blk_cell BKa.out 1).trans rfl
  have uc2 : w6.cell? ⟨b2, 2, none⟩ = some (.int .i64 0) := (blk_cell BKa.out 2).trans rfl
  have uc3 : w6.cell? ⟨b2, 3, none⟩ = some (.bool false) := (blk_cell BKa.out 3).trans rfl
  have uf0 := blk_frozen BKa.out 0
  have uf1 := blk_frozen BKa.out 1
  have uf2 := blk_frozen BKa.out 2
  have uf3 := blk_frozen BKa.out 3
  go_wp2
  have HB7 := Lib.hid (put4_below (S := (S.extract 0 u)) (s := (u : Int)) (L := L) (F := false) HB6.out G2.out)
  have BKb := Lib.hid (put4_blk (S := (S.extract 0 u)) (s := (u : Int)) (L := L) (F := false) BKa.out)
  exact bodyPost_ret (results_ctt rfl _ _ b2 50 #[.string (S.extract 0 u), .int .i64 (u : Int), .int .i64 L, .bool false] (0, 0) _ rfl BKb.out Try.underlying50 rfl (by kernel_rfl)) rfl ⟨A4, n4, c4, by rw [HTK.out]; rfl, HN4.out, HL4.out, put4_C BKa.out HC6.out, HB7.out⟩
end Go.Proofs.Ytkckmikpmjecdaa.HF
namespace Go.Proofs.Ytkckmikpmjecdaa.HF
open Go.RowKit Go.Proofs.Ytkckmikpmjecdaa.H Go.Proofs.YtkckmikpmjecdaaW.PrintWords Go.Proofs.YtkckmikpmjecdaaW.PrintLast Go.Proofs.YtkckmikpmjecdaaW.PrintMore
set_option linter.unusedVariables false
set_option linter.unusedSimpArgs false
variable {f : Int}
theorem Fq.records {w : World} {B p q : Nat} {xs : List Int} {s : Nat} (h : Fq f w B p xs s) (hL : Lg w q p) (hb : okb xs = true) (hx : xs.length ≤ 100000) {rows : List (List Int)} {u : Nat} {ee : Int} (hsc : scan xs = (rows, u, ee)) :
    Calls Try.prog 18 #[.pointer (some ⟨q, 0, none⟩)] w fun e w' => ∃ A n c, e = .returned (.slice A n c) ∧ n = rows.length ∧ n ≤ c ∧ Kd.C KL w' A n rows ∧ Below w.heap.size w w' := by
  have HF := Lib.hid h
  have HO := Lib.hid hb
  have HX := Lib.hid hx
  have HSC := Lib.hid hsc
  have l0 := (blk_cell hL 0).trans (show (#[.pointer (some ⟨p, 0, none⟩)] : Array Value)[0]? = some (.pointer (some ⟨p, 0, none⟩)) from rfl)
  clear h hL hb hx hsc
  go_enter Try.func18, Try.ntmps18
  go_wp2_with (first
    | (go_at_call 14; refine (HF.out.bytes HX.out).mono ?_; rintro e w2 ⟨A2, c2, rfl, hl2, hC, hb⟩; have HC2 := Lib.hid hC; have HL2 := Lib.hid hl2; have HB2 := Lib.hid hb; clear hC hb hl2)
    | (go_at_call 36; refine (scan_calls A2 c2 xs _ HC2.out HL2.out HO.out (by have := HX.out; omega)).mono ?_; rintro e w3 ⟨v3, rfl, hs, hb⟩; rw [HSC.out] at hs ⊢; obtain ⟨A3, n3, c3, e3, hn3, hc3, hC3⟩ := S_rows hs; subst e3; have HN3 := Lib.hid hn3; have HL3 := Lib.hid hc3; have HC3 := Lib.hid hC3; have HB3 := Lib.hid (below_then HB2.out HB2.out.size hb); clear hs hb hn3 hc3 hC3))
  go_ret
  exact ⟨A3, n3, c3, rfl, HN3.out, HL3.out, HC3.out, HB3.out⟩
/-- Open of a disk whose bytes are frames, or end within one. -/
theorem open_good (w0 : World) (p : Nat) (xs : List Int) (w : World) (h : Dq w w0.heap.size p xs xs.length) (hp : w0.heap.size ≤ p) (hB : Below w0.heap.size w0 w) (hb : okb xs = true) (hx : xs.length ≤ 100000) {rows : List (List Int)} {u : Nat} {ee : Int} (hsc : scan xs = (rows, u, ee)) (he : ee = 0 ∨ ee = 10) :
    Calls Try.prog 19 #[.pointer (some ⟨p, 0, none⟩)] w fun e w' => ∃ q A n c, e = .returned (.tuple #[.pointer (some ⟨q, 0, none⟩), .slice A n c, .int .i64 0]) ∧ w.heap.size ≤ q ∧ Lg w' q p ∧ Fq (-1) w' w0.heap.size p (xs.take u) u ∧ n = rows.length ∧ n ≤ c ∧ Kd.C KL w' A n rows ∧ Below w0.heap.size w0 w' ∧ KeepBut w w' p none := by
  have hbd := scan_bound hb hsc
  rcases he with rfl | rfl
  · have hu := hbd.2.2 rfl
    subst hu
    refine (open_whole w0 p xs xs.length rows _ w h hp hB hb hx hsc).mono ?_
    rintro e w' ⟨q, v, rfl, hq, hlg, hd, hS, hb1, hb2⟩
    obtain ⟨A, n, c, e, hn, hc, hC⟩ := S_rows hS
    subst e
    refine ⟨q, A, n, c, rfl, hq, hlg, ?_, hn, hc, hC, hb1, KeepBut.of_below hb2 p none⟩
    rw [List.take_length]
    exact hd
  · refine (open_torn w0 p xs xs.length rows u w h hp hB hb hx hsc hbd.1).mono ?_
    rintro e w' ⟨q, v, rfl, hq, hlg, hd, hS, hb1, hk⟩
    obtain ⟨A, n, c, e, hn, hc, hC⟩ := S_rows hS
    subst e
    exact ⟨q, A, n, c, rfl, hq, hlg, hd, hn, hc, hC, hb1, hk⟩
theorem open_bad (w0 : World) (p : Nat) (xs : List Int) (s : Nat) (w : World) (h : Dq w w0.heap.size p xs s) (hb : okb xs = true) (hx : xs.length ≤ 100000) {rows : List (List Int)} {u : Nat} {ee : Int} (hsc : scan xs = (rows, u, ee)) (he : ee ≠ 0) (he2 : ee ≠ 10) :
    Calls Try.prog 19 #[.pointer (some ⟨p, 0, none⟩)] w fun e w' => e = .returned (.tuple #[.pointer none, .slice none 0 0, .int .i64 ee]) ∧ Below w.heap.size w w' := by
  obtain ⟨A, c, hD, hR⟩ := h
  obtain ⟨_, _, e, hc, hC⟩ := hR.reads (by omega)
  injection e with eA _ ec
  subst eA ec
  have HD := Lib.hid hD
  have HC := Lib.hid hC
  have HO := Lib.hid hb
  have HX := Lib.hid hx
  have HS := Lib.hid hsc
  have q0 : (ee == 10) = false := by simp [he2]
  have q1 : (ee != 0) = true := by simp [he]
  clear hD hR hC hb hx hsc hc he he2
  go_enter Try.func19, Try.ntmps19
  go_wp2_with (first
    | (go_at_call 34; refine (H.cut_bad_calls p _ s (-1) _ HD.out (by decide)).mono ?_; rintro e w1 ⟨rfl, hb⟩; have HD1 := Lib.hid (show Dk w1 p _ s from blk_below HD.out hb); have HC1 := Lib.hid (Kd.C_below HC.out hb); have HB1 := Lib.hid hb; clear hb)
    | (go_at_call 14; refine (H.bytes_calls p A xs.length c s xs _ HD1.out HC1.out HX.out).mono ?_; rintro e w2 ⟨v2, rfl, hr, hb⟩; obtain ⟨A2, c2, e2, hl2, hC2⟩ := Kd.R_reads hr; subst e2; have HC2 := Lib.hid hC2; have HL2 := Lib.hid hl2; have HB2 := Lib.hid (below_then HB1.out HB1.out.size hb); clear hr hb hl2 hC2)
    | (go_at_call 36; refine (scan_calls A2 c2 xs _ HC2.out HL2.out HO.out (by have := HX.out; omega)).mono ?_; rintro e w3 ⟨v3, rfl, hs, hb⟩; rw [HS.out]; have HB3 := Lib.hid (below_then HB2.out HB2.out.size hb); clear hs hb))
  exact bodyPost_ret (v := .tuple #[.pointer none, .slice none 0 0, .int .i64 ee]) (by simp [results, Try.results19, go_sem]) rfl ⟨rfl, HB3.out⟩
end Go.Proofs.Ytkckmikpmjecdaa.HF
namespace Go.Proofs.Ytkckmikpmjecdaa.HF
open Go.RowKit Go.Proofs.Ytkckmikpmjecdaa.H Go.Proofs.YtkckmikpmjecdaaW.PrintWords Go.Proofs.YtkckmikpmjecdaaW.PrintLast Go.Proofs.YtkckmikpmjecdaaW.PrintMore Go.Proofs.Ytkckmikpmjecdaa.PRefDisk
set_option linter.unusedVariables false
set_option linter.unusedSimpArgs false
/-- The reference's disk in its variable. -/
def Rk (w : World) (r : Nat) (S : ByteArray) (s L : Int) (F : Bool) : Prop := w.heap[r]? = some (.cells #[.string S, .int .i64 s, .int .i64 L, .bool F] 50 (0, 0))
theorem Rk.below {w w1 : World} {r : Nat} {S : ByteArray} {s L : Int} {F : Bool} (h : Rk w r S s L F) (hb : Below w.heap.size w w1) : Rk w1 r S s L F := blk_below h hb
theorem ref_write {f L : Int} {F : Bool} (h : Fz f L F) (xs ys : List Int) (s : Int) (A : Option Addr) (c : Nat) (w : World) (hC : Kd.C (Kd.int .u8) w A ys.length ys) (hc : ys.length ≤ c) (hy : okb ys = true) (hl : ys.length ≤ 300) (hx : xs.length ≤ 90000) :
    Calls Try.prog 21 #[.agg #[.string (strOfNums xs), .int .i64 s, .int .i64 L, .bool F], .slice A ys.length c] w fun e w' => e = .returned (.tuple #[.agg #[.string (strOfNums (if f = 0 then xs else xs ++ sealed ys)), .int .i64 s, .int .i64 (ld L F), .bool F], .int .i64 (if f = 0 then 17 else 0)]) ∧ Below w.heap.size w w' :=
  peerageref23_Write.calls _ _ _ _ _ A c ys _ _ _ _ _ w hC hc (write_f h xs ys s hy hl hx)
theorem ref_append {f L : Int} {F : Bool} (h : Fz f L F) (xs ys : List Int) (s : Int) (w : World) (hx : xs.length + ys.length ≤ 100000) :
    Calls Try.prog 23 #[.agg #[.string (strOfNums xs), .int .i64 s, .int .i64 L, .bool F], .string (strOfNums ys)] w fun e w' => e = .returned (.tuple #[.agg #[.string (strOfNums (if f = 0 then xs else xs ++ ys)), .int .i64 s, .int .i64 (ld L F), .bool F], .int .i64 (if f = 0 then 17 else 0)]) ∧ Below w.heap.size w w' :=
  peerageref22_Disk_Append.calls _ _ _ _ _ _ _ _ _ _ w (append_f h xs ys s hx)
theorem ref_sync {f L : Int} {F : Bool} (h : Fz f L F) (xs : List Int) (s : Nat) (w : World) :
    Calls Try.prog 22 #[.agg #[.string (strOfNums xs), .int .i64 (s : Int), .int .i64 L, .bool F]] w fun e w' => e = .returned (.tuple #[.agg #[.string (strOfNums xs), .int .i64 ((if f = 0 then s else xs.length : Nat) : Int), .int .i64 (ld L F), .bool F], .int .i64 (if f = 0 then 17 else 0)]) ∧ Below w.heap.size w w' := by
  have hu := used_f h (strOfNums xs) s
  by_cases h0 : f = 0
  · rw [if_pos h0] at hu
    rw [if_pos h0, if_pos h0]
    exact ref_sync0 _ _ _ _ _ w hu
  · rw [if_neg h0] at hu
    rw [if_neg h0, if_neg h0]
    have := ref_sync1 _ _ _ _ _ w hu
    rw [strOfNums_size] at this
    exact this
theorem ref_crash (xs : List Int) (s k : Nat) (L : Int) (F : Bool) (x : Int) (w : World) (hs : s ≤ xs.length) (hx : xs.length ≤ 100000) (hk : kk s ((xs.length : Int) - s + 1) x = k) :
    Calls Try.prog 25 #[.agg #[.string (strOfNums xs), .int .i64 (s : Int), .int .i64 L, .bool F], .int .i64 x] w fun e w' => e = .returned (.agg #[.string (strOfNums (xs.take k)), .int .i64 (k : Int), .int .i64 0, .bool false]) ∧ Below w.heap.size w w' := by
  refine peerageref22_Disk_Crash.calls _ _ _ _ _ _ _ _ _ w ?_
  have hr := kk_range (s := (s : Int)) (N := (xs.length : Int) - s + 1) (x := x) (by omega) (by omega) (by omega) (by omega)
  rw [hk] at hr
  unfold peerageref22_Disk_Crash.f
  have e1 : wrap64 (((strOfNums xs).size : Int) - (s : Int)) = (xs.length : Int) - s := by rw [strOfNums_size]; unfold wrap64; omega
  have e2 : wrap64 ((xs.length : Int) - s + 1) = (xs.length : Int) - s + 1 := by unfold wrap64; omega
  rw [e1, e2]
  have e3 : wrap64 ((s : Int) + (wrap64 (x.tmod ((xs.length : Int) - s + 1) + ((xs.length : Int) - s + 1))).tmod ((xs.length : Int) - s + 1)) = (k : Int) := hk
  rw [e3, if_neg (by omega), if_pos (by omega), if_pos (by rw [strOfNums_size]; omega), Int.toNat_natCast, str_take]
theorem ref_fuse (S : ByteArray) (s L : Int) (F : Bool) (x : Int) (w : World) :
    Calls Try.prog 27 #[.agg #[.string S, .int .i64 s, .int .i64 L, .bool F], .int .i64 x] w fun e w' => e = .returned (.agg #[.string S, .int .i64 s, .int .i64 (mx x 0), .bool (decide (x ≥ 0))]) ∧ Below w.heap.size w w' :=
  peerageref22_Disk_Fuse.calls _ _ _ _ _ _ _ _ _ w rfl
theorem fz_fuse (x : Int) : Fz (max x (-1)) (mx x 0) (decide (x ≥ 0)) := by
  by_cases h : x ≥ 0
  · right
    refine ⟨by simp [h], ?_, by omega⟩
    unfold mx
    split <;> omega
  · left
    exact ⟨by simp; omega, by omega⟩
theorem ref_open_good (xs : List Int) (s : Nat) (L : Int) (rows : List (List Int)) (u : Nat) (ee : Int) (w : World) (hb : okb xs = true) (hx : xs.length ≤ 100000) (hsc : scan xs = (rows, u, ee)) (he : ee = 0 ∨ ee = 10) (hs : s = xs.length) :
    Calls Try.prog 24 #[.agg #[.string (strOfNums xs), .int .i64 (s : Int), .int .i64 L, .bool false]] w fun e w' => ∃ A n c, e = .returned (.tuple #[.agg #[.string (strOfNums (xs.take u)), .int .i64 (u : Int), .int .i64 L, .bool false], .slice A n c, .int .i64 0]) ∧ n = rows.length ∧ n ≤ c ∧ Kd.C KL w' A n rows ∧ Below w.heap.size w w' := by
  rcases he with rfl | rfl
  · have hu := (scan_bound hb hsc).2.2 rfl
    have h := ref_open0 xs (s : Int) L false rows u 0 w hb hx hsc rfl
    rw [hu, List.take_length, ← hs]
    exact h
  · exact ref_open10 xs (s : Int) L false rows u 10 w hb hx hsc rfl rfl
theorem fd_range {f : Int} (h : -1 ≤ f) (h1 : f ≤ 9223372036854775807) : -1 ≤ fd f ∧ fd f ≤ 9223372036854775807 := by
  unfold fd
  split
  · unfold wrap64; omega
  · exact ⟨h, h1⟩
/-- What the writer of another block leaves. -/
theorem Fq.keep {f : Int} {w w1 : World} {B p r s : Nat} {xs : List Int} {S : ByteArray} {s0 L0 : Int} {F0 : Bool} (h : Fq f w B p xs s) (hr : Rk w r S s0 L0 F0) (hk : KeepBut w w1 r none) : Fq f w1 B p xs s := by
  obtain ⟨A, c, hD, hR⟩ := h
  refine ⟨A, c, hk.blk hD (blk_ne hD hr (by decide)) (by simp), hR.step fun k hk2 => ?_⟩
  obtain ⟨cells, hc⟩ := hR.typed k hk2
  exact hk.2 k (hR.lt k hk2) (blk_ne hc hr (by decide)) (by simp)
end Go.Proofs.Ytkckmikpmjecdaa.HF
