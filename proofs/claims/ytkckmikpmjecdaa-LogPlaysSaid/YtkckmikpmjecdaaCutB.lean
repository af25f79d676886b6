/- What Cut answers: contracts. Condition: a disk that was made, that any number of calls may write. -/
import Derived.Test.YtkckmikpmjecdaaCutA
import Derived.Test.YtkckmikpmjecdaaGrow
namespace Go.Proofs.Ytkckmikpmjecdaa.H
open Go.RowKit Go.Proofs.YtkckmikpmjecdaaW.PrintWords Go.Proofs.YtkckmikpmjecdaaW.PrintLast Go.Proofs.YtkckmikpmjecdaaW.PrintMore
set_option linter.unusedVariables false
set_option linter.unusedSimpArgs false
theorem slice_cap2 (A : Option Addr) (n c k : Nat) (hk : k ≤ n) (hc : n ≤ c) : ∀ W : World, (Instr.slice 22 (.slice A n c) none (some (.int .i64 (k : Int))) (some (.int .i64 (k : Int)))).run Try.prog W = .ok (.slice A k k) W := by
  obtain ⟨i5, hi5, _, hsz5, _⟩ := info_parts info5
  have hel : Try.prog.elem 22 = 5 := by kernel_rfl
  intro W
  rw [run_slice_hm W 22 A n c (by rw [hel]; exact Try.underlying22) .i64 .i64 (k : Int) (k : Int) (by omega) (by omega) (by omega), hel]
  have ha : (A.map fun x => x.add 0) = A := by cases A <;> simp [Addr.add]
  simp [sizeOf, typeInfo, hi5, hsz5, sliced, Result.andThen, ha]
theorem Br.cut {w : World} {B k n c : Nat} {A : Option Addr} {xs : List Int} (h : Br w B (.slice A n c) xs) (hk : k ≤ xs.length) : Br w B (.slice A k k) (xs.take k) := by
  have hl : (xs.take k).length = k := by rw [List.length_take]; omega
  have cut : ∀ (g : Nat) (cur : Array Value), A = some ⟨g, 0, none⟩ → B ≤ g → w.heap[g]? = some (.cells cur 5 (0, 0)) → xs.length ≤ cur.size → cur.toList.take xs.length = eb xs → Fr w B (.slice A k k) (xs.take k) := by
    intro g cur hA hb hh hs ht
    refine ⟨g, cur, by rw [hl, hA], hb, hh, by rw [hl]; omega, ?_⟩
    rw [hl]
    have e : (cur.toList.take xs.length).take k = (eb xs).take k := by rw [ht]
    rw [List.take_take, Nat.min_eq_left hk] at e
    rw [e]
    exact (List.map_take ..).symm
  rcases h with h | ⟨g, cur, hv, hb, hh, hs, ht⟩
  · have ho := Kd.own_of_R h
    rcases ho.2 with ⟨hv, h0⟩ | ⟨g, cap, cur, hv, hb, hh, hnc, _, hcs, ht⟩
    · injection hv with hA hn hc
      have : k = 0 := by omega
      subst this hA
      rw [List.take_zero]
      exact .inl (Kd.R_nil _ _ _ _ _)
    · injection hv with hA hn hc
      exact .inr (cut g cur hA hb hh (by omega) (by rw [Nat.mul_one] at ht; exact ht))
  · injection hv with hA hn hc
    exact .inr (cut g cur hA hb hh hs ht)

set_option maxHeartbeats 2000000 in
theorem cut_what (w0 : World) (p g k : Nat) (A : Option Addr) (n c : Nat) (s : Int) (xs : List Int) (w : World) (h : Dk w p (.slice A n c) s) (hR : Br w w0.heap.size (.slice A n c) xs) (hp : w0.heap.size ≤ p) (hB : Below w0.heap.size w0 w)
    (hg : w.cell? ⟨g, 0, none⟩ = some (.int .i64 (k : Int))) (hk : k ≤ xs.length) (hx : xs.length ≤ 100000) :
    Calls Try.prog 42 #[.pointer (some ⟨p, 0, none⟩), .pointer (some ⟨g, 0, none⟩)] w fun e w' => e = .returned (.tuple #[]) ∧ Dk w' p (.slice A k k) k ∧ Br w' w0.heap.size (.slice A k k) (xs.take k) ∧ Below w0.heap.size w0 w' ∧ KeepBut w w' p none := by
  have hn : n = xs.length ∧ n ≤ c := by
    obtain ⟨_, _, e, hc, _⟩ := hR.reads (by omega)
    injection e with _ e1 e2
    omega
  have hsl := slice_cap2 A n c k (by omega) hn.2
  have h1 := h.c1
  have hg0 := hg
  have H := Lib.hid h
  have HR := Lib.hid hR
  have HB := Lib.hid hB
  have HP := Lib.hid hp
  have HK := Lib.hid hk
  clear h hR hB hg hp hk hx hn
  go_enter Try.func42, Try.ntmps42
  go_wp2_with fail
  refine start_ (n := 11) (S := fun w' => (w'.cell? ⟨p, 1, none⟩ = some (.slice A n c)) ∧ (w'.cell? ⟨g, 0, none⟩ = some (.int .i64 (k : Int)))) (ds := [10]) #[false, false, false, false, false, false, false, false, false, false, false] (by kernel_rfl) rfl rfl ⟨h1, hg0⟩ (fun hHeld => ?_)
  refine pure_ (i := 0) (N := some 3) (v := ?_) (a' := ?_) #[true, false, false, false, false, false, false, false, false, false, false] rfl rfl (by kernel_rfl) (fun _ _ _ h => h) (Or.inl ⟨by rfl, ?_⟩) ?_ ?_
  rotate_left
  · intro w'
    go_simp
    with_reducible rfl
  rotate_left
  · simp only [Act.put, List.setIfInBounds_toArray, List.set_cons_zero, List.set_cons_succ, i64_w, i32_w]
    rfl
  refine pure_ (i := 1) (N := some 4) (v := ?_) (a' := ?_) #[true, true, false, false, false, false, false, false, false, false, false] rfl rfl (by kernel_rfl) (fun _ _ _ h => h) (Or.inl ⟨by rfl, ?_⟩) ?_ ?_
  rotate_left
  · intro w'
    go_simp
    with_reducible rfl
  rotate_left
  · simp only [Act.put, List.setIfInBounds_toArray, List.set_cons_zero, List.set_cons_succ, i64_w, i32_w]
    rfl
  refine pure_ (i := 2) (N := some 5) (v := ?_) (a' := ?_) #[true, true, true, false, false, false, false, false, false, false, false] rfl rfl (by kernel_rfl) (fun _ _ _ h => h) (Or.inl ⟨by rfl, ?_⟩) ?_ ?_
  rotate_left
  · intro w'
    go_simp
    with_reducible rfl
  rotate_left
  · simp only [Act.put, List.setIfInBounds_toArray, List.set_cons_zero, List.set_cons_succ, i64_w, i32_w]
    rfl
  refine pure_ (i := 3) (N := some 6) (v := ?_) (a' := ?_) #[true, true, true, true, false, false, false, false, false, false, false] rfl rfl (by kernel_rfl) (fun _ _ _ h => h) (Or.inl ⟨by rfl, ?_⟩) ?_ ?_
  rotate_left
  · intro w'
    go_simp
    with_reducible rfl
  rotate_left
  · simp only [Act.put, List.setIfInBounds_toArray, List.set_cons_zero, List.set_cons_succ, i64_w, i32_w]
    rfl
  refine take_ (i := 4) (N := some 7) (v := ?_) (a' := ?_) #[true, true, true, true, true, false, false, false, false, false, false] rfl rfl (by kernel_rfl) (fun _ _ _ h => h) (Or.inl ⟨by rfl, ?_⟩) hHeld ?_ ?_
  rotate_left
  · rintro w' ⟨h1, hg⟩
    go_simp
    with_reducible rfl
  rotate_left
  · simp only [Act.put, List.setIfInBounds_toArray, List.set_cons_zero, List.set_cons_succ, i64_w, i32_w]
    rfl
  refine take_ (i := 5) (N := some 8) (v := ?_) (a' := ?_) #[true, true, true, true, true, true, false, false, false, false, false] rfl rfl (by kernel_rfl) (fun _ _ _ h => h) (Or.inl ⟨by rfl, ?_⟩) hHeld ?_ ?_
  rotate_left
  · rintro w' ⟨h1, hg⟩
    go_simp
    with_reducible rfl
  rotate_left
  · simp only [Act.put, List.setIfInBounds_toArray, List.set_cons_zero, List.set_cons_succ, i64_w, i32_w]
    rfl
  refine take_ (i := 6) (N := some 9) (v := ?_) (a' := ?_) #[true, true, true, true, true, true, true, false, false, false, false] rfl rfl (by kernel_rfl) (fun _ _ _ h => h) (Or.inl ⟨by rfl, ?_⟩) hHeld ?_ ?_
  rotate_left
  · rintro w' ⟨h1, hg⟩
    go_simp
    with_reducible rfl
  rotate_left
  · simp only [Act.put, List.setIfInBounds_toArray, List.set_cons_zero, List.set_cons_succ, i64_w, i32_w]
    rfl
  refine pure_ (i := 7) (N := some 10) (v := ?_) (a' := ?_) #[true, true, true, true, true, true, true, true, false, false, false] rfl rfl (by kernel_rfl) (fun _ _ _ h => h) (Or.inl ⟨by rfl, ?_⟩) ?_ ?_
  rotate_left
  · intro w'
    go_simp
    with_reducible rfl
  rotate_left
  · simp only [Act.put, List.setIfInBounds_toArray, List.set_cons_zero, List.set_cons_succ, i64_w, i32_w]
    rfl
  refine pure_ (i := 8) (N := some 11) (v := ?_) (a' := ?_) #[true, true, true, true, true, true, true, true, true, false, false] rfl rfl (by kernel_rfl) (fun _ _ _ h => h) (Or.inl ⟨by rfl, ?_⟩) ?_ ?_
  rotate_left
  · intro w'
    go_simp
    with_reducible rfl
  rotate_left
  · simp only [Act.put, List.setIfInBounds_toArray, List.set_cons_zero, List.set_cons_succ, i64_w, i32_w]
    rfl
  refine pure_ (i := 9) (N := some 12) (v := ?_) (a' := ?_) #[true, true, true, true, true, true, true, true, true, true, false] rfl rfl (by kernel_rfl) (fun _ _ _ h => h) (Or.inl ⟨by rfl, ?_⟩) ?_ ?_
  rotate_left
  · intro w'
    go_simp
    with_reducible rfl
  rotate_left
  · simp only [Act.put, List.setIfInBounds_toArray, List.set_cons_zero, List.set_cons_succ, i64_w, i32_w]
    rfl
  refine last_ (i := 10) (N := none) #[true, true, true, true, true, true, true, true, true, true, true] rfl rfl (by kernel_rfl) (by decide) (fun K hK => ?_)
  obtain ⟨h1, hg⟩ := hHeld
  have hf := blk_frozen (blk_drew H.out) 1
  have hc := (blk_cell (blk_drew H.out) 1).trans (show (#[.bool true, .slice A n c, .int .i64 s, .int .i64 (-1)] : Array Value)[1]? = some (.slice A n c) from rfl)
  refine skip_ (w1 := ?_) (by rfl) rfl ?_ ?_
  rotate_left
  · go_simp
    rfl
  refine hK.out _ _ ?_
  clear hK K
  clear hf hc
  refine done_ (by kernel_rfl) ?_
  have D2 := Lib.hid (show Dk (w.drew.setCell ⟨p, 1, none⟩ (.slice A k k)) p (.slice A k k) s from blk_put (blk_drew H.out) 1 _ rfl)
  have R2 := Lib.hid ((HR.out.cut HK.out).below (below_drew (Below.refl _ _)) |>.set (blk_drew H.out) (by decide) 1 (.slice A k k))
  have B2 := Lib.hid (below_set (g := p) (j := 1) (v := .slice A k k) (below_drew HB.out) HP.out)
  go_wp2_with (go_at_call 32; refine (flush_calls 0 w0 p A k k s _ D2.out HP.out B2.out).mono ?_; rintro e w3 ⟨rfl, hd, hb, u, rfl⟩; have D3 := Lib.hid hd; have B3 := Lib.hid hb; clear hd hb)
  exact bodyPost_end (v := .tuple #[]) (by simp [results, Try.results42, go_sem]) rfl ⟨rfl, D3.out, R2.out.set D2.out (by decide) _ _, B3.out, KeepBut.set_ (KeepBut.set_ (keep_drew (KeepBut.refl w p none)) 1 _) 2 _⟩
end Go.Proofs.Ytkckmikpmjecdaa.H
