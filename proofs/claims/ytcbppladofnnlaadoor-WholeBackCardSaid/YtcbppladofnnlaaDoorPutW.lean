/- What Put answers: a contract. No condition. -/
import Derived.Test.YtcbppladofnnlaaDoorBytesW
namespace Go.Proofs.YtcbppladofnnlaaDoor.H
open Go.RowKit Go.Proofs.YtcbppladofnnlaaDoorW.PrintWords Go.Proofs.YtcbppladofnnlaaDoorW.PrintLast Go.Proofs.YtcbppladofnnlaaDoorW.PrintMore
set_option linter.unusedVariables false
set_option linter.unusedSimpArgs false
def Arr (w : World) (b : Nat) (l : List Int) : Prop := w.heap[b]? = some (.cells (nums .u8 l).toArray 45 (0, 0))
theorem Arr.cell {w : World} {b : Nat} {l : List Int} (h : Arr w b l) (k : Nat) (hk : k < l.length) : w.cell? ⟨b, k, none⟩ = some (.int .u8 (l.getD k 0)) := by
  rw [blk_cell h]
  simp [nums, List.getD_eq_getElem?_getD, hk]
theorem Arr.frozen {w : World} {b : Nat} {l : List Int} (h : Arr w b l) (k : Nat) : w.frozen? ⟨b, k, none⟩ = false := blk_frozen h k
theorem Arr.set {w : World} {b : Nat} {l : List Int} (h : Arr w b l) (k : Nat) (x : Int) : Arr (w.setCell ⟨b, k, none⟩ (.int .u8 x)) b (l.set k x) := by
  refine blk_put h k _ ?_
  simp [nums, List.map_set]
theorem full_length (x : Int) : (full x).length = 8 := by simp [full]
def row (x : Int) (k : Nat) : List Int := (full x).take k ++ List.replicate (8 - k) 0
theorem row_length {x : Int} {k : Nat} (h : k ≤ 8) : (row x k).length = 8 := by simp [row, full_length]; omega
theorem row_set {x : Int} {k : Nat} (h : k < 8) : (row x k).set k (fb x k) = row x (k + 1) := by
  unfold row
  apply List.ext_getElem?
  intro i
  rw [List.getElem?_set]
  have hl : ((full x).take k).length = k := by simp [full_length]; omega
  have hl1 : ((full x).take (k + 1)).length = k + 1 := by simp [full_length]; omega
  by_cases h1 : k = i
  · subst h1
    rw [if_pos rfl, if_pos (by simp [full_length]; omega), List.getElem?_append_left (by omega), List.getElem?_take_of_lt (by omega)]
    simp [full, h]
  · rw [if_neg h1]
    rcases Nat.lt_or_ge i k with h2 | h2
    · rw [List.getElem?_append_left (by omega), List.getElem?_append_left (by omega), List.getElem?_take_of_lt h2, List.getElem?_take_of_lt (by omega)]
    · rw [List.getElem?_append_right (by omega), List.getElem?_append_right (by omega), hl, hl1, List.getElem?_replicate, List.getElem?_replicate]
      by_cases h3 : i < 8
      · rw [if_pos (by omega), if_pos (by omega)]
      · rw [if_neg (by omega), if_neg (by omega)]
theorem arr_c {w : World} {g : Nat} {l : List Int} (h : Arr w g l) (hl : l.length ≤ 100) (k : Nat) : Kd.C (Kd.int .u8) w (some ⟨g, k, none⟩) (l.drop k).length (l.drop k) :=
  Kd.C_of_reads (d := (0 : Int)) (h1 := fun _ => rfl) ⟨rfl, by rw [List.length_drop]; omega, fun _ => ⟨_, rfl, fun j hj => by
    rw [List.length_drop] at hj
    have hc := h.cell (k + j) (by omega)
    have e : (l.drop k).getD j 0 = l.getD (k + j) 0 := by rw [List.getD_eq_getElem?_getD, List.getD_eq_getElem?_getD, List.getElem?_drop]
    rw [e, ← hc]
    unfold Addr.add
    split
    · rename_i e0; subst e0; rfl
    · rfl⟩⟩
theorem cast_slice {P : Program} {f : FuncId} {A : Option Addr} {n n' c : Nat} {w : World} {Q : Ending → World → Prop} (h : n = n') (k : Calls P f #[.slice A n' c] w Q) : Calls P f #[.slice A n c] w Q := h ▸ k
theorem slice_arr (g k : Nat) (hk : k ≤ 7) (W : World) : (Instr.sliceAt 45 (.pointer (some ⟨g, 0, none⟩)) (some (.int .i64 (k : Int))) none none).run Tryd.prog W = .ok (.slice (some ⟨g, k, none⟩) (8 - k) (8 - k)) W := by
  have hl : Tryd.prog.arrayLen 45 = 8 := by kernel_rfl
  have he : Tryd.prog.elem 45 = 5 := by kernel_rfl
  obtain ⟨i5, hi5, _, hsz5, _⟩ := info_parts inf5
  rw [run_sliceAt_array_l W 45 _ (by rw [hl, he]; exact Tryd.underlying45) .i64 (k : Int) (by omega) (by rw [hl]; omega), hl, he]
  simp only [sizeOf, typeInfo]
  simp [hi5, hsz5, slicedAt, Result.andThen]
  rw [if_neg (by omega)]
  unfold Addr.add
  split
  · rename_i e; subst e; rfl
  · simp
theorem norm_stop {l : List Int} (h : idle l = false) : norm l = l := by
  cases l with
  | nil => rfl
  | cons a r => rw [norm, h]; rfl
theorem norm_step {l : List Int} {k : Nat} (h : idle (l.drop k) = true) (hk : k < l.length) : norm (l.drop k) = norm (l.drop (k + 1)) := by
  rw [List.drop_eq_getElem_cons hk] at h ⊢
  rw [norm, h]
  rfl
set_option maxHeartbeats 4000000 in
theorem put_calls (x : Int) (w : World) : Calls Tryd.prog 17 #[.int .i64 x] w fun e w' => ∃ v, e = .returned v ∧ Kd.R (Kd.int .u8) 5 w' w.heap.size (fun _ => True) v (norm (full x)) ∧ Below w.heap.size w w' := by
  go_enter Tryd.func17, Tryd.ntmps17
  go_wp2_with fail
  go_loopw [4, 6] (fun _ i wr => ∃ k : Nat, k ≤ 8 ∧ i = .int .i64 k ∧ Hid (Arr wr w.heap.size (row x k)) ∧ Hid (Below w.heap.size w wr)) (fun _ i _ => 8 - (intOf i).toNat)
  case atStart => exact ⟨0, by omega, rfl, blk_new w _, (Below.refl _ _).alloc (Nat.le_refl _) _⟩
  case round =>
    obtain ⟨k, hk, rfl, HA, HB⟩ := hrel
    by_cases hlt : k < 8
    · have hc := HA.out.cell k (by rw [row_length hk]; exact hlt)
      have hf := HA.out.frozen k
      go_wp2
      go_roundw
      case rel =>
        refine ⟨k + 1, by omega, by go_num, Lib.hid ?_, Lib.hid (HB.out.setCell (Nat.le_refl _) _)⟩
        have h := HA.out.set k (fb x k)
        rw [row_set hlt] at h
        exact h
      case measure => simp [intOf]; omega
    · have hk8 : k = 8 := by omega
      have HA := Lib.hid (show Arr wr w.heap.size (full x) by
        have h := HA.out
        rw [hk8, show row x 8 = full x by unfold row; rw [List.take_of_length_le (by simp [full_length])]; simp] at h
        exact h)
      clear hk8
      have HG := Lib.hid (show w.heap.size < wr.heap.size from blk_lt HA.out)
      generalize hg : w.heap.size = g at *
      go_wp2
      go_loopw [5] (fun i wq => ∃ k : Nat, k ≤ 7 ∧ i = .int .i64 k ∧ norm ((full x).drop k) = norm (full x) ∧ wq = wr) (fun i _ => 8 - (intOf i).toNat)
      case atStart => exact ⟨0, by omega, rfl, rfl, rfl⟩
      case round =>
        obtain ⟨k, hk, rfl, hn, rfl⟩ := hrel
        have hdl : ((full x).drop k).length = 8 - k := by rw [List.length_drop, full_length]
        have HC := Lib.hid (arr_c HA.out (by rw [full_length]; omega) k)
        have HOK := Lib.hid (show okb ((full x).drop k) = true by
          have hb := full_okb x
          unfold okb at *
          rw [List.all_eq_true] at *
          exact fun y hy => hb y (List.mem_of_mem_drop hy))
        have HDL := Lib.hid hdl
        have hsl := slice_arr g k hk
        have HN := Lib.hid hn
        clear hdl hn
        cases hd : idle ((full x).drop k) with
        | true =>
          have HD := Lib.hid hd
          have hk7 : k < 7 := by
            rcases Nat.lt_or_ge k 7 with h | h
            · exact h
            · obtain rfl : k = 7 := by omega
              have h1 := HDL.out
              match hh : (full x).drop 7, h1 with
              | [a], _ => rw [hh] at hd; simp [idle] at hd
          have HS := Lib.hid (norm_step (l := full x) (k := k) hd (by rw [full_length]; omega))
          clear hd
          go_wp2_with (go_at_call 23; refine cast_slice (n' := ((full x).drop k).length) (by have := HDL.out; omega) ?_; refine (idle_calls _ _ _ _ HC.out HOK.out).mono ?_; rintro e w1 ⟨rfl, rfl⟩; rw [HD.out])
          go_roundw
          case rel => exact ⟨k + 1, by omega, by go_num, by rw [← HS.out, HN.out], trivial⟩
          case measure => simp [intOf]; omega
        | false =>
          have HD := Lib.hid hd
          have HF := Lib.hid (show norm (full x) = (full x).drop k by rw [← HN.out, norm_stop hd])
          clear hd
          have HCk := Lib.hid (show Kd.C (Kd.int .u8) wr (some ⟨g, k, none⟩) (8 - k) ((full x).drop k) from by have h := HC.out; rw [HDL.out] at h; exact h)
          go_wp2_with (first | (go_at_call 23; refine cast_slice (n' := ((full x).drop k).length) (by have := HDL.out; omega) ?_; refine (idle_calls _ _ _ _ HC.out HOK.out).mono ?_; rintro e w1 ⟨rfl, rfl⟩; rw [HD.out]) | ((with_reducible refine gate_dst (N := 23) rfl ?_); refine Kd.R_lit (Kd.int .u8) (w0 := wr) wr.heap.size 5 ?hg (N := 23) ?hd (xs := ([] : List Int)) (inner := []) (ok := fun _ => True) (okp := fun _ => True) ?hr ?hp (fun _ hk => hk) trivial (Below.refl _ _) (Nat.le_refl _) (by simp) ?_; (case hd => rfl); (case hg => rfl); (case hr => first | (go_simp; done) | (go_simp; rfl)); (case hp => exact (Reps.none _ _)); intro v23 w23 ho hb hg hnew; clear hg hnew; have Pv23 := Lib.hid ho; have Hv23 := Lib.hid hb; clear ho hb) | ((with_reducible refine gate_builtin (b := .append) (xs := #[.tmp 23, .tmp 25]) rfl ?_); at_builtin; refine Kd.R_append_rows (Kd.int .u8) (w0 := wr) wr.heap.size rfl (.tmp 23) (.tmp 25) 32 5 (.int .u8 0) 1 rfl Tryd.underlying32 inf5 rfl (by decide) (by omega) v23 [] ((full x).drop k) (some ⟨g, k, none⟩) (8 - k) (8 - k) (fun _ => True) (fun _ => False) rfl rfl Pv23.out (Kd.C_below HCk.out Hv23.out) (fun _ _ h => h) (fun _ h => h.elim) (fun _ _ => trivial) Hv23.out Hv23.out.size (by simp; omega) ?_; intro v26 w26 ho hb hg hat; clear hg hat; rw [List.nil_append] at ho; have Pv26 := Lib.hid ho; have Hv26 := Lib.hid hb; clear ho hb Pv23 Hv23))
          go_ret
          exact ⟨_, rfl, by rw [HF.out]; exact Kd.R_lower Pv26.out (by have := HB.out.size; omega), below_step (by subst hg; exact HB.out) Hv26.out⟩
end Go.Proofs.YtcbppladofnnlaaDoor.H
