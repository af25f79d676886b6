/- Scan returns the documented records, number and error for any bytes: the walk. Conditions: none beyond the statement's own. -/
import Derived.Test.YtojdkfhjhheeaaaScanW
import Derived.Lib.SlBytesConst
namespace Go.Proofs.Ytojdkfhjhheeaaa.H
open Go.RowKit Go.Proofs.YtojdkfhjhheeaaaW.PrintWords Go.Proofs.YtojdkfhjhheeaaaW.PrintLast Go.Proofs.YtojdkfhjhheeaaaW.PrintMore
set_option linter.unusedVariables false
set_option linter.unusedSimpArgs false
theorem eight_cells (w : World) (i : Nat) (hi : i < 8) : (w.alloc (.cells #[.int .u8 0, .int .u8 0, .int .u8 0, .int .u8 0, .int .u8 28, .int .u8 223, .int .u8 68, .int .u8 33] 5 (8, 9))).cell? ⟨w.heap.size, i, none⟩ = some (.int .u8 (([0, 0, 0, 0, 28, 223, 68, 33] : List Int).getD i 0)) := by
  rw [World.cell?_alloc_mark]
  rcases (by omega : i = 0 ∨ i = 1 ∨ i = 2 ∨ i = 3 ∨ i = 4 ∨ i = 5 ∨ i = 6 ∨ i = 7) with rfl | rfl | rfl | rfl | rfl | rfl | rfl | rfl <;> rfl
theorem opened_eight : opened [0, 0, 0, 0, 28, 223, 68, 33] = ([], 8, 0) := by decide +kernel
theorem open_eight (b : Nat) (w : World) (h : ∀ i, i < 8 → w.cell? ⟨b, i, none⟩ = some (.int .u8 (([0, 0, 0, 0, 28, 223, 68, 33] : List Int).getD i 0))) :
    Calls Try.prog 13 #[.slice (some ⟨b, 0, none⟩) 8 8] w fun e w' => ∃ A c, e = .returned (.tuple #[.slice A 0 c, .int .i64 8, .int .i64 0]) ∧ Below w.heap.size w w' := by
  have := open_calls (some ⟨b, 0, none⟩) 8 [0, 0, 0, 0, 28, 223, 68, 33] w (Kd.C_of_reads (d := (0 : Int)) (h1 := fun _ => rfl) ⟨rfl, by decide, fun _ => ⟨_, rfl, fun j hj => by
    have h2 := h j hj
    rw [← h2]
    unfold Addr.add
    split
    · rename_i e; subst e; rfl
    · simp⟩⟩) (by decide) (by decide) (by decide)
  unfold OpenPost at this
  rw [opened_eight] at this
  exact this.mono fun e w' ⟨v, he, hr, hb⟩ => by
    obtain ⟨A, c, rfl⟩ := Kd.R_slice hr
    exact ⟨A, c, he, hb⟩
theorem f8 : ((strOfNums [0, 0, 0, 0, 28, 223, 68, 33]).toList == [0, 0, 0, 0, 28, 223, 68, 33]) = true := by decide +kernel
theorem sealed_nil : sealed [] = [0, 0, 0, 0, 28, 223, 68, 33] := by decide +kernel
/-- An element of a row of rows. -/
theorem row_at {W : World} {A : Option Addr} {n : Nat} {rows : List (List Int)} (h : Kd.C (Kd.slice 5 (Kd.int .u8)) W A n rows) (i : Nat) (hi : i < n) :
    ∃ ad B d, A = some ad ∧ (rows.getD i []).length ≤ d ∧ W.cell? (ad.add i) = some (.slice B (rows.getD i []).length d) ∧ Kd.C (Kd.int .u8) W B (rows.getD i []).length (rows.getD i []) := by
  obtain ⟨ad, c, e, _, ⟨B, d, rfl, h1, h2⟩, h3⟩ := Kd.C_get h [] (i : Int) (by omega) (by omega)
  rw [Int.toNat_natCast] at *
  have h4 := h3 0 _ rfl
  refine ⟨ad, B, d, e, h1, ?_, h2⟩
  have e1 : i * (Kd.slice 5 (Kd.int .u8)).sz + 0 = i := by show i * 1 + 0 = i; omega
  rwa [e1] at h4

set_option maxHeartbeats 4000000 in
theorem scans_short (A : Option Addr) (c : Nat) (l : List Int) (w : World) (hr : Kd.C (Kd.int .u8) w A l.length l) (hc : l.length ≤ c) (hb : okb l = true) (hl : l.length ≤ 3000) :
    Calls Try.prog 6 #[.slice A l.length c] w fun e w' => e = .returned (.bool true) ∧ Below w.heap.size w w' := by
  have HX := Lib.hid (show Kd.C (Kd.int .u8) w A (l).length l by exact hr)
  have HN := Lib.hid (show (l).length = l.length by rfl)
  have HC := Lib.hid (show (l).length ≤ c by exact hc)
  have HK := Lib.hid (show okb l = true by exact hb)
  have HZ := Lib.hid (show (l).length ≤ 3000 by omega)
  have cut : decide ((3000 : Int) < (l.length : Int)) = false := by simp; omega
  clear hr hb
  go_enter Try.func6, Try.ntmps6
  go_wp2_with (first | (go_at_call 16; (with_reducible refine cast_len (A := A) (n' := (l).length) ?hl16 ?_); (case hl16 => first | rfl | exact HN.out.symm); refine (scan_calls A c l _ HX.out HC.out HK.out (by have := HZ.out; omega)).mono ?_; rintro e w22 ⟨v3, rfl, ho, hb⟩; (obtain ⟨A3, c3, e3, hl3, hC3⟩ := Kd.S_reads ho); subst e3; have HX2 := Lib.hid (Kd.C_below HX.out hb); have HB2 := Lib.hid hb; have H3 := Lib.hid hC3; clear ho hb hl3 hC3 HX) | (go_at_call 17; (with_reducible refine cast_len (A := A) (n' := (l).length) ?hl17 ?_); (case hl17 => first | rfl | exact HN.out.symm); refine (ref_scan_calls A c l _ HX2.out HC.out HK.out (by have := HZ.out; omega)).mono ?_; rintro e w28 ⟨A6, c6, rfl, hC6, hb⟩; have HB3 := Lib.hid (below_step HB2.out hb); have H3' := Lib.hid (Kd.C_below H3.out hb); have H6 := Lib.hid hC6; clear H3 HB2 HX2 hb hC6; generalize hsc : scan l = sc at *; (obtain ⟨rows, us, es⟩ := sc); clear hsc))
  go_loopw [9] (fun v9 wr => ∃ i : Nat, v9 = .int .i64 (i : Int) ∧ Hid (i ≤ rows.length) ∧ Hid (Kd.C (Kd.slice 5 (Kd.int .u8)) wr A3 rows.length rows) ∧ Hid (Kd.C (Kd.slice 5 (Kd.int .u8)) wr A6 rows.length rows) ∧ Hid (Below w.heap.size w wr)) (fun v9 _ => rows.length - (intOf v9).toNat)
  case atStart => exact ⟨0, rfl, Lib.hid (by omega), H3', H6, HB3⟩
  clear H3' H6 HB3
  case round =>
    obtain ⟨i, rfl, HI, H3, H6, HB⟩ := hrel
    by_cases hlt : i < rows.length
    · have d1 : decide ((i : Int) < (rows.length : Int)) = true := by simp; omega
      obtain ⟨ad3, B3, d3, rfl, hl3, hk3, hx3⟩ := row_at H3.out i hlt
      obtain ⟨ad6, B6, d6, rfl, hl6, hk6, hx6⟩ := row_at H6.out i hlt
      generalize rows.getD i [] = X at *
      have X3 := Lib.hid hx3
      have X6 := Lib.hid hx6
      have K3 := Lib.hid (show wr.cell? (ad3.add i) = some (.slice B3 X.length d3) from hk3)
      have K6 := Lib.hid (show wr.cell? (ad6.add i) = some (.slice B6 X.length d6) from hk6)
      have d2 : (i : Int) < (rows.length : Int) := by omega
      clear hx3 hx6 hk3 hk6 hl3 hl6
      go_wp2
      refine start_ (n := 11) (S := fun w' => (Below w.heap.size w w') ∧ (Kd.C (Kd.slice 5 (Kd.int .u8)) w' (some ad3) rows.length rows) ∧ (Kd.C (Kd.slice 5 (Kd.int .u8)) w' (some ad6) rows.length rows) ∧ (w'.cell? (ad3.add i) = some (.slice B3 X.length d3)) ∧ (w'.cell? (ad6.add i) = some (.slice B6 X.length d6)) ∧ (Kd.C (Kd.int .u8) w' B3 X.length X) ∧ (Kd.C (Kd.int .u8) w' B6 X.length X)) (ds := []) #[false, false, false, false, false, false, false, false, false, false, false] (by kernel_rfl) rfl rfl ⟨(by repeat (first | exact HB.out | apply below_drew | apply pw_below_drewN)), (by first | exact H3.out | exact Kd.C_drew H3.out), (by first | exact H6.out | exact Kd.C_drew H6.out), K3.out, K6.out, (by first | exact X3.out | exact Kd.C_drew X3.out), (by first | exact X6.out | exact Kd.C_drew X6.out)⟩ (fun hHeld => ?_)
      refine pure_ (i := 0) (N := some 53) (v := ?_) (a' := ?_) #[true, false, false, false, false, false, false, false, false, false, false] rfl rfl (by kernel_rfl) (fun _ _ _ h => h) (Or.inl ⟨by rfl, ?_⟩) ?_ ?_
      rotate_left
      · intro w'
        go_simp
        with_reducible rfl
      rotate_left
      · simp only [Act.put, List.setIfInBounds_toArray, List.set_cons_zero, List.set_cons_succ, i64_w, i32_w]
        rfl
      refine pure_ (i := 1) (N := some 54) (v := ?_) (a' := ?_) #[true, true, false, false, false, false, false, false, false, false, false] rfl rfl (by kernel_rfl) (fun _ _ _ h => h) (Or.inl ⟨by rfl, ?_⟩) ?_ ?_
      rotate_left
      · intro w'
        go_simp
        with_reducible rfl
      rotate_left
      · simp only [Act.put, List.setIfInBounds_toArray, List.set_cons_zero, List.set_cons_succ, i64_w, i32_w]
        rfl
      refine pure_ (i := 2) (N := some 55) (v := ?_) (a' := ?_) #[true, true, true, false, false, false, false, false, false, false, false] rfl rfl (by kernel_rfl) (fun _ _ _ h => h) (Or.inl ⟨by rfl, ?_⟩) ?_ ?_
      rotate_left
      · intro w'
        go_simp
        with_reducible rfl
      rotate_left
      · simp only [Act.put, List.setIfInBounds_toArray, List.set_cons_zero, List.set_cons_succ, i64_w, i32_w]
        rfl
      refine pure_ (i := 5) (N := some 58) (v := ?_) (a' := ?_) #[true, true, true, false, false, true, false, false, false, false, false] rfl rfl (by kernel_rfl) (fun _ _ _ h => h) (Or.inl ⟨by rfl, ?_⟩) ?_ ?_
      rotate_left
      · intro w'
        go_simp
        with_reducible rfl
      rotate_left
      · simp only [Act.put, List.setIfInBounds_toArray, List.set_cons_zero, List.set_cons_succ, i64_w, i32_w]
        rfl
      refine pure_ (i := 6) (N := some 59) (v := ?_) (a' := ?_) #[true, true, true, false, false, true, true, false, false, false, false] rfl rfl (by kernel_rfl) (fun _ _ _ h => h) (Or.inl ⟨by rfl, ?_⟩) ?_ ?_
      rotate_left
      · intro w'
        go_simp
        with_reducible rfl
      rotate_left
      · simp only [Act.put, List.setIfInBounds_toArray, List.set_cons_zero, List.set_cons_succ, i64_w, i32_w]
        rfl
      refine pure_ (i := 7) (N := some 60) (v := ?_) (a' := ?_) #[true, true, true, false, false, true, true, true, false, false, false] rfl rfl (by kernel_rfl) (fun _ _ _ h => h) (Or.inl ⟨by rfl, ?_⟩) ?_ ?_
      rotate_left
      · intro w'
        go_simp
        with_reducible rfl
      rotate_left
      · simp only [Act.put, List.setIfInBounds_toArray, List.set_cons_zero, List.set_cons_succ, i64_w, i32_w]
        rfl
      refine take_ (i := 3) (N := some 56) (v := ?_) (a' := ?_) #[true, true, true, true, false, true, true, true, false, false, false] rfl rfl (by kernel_rfl) (fun _ _ _ h => h) (Or.inl ⟨by rfl, ?_⟩) hHeld ?_ ?_
      rotate_left
      · rintro w' ⟨hB, h3, h6, k3, k6, x3, x6⟩
        go_simp
        with_reducible rfl
      rotate_left
      · simp only [Act.put, List.setIfInBounds_toArray, List.set_cons_zero, List.set_cons_succ, i64_w, i32_w]
        rfl
      refine take_ (i := 4) (N := some 57) (v := ?_) (a' := ?_) #[true, true, true, true, true, true, true, true, false, false, false] rfl rfl (by kernel_rfl) (fun _ _ _ h => h) (Or.inl ⟨by rfl, ?_⟩) hHeld ?_ ?_
      rotate_left
      · rintro w' ⟨hB, h3, h6, k3, k6, x3, x6⟩
        have cv3 := Kd.C_string (P := Try.prog) (c := d3) Try.underlying22 Try.underlying5 Try.underlying9 x3
        go_simp
        with_reducible rfl
      rotate_left
      · simp only [Act.put, List.setIfInBounds_toArray, List.set_cons_zero, List.set_cons_succ, i64_w, i32_w]
        rfl
      refine take_ (i := 8) (N := some 61) (v := ?_) (a' := ?_) #[true, true, true, true, true, true, true, true, true, false, false] rfl rfl (by kernel_rfl) (fun _ _ _ h => h) (Or.inl ⟨by rfl, ?_⟩) hHeld ?_ ?_
      rotate_left
      · rintro w' ⟨hB, h3, h6, k3, k6, x3, x6⟩
        go_simp
        with_reducible rfl
      rotate_left
      · simp only [Act.put, List.setIfInBounds_toArray, List.set_cons_zero, List.set_cons_succ, i64_w, i32_w]
        rfl
      refine take_ (i := 9) (N := some 62) (v := ?_) (a' := ?_) #[true, true, true, true, true, true, true, true, true, true, false] rfl rfl (by kernel_rfl) (fun _ _ _ h => h) (Or.inl ⟨by rfl, ?_⟩) hHeld ?_ ?_
      rotate_left
      · rintro w' ⟨hB, h3, h6, k3, k6, x3, x6⟩
        have cv6 := Kd.C_string (P := Try.prog) (c := d6) Try.underlying22 Try.underlying5 Try.underlying9 x6
        go_simp
        with_reducible rfl
      rotate_left
      · simp only [Act.put, List.setIfInBounds_toArray, List.set_cons_zero, List.set_cons_succ, i64_w, i32_w]
        rfl
      refine pure_ (i := 10) (N := some 63) (v := ?_) (a' := ?_) #[true, true, true, true, true, true, true, true, true, true, true] rfl rfl (by kernel_rfl) (fun _ _ _ h => h) (Or.inl ⟨by rfl, ?_⟩) ?_ ?_
      rotate_left
      · intro w'
        go_simp
        with_reducible rfl
      rotate_left
      · simp only [Act.put, List.setIfInBounds_toArray, List.set_cons_zero, List.set_cons_succ, i64_w, i32_w]
        rfl
      refine done_ (by kernel_rfl) ?_
      obtain ⟨hB, h3, h6, _⟩ := hHeld
      go_wp2_with fail
      have e5 : wrap64 ((i : Int) + 1) = ((i + 1 : Nat) : Int) := by have := Kd.C_max h3; unfold wrap64; omega
      go_roundw
      case rel => exact ⟨i + 1, by rw [e5], Lib.hid (by omega), Lib.hid h3, Lib.hid h6, Lib.hid hB⟩
      case measure =>
        rw [e5]
        show rows.length - ((((i + 1 : Nat)) : Int)).toNat < rows.length - ((i : Nat) : Int).toNat
        rw [Int.toNat_natCast, Int.toNat_natCast]
        omega
    · have d1 : decide ((i : Int) < (rows.length : Int)) = false := by simp; omega
      have hcv := Go.Lib.run_convert_bytes_const (P := Try.prog) wr 22 5 #[.int .u8 0, .int .u8 0, .int .u8 0, .int .u8 0, .int .u8 28, .int .u8 223, .int .u8 68, .int .u8 33] 8 8 Try.underlying22 Try.underlying5
      go_wp2_with (first | (go_at_call 13; refine (open_eight wr.heap.size _ (eight_cells wr)).mono ?_; rintro e w7 ⟨A7, c7, rfl, hb⟩; have HB7 := Lib.hid (below_step (below_alloc HB.out _) hb); clear hb) | (go_at_call 11; refine cast_len (A := none) (n' := ([] : List Int).length) rfl ?_; refine (seal_calls none 0 [] _ (Kd.C_nil _ _) (Nat.le_refl _) rfl (by simp)).mono ?_; rintro e w8 ⟨v8, rfl, ho, hb⟩; rw [sealed_nil] at ho; have cv8 := own_string (P := Try.prog) Try.underlying22 Try.underlying5 Try.underlying9 (Kd.own_of_R ho); have HB8 := Lib.hid (below_step HB7.out hb); clear ho hb))
      rw [f8]
      go_ret
      exact ⟨rfl, HB8.out⟩

set_option maxHeartbeats 4000000 in
theorem scans_long (A : Option Addr) (c : Nat) (l : List Int) (w : World) (hr : Kd.C (Kd.int .u8) w A 3000 (l.take 3000)) (hc : l.length ≤ c) (hb : okb l = true) (hl : 3000 < l.length) :
    Calls Try.prog 6 #[.slice A l.length c] w fun e w' => e = .returned (.bool true) ∧ Below w.heap.size w w' := by
  have HX := Lib.hid (show Kd.C (Kd.int .u8) w A ((l.take 3000)).length (l.take 3000) by have h := hr; rw [show (l.take 3000).length = 3000 by rw [List.length_take]; omega]; exact h)
  have HN := Lib.hid (show ((l.take 3000)).length = 3000 by rw [List.length_take]; omega)
  have HC := Lib.hid (show ((l.take 3000)).length ≤ c by rw [List.length_take]; omega)
  have HK := Lib.hid (show okb (l.take 3000) = true by exact okb_take hb _)
  have HZ := Lib.hid (show ((l.take 3000)).length ≤ 3000 by rw [List.length_take]; omega)
  have cut : decide ((3000 : Int) < (l.length : Int)) = true := by simp; omega
  have cut2 : (3000 : Int) ≤ (c : Int) := by omega
  clear hr hb
  go_enter Try.func6, Try.ntmps6
  go_wp2_with (first | (go_at_call 16; (with_reducible refine cast_len (A := A) (n' := ((l.take 3000)).length) ?hl16 ?_); (case hl16 => first | rfl | exact HN.out.symm); refine (scan_calls A c (l.take 3000) _ HX.out HC.out HK.out (by have := HZ.out; omega)).mono ?_; rintro e w22 ⟨v3, rfl, ho, hb⟩; (obtain ⟨A3, c3, e3, hl3, hC3⟩ := Kd.S_reads ho); subst e3; have HX2 := Lib.hid (Kd.C_below HX.out hb); have HB2 := Lib.hid hb; have H3 := Lib.hid hC3; clear ho hb hl3 hC3 HX) | (go_at_call 17; (with_reducible refine cast_len (A := A) (n' := ((l.take 3000)).length) ?hl17 ?_); (case hl17 => first | rfl | exact HN.out.symm); refine (ref_scan_calls A c (l.take 3000) _ HX2.out HC.out HK.out (by have := HZ.out; omega)).mono ?_; rintro e w28 ⟨A6, c6, rfl, hC6, hb⟩; have HB3 := Lib.hid (below_step HB2.out hb); have H3' := Lib.hid (Kd.C_below H3.out hb); have H6 := Lib.hid hC6; clear H3 HB2 HX2 hb hC6; generalize hsc : scan (l.take 3000) = sc at *; (obtain ⟨rows, us, es⟩ := sc); clear hsc))
  go_loopw [9] (fun v9 wr => ∃ i : Nat, v9 = .int .i64 (i : Int) ∧ Hid (i ≤ rows.length) ∧ Hid (Kd.C (Kd.slice 5 (Kd.int .u8)) wr A3 rows.length rows) ∧ Hid (Kd.C (Kd.slice 5 (Kd.int .u8)) wr A6 rows.length rows) ∧ Hid (Below w.heap.size w wr)) (fun v9 _ => rows.length - (intOf v9).toNat)
  case atStart => exact ⟨0, rfl, Lib.hid (by omega), H3', H6, HB3⟩
  clear H3' H6 HB3
  case round =>
    obtain ⟨i, rfl, HI, H3, H6, HB⟩ := hrel
    by_cases hlt : i < rows.length
    · have d1 : decide ((i : Int) < (rows.length : Int)) = true := by simp; omega
      obtain ⟨ad3, B3, d3, rfl, hl3, hk3, hx3⟩ := row_at H3.out i hlt
      obtain ⟨ad6, B6, d6, rfl, hl6, hk6, hx6⟩ := row_at H6.out i hlt
      generalize rows.getD i [] = X at *
      have X3 := Lib.hid hx3
      have X6 := Lib.hid hx6
      have K3 := Lib.hid (show wr.cell? (ad3.add i) = some (.slice B3 X.length d3) from hk3)
      have K6 := Lib.hid (show wr.cell? (ad6.add i) = some (.slice B6 X.length d6) from hk6)
      have d2 : (i : Int) < (rows.length : Int) := by omega
      clear hx3 hx6 hk3 hk6 hl3 hl6
      go_wp2
      refine start_ (n := 11) (S := fun w' => (Below w.heap.size w w') ∧ (Kd.C (Kd.slice 5 (Kd.int .u8)) w' (some ad3) rows.length rows) ∧ (Kd.C (Kd.slice 5 (Kd.int .u8)) w' (some ad6) rows.length rows) ∧ (w'.cell? (ad3.add i) = some (.slice B3 X.length d3)) ∧ (w'.cell? (ad6.add i) = some (.slice B6 X.length d6)) ∧ (Kd.C (Kd.int .u8) w' B3 X.length X) ∧ (Kd.C (Kd.int .u8) w' B6 X.length X)) (ds := []) #[false, false, false, false, false, false, false, false, false, false, false] (by kernel_rfl) rfl rfl ⟨(by repeat (first | exact HB.out | apply below_drew | apply pw_below_drewN)), (by first | exact H3.out | exact Kd.C_drew H3.out), (by first | exact H6.out | exact Kd.C_drew H6.out), K3.out, K6.out, (by first | exact X3.out | exact Kd.C_drew X3.out), (by first | exact X6.out | exact Kd.C_drew X6.out)⟩ (fun hHeld => ?_)
      refine pure_ (i := 0) (N := some 53) (v := ?_) (a' := ?_) #[true, false, false, false, false, false, false, false, false, false, false] rfl rfl (by kernel_rfl) (fun _ _ _ h => h) (Or.inl ⟨by rfl, ?_⟩) ?_ ?_
      rotate_left
      · intro w'
        go_simp
        with_reducible rfl
      rotate_left
      · simp only [Act.put, List.setIfInBounds_toArray, List.set_cons_zero, List.set_cons_succ, i64_w, i32_w]
        rfl
      refine pure_ (i := 1) (N := some 54) (v := ?_) (a' := ?_) #[true, true, false, false, false, false, false, false, false, false, false] rfl rfl (by kernel_rfl) (fun _ _ _ h => h) (Or.inl ⟨by rfl, ?_⟩) ?_ ?_
      rotate_left
      · intro w'
        go_simp
        with_reducible rfl
      rotate_left
      · simp only [Act.put, List.setIfInBounds_toArray, List.set_cons_zero, List.set_cons_succ, i64_w, i32_w]
        rfl
      refine pure_ (i := 2) (N := some 55) (v := ?_) (a' := ?_) #[true, true, true, false, false, false, false, false, false, false, false] rfl rfl (by kernel_rfl) (fun _ _ _ h => h) (Or.inl ⟨by rfl, ?_⟩) ?_ ?_
      rotate_left
      · intro w'
        go_simp
        with_reducible rfl
      rotate_left
      · simp only [Act.put, List.setIfInBounds_toArray, List.set_cons_zero, List.set_cons_succ, i64_w, i32_w]
        rfl
      refine pure_ (i := 5) (N := some 58) (v := ?_) (a' := ?_) #[true, true, true, false, false, true, false, false, false, false, false] rfl rfl (by kernel_rfl) (fun _ _ _ h => h) (Or.inl ⟨by rfl, ?_⟩) ?_ ?_
      rotate_left
      · intro w'
        go_simp
        with_reducible rfl
      rotate_left
      · simp only [Act.put, List.setIfInBounds_toArray, List.set_cons_zero, List.set_cons_succ, i64_w, i32_w]
        rfl
      refine pure_ (i := 6) (N := some 59) (v := ?_) (a' := ?_) #[true, true, true, false, false, true, true, false, false, false, false] rfl rfl (by kernel_rfl) (fun _ _ _ h => h) (Or.inl ⟨by rfl, ?_⟩) ?_ ?_
      rotate_left
      · intro w'
        go_simp
        with_reducible rfl
      rotate_left
      · simp only [Act.put, List.setIfInBounds_toArray, List.set_cons_zero, List.set_cons_succ, i64_w, i32_w]
        rfl
      refine pure_ (i := 7) (N := some 60) (v := ?_) (a' := ?_) #[true, true, true, false, false, true, true, true, false, false, false] rfl rfl (by kernel_rfl) (fun _ _ _ h => h) (Or.inl ⟨by rfl, ?_⟩) ?_ ?_
      rotate_left
      · intro w'
        go_simp
        with_reducible rfl
      rotate_left
      · simp only [Act.put, List.setIfInBounds_toArray, List.set_cons_zero, List.set_cons_succ, i64_w, i32_w]
        rfl
      refine take_ (i := 3) (N := some 56) (v := ?_) (a' := ?_) #[true, true, true, true, false, true, true, true, false, false, false] rfl rfl (by kernel_rfl) (fun _ _ _ h => h) (Or.inl ⟨by rfl, ?_⟩) hHeld ?_ ?_
      rotate_left
      · rintro w' ⟨hB, h3, h6, k3, k6, x3, x6⟩
        go_simp
        with_reducible rfl
      rotate_left
      · simp only [Act.put, List.setIfInBounds_toArray, List.set_cons_zero, List.set_cons_succ, i64_w, i32_w]
        rfl
      refine take_ (i := 4) (N := some 57) (v := ?_) (a' := ?_) #[true, true, true, true, true, true, true, true, false, false, false] rfl rfl (by kernel_rfl) (fun _ _ _ h => h) (Or.inl ⟨by rfl, ?_⟩) hHeld ?_ ?_
      rotate_left
      · rintro w' ⟨hB, h3, h6, k3, k6, x3, x6⟩
        have cv3 := Kd.C_string (P := Try.prog) (c := d3) Try.underlying22 Try.underlying5 Try.underlying9 x3
        go_simp
        with_reducible rfl
      rotate_left
      · simp only [Act.put, List.setIfInBounds_toArray, List.set_cons_zero, List.set_cons_succ, i64_w, i32_w]
        rfl
      refine take_ (i := 8) (N := some 61) (v := ?_) (a' := ?_) #[true, true, true, true, true, true, true, true, true, false, false] rfl rfl (by kernel_rfl) (fun _ _ _ h => h) (Or.inl ⟨by rfl, ?_⟩) hHeld ?_ ?_
      rotate_left
      · rintro w' ⟨hB, h3, h6, k3, k6, x3, x6⟩
        go_simp
        with_reducible rfl
      rotate_left
      · simp only [Act.put, List.setIfInBounds_toArray, List.set_cons_zero, List.set_cons_succ, i64_w, i32_w]
        rfl
      refine take_ (i := 9) (N := some 62) (v := ?_) (a' := ?_) #[true, true, true, true, true, true, true, true, true, true, false] rfl rfl (by kernel_rfl) (fun _ _ _ h => h) (Or.inl ⟨by rfl, ?_⟩) hHeld ?_ ?_
      rotate_left
      · rintro w' ⟨hB, h3, h6, k3, k6, x3, x6⟩
        have cv6 := Kd.C_string (P := Try.prog) (c := d6) Try.underlying22 Try.underlying5 Try.underlying9 x6
        go_simp
        with_reducible rfl
      rotate_left
      · simp only [Act.put, List.setIfInBounds_toArray, List.set_cons_zero, List.set_cons_succ, i64_w, i32_w]
        rfl
      refine pure_ (i := 10) (N := some 63) (v := ?_) (a' := ?_) #[true, true, true, true, true, true, true, true, true, true, true] rfl rfl (by kernel_rfl) (fun _ _ _ h => h) (Or.inl ⟨by rfl, ?_⟩) ?_ ?_
      rotate_left
      · intro w'
        go_simp
        with_reducible rfl
      rotate_left
      · simp only [Act.put, List.setIfInBounds_toArray, List.set_cons_zero, List.set_cons_succ, i64_w, i32_w]
        rfl
      refine done_ (by kernel_rfl) ?_
      obtain ⟨hB, h3, h6, _⟩ := hHeld
      go_wp2_with fail
      have e5 : wrap64 ((i : Int) + 1) = ((i + 1 : Nat) : Int) := by have := Kd.C_max h3; unfold wrap64; omega
      go_roundw
      case rel => exact ⟨i + 1, by rw [e5], Lib.hid (by omega), Lib.hid h3, Lib.hid h6, Lib.hid hB⟩
      case measure =>
        rw [e5]
        show rows.length - ((((i + 1 : Nat)) : Int)).toNat < rows.length - ((i : Nat) : Int).toNat
        rw [Int.toNat_natCast, Int.toNat_natCast]
        omega
    · have d1 : decide ((i : Int) < (rows.length : Int)) = false := by simp; omega
      have hcv := Go.Lib.run_convert_bytes_const (P := Try.prog) wr 22 5 #[.int .u8 0, .int .u8 0, .int .u8 0, .int .u8 0, .int .u8 28, .int .u8 223, .int .u8 68, .int .u8 33] 8 8 Try.underlying22 Try.underlying5
      go_wp2_with (first | (go_at_call 13; refine (open_eight wr.heap.size _ (eight_cells wr)).mono ?_; rintro e w7 ⟨A7, c7, rfl, hb⟩; have HB7 := Lib.hid (below_step (below_alloc HB.out _) hb); clear hb) | (go_at_call 11; refine cast_len (A := none) (n' := ([] : List Int).length) rfl ?_; refine (seal_calls none 0 [] _ (Kd.C_nil _ _) (Nat.le_refl _) rfl (by simp)).mono ?_; rintro e w8 ⟨v8, rfl, ho, hb⟩; rw [sealed_nil] at ho; have cv8 := own_string (P := Try.prog) Try.underlying22 Try.underlying5 Try.underlying9 (Kd.own_of_R ho); have HB8 := Lib.hid (below_step HB7.out hb); clear ho hb))
      rw [f8]
      go_ret
      exact ⟨rfl, HB8.out⟩

theorem scans_walk (a1 : Option Addr) (len1 cap1 : Nat) (z1 : List Int) (w : World) (w1 : (a1 = none ∧ len1 = 0 ∧ cap1 = 0 ∧ z1 = []) ∨ ∃ x, a1 = some x ∧ len1 ≤ cap1 ∧ cap1 ≤ maxLen ∧ z1.length = cap1 ∧ (∀ i, i < z1.length → w.cell? (x.add i) = some (.int .u8 (z1.getD i 0))) ∧ ∀ n ∈ z1, (Lit.int .u8 n).wf = true) :
    Calls Try.prog 6 #[.slice a1 len1 cap1] w fun e w' => e = .returned (.bool true) ∧ Below w.heap.size w w' := by
  obtain ⟨l, rfl, hr0, hm0, hw0, hc0⟩ := ReadsInt.ofRowC w1
  have hok : okb l = true := okb_of hw0
  have hX : Kd.C (Kd.int .u8) w a1 l.length l := Kd.C_of_reads (d := (0 : Int)) (h1 := fun _ => rfl) hr0
  rcases Nat.lt_or_ge 3000 l.length with h | h
  · exact scans_long a1 cap1 l w (by have h2 := Kd.C_take (m := 3000) hX (by omega); rw [show (l.take 3000).length = 3000 by rw [List.length_take]; omega] at h2; exact h2) hc0 hok h
  · exact scans_short a1 cap1 l w hX hc0 hok h
end Go.Proofs.Ytojdkfhjhheeaaa.H
