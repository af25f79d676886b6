/- Records in consecutive frames are scanned back; of any prefix the complete ones are: the walk. Conditions: none beyond the statement's own. -/
import Derived.Test.YtojdkfhjhheeaaaBackP
import Derived.Lib.SlBytesConst
namespace Go.Proofs.Ytojdkfhjhheeaaa.H
open Go.RowKit Go.Proofs.YtojdkfhjhheeaaaW.PrintWords Go.Proofs.YtojdkfhjhheeaaaW.PrintLast Go.Proofs.YtojdkfhjhheeaaaW.PrintMore
set_option linter.unusedVariables false
set_option linter.unusedSimpArgs false
theorem info3 : (Try.prog.info? 3).map (fun i => (i.zero, i.size, i.bytes)) = some (some (.int .i64 0), 1, 8) := by kernel_rfl
/-- An element of a row of rows. -/
theorem row_at {W : World} {A : Option Addr} {n : Nat} {rows : List (List Int)} (h : Kd.C (Kd.slice 5 (Kd.int .u8)) W A n rows) (i : Nat) (hi : i < n) :
    ∃ ad B d, A = some ad ∧ (rows.getD i []).length ≤ d ∧ W.cell? (ad.add i) = some (.slice B (rows.getD i []).length d) ∧ Kd.C (Kd.int .u8) W B (rows.getD i []).length (rows.getD i []) := by
  obtain ⟨ad, c, e, _, ⟨B, d, rfl, h1, h2⟩, h3⟩ := Kd.C_get h [] (i : Int) (by omega) (by omega)
  rw [Int.toNat_natCast] at *
  have h4 := h3 0 _ rfl
  refine ⟨ad, B, d, e, h1, ?_, h2⟩
  have e1 : i * (Kd.slice 5 (Kd.int .u8)).sz + 0 = i := by show i * 1 + 0 = i; omega
  rwa [e1] at h4
theorem nine : more 0 [49, 50, 51, 52, 53, 54, 55, 56, 57] = 3421780262 := by decide +kernel
theorem sum_nine (b : Nat) (w : World) (h : ∀ i, i < 9 → w.cell? ⟨b, i, none⟩ = some (.int .u8 (([49, 50, 51, 52, 53, 54, 55, 56, 57] : List Int).getD i 0))) :
    Calls Try.prog 10 #[.slice (some ⟨b, 0, none⟩) 9 9] w fun e w' => e = .returned (.int .u32 3421780262) ∧ Below w.heap.size w w' := by
  have := sum_calls (some ⟨b, 0, none⟩) 9 [49, 50, 51, 52, 53, 54, 55, 56, 57] w (Kd.C_of_reads (d := (0 : Int)) (h1 := fun _ => rfl) ⟨rfl, by decide, fun _ => ⟨_, rfl, fun j hj => by
    have h2 := h j hj
    rw [← h2]
    unfold Addr.add
    split
    · rename_i e; subst e; rfl
    · simp⟩⟩) (by decide) (by decide)
  rwa [nine] at this
theorem nine_cells (w : World) (i : Nat) (hi : i < 9) : (w.alloc (.cells #[.int .u8 49, .int .u8 50, .int .u8 51, .int .u8 52, .int .u8 53, .int .u8 54, .int .u8 55, .int .u8 56, .int .u8 57] 5 (9, 10))).cell? ⟨w.heap.size, i, none⟩ = some (.int .u8 (([49, 50, 51, 52, 53, 54, 55, 56, 57] : List Int).getD i 0)) := by
  rw [World.cell?_alloc_mark]
  rcases (by omega : i = 0 ∨ i = 1 ∨ i = 2 ∨ i = 3 ∨ i = 4 ∨ i = 5 ∨ i = 6 ∨ i = 7 ∨ i = 8) with rfl | rfl | rfl | rfl | rfl | rfl | rfl | rfl | rfl <;> rfl

/-- Where the prefix ends. -/
theorem at_range {L : Nat} (x : Int) (h : L ≤ 10160) : ∃ a : Nat, (wrap64 (x.tmod ((L : Int) + 1) + ((L : Int) + 1))).tmod ((L : Int) + 1) = (a : Int) ∧ a ≤ L := by
  have h1 := Int.tmod_lt_of_pos x (show (0 : Int) < (L : Int) + 1 by omega)
  have h2 := Int.lt_tmod_of_pos x (show (0 : Int) < (L : Int) + 1 by omega)
  have e1 : wrap64 (x.tmod ((L : Int) + 1) + ((L : Int) + 1)) = x.tmod ((L : Int) + 1) + ((L : Int) + 1) := by unfold wrap64; omega
  rw [e1]
  generalize x.tmod ((L : Int) + 1) = y at *
  have h3 : (y + ((L : Int) + 1)).tmod ((L : Int) + 1) = (y + ((L : Int) + 1)) % ((L : Int) + 1) := Int.tmod_eq_emod_of_nonneg (by omega)
  have h4 := Int.emod_nonneg (y + ((L : Int) + 1)) (show (L : Int) + 1 ≠ 0 by omega)
  have h5 := Int.emod_lt_of_pos (y + ((L : Int) + 1)) (show (0 : Int) < (L : Int) + 1 by omega)
  rw [h3]
  exact ⟨((y + ((L : Int) + 1)) % ((L : Int) + 1)).toNat, by omega, by omega⟩

set_option maxHeartbeats 4000000 in
theorem back_short (x : Int) (A : Option Addr) (c : Nat) (rows : List (List Int)) (w : World) (hr : Kd.C (Kd.slice 5 (Kd.int .u8)) w A rows.length rows) (hc : rows.length ≤ c) (hb : ∀ r ∈ rows, okb r = true) (hl : rows.length ≤ 20) :
    Calls Try.prog 7 #[.slice A rows.length c, .int .i64 x] w fun e w' => e = .returned (.bool true) ∧ Below w.heap.size w w' := by
  have HN := Lib.hid (show (rows).length = rows.length by rfl)
  have HX := Lib.hid (show Kd.C (Kd.slice 5 (Kd.int .u8)) w A (rows).length rows by rw [HN.out]; exact hr)
  have HK := Lib.hid (show ∀ r ∈ rows, okb r = true by exact hb)
  have HZ := Lib.hid (show (rows).length ≤ 20 by rw [HN.out]; omega)
  have cut : decide ((20 : Int) < (rows.length : Int)) = false := by simp; omega
  clear hr hb
  go_enter Try.func7, Try.ntmps7
  go_wp2
  have P6 : Hid (Kd.R (Kd.int .i64) 3 (w.alloc (.cells #[.int .i64 0] 3)) w.heap.size (fun _ => True) (.slice (some ⟨w.heap.size, 0, none⟩) 1 1) [0]) := Lib.hid (Kd.R_of_own (World.ownsRow_lit (base := w.heap.size) (e := 3) (size := 1) w #[.int .i64 0] 1 (Nat.le_refl _) (by decide) rfl) (fun _ _ => trivial))
  have HB : Hid (Below w.heap.size w (w.alloc (.cells #[.int .i64 0] 3))) := Lib.hid (below_alloc (Below.refl _ _) _)
  go_loopw [5, 6, 7] (fun v5 v6 v7 wr => ∃ i : Nat, v7 = .int .i64 (i : Int) ∧ Hid (i ≤ (rows).length) ∧ Hid (Kd.R (Kd.int .u8) 5 wr w.heap.size (fun _ => True) v5 (flat ((rows).take i))) ∧ Hid (Kd.R (Kd.int .i64) 3 wr w.heap.size (fun _ => True) v6 (ends (rows) i)) ∧ Hid (∀ r ∈ (rows).take i, r.length ≤ 500) ∧ Hid (Below w.heap.size w wr)) (fun _ _ v7 _ => (rows).length - (intOf v7).toNat)
  case atStart => exact ⟨0, rfl, Lib.hid (by omega), Lib.hid (Kd.R_nil _ _ _ _ _), Lib.hid (by rw [ends_zero]; exact P6.out), Lib.hid (by simp), HB⟩
  case round =>
    clear P6 HB
    obtain ⟨i, rfl, HI, P5, P6, H5, HB⟩ := hrel
    by_cases hlt : i < rows.length
    · have d1 : decide ((i : Int) < (rows.length : Int)) = true := by simp; omega
      have hlt2 : i < (rows).length := by first | exact hlt | (rw [HN.out]; exact hlt)
      obtain ⟨ad, B, d, eA, hl, hk, hx⟩ := row_at (Kd.C_below HX.out HB.out) i hlt2
      have HA := Lib.hid eA
      have hok : okb ((rows).getD i []) = true := HK.out _ (by rw [List.getD_eq_getElem?_getD, List.getElem?_eq_getElem hlt2, Option.getD_some]; exact List.getElem_mem hlt2)
      have HTS := Lib.hid (take_succ_getD hlt2)
      have HFS := Lib.hid (fl_succ hlt2)
      have HF : Hid (fl (rows) i ≤ 10160) := Lib.hid (by
        have h1 := flat_le (rows := (rows).take i) (m := 500) H5.out
        have h2 : ((rows).take i).length ≤ 20 := by rw [List.length_take]; have := HZ.out; omega
        unfold fl
        omega)
      generalize hX : (rows).getD i [] = X at *
      subst eA
      have hd2 : (i : Int) < (rows.length : Int) := by omega
      have XR := Lib.hid hx
      have XD := Lib.hid hl
      have XK := Lib.hid hok
      clear hx hl hok hX hlt2
      by_cases h5 : 500 < X.length
      · have d2 : decide ((500 : Int) < (X.length : Int)) = true := by simp; omega
        go_wp2
        go_ret
        exact ⟨rfl, HB.out⟩
      · have d2 : decide ((500 : Int) < (X.length : Int)) = false := by simp; omega
        have X5 := Lib.hid h5
        go_wp2_with (first | (go_at_call 11; (with_reducible refine cast_len (A := B) (n' := X.length) ?hl11 ?_); (case hl11 => rfl); refine (seal_calls B d X _ XR.out XD.out XK.out (by have := X5.out; omega)).mono ?_; rintro e w40 ⟨v8, rfl, ho, hb⟩; (obtain ⟨A8, c8, e8, hl8, hC8⟩ := Kd.R_reads ho); subst e8; rw [sealed_length] at *; have hk40 := pw_cell_below hb hk; have P8 := Lib.hid hC8; have HB' := Lib.hid (below_step HB.out hb); have P5' := Lib.hid (Kd.R_below P5.out hb); have P6' := Lib.hid (Kd.R_below P6.out hb); clear ho hb hl8 hC8 HB P5 P6) | ((with_reducible refine gate_builtin (b := .append) (xs := #[.tmp 56, .tmp 57]) rfl ?_); at_builtin; refine Kd.R_append_rows (Kd.int .u8) (w0 := w) w.heap.size rfl (.tmp 56) (.tmp 57) 22 5 (.int .u8 0) 1 rfl Try.underlying22 info5 rfl (by decide) (by omega) _ (flat (rows.take i)) (sealed X) A8 (X.length + 8) c8 (fun _ => True) (fun _ => False) rfl rfl P5'.out P8.out (fun _ _ h => h) (fun _ h => h.elim) (fun _ _ => trivial) HB'.out HB'.out.size (by have h := HF.out; unfold fl at h; have := X5.out; omega) ?_; intro v58 w58 ho hb hg hat; (obtain ⟨A5, c5, e5⟩ := Kd.R_slice ho); have P6' := Lib.hid (Kd.R_over' P6'.out (Kd.R_typed P5'.out) (by decide) hg); clear hg hat; subst e5; have P5 := Lib.hid ho; have HB := Lib.hid hb; clear ho hb P5' HB') | ((with_reducible refine gate_builtin (b := .append) (xs := #[.tmp 59, .tmp 62]) rfl ?_); at_builtin; refine Kd.R_append (Kd.int .i64) (w0 := w) w.heap.size rfl (.tmp 59) (.tmp 62) 45 3 (.int .i64 0) 8 rfl Try.underlying45 info3 rfl (by decide) (by omega) _ (ends rows i) (((flat (rows.take i)).length : Int) + ((sealed X).length : Int)) [.int .i64 (((flat (rows.take i)).length : Int) + ((sealed X).length : Int))] (fun _ => True) (fun _ => False) rfl rfl ?aP62 (fun _ hk => hk.elim) (fun _ _ => trivial) P6'.out HB.out HB.out.size (by rw [ends_length]; have := HI.out; omega) ?_; (case aP62 => exact rfl); intro v63 w63 ho hb hg hat; have P5' := Lib.hid (Kd.R_over' P5.out (Kd.R_typed P6'.out) (by decide) hg); clear hg hat; have P6 := Lib.hid ho; have HB' := Lib.hid hb; clear ho hb P5 P6' HB))
        have hfs := HFS.out
        have hts := HTS.out
        have e7 : ((flat ((rows).take i)).length : Int) + ((sealed X).length : Int) = (fl (rows) (i + 1) : Int) := by rw [hfs, sealed_length]; unfold fl; omega
        have e8 : wrap64 ((i : Int) + 1) = ((i + 1 : Nat) : Int) := by have := HI.out; have := HZ.out; unfold wrap64; omega
        go_roundw
        case rel => exact ⟨i + 1, by first | rfl | rw [e8] | go_num, Lib.hid (by first | omega | (have := HN.out; omega)), Lib.hid (by rw [hts, flat_snoc]; have h := P5'.out; rw [List.length_append] at h; exact h), Lib.hid (by rw [ends_succ, ← e7]; exact P6.out), Lib.hid (by
          intro r hr
          rw [hts] at hr
          rcases List.mem_append.1 hr with hr | hr
          · exact H5.out r hr
          · obtain rfl := List.mem_singleton.1 hr
            have := X5.out
            omega), HB'⟩
        case measure => simp [intOf]; first | omega | (have := HN.out; omega)
    · have hi : i = (rows).length := by have := HI.out; first | omega | (have := HN.out; omega)
      have d1 : decide ((i : Int) < (rows.length : Int)) = false := by simp; omega
      obtain ⟨A5, c5, e5, hl5, hC5⟩ := Kd.R_reads P5.out
      obtain ⟨A6, c6, e6, hl6, hC6⟩ := Kd.R_reads P6.out
      rw [ends_length] at e6 hl6 hC6
      obtain ⟨ad6, eA6, _⟩ := Kd.at_int hC6 0 (by omega) (by omega)
      have hflat : flat ((rows).take i) = flat rows := by rw [hi, List.take_of_length_le (Nat.le_refl _)]
      rw [hflat] at e5 hl5 hC5
      subst e5 e6 eA6
      have HL : Hid ((flat rows).length ≤ 10160) := Lib.hid (by
        have h1 := flat_le (rows := (rows).take i) (m := 500) H5.out
        have h2 : ((rows).take i).length ≤ 20 := by rw [List.length_take]; have := HZ.out; omega
        rw [hflat] at h1
        omega)
      have H5' : Hid (∀ r ∈ rows, okb r = true ∧ r.length ≤ 65536) := Lib.hid (fun r hr => ⟨HK.out r hr, by have h := H5.out r (by rw [hi, List.take_of_length_le (Nat.le_refl _)]; exact hr); omega⟩)
      have HR5 := Lib.hid hC5
      have HL5 := Lib.hid hl5
      have HR6 := Lib.hid hC6
      have HLE : Hid (∀ k, fl rows k ≤ (flat rows).length) := Lib.hid (fun k => fl_mono _ k)
      have HOK5 := Lib.hid (flat_okb HK.out)
      have HFI : Hid (fl rows i = (flat rows).length) := Lib.hid (by unfold fl; rw [hflat])
      have HII := Lib.hid hi
      clear hC5 hl5 hC6 hl6 P5 P6 H5 HI hflat hi
      generalize hL : (flat rows).length = L at *
      obtain ⟨a, ha⟩ := at_range (L := L) x HL.out
      obtain ⟨ha, hal⟩ := ha
      have I1 : (i : Int) ≤ 20 := by have := HII.out; have := HZ.out; omega
      have L1 : (L : Int) ≤ 10160 := by have := HL.out; omega
      go_wp2
      try rw [ha]
      have HAL := Lib.hid hal
      clear ha hal
      go_loopw [11] (fun v11 wq => ∃ k : Nat, v11 = .int .i64 (k : Int) ∧ Hid (k ≤ i) ∧ Hid (fl rows k ≤ a) ∧ wq = wr) (fun v11 _ => i - (intOf v11).toNat)
      case atStart => exact ⟨0, rfl, Lib.hid (by omega), Lib.hid (by simp [fl, flat]), rfl⟩
      case round =>
        obtain ⟨k, rfl, HKI, HKA, rfl⟩ := hrel
        obtain ⟨ad6', eA6, hc0⟩ := Kd.at_int HR6.out (k : Int) (by omega) (by have := HKI.out; omega)
        obtain rfl := Option.some.inj eA6
        rw [ends_rd _ HKI.out, Int.toNat_natCast] at hc0
        by_cases hki : k < i
        · obtain ⟨ad6', eA6, hc1⟩ := Kd.at_int HR6.out ((k + 1 : Nat) : Int) (by omega) (by omega)
          obtain rfl := Option.some.inj eA6
          rw [ends_rd _ (show k + 1 ≤ i by omega), Int.toNat_natCast] at hc1
          have hc1 : wr.cell? ⟨ad6.block, ad6.off + (k + 1), none⟩ = some (.int .i64 (fl rows (k + 1) : Int)) := by have h := hc1; unfold Addr.add at h; rw [if_neg (by omega)] at h; exact h
          clear eA6
          have d3 : decide ((k : Int) + 1 < (i : Int) + 1) = true := by simp; omega
          have d4 : (k : Int) + 1 < (i : Int) + 1 := by omega
          have d5 : (k : Int) < (i : Int) := by omega
          by_cases hfa : fl rows (k + 1) ≤ a
          · have d6 : decide ((fl rows (k + 1) : Int) ≤ (a : Int)) = true := by simp; omega
            go_wp2
            go_roundw
            case rel => exact ⟨k + 1, by first | rfl | go_num, Lib.hid (by omega), Lib.hid hfa, by first | trivial | rfl⟩
            case measure => simp [intOf]; omega
          · have d6 : decide ((fl rows (k + 1) : Int) ≤ (a : Int)) = false := by simp; omega
            have HST : Hid (k < i → a < fl rows (k + 1)) := Lib.hid (fun _ => by omega)
            obtain ⟨i5, hi5, _, hsz5, _⟩ := info_parts info5
            obtain ⟨hcut9, _, _⟩ := print_take_of (P := Try.prog) (Value.int .u8) (0 : Int) 22 5 .i64 Try.underlying22 hi5 hsz5 A5 c5 (flat rows) (a : Int) (by omega) (by rw [hL]; have := HAL.out; omega) (by rw [hL]; exact HL5.out)
            rw [Int.toNat_natCast, List.length_take, hL, Nat.min_eq_left HAL.out] at hcut9
            have HTC : Hid (Kd.C (Kd.int .u8) wr A5 a ((flat rows).take a)) := Lib.hid (by have h := Kd.C_take (m := a) (by rw [hL]; exact HR5.out) (by rw [hL]; exact HAL.out); rw [List.length_take, hL, Nat.min_eq_left HAL.out] at h; exact h)
            have HTL : Hid (((flat rows).take a).length = a) := Lib.hid (by rw [List.length_take, hL, Nat.min_eq_left HAL.out])
            have HTO := Lib.hid (okb_take HOK5.out a)
            have HAC : Hid (a ≤ c5) := Lib.hid (Nat.le_trans HAL.out HL5.out)
            have HAM : Hid (a ≤ 1000000000) := Lib.hid (by have := HAL.out; have := HL.out; omega)
            have HSC := Lib.hid (scan_prefix H5'.out (k := k) (a := a) (by have := HKI.out; have := HII.out; omega) HKA.out (by rw [hL]; exact HAL.out) (fun hk => HST.out (by have := HII.out; omega)))
            have HTK : Hid (((rows).take k).length = k) := Lib.hid (by rw [List.length_take]; have := HKI.out; have := HII.out; omega)
            have K1 : (k : Int) ≤ 20 := by have := HKI.out; omega
            have HGD : Hid (∀ j, j < k → ((rows).take k).getD j [] = (rows).getD j []) := Lib.hid (fun j hj => by rw [List.getD_eq_getElem?_getD, List.getD_eq_getElem?_getD, List.getElem?_take_of_lt hj])
            have HKN : Hid (k ≤ (rows).length) := Lib.hid (by have := HKI.out; have := HII.out; omega)
            clear hi5 hsz5
            by_cases hE : fl rows k = a
            · have d7 : ((fl rows k : Int) == (a : Int)) = true := by simp; omega
              have HSC := Lib.hid (HSC.out.trans (by rw [if_pos hE]))
              go_wp2_with (first | (go_at_call 16; (with_reducible refine cast_len (A := A5) (n' := ((flat rows).take a).length) ?hl16 ?_); (case hl16 => exact HTL.out.symm); refine (scan_calls A5 c5 ((flat rows).take a) _ (by rw [HTL.out]; exact HTC.out) (by rw [HTL.out]; exact HAC.out) HTO.out (by rw [HTL.out]; exact HAM.out)).mono ?_; rintro e w94 ⟨v12, rfl, ho, hb⟩; rw [HSC.out] at ho ⊢; (obtain ⟨A12, c12, e12, hl12, hC12⟩ := Kd.S_reads ho); subst e12; rw [HTK.out] at hC12; simp only [HTK.out] at *; have hc4 := pw_cell_below hb hc0; have HB4 := Lib.hid (below_step HB.out hb); have H12 := Lib.hid hC12; clear ho hl12 hC12 hb))
              go_loopw [16] (fun v16 wz => ∃ j : Nat, v16 = .int .i64 (j : Int) ∧ Hid (j ≤ k) ∧ Hid (Kd.C (Kd.slice 5 (Kd.int .u8)) wz A12 k ((rows).take k)) ∧ Hid (Below w.heap.size w wz)) (fun v16 _ => k - (intOf v16).toNat)
              case atStart => exact ⟨0, rfl, Lib.hid (by omega), H12, HB4⟩
              case round =>
                clear H12 HB4 HB hc4
                obtain ⟨j, rfl, HJ, H12, HB⟩ := hrel
                by_cases hjk : j < k
                · have d8 : decide ((j : Int) < (k : Int)) = true := by simp; omega
                  have d9 : (j : Int) < (k : Int) := by omega
                  obtain ⟨ad12, B3, d3, rfl, hl3, hk3, hx3⟩ := row_at H12.out j hjk
                  obtain ⟨adA, B6, d6, rfl, hl6, hk6, hx6⟩ := row_at (Kd.C_below HX.out HB.out) j (by have := HKN.out; omega)
                  rw [HGD.out j hjk] at hk3 hx3
                  generalize (rows).getD j [] = X at *
                  have X3 := Lib.hid hx3
                  have X6 := Lib.hid hx6
                  have K3 := Lib.hid hk3
                  have K6 := Lib.hid hk6
                  have d10 : (j : Int) < (rows.length : Int) := by have := HKN.out; have := HII.out; first | omega | (have := HN.out; omega)
                  clear hx3 hx6 hk3 hk6 hl3 hl6
                  go_wp2
                  refine start_ (n := 11) (S := fun w' => (Below w.heap.size w w') ∧ (Kd.C (Kd.slice 5 (Kd.int .u8)) w' (some ad12) k ((rows).take k)) ∧ (w'.cell? (ad12.add j) = some (.slice B3 X.length d3)) ∧ (w'.cell? (adA.add j) = some (.slice B6 X.length d6)) ∧ (Kd.C (Kd.int .u8) w' B3 X.length X) ∧ (Kd.C (Kd.int .u8) w' B6 X.length X)) (ds := []) #[false, false, false, false, false, false, false, false, false, false, false] (by kernel_rfl) rfl rfl ⟨(by repeat (first | exact HB.out | apply below_drew | apply pw_below_drewN)), (by first | exact H12.out | exact Kd.C_drew H12.out), K3.out, K6.out, (by first | exact X3.out | exact Kd.C_drew X3.out), (by first | exact X6.out | exact Kd.C_drew X6.out)⟩ (fun hHeld => ?_)
                  refine pure_ (i := 0) (N := some 126) (v := ?_) (a' := ?_) #[true, false, false, false, false, false, false, false, false, false, false] rfl rfl (by kernel_rfl) (fun _ _ _ h => h) (Or.inl ⟨by rfl, ?_⟩) ?_ ?_
                  rotate_left
                  · intro w'
                    go_simp
                    with_reducible rfl
                  rotate_left
                  · simp only [Act.put, List.setIfInBounds_toArray, List.set_cons_zero, List.set_cons_succ, i64_w, i32_w]
                    rfl
                  refine pure_ (i := 1) (N := some 127) (v := ?_) (a' := ?_) #[true, true, false, false, false, false, false, false, false, false, false] rfl rfl (by kernel_rfl) (fun _ _ _ h => h) (Or.inl ⟨by rfl, ?_⟩) ?_ ?_
                  rotate_left
                  · intro w'
                    go_simp
                    with_reducible rfl
                  rotate_left
                  · simp only [Act.put, List.setIfInBounds_toArray, List.set_cons_zero, List.set_cons_succ, i64_w, i32_w]
                    rfl
                  refine pure_ (i := 2) (N := some 128) (v := ?_) (a' := ?_) #[true, true, true, false, false, false, false, false, false, false, false] rfl rfl (by kernel_rfl) (fun _ _ _ h => h) (Or.inl ⟨by rfl, ?_⟩) ?_ ?_
                  rotate_left
                  · intro w'
                    go_simp
                    with_reducible rfl
                  rotate_left
                  · simp only [Act.put, List.setIfInBounds_toArray, List.set_cons_zero, List.set_cons_succ, i64_w, i32_w]
                    rfl
                  refine pure_ (i := 5) (N := some 131) (v := ?_) (a' := ?_) #[true, true, true, false, false, true, false, false, false, false, false] rfl rfl (by kernel_rfl) (fun _ _ _ h => h) (Or.inl ⟨by rfl, ?_⟩) ?_ ?_
                  rotate_left
                  · intro w'
                    go_simp
                    with_reducible rfl
                  rotate_left
                  · simp only [Act.put, List.setIfInBounds_toArray, List.set_cons_zero, List.set_cons_succ, i64_w, i32_w]
                    rfl
                  refine pure_ (i := 6) (N := some 132) (v := ?_) (a' := ?_) #[true, true, true, false, false, true, true, false, false, false, false] rfl rfl (by kernel_rfl) (fun _ _ _ h => h) (Or.inl ⟨by rfl, ?_⟩) ?_ ?_
                  rotate_left
                  · intro w'
                    go_simp
                    with_reducible rfl
                  rotate_left
                  · simp only [Act.put, List.setIfInBounds_toArray, List.set_cons_zero, List.set_cons_succ, i64_w, i32_w]
                    rfl
                  refine pure_ (i := 7) (N := some 133) (v := ?_) (a' := ?_) #[true, true, true, false, false, true, true, true, false, false, false] rfl rfl (by kernel_rfl) (fun _ _ _ h => h) (Or.inl ⟨by rfl, ?_⟩) ?_ ?_
                  rotate_left
                  · intro w'
                    go_simp
                    with_reducible rfl
                  rotate_left
                  · simp only [Act.put, List.setIfInBounds_toArray, List.set_cons_zero, List.set_cons_succ, i64_w, i32_w]
                    rfl
                  refine take_ (i := 3) (N := some 129) (v := ?_) (a' := ?_) #[true, true, true, true, false, true, true, true, false, false, false] rfl rfl (by kernel_rfl) (fun _ _ _ h => h) (Or.inl ⟨by rfl, ?_⟩) hHeld ?_ ?_
                  rotate_left
                  · rintro w' ⟨hB, h12, k3, k6, x3, x6⟩
                    go_simp
                    with_reducible rfl
                  rotate_left
                  · simp only [Act.put, List.setIfInBounds_toArray, List.set_cons_zero, List.set_cons_succ, i64_w, i32_w]
                    rfl
                  refine take_ (i := 4) (N := some 130) (v := ?_) (a' := ?_) #[true, true, true, true, true, true, true, true, false, false, false] rfl rfl (by kernel_rfl) (fun _ _ _ h => h) (Or.inl ⟨by rfl, ?_⟩) hHeld ?_ ?_
                  rotate_left
                  · rintro w' ⟨hB, h12, k3, k6, x3, x6⟩
                    have cv3 := Kd.C_string (P := Try.prog) (c := d3) Try.underlying22 Try.underlying5 Try.underlying9 x3
                    go_simp
                    with_reducible rfl
                  rotate_left
                  · simp only [Act.put, List.setIfInBounds_toArray, List.set_cons_zero, List.set_cons_succ, i64_w, i32_w]
                    rfl
                  refine take_ (i := 8) (N := some 134) (v := ?_) (a' := ?_) #[true, true, true, true, true, true, true, true, true, false, false] rfl rfl (by kernel_rfl) (fun _ _ _ h => h) (Or.inl ⟨by rfl, ?_⟩) hHeld ?_ ?_
                  rotate_left
                  · rintro w' ⟨hB, h12, k3, k6, x3, x6⟩
                    go_simp
                    with_reducible rfl
                  rotate_left
                  · simp only [Act.put, List.setIfInBounds_toArray, List.set_cons_zero, List.set_cons_succ, i64_w, i32_w]
                    rfl
                  refine take_ (i := 9) (N := some 135) (v := ?_) (a' := ?_) #[true, true, true, true, true, true, true, true, true, true, false] rfl rfl (by kernel_rfl) (fun _ _ _ h => h) (Or.inl ⟨by rfl, ?_⟩) hHeld ?_ ?_
                  rotate_left
                  · rintro w' ⟨hB, h12, k3, k6, x3, x6⟩
                    have cv6 := Kd.C_string (P := Try.prog) (c := d6) Try.underlying22 Try.underlying5 Try.underlying9 x6
                    go_simp
                    with_reducible rfl
                  rotate_left
                  · simp only [Act.put, List.setIfInBounds_toArray, List.set_cons_zero, List.set_cons_succ, i64_w, i32_w]
                    rfl
                  refine pure_ (i := 10) (N := some 136) (v := ?_) (a' := ?_) #[true, true, true, true, true, true, true, true, true, true, true] rfl rfl (by kernel_rfl) (fun _ _ _ h => h) (Or.inl ⟨by rfl, ?_⟩) ?_ ?_
                  rotate_left
                  · intro w'
                    go_simp
                    with_reducible rfl
                  rotate_left
                  · simp only [Act.put, List.setIfInBounds_toArray, List.set_cons_zero, List.set_cons_succ, i64_w, i32_w]
                    rfl
                  refine done_ (by kernel_rfl) ?_
                  obtain ⟨hB, h12, _⟩ := hHeld
                  go_wp2_with fail
                  go_roundw
                  case rel => exact ⟨j + 1, by first | rfl | go_num, Lib.hid (by omega), Lib.hid h12, Lib.hid hB⟩
                  case measure => simp [intOf]; omega
                · have d8 : decide ((j : Int) < (k : Int)) = false := by simp; omega
                  have hcv := Go.Lib.run_convert_bytes_const (P := Try.prog) wr 22 5 #[.int .u8 49, .int .u8 50, .int .u8 51, .int .u8 52, .int .u8 53, .int .u8 54, .int .u8 55, .int .u8 56, .int .u8 57] 9 9 Try.underlying22 Try.underlying5
                  go_wp2_with (go_at_call 10; refine (sum_nine wr.heap.size _ (nine_cells wr)).mono ?_; rintro e w9 ⟨rfl, hb⟩; have HB9 := Lib.hid (below_step (below_alloc HB.out _) hb); clear hb)
                  go_ret
                  exact ⟨rfl, HB9.out⟩
            · have d7 : ((fl rows k : Int) == (a : Int)) = false := by simp; omega
              have HSC := Lib.hid (HSC.out.trans (by rw [if_neg hE]))
              go_wp2_with (first | (go_at_call 16; (with_reducible refine cast_len (A := A5) (n' := ((flat rows).take a).length) ?hl16 ?_); (case hl16 => exact HTL.out.symm); refine (scan_calls A5 c5 ((flat rows).take a) _ (by rw [HTL.out]; exact HTC.out) (by rw [HTL.out]; exact HAC.out) HTO.out (by rw [HTL.out]; exact HAM.out)).mono ?_; rintro e w94 ⟨v12, rfl, ho, hb⟩; rw [HSC.out] at ho ⊢; (obtain ⟨A12, c12, e12, hl12, hC12⟩ := Kd.S_reads ho); subst e12; rw [HTK.out] at hC12; simp only [HTK.out] at *; have hc4 := pw_cell_below hb hc0; have HB4 := Lib.hid (below_step HB.out hb); have H12 := Lib.hid hC12; clear ho hl12 hC12 hb))
              go_loopw [16] (fun v16 wz => ∃ j : Nat, v16 = .int .i64 (j : Int) ∧ Hid (j ≤ k) ∧ Hid (Kd.C (Kd.slice 5 (Kd.int .u8)) wz A12 k ((rows).take k)) ∧ Hid (Below w.heap.size w wz)) (fun v16 _ => k - (intOf v16).toNat)
              case atStart => exact ⟨0, rfl, Lib.hid (by omega), H12, HB4⟩
              case round =>
                clear H12 HB4 HB hc4
                obtain ⟨j, rfl, HJ, H12, HB⟩ := hrel
                by_cases hjk : j < k
                · have d8 : decide ((j : Int) < (k : Int)) = true := by simp; omega
                  have d9 : (j : Int) < (k : Int) := by omega
                  obtain ⟨ad12, B3, d3, rfl, hl3, hk3, hx3⟩ := row_at H12.out j hjk
                  obtain ⟨adA, B6, d6, rfl, hl6, hk6, hx6⟩ := row_at (Kd.C_below HX.out HB.out) j (by have := HKN.out; omega)
                  rw [HGD.out j hjk] at hk3 hx3
                  generalize (rows).getD j [] = X at *
                  have X3 := Lib.hid hx3
                  have X6 := Lib.hid hx6
                  have K3 := Lib.hid hk3
                  have K6 := Lib.hid hk6
                  have d10 : (j : Int) < (rows.length : Int) := by have := HKN.out; have := HII.out; first | omega | (have := HN.out; omega)
                  clear hx3 hx6 hk3 hk6 hl3 hl6
                  go_wp2
                  refine start_ (n := 11) (S := fun w' => (Below w.heap.size w w') ∧ (Kd.C (Kd.slice 5 (Kd.int .u8)) w' (some ad12) k ((rows).take k)) ∧ (w'.cell? (ad12.add j) = some (.slice B3 X.length d3)) ∧ (w'.cell? (adA.add j) = some (.slice B6 X.length d6)) ∧ (Kd.C (Kd.int .u8) w' B3 X.length X) ∧ (Kd.C (Kd.int .u8) w' B6 X.length X)) (ds := []) #[false, false, false, false, false, false, false, false, false, false, false] (by kernel_rfl) rfl rfl ⟨(by repeat (first | exact HB.out | apply below_drew | apply pw_below_drewN)), (by first | exact H12.out | exact Kd.C_drew H12.out), K3.out, K6.out, (by first | exact X3.out | exact Kd.C_drew X3.out), (by first | exact X6.out | exact Kd.C_drew X6.out)⟩ (fun hHeld => ?_)
                  refine pure_ (i := 0) (N := some 126) (v := ?_) (a' := ?_) #[true, false, false, false, false, false, false, false, false, false, false] rfl rfl (by kernel_rfl) (fun _ _ _ h => h) (Or.inl ⟨by rfl, ?_⟩) ?_ ?_
                  rotate_left
                  · intro w'
                    go_simp
                    with_reducible rfl
                  rotate_left
                  · simp only [Act.put, List.setIfInBounds_toArray, List.set_cons_zero, List.set_cons_succ, i64_w, i32_w]
                    rfl
                  refine pure_ (i := 1) (N := some 127) (v := ?_) (a' := ?_) #[true, true, false, false, false, false, false, false, false, false, false] rfl rfl (by kernel_rfl) (fun _ _ _ h => h) (Or.inl ⟨by rfl, ?_⟩) ?_ ?_
                  rotate_left
                  · intro w'
                    go_simp
                    with_reducible rfl
                  rotate_left
                  · simp only [Act.put, List.setIfInBounds_toArray, List.set_cons_zero, List.set_cons_succ, i64_w, i32_w]
                    rfl
                  refine pure_ (i := 2) (N := some 128) (v := ?_) (a' := ?_) #[true, true, true, false, false, false, false, false, false, false, false] rfl rfl (by kernel_rfl) (fun _ _ _ h => h) (Or.inl ⟨by rfl, ?_⟩) ?_ ?_
                  rotate_left
                  · intro w'
                    go_simp
                    with_reducible rfl
                  rotate_left
                  · simp only [Act.put, List.setIfInBounds_toArray, List.set_cons_zero, List.set_cons_succ, i64_w, i32_w]
                    rfl
                  refine pure_ (i := 5) (N := some 131) (v := ?_) (a' := ?_) #[true, true, true, false, false, true, false, false, false, false, false] rfl rfl (by kernel_rfl) (fun _ _ _ h => h) (Or.inl ⟨by rfl, ?_⟩) ?_ ?_
                  rotate_left
                  · intro w'
                    go_simp
                    with_reducible rfl
                  rotate_left
                  · simp only [Act.put, List.setIfInBounds_toArray, List.set_cons_zero, List.set_cons_succ, i64_w, i32_w]
                    rfl
                  refine pure_ (i := 6) (N := some 132) (v := ?_) (a' := ?_) #[true, true, true, false, false, true, true, false, false, false, false] rfl rfl (by kernel_rfl) (fun _ _ _ h => h) (Or.inl ⟨by rfl, ?_⟩) ?_ ?_
                  rotate_left
                  · intro w'
                    go_simp
                    with_reducible rfl
                  rotate_left
                  · simp only [Act.put, List.setIfInBounds_toArray, List.set_cons_zero, List.set_cons_succ, i64_w, i32_w]
                    rfl
                  refine pure_ (i := 7) (N := some 133) (v := ?_) (a' := ?_) #[true, true, true, false, false, true, true, true, false, false, false] rfl rfl (by kernel_rfl) (fun _ _ _ h => h) (Or.inl ⟨by rfl, ?_⟩) ?_ ?_
                  rotate_left
                  · intro w'
                    go_simp
                    with_reducible rfl
                  rotate_left
                  · simp only [Act.put, List.setIfInBounds_toArray, List.set_cons_zero, List.set_cons_succ, i64_w, i32_w]
                    rfl
                  refine take_ (i := 3) (N := some 129) (v := ?_) (a' := ?_) #[true, true, true, true, false, true, true, true, false, false, false] rfl rfl (by kernel_rfl) (fun _ _ _ h => h) (Or.inl ⟨by rfl, ?_⟩) hHeld ?_ ?_
                  rotate_left
                  · rintro w' ⟨hB, h12, k3, k6, x3, x6⟩
                    go_simp
                    with_reducible rfl
                  rotate_left
                  · simp only [Act.put, List.setIfInBounds_toArray, List.set_cons_zero, List.set_cons_succ, i64_w, i32_w]
                    rfl
                  refine take_ (i := 4) (N := some 130) (v := ?_) (a' := ?_) #[true, true, true, true, true, true, true, true, false, false, false] rfl rfl (by kernel_rfl) (fun _ _ _ h => h) (Or.inl ⟨by rfl, ?_⟩) hHeld ?_ ?_
                  rotate_left
                  · rintro w' ⟨hB, h12, k3, k6, x3, x6⟩
                    have cv3 := Kd.C_string (P := Try.prog) (c := d3) Try.underlying22 Try.underlying5 Try.underlying9 x3
                    go_simp
                    with_reducible rfl
                  rotate_left
                  · simp only [Act.put, List.setIfInBounds_toArray, List.set_cons_zero, List.set_cons_succ, i64_w, i32_w]
                    rfl
                  refine take_ (i := 8) (N := some 134) (v := ?_) (a' := ?_) #[true, true, true, true, true, true, true, true, true, false, false] rfl rfl (by kernel_rfl) (fun _ _ _ h => h) (Or.inl ⟨by rfl, ?_⟩) hHeld ?_ ?_
                  rotate_left
                  · rintro w' ⟨hB, h12, k3, k6, x3, x6⟩
                    go_simp
                    with_reducible rfl
                  rotate_left
                  · simp only [Act.put, List.setIfInBounds_toArray, List.set_cons_zero, List.set_cons_succ, i64_w, i32_w]
                    rfl
                  refine take_ (i := 9) (N := some 135) (v := ?_) (a' := ?_) #[true, true, true, true, true, true, true, true, true, true, false] rfl rfl (by kernel_rfl) (fun _ _ _ h => h) (Or.inl ⟨by rfl, ?_⟩) hHeld ?_ ?_
                  rotate_left
                  · rintro w' ⟨hB, h12, k3, k6, x3, x6⟩
                    have cv6 := Kd.C_string (P := Try.prog) (c := d6) Try.underlying22 Try.underlying5 Try.underlying9 x6
                    go_simp
                    with_reducible rfl
                  rotate_left
                  · simp only [Act.put, List.setIfInBounds_toArray, List.set_cons_zero, List.set_cons_succ, i64_w, i32_w]
                    rfl
                  refine pure_ (i := 10) (N := some 136) (v := ?_) (a' := ?_) #[true, true, true, true, true, true, true, true, true, true, true] rfl rfl (by kernel_rfl) (fun _ _ _ h => h) (Or.inl ⟨by rfl, ?_⟩) ?_ ?_
                  rotate_left
                  · intro w'
                    go_simp
                    with_reducible rfl
                  rotate_left
                  · simp only [Act.put, List.setIfInBounds_toArray, List.set_cons_zero, List.set_cons_succ, i64_w, i32_w]
                    rfl
                  refine done_ (by kernel_rfl) ?_
                  obtain ⟨hB, h12, _⟩ := hHeld
                  go_wp2_with fail
                  go_roundw
                  case rel => exact ⟨j + 1, by first | rfl | go_num, Lib.hid (by omega), Lib.hid h12, Lib.hid hB⟩
                  case measure => simp [intOf]; omega
                · have d8 : decide ((j : Int) < (k : Int)) = false := by simp; omega
                  have hcv := Go.Lib.run_convert_bytes_const (P := Try.prog) wr 22 5 #[.int .u8 49, .int .u8 50, .int .u8 51, .int .u8 52, .int .u8 53, .int .u8 54, .int .u8 55, .int .u8 56, .int .u8 57] 9 9 Try.underlying22 Try.underlying5
                  go_wp2_with (go_at_call 10; refine (sum_nine wr.heap.size _ (nine_cells wr)).mono ?_; rintro e w9 ⟨rfl, hb⟩; have HB9 := Lib.hid (below_step (below_alloc HB.out _) hb); clear hb)
                  go_ret
                  exact ⟨rfl, HB9.out⟩
        · obtain rfl : k = i := by have := HKI.out; omega
          have HST : Hid (k < k → a < fl rows (k + 1)) := Lib.hid (fun h => absurd h (Nat.lt_irrefl _))
          obtain ⟨i5, hi5, _, hsz5, _⟩ := info_parts info5
          obtain ⟨hcut9, _, _⟩ := print_take_of (P := Try.prog) (Value.int .u8) (0 : Int) 22 5 .i64 Try.underlying22 hi5 hsz5 A5 c5 (flat rows) (a : Int) (by omega) (by rw [hL]; have := HAL.out; omega) (by rw [hL]; exact HL5.out)
          rw [Int.toNat_natCast, List.length_take, hL, Nat.min_eq_left HAL.out] at hcut9
          have HTC : Hid (Kd.C (Kd.int .u8) wr A5 a ((flat rows).take a)) := Lib.hid (by have h := Kd.C_take (m := a) (by rw [hL]; exact HR5.out) (by rw [hL]; exact HAL.out); rw [List.length_take, hL, Nat.min_eq_left HAL.out] at h; exact h)
          have HTL : Hid (((flat rows).take a).length = a) := Lib.hid (by rw [List.length_take, hL, Nat.min_eq_left HAL.out])
          have HTO := Lib.hid (okb_take HOK5.out a)
          have HAC : Hid (a ≤ c5) := Lib.hid (Nat.le_trans HAL.out HL5.out)
          have HAM : Hid (a ≤ 1000000000) := Lib.hid (by have := HAL.out; have := HL.out; omega)
          have HSC := Lib.hid (scan_prefix H5'.out (k := k) (a := a) (by have := HKI.out; have := HII.out; omega) HKA.out (by rw [hL]; exact HAL.out) (fun hk => HST.out (by have := HII.out; omega)))
          have HTK : Hid (((rows).take k).length = k) := Lib.hid (by rw [List.length_take]; have := HKI.out; have := HII.out; omega)
          have K1 : (k : Int) ≤ 20 := by have := HKI.out; omega
          have HGD : Hid (∀ j, j < k → ((rows).take k).getD j [] = (rows).getD j []) := Lib.hid (fun j hj => by rw [List.getD_eq_getElem?_getD, List.getD_eq_getElem?_getD, List.getElem?_take_of_lt hj])
          have HKN : Hid (k ≤ (rows).length) := Lib.hid (by have := HKI.out; have := HII.out; omega)
          clear hi5 hsz5
          by_cases hE : fl rows k = a
          · have d7 : ((fl rows k : Int) == (a : Int)) = true := by simp; omega
            have HSC := Lib.hid (HSC.out.trans (by rw [if_pos hE]))
            go_wp2_with (first | (go_at_call 16; (with_reducible refine cast_len (A := A5) (n' := ((flat rows).take a).length) ?hl16 ?_); (case hl16 => exact HTL.out.symm); refine (scan_calls A5 c5 ((flat rows).take a) _ (by rw [HTL.out]; exact HTC.out) (by rw [HTL.out]; exact HAC.out) HTO.out (by rw [HTL.out]; exact HAM.out)).mono ?_; rintro e w94 ⟨v12, rfl, ho, hb⟩; rw [HSC.out] at ho ⊢; (obtain ⟨A12, c12, e12, hl12, hC12⟩ := Kd.S_reads ho); subst e12; rw [HTK.out] at hC12; simp only [HTK.out] at *; have hc4 := pw_cell_below hb hc0; have HB4 := Lib.hid (below_step HB.out hb); have H12 := Lib.hid hC12; clear ho hl12 hC12 hb))
            go_loopw [16] (fun v16 wz => ∃ j : Nat, v16 = .int .i64 (j : Int) ∧ Hid (j ≤ k) ∧ Hid (Kd.C (Kd.slice 5 (Kd.int .u8)) wz A12 k ((rows).take k)) ∧ Hid (Below w.heap.size w wz)) (fun v16 _ => k - (intOf v16).toNat)
            case atStart => exact ⟨0, rfl, Lib.hid (by omega), H12, HB4⟩
            case round =>
              clear H12 HB4 HB hc4
              obtain ⟨j, rfl, HJ, H12, HB⟩ := hrel
              by_cases hjk : j < k
              · have d8 : decide ((j : Int) < (k : Int)) = true := by simp; omega
                have d9 : (j : Int) < (k : Int) := by omega
                obtain ⟨ad12, B3, d3, rfl, hl3, hk3, hx3⟩ := row_at H12.out j hjk
                obtain ⟨adA, B6, d6, rfl, hl6, hk6, hx6⟩ := row_at (Kd.C_below HX.out HB.out) j (by have := HKN.out; omega)
                rw [HGD.out j hjk] at hk3 hx3
                generalize (rows).getD j [] = X at *
                have X3 := Lib.hid hx3
                have X6 := Lib.hid hx6
                have K3 := Lib.hid hk3
                have K6 := Lib.hid hk6
                have d10 : (j : Int) < (rows.length : Int) := by have := HKN.out; have := HII.out; first | omega | (have := HN.out; omega)
                clear hx3 hx6 hk3 hk6 hl3 hl6
                go_wp2
                refine start_ (n := 11) (S := fun w' => (Below w.heap.size w w') ∧ (Kd.C (Kd.slice 5 (Kd.int .u8)) w' (some ad12) k ((rows).take k)) ∧ (w'.cell? (ad12.add j) = some (.slice B3 X.length d3)) ∧ (w'.cell? (adA.add j) = some (.slice B6 X.length d6)) ∧ (Kd.C (Kd.int .u8) w' B3 X.length X) ∧ (Kd.C (Kd.int .u8) w' B6 X.length X)) (ds := []) #[false, false, false, false, false, false, false, false, false, false, false] (by kernel_rfl) rfl rfl ⟨(by repeat (first | exact HB.out | apply below_drew | apply pw_below_drewN)), (by first | exact H12.out | exact Kd.C_drew H12.out), K3.out, K6.out, (by first | exact X3.out | exact Kd.C_drew X3.out), (by first | exact X6.out | exact Kd.C_drew X6.out)⟩ (fun hHeld => ?_)
                refine pure_ (i := 0) (N := some 126) (v := ?_) (a' := ?_) #[true, false, false, false, false, false, false, false, false, false, false] rfl rfl (by kernel_rfl) (fun _ _ _ h => h) (Or.inl ⟨by rfl, ?_⟩) ?_ ?_
                rotate_left
                · intro w'
                  go_simp
                  with_reducible rfl
                rotate_left
                · simp only [Act.put, List.setIfInBounds_toArray, List.set_cons_zero, List.set_cons_succ, i64_w, i32_w]
                  rfl
                refine pure_ (i := 1) (N := some 127) (v := ?_) (a' := ?_) #[true, true, false, false, false, false, false, false, false, false, false] rfl rfl (by kernel_rfl) (fun _ _ _ h => h) (Or.inl ⟨by rfl, ?_⟩) ?_ ?_
                rotate_left
                · intro w'
                  go_simp
                  with_reducible rfl
                rotate_left
                · simp only [Act.put, List.setIfInBounds_toArray, List.set_cons_zero, List.set_cons_succ, i64_w, i32_w]
                  rfl
                refine pure_ (i := 2) (N := some 128) (v := ?_) (a' := ?_) #[true, true, true, false, false, false, false, false, false, false, false] rfl rfl (by kernel_rfl) (fun _ _ _ h => h) (Or.inl ⟨by rfl, ?_⟩) ?_ ?_
                rotate_left
                · intro w'
                  go_simp
                  with_reducible rfl
                rotate_left
                · simp only [Act.put, List.setIfInBounds_toArray, List.set_cons_zero, List.set_cons_succ, i64_w, i32_w]
                  rfl
                refine pure_ (i := 5) (N := some 131) (v := ?_) (a' := ?_) #[true, true, true, false, false, true, false, false, false, false, false] rfl rfl (by kernel_rfl) (fun _ _ _ h => h) (Or.inl ⟨by rfl, ?_⟩) ?_ ?_
                rotate_left
                · intro w'
                  go_simp
                  with_reducible rfl
                rotate_left
                · simp only [Act.put, List.setIfInBounds_toArray, List.set_cons_zero, List.set_cons_succ, i64_w, i32_w]
                  rfl
                refine pure_ (i := 6) (N := some 132) (v := ?_) (a' := ?_) #[true, true, true, false, false, true, true, false, false, false, false] rfl rfl (by kernel_rfl) (fun _ _ _ h => h) (Or.inl ⟨by rfl, ?_⟩) ?_ ?_
                rotate_left
                · intro w'
                  go_simp
                  with_reducible rfl
                rotate_left
                · simp only [Act.put, List.setIfInBounds_toArray, List.set_cons_zero, List.set_cons_succ, i64_w, i32_w]
                  rfl
                refine pure_ (i := 7) (N := some 133) (v := ?_) (a' := ?_) #[true, true, true, false, false, true, true, true, false, false, false] rfl rfl (by kernel_rfl) (fun _ _ _ h => h) (Or.inl ⟨by rfl, ?_⟩) ?_ ?_
                rotate_left
                · intro w'
                  go_simp
                  with_reducible rfl
                rotate_left
                · simp only [Act.put, List.setIfInBounds_toArray, List.set_cons_zero, List.set_cons_succ, i64_w, i32_w]
                  rfl
                refine take_ (i := 3) (N := some 129) (v := ?_) (a' := ?_) #[true, true, true, true, false, true, true, true, false, false, false] rfl rfl (by kernel_rfl) (fun _ _ _ h => h) (Or.inl ⟨by rfl, ?_⟩) hHeld ?_ ?_
                rotate_left
                · rintro w' ⟨hB, h12, k3, k6, x3, x6⟩
                  go_simp
                  with_reducible rfl
                rotate_left
                · simp only [Act.put, List.setIfInBounds_toArray, List.set_cons_zero, List.set_cons_succ, i64_w, i32_w]
                  rfl
                refine take_ (i := 4) (N := some 130) (v := ?_) (a' := ?_) #[true, true, true, true, true, true, true, true, false, false, false] rfl rfl (by kernel_rfl) (fun _ _ _ h => h) (Or.inl ⟨by rfl, ?_⟩) hHeld ?_ ?_
                rotate_left
                · rintro w' ⟨hB, h12, k3, k6, x3, x6⟩
                  have cv3 := Kd.C_string (P := Try.prog) (c := d3) Try.underlying22 Try.underlying5 Try.underlying9 x3
                  go_simp
                  with_reducible rfl
                rotate_left
                · simp only [Act.put, List.setIfInBounds_toArray, List.set_cons_zero, List.set_cons_succ, i64_w, i32_w]
                  rfl
                refine take_ (i := 8) (N := some 134) (v := ?_) (a' := ?_) #[true, true, true, true, true, true, true, true, true, false, false] rfl rfl (by kernel_rfl) (fun _ _ _ h => h) (Or.inl ⟨by rfl, ?_⟩) hHeld ?_ ?_
                rotate_left
                · rintro w' ⟨hB, h12, k3, k6, x3, x6⟩
                  go_simp
                  with_reducible rfl
                rotate_left
                · simp only [Act.put, List.setIfInBounds_toArray, List.set_cons_zero, List.set_cons_succ, i64_w, i32_w]
                  rfl
                refine take_ (i := 9) (N := some 135) (v := ?_) (a' := ?_) #[true, true, true, true, true, true, true, true, true, true, false] rfl rfl (by kernel_rfl) (fun _ _ _ h => h) (Or.inl ⟨by rfl, ?_⟩) hHeld ?_ ?_
                rotate_left
                · rintro w' ⟨hB, h12, k3, k6, x3, x6⟩
                  have cv6 := Kd.C_string (P := Try.prog) (c := d6) Try.underlying22 Try.underlying5 Try.underlying9 x6
                  go_simp
                  with_reducible rfl
                rotate_left
                · simp only [Act.put, List.setIfInBounds_toArray, List.set_cons_zero, List.set_cons_succ, i64_w, i32_w]
                  rfl
                refine pure_ (i := 10) (N := some 136) (v := ?_) (a' := ?_) #[true, true, true, true, true, true, true, true, true, true, true] rfl rfl (by kernel_rfl) (fun _ _ _ h => h) (Or.inl ⟨by rfl, ?_⟩) ?_ ?_
                rotate_left
                · intro w'
                  go_simp
                  with_reducible rfl
                rotate_left
                · simp only [Act.put, List.setIfInBounds_toArray, List.set_cons_zero, List.set_cons_succ, i64_w, i32_w]
                  rfl
                refine done_ (by kernel_rfl) ?_
                obtain ⟨hB, h12, _⟩ := hHeld
                go_wp2_with fail
                go_roundw
                case rel => exact ⟨j + 1, by first | rfl | go_num, Lib.hid (by omega), Lib.hid h12, Lib.hid hB⟩
                case measure => simp [intOf]; omega
              · have d8 : decide ((j : Int) < (k : Int)) = false := by simp; omega
                have hcv := Go.Lib.run_convert_bytes_const (P := Try.prog) wr 22 5 #[.int .u8 49, .int .u8 50, .int .u8 51, .int .u8 52, .int .u8 53, .int .u8 54, .int .u8 55, .int .u8 56, .int .u8 57] 9 9 Try.underlying22 Try.underlying5
                go_wp2_with (go_at_call 10; refine (sum_nine wr.heap.size _ (nine_cells wr)).mono ?_; rintro e w9 ⟨rfl, hb⟩; have HB9 := Lib.hid (below_step (below_alloc HB.out _) hb); clear hb)
                go_ret
                exact ⟨rfl, HB9.out⟩
          · have d7 : ((fl rows k : Int) == (a : Int)) = false := by simp; omega
            have HSC := Lib.hid (HSC.out.trans (by rw [if_neg hE]))
            go_wp2_with (first | (go_at_call 16; (with_reducible refine cast_len (A := A5) (n' := ((flat rows).take a).length) ?hl16 ?_); (case hl16 => exact HTL.out.symm); refine (scan_calls A5 c5 ((flat rows).take a) _ (by rw [HTL.out]; exact HTC.out) (by rw [HTL.out]; exact HAC.out) HTO.out (by rw [HTL.out]; exact HAM.out)).mono ?_; rintro e w94 ⟨v12, rfl, ho, hb⟩; rw [HSC.out] at ho ⊢; (obtain ⟨A12, c12, e12, hl12, hC12⟩ := Kd.S_reads ho); subst e12; rw [HTK.out] at hC12; simp only [HTK.out] at *; have hc4 := pw_cell_below hb hc0; have HB4 := Lib.hid (below_step HB.out hb); have H12 := Lib.hid hC12; clear ho hl12 hC12 hb))
            go_loopw [16] (fun v16 wz => ∃ j : Nat, v16 = .int .i64 (j : Int) ∧ Hid (j ≤ k) ∧ Hid (Kd.C (Kd.slice 5 (Kd.int .u8)) wz A12 k ((rows).take k)) ∧ Hid (Below w.heap.size w wz)) (fun v16 _ => k - (intOf v16).toNat)
            case atStart => exact ⟨0, rfl, Lib.hid (by omega), H12, HB4⟩
            case round =>
              clear H12 HB4 HB hc4
              obtain ⟨j, rfl, HJ, H12, HB⟩ := hrel
              by_cases hjk : j < k
              · have d8 : decide ((j : Int) < (k : Int)) = true := by simp; omega
                have d9 : (j : Int) < (k : Int) := by omega
                obtain ⟨ad12, B3, d3, rfl, hl3, hk3, hx3⟩ := row_at H12.out j hjk
                obtain ⟨adA, B6, d6, rfl, hl6, hk6, hx6⟩ := row_at (Kd.C_below HX.out HB.out) j (by have := HKN.out; omega)
                rw [HGD.out j hjk] at hk3 hx3
                generalize (rows).getD j [] = X at *
                have X3 := Lib.hid hx3
                have X6 := Lib.hid hx6
                have K3 := Lib.hid hk3
                have K6 := Lib.hid hk6
                have d10 : (j : Int) < (rows.length : Int) := by have := HKN.out; have := HII.out; first | omega | (have := HN.out; omega)
                clear hx3 hx6 hk3 hk6 hl3 hl6
                go_wp2
                refine start_ (n := 11) (S := fun w' => (Below w.heap.size w w') ∧ (Kd.C (Kd.slice 5 (Kd.int .u8)) w' (some ad12) k ((rows).take k)) ∧ (w'.cell? (ad12.add j) = some (.slice B3 X.length d3)) ∧ (w'.cell? (adA.add j) = some (.slice B6 X.length d6)) ∧ (Kd.C (Kd.int .u8) w' B3 X.length X) ∧ (Kd.C (Kd.int .u8) w' B6 X.length X)) (ds := []) #[false, false, false, false, false, false, false, false, false, false, false] (by kernel_rfl) rfl rfl ⟨(by repeat (first | exact HB.out | apply below_drew | apply pw_below_drewN)), (by first | exact H12.out | exact Kd.C_drew H12.out), K3.out, K6.out, (by first | exact X3.out | exact Kd.C_drew X3.out), (by first | exact X6.out | exact Kd.C_drew X6.out)⟩ (fun hHeld => ?_)
                refine pure_ (i := 0) (N := some 126) (v := ?_) (a' := ?_) #[true, false, false, false, false, false, false, false, false, false, false] rfl rfl (by kernel_rfl) (fun _ _ _ h => h) (Or.inl ⟨by rfl, ?_⟩) ?_ ?_
                rotate_left
                · intro w'
                  go_simp
                  with_reducible rfl
                rotate_left
                · simp only [Act.put, List.setIfInBounds_toArray, List.set_cons_zero, List.set_cons_succ, i64_w, i32_w]
                  rfl
                refine pure_ (i := 1) (N := some 127) (v := ?_) (a' := ?_) #[true, true, false, false, false, false, false, false, false, false, false] rfl rfl (by kernel_rfl) (fun _ _ _ h => h) (Or.inl ⟨by rfl, ?_⟩) ?_ ?_
                rotate_left
                · intro w'
                  go_simp
                  with_reducible rfl
                rotate_left
                · simp only [Act.put, List.setIfInBounds_toArray, List.set_cons_zero, List.set_cons_succ, i64_w, i32_w]
                  rfl
                refine pure_ (i := 2) (N := some 128) (v := ?_) (a' := ?_) #[true, true, true, false, false, false, false, false, false, false, false] rfl rfl (by kernel_rfl) (fun _ _ _ h => h) (Or.inl ⟨by rfl, ?_⟩) ?_ ?_
                rotate_left
                · intro w'
                  go_simp
                  with_reducible rfl
                rotate_left
                · simp only [Act.put, List.setIfInBounds_toArray, List.set_cons_zero, List.set_cons_succ, i64_w, i32_w]
                  rfl
                refine pure_ (i := 5) (N := some 131) (v := ?_) (a' := ?_) #[true, true, true, false, false, true, false, false, false, false, false] rfl rfl (by kernel_rfl) (fun _ _ _ h => h) (Or.inl ⟨by rfl, ?_⟩) ?_ ?_
                rotate_left
                · intro w'
                  go_simp
                  with_reducible rfl
                rotate_left
                · simp only [Act.put, List.setIfInBounds_toArray, List.set_cons_zero, List.set_cons_succ, i64_w, i32_w]
                  rfl
                refine pure_ (i := 6) (N := some 132) (v := ?_) (a' := ?_) #[true, true, true, false, false, true, true, false, false, false, false] rfl rfl (by kernel_rfl) (fun _ _ _ h => h) (Or.inl ⟨by rfl, ?_⟩) ?_ ?_
                rotate_left
                · intro w'
                  go_simp
                  with_reducible rfl
                rotate_left
                · simp only [Act.put, List.setIfInBounds_toArray, List.set_cons_zero, List.set_cons_succ, i64_w, i32_w]
                  rfl
                refine pure_ (i := 7) (N := some 133) (v := ?_) (a' := ?_) #[true, true, true, false, false, true, true, true, false, false, false] rfl rfl (by kernel_rfl) (fun _ _ _ h => h) (Or.inl ⟨by rfl, ?_⟩) ?_ ?_
                rotate_left
                · intro w'
                  go_simp
                  with_reducible rfl
                rotate_left
                · simp only [Act.put, List.setIfInBounds_toArray, List.set_cons_zero, List.set_cons_succ, i64_w, i32_w]
                  rfl
                refine take_ (i := 3) (N := some 129) (v := ?_) (a' := ?_) #[true, true, true, true, false, true, true, true, false, false, false] rfl rfl (by kernel_rfl) (fun _ _ _ h => h) (Or.inl ⟨by rfl, ?_⟩) hHeld ?_ ?_
                rotate_left
                · rintro w' ⟨hB, h12, k3, k6, x3, x6⟩
                  go_simp
                  with_reducible rfl
                rotate_left
                · simp only [Act.put, List.setIfInBounds_toArray, List.set_cons_zero, List.set_cons_succ, i64_w, i32_w]
                  rfl
                refine take_ (i := 4) (N := some 130) (v := ?_) (a' := ?_) #[true, true, true, true, true, true, true, true, false, false, false] rfl rfl (by kernel_rfl) (fun _ _ _ h => h) (Or.inl ⟨by rfl, ?_⟩) hHeld ?_ ?_
                rotate_left
                · rintro w' ⟨hB, h12, k3, k6, x3, x6⟩
                  have cv3 := Kd.C_string (P := Try.prog) (c := d3) Try.underlying22 Try.underlying5 Try.underlying9 x3
                  go_simp
                  with_reducible rfl
                rotate_left
                · simp only [Act.put, List.setIfInBounds_toArray, List.set_cons_zero, List.set_cons_succ, i64_w, i32_w]
                  rfl
                refine take_ (i := 8) (N := some 134) (v := ?_) (a' := ?_) #[true, true, true, true, true, true, true, true, true, false, false] rfl rfl (by kernel_rfl) (fun _ _ _ h => h) (Or.inl ⟨by rfl, ?_⟩) hHeld ?_ ?_
                rotate_left
                · rintro w' ⟨hB, h12, k3, k6, x3, x6⟩
                  go_simp
                  with_reducible rfl
                rotate_left
                · simp only [Act.put, List.setIfInBounds_toArray, List.set_cons_zero, List.set_cons_succ, i64_w, i32_w]
                  rfl
                refine take_ (i := 9) (N := some 135) (v := ?_) (a' := ?_) #[true, true, true, true, true, true, true, true, true, true, false] rfl rfl (by kernel_rfl) (fun _ _ _ h => h) (Or.inl ⟨by rfl, ?_⟩) hHeld ?_ ?_
                rotate_left
                · rintro w' ⟨hB, h12, k3, k6, x3, x6⟩
                  have cv6 := Kd.C_string (P := Try.prog) (c := d6) Try.underlying22 Try.underlying5 Try.underlying9 x6
                  go_simp
                  with_reducible rfl
                rotate_left
                · simp only [Act.put, List.setIfInBounds_toArray, List.set_cons_zero, List.set_cons_succ, i64_w, i32_w]
                  rfl
                refine pure_ (i := 10) (N := some 136) (v := ?_) (a' := ?_) #[true, true, true, true, true, true, true, true, true, true, true] rfl rfl (by kernel_rfl) (fun _ _ _ h => h) (Or.inl ⟨by rfl, ?_⟩) ?_ ?_
                rotate_left
                · intro w'
                  go_simp
                  with_reducible rfl
                rotate_left
                · simp only [Act.put, List.setIfInBounds_toArray, List.set_cons_zero, List.set_cons_succ, i64_w, i32_w]
                  rfl
                refine done_ (by kernel_rfl) ?_
                obtain ⟨hB, h12, _⟩ := hHeld
                go_wp2_with fail
                go_roundw
                case rel => exact ⟨j + 1, by first | rfl | go_num, Lib.hid (by omega), Lib.hid h12, Lib.hid hB⟩
                case measure => simp [intOf]; omega
              · have d8 : decide ((j : Int) < (k : Int)) = false := by simp; omega
                have hcv := Go.Lib.run_convert_bytes_const (P := Try.prog) wr 22 5 #[.int .u8 49, .int .u8 50, .int .u8 51, .int .u8 52, .int .u8 53, .int .u8 54, .int .u8 55, .int .u8 56, .int .u8 57] 9 9 Try.underlying22 Try.underlying5
                go_wp2_with (go_at_call 10; refine (sum_nine wr.heap.size _ (nine_cells wr)).mono ?_; rintro e w9 ⟨rfl, hb⟩; have HB9 := Lib.hid (below_step (below_alloc HB.out _) hb); clear hb)
                go_ret
                exact ⟨rfl, HB9.out⟩

set_option maxHeartbeats 4000000 in
theorem back_long (x : Int) (A : Option Addr) (c : Nat) (rows : List (List Int)) (w : World) (hr : Kd.C (Kd.slice 5 (Kd.int .u8)) w A 20 (rows.take 20)) (hc : rows.length ≤ c) (hb : ∀ r ∈ rows, okb r = true) (hl : 20 < rows.length) :
    Calls Try.prog 7 #[.slice A rows.length c, .int .i64 x] w fun e w' => e = .returned (.bool true) ∧ Below w.heap.size w w' := by
  have HN := Lib.hid (show ((rows.take 20)).length = 20 by rw [List.length_take]; omega)
  have HX := Lib.hid (show Kd.C (Kd.slice 5 (Kd.int .u8)) w A ((rows.take 20)).length (rows.take 20) by rw [HN.out]; exact hr)
  have HK := Lib.hid (show ∀ r ∈ (rows.take 20), okb r = true by exact fun r hr => hb r (List.mem_of_mem_take hr))
  have HZ := Lib.hid (show ((rows.take 20)).length ≤ 20 by rw [HN.out]; omega)
  have cut : decide ((20 : Int) < (rows.length : Int)) = true := by simp; omega
  have cut2 : (20 : Int) ≤ (c : Int) := by omega
  clear hr hb
  go_enter Try.func7, Try.ntmps7
  go_wp2
  have P6 : Hid (Kd.R (Kd.int .i64) 3 (w.alloc (.cells #[.int .i64 0] 3)) w.heap.size (fun _ => True) (.slice (some ⟨w.heap.size, 0, none⟩) 1 1) [0]) := Lib.hid (Kd.R_of_own (World.ownsRow_lit (base := w.heap.size) (e := 3) (size := 1) w #[.int .i64 0] 1 (Nat.le_refl _) (by decide) rfl) (fun _ _ => trivial))
  have HB : Hid (Below w.heap.size w (w.alloc (.cells #[.int .i64 0] 3))) := Lib.hid (below_alloc (Below.refl _ _) _)
  go_loopw [5, 6, 7] (fun v5 v6 v7 wr => ∃ i : Nat, v7 = .int .i64 (i : Int) ∧ Hid (i ≤ ((rows.take 20)).length) ∧ Hid (Kd.R (Kd.int .u8) 5 wr w.heap.size (fun _ => True) v5 (flat (((rows.take 20)).take i))) ∧ Hid (Kd.R (Kd.int .i64) 3 wr w.heap.size (fun _ => True) v6 (ends ((rows.take 20)) i)) ∧ Hid (∀ r ∈ ((rows.take 20)).take i, r.length ≤ 500) ∧ Hid (Below w.heap.size w wr)) (fun _ _ v7 _ => ((rows.take 20)).length - (intOf v7).toNat)
  case atStart => exact ⟨0, rfl, Lib.hid (by omega), Lib.hid (Kd.R_nil _ _ _ _ _), Lib.hid (by rw [ends_zero]; exact P6.out), Lib.hid (by simp), HB⟩
  case round =>
    clear P6 HB
    obtain ⟨i, rfl, HI, P5, P6, H5, HB⟩ := hrel
    by_cases hlt : i < 20
    · have d1 : decide ((i : Int) < (20 : Int)) = true := by simp; omega
      have hlt2 : i < ((rows.take 20)).length := by first | exact hlt | (rw [HN.out]; exact hlt)
      obtain ⟨ad, B, d, eA, hl, hk, hx⟩ := row_at (Kd.C_below HX.out HB.out) i hlt2
      have HA := Lib.hid eA
      have hok : okb (((rows.take 20)).getD i []) = true := HK.out _ (by rw [List.getD_eq_getElem?_getD, List.getElem?_eq_getElem hlt2, Option.getD_some]; exact List.getElem_mem hlt2)
      have HTS := Lib.hid (take_succ_getD hlt2)
      have HFS := Lib.hid (fl_succ hlt2)
      have HF : Hid (fl ((rows.take 20)) i ≤ 10160) := Lib.hid (by
        have h1 := flat_le (rows := ((rows.take 20)).take i) (m := 500) H5.out
        have h2 : (((rows.take 20)).take i).length ≤ 20 := by rw [List.length_take]; have := HZ.out; omega
        unfold fl
        omega)
      generalize hX : ((rows.take 20)).getD i [] = X at *
      subst eA
      have hd2 : (i : Int) < (20 : Int) := by omega
      have XR := Lib.hid hx
      have XD := Lib.hid hl
      have XK := Lib.hid hok
      clear hx hl hok hX hlt2
      by_cases h5 : 500 < X.length
      · have d2 : decide ((500 : Int) < (X.length : Int)) = true := by simp; omega
        go_wp2
        go_ret
        exact ⟨rfl, HB.out⟩
      · have d2 : decide ((500 : Int) < (X.length : Int)) = false := by simp; omega
        have X5 := Lib.hid h5
        go_wp2_with (first | (go_at_call 11; (with_reducible refine cast_len (A := B) (n' := X.length) ?hl11 ?_); (case hl11 => rfl); refine (seal_calls B d X _ XR.out XD.out XK.out (by have := X5.out; omega)).mono ?_; rintro e w40 ⟨v8, rfl, ho, hb⟩; (obtain ⟨A8, c8, e8, hl8, hC8⟩ := Kd.R_reads ho); subst e8; rw [sealed_length] at *; have hk40 := pw_cell_below hb hk; have P8 := Lib.hid hC8; have HB' := Lib.hid (below_step HB.out hb); have P5' := Lib.hid (Kd.R_below P5.out hb); have P6' := Lib.hid (Kd.R_below P6.out hb); clear ho hb hl8 hC8 HB P5 P6) | ((with_reducible refine gate_builtin (b := .append) (xs := #[.tmp 56, .tmp 57]) rfl ?_); at_builtin; refine Kd.R_append_rows (Kd.int .u8) (w0 := w) w.heap.size rfl (.tmp 56) (.tmp 57) 22 5 (.int .u8 0) 1 rfl Try.underlying22 info5 rfl (by decide) (by omega) _ (flat ((rows.take 20).take i)) (sealed X) A8 (X.length + 8) c8 (fun _ => True) (fun _ => False) rfl rfl P5'.out P8.out (fun _ _ h => h) (fun _ h => h.elim) (fun _ _ => trivial) HB'.out HB'.out.size (by have h := HF.out; unfold fl at h; have := X5.out; omega) ?_; intro v58 w58 ho hb hg hat; (obtain ⟨A5, c5, e5⟩ := Kd.R_slice ho); have P6' := Lib.hid (Kd.R_over' P6'.out (Kd.R_typed P5'.out) (by decide) hg); clear hg hat; subst e5; have P5 := Lib.hid ho; have HB := Lib.hid hb; clear ho hb P5' HB') | ((with_reducible refine gate_builtin (b := .append) (xs := #[.tmp 59, .tmp 62]) rfl ?_); at_builtin; refine Kd.R_append (Kd.int .i64) (w0 := w) w.heap.size rfl (.tmp 59) (.tmp 62) 45 3 (.int .i64 0) 8 rfl Try.underlying45 info3 rfl (by decide) (by omega) _ (ends (rows.take 20) i) (((flat ((rows.take 20).take i)).length : Int) + ((sealed X).length : Int)) [.int .i64 (((flat ((rows.take 20).take i)).length : Int) + ((sealed X).length : Int))] (fun _ => True) (fun _ => False) rfl rfl ?aP62 (fun _ hk => hk.elim) (fun _ _ => trivial) P6'.out HB.out HB.out.size (by rw [ends_length]; have := HI.out; omega) ?_; (case aP62 => exact rfl); intro v63 w63 ho hb hg hat; have P5' := Lib.hid (Kd.R_over' P5.out (Kd.R_typed P6'.out) (by decide) hg); clear hg hat; have P6 := Lib.hid ho; have HB' := Lib.hid hb; clear ho hb P5 P6' HB))
        have hfs := HFS.out
        have hts := HTS.out
        have e7 : ((flat (((rows.take 20)).take i)).length : Int) + ((sealed X).length : Int) = (fl ((rows.take 20)) (i + 1) : Int) := by rw [hfs, sealed_length]; unfold fl; omega
        have e8 : wrap64 ((i : Int) + 1) = ((i + 1 : Nat) : Int) := by have := HI.out; have := HZ.out; unfold wrap64; omega
        go_roundw
        case rel => exact ⟨i + 1, by first | rfl | rw [e8] | go_num, Lib.hid (by first | omega | (have := HN.out; omega)), Lib.hid (by rw [hts, flat_snoc]; have h := P5'.out; rw [List.length_append] at h; exact h), Lib.hid (by rw [ends_succ, ← e7]; exact P6.out), Lib.hid (by
          intro r hr
          rw [hts] at hr
          rcases List.mem_append.1 hr with hr | hr
          · exact H5.out r hr
          · obtain rfl := List.mem_singleton.1 hr
            have := X5.out
            omega), HB'⟩
        case measure => simp [intOf]; first | omega | (have := HN.out; omega)
    · have hi : i = ((rows.take 20)).length := by have := HI.out; first | omega | (have := HN.out; omega)
      have d1 : decide ((i : Int) < (20 : Int)) = false := by simp; omega
      obtain ⟨A5, c5, e5, hl5, hC5⟩ := Kd.R_reads P5.out
      obtain ⟨A6, c6, e6, hl6, hC6⟩ := Kd.R_reads P6.out
      rw [ends_length] at e6 hl6 hC6
      obtain ⟨ad6, eA6, _⟩ := Kd.at_int hC6 0 (by omega) (by omega)
      have hflat : flat (((rows.take 20)).take i) = flat (rows.take 20) := by rw [hi, List.take_of_length_le (Nat.le_refl _)]
      rw [hflat] at e5 hl5 hC5
      subst e5 e6 eA6
      have HL : Hid ((flat (rows.take 20)).length ≤ 10160) := Lib.hid (by
        have h1 := flat_le (rows := ((rows.take 20)).take i) (m := 500) H5.out
        have h2 : (((rows.take 20)).take i).length ≤ 20 := by rw [List.length_take]; have := HZ.out; omega
        rw [hflat] at h1
        omega)
      have H5' : Hid (∀ r ∈ (rows.take 20), okb r = true ∧ r.length ≤ 65536) := Lib.hid (fun r hr => ⟨HK.out r hr, by have h := H5.out r (by rw [hi, List.take_of_length_le (Nat.le_refl _)]; exact hr); omega⟩)
      have HR5 := Lib.hid hC5
      have HL5 := Lib.hid hl5
      have HR6 := Lib.hid hC6
      have HLE : Hid (∀ k, fl (rows.take 20) k ≤ (flat (rows.take 20)).length) := Lib.hid (fun k => fl_mono _ k)
      have HOK5 := Lib.hid (flat_okb HK.out)
      have HFI : Hid (fl (rows.take 20) i = (flat (rows.take 20)).length) := Lib.hid (by unfold fl; rw [hflat])
      have HII := Lib.hid hi
      clear hC5 hl5 hC6 hl6 P5 P6 H5 HI hflat hi
      generalize hL : (flat (rows.take 20)).length = L at *
      obtain ⟨a, ha⟩ := at_range (L := L) x HL.out
      obtain ⟨ha, hal⟩ := ha
      have I1 : (i : Int) ≤ 20 := by have := HII.out; have := HZ.out; omega
      have L1 : (L : Int) ≤ 10160 := by have := HL.out; omega
      go_wp2
      try rw [ha]
      have HAL := Lib.hid hal
      clear ha hal
      go_loopw [11] (fun v11 wq => ∃ k : Nat, v11 = .int .i64 (k : Int) ∧ Hid (k ≤ i) ∧ Hid (fl (rows.take 20) k ≤ a) ∧ wq = wr) (fun v11 _ => i - (intOf v11).toNat)
      case atStart => exact ⟨0, rfl, Lib.hid (by omega), Lib.hid (by simp [fl, flat]), rfl⟩
      case round =>
        obtain ⟨k, rfl, HKI, HKA, rfl⟩ := hrel
        obtain ⟨ad6', eA6, hc0⟩ := Kd.at_int HR6.out (k : Int) (by omega) (by have := HKI.out; omega)
        obtain rfl := Option.some.inj eA6
        rw [ends_rd _ HKI.out, Int.toNat_natCast] at hc0
        by_cases hki : k < i
        · obtain ⟨ad6', eA6, hc1⟩ := Kd.at_int HR6.out ((k + 1 : Nat) : Int) (by omega) (by omega)
          obtain rfl := Option.some.inj eA6
          rw [ends_rd _ (show k + 1 ≤ i by omega), Int.toNat_natCast] at hc1
          have hc1 : wr.cell? ⟨ad6.block, ad6.off + (k + 1), none⟩ = some (.int .i64 (fl (rows.take 20) (k + 1) : Int)) := by have h := hc1; unfold Addr.add at h; rw [if_neg (by omega)] at h; exact h
          clear eA6
          have d3 : decide ((k : Int) + 1 < (i : Int) + 1) = true := by simp; omega
          have d4 : (k : Int) + 1 < (i : Int) + 1 := by omega
          have d5 : (k : Int) < (i : Int) := by omega
          by_cases hfa : fl (rows.take 20) (k + 1) ≤ a
          · have d6 : decide ((fl (rows.take 20) (k + 1) : Int) ≤ (a : Int)) = true := by simp; omega
            go_wp2
            go_roundw
            case rel => exact ⟨k + 1, by first | rfl | go_num, Lib.hid (by omega), Lib.hid hfa, by first | trivial | rfl⟩
            case measure => simp [intOf]; omega
          · have d6 : decide ((fl (rows.take 20) (k + 1) : Int) ≤ (a : Int)) = false := by simp; omega
            have HST : Hid (k < i → a < fl (rows.take 20) (k + 1)) := Lib.hid (fun _ => by omega)
            obtain ⟨i5, hi5, _, hsz5, _⟩ := info_parts info5
            obtain ⟨hcut9, _, _⟩ := print_take_of (P := Try.prog) (Value.int .u8) (0 : Int) 22 5 .i64 Try.underlying22 hi5 hsz5 A5 c5 (flat (rows.take 20)) (a : Int) (by omega) (by rw [hL]; have := HAL.out; omega) (by rw [hL]; exact HL5.out)
            rw [Int.toNat_natCast, List.length_take, hL, Nat.min_eq_left HAL.out] at hcut9
            have HTC : Hid (Kd.C (Kd.int .u8) wr A5 a ((flat (rows.take 20)).take a)) := Lib.hid (by have h := Kd.C_take (m := a) (by rw [hL]; exact HR5.out) (by rw [hL]; exact HAL.out); rw [List.length_take, hL, Nat.min_eq_left HAL.out] at h; exact h)
            have HTL : Hid (((flat (rows.take 20)).take a).length = a) := Lib.hid (by rw [List.length_take, hL, Nat.min_eq_left HAL.out])
            have HTO := Lib.hid (okb_take HOK5.out a)
            have HAC : Hid (a ≤ c5) := Lib.hid (Nat.le_trans HAL.out HL5.out)
            have HAM : Hid (a ≤ 1000000000) := Lib.hid (by have := HAL.out; have := HL.out; omega)
            have HSC := Lib.hid (scan_prefix H5'.out (k := k) (a := a) (by have := HKI.out; have := HII.out; omega) HKA.out (by rw [hL]; exact HAL.out) (fun hk => HST.out (by have := HII.out; omega)))
            have HTK : Hid ((((rows.take 20)).take k).length = k) := Lib.hid (by rw [List.length_take]; have := HKI.out; have := HII.out; omega)
            have K1 : (k : Int) ≤ 20 := by have := HKI.out; omega
            have HGD : Hid (∀ j, j < k → (((rows.take 20)).take k).getD j [] = ((rows.take 20)).getD j []) := Lib.hid (fun j hj => by rw [List.getD_eq_getElem?_getD, List.getD_eq_getElem?_getD, List.getElem?_take_of_lt hj])
            have HKN : Hid (k ≤ ((rows.take 20)).length) := Lib.hid (by have := HKI.out; have := HII.out; omega)
            clear hi5 hsz5
            by_cases hE : fl (rows.take 20) k = a
            · have d7 : ((fl (rows.take 20) k : Int) == (a : Int)) = true := by simp; omega
              have HSC := Lib.hid (HSC.out.trans (by rw [if_pos hE]))
              go_wp2_with (first | (go_at_call 16; (with_reducible refine cast_len (A := A5) (n' := ((flat (rows.take 20)).take a).length) ?hl16 ?_); (case hl16 => exact HTL.out.symm); refine (scan_calls A5 c5 ((flat (rows.take 20)).take a) _ (by rw [HTL.out]; exact HTC.out) (by rw [HTL.out]; exact HAC.out) HTO.out (by rw [HTL.out]; exact HAM.out)).mono ?_; rintro e w94 ⟨v12, rfl, ho, hb⟩; rw [HSC.out] at ho ⊢; (obtain ⟨A12, c12, e12, hl12, hC12⟩ := Kd.S_reads ho); subst e12; rw [HTK.out] at hC12; simp only [HTK.out] at *; have hc4 := pw_cell_below hb hc0; have HB4 := Lib.hid (below_step HB.out hb); have H12 := Lib.hid hC12; clear ho hl12 hC12 hb))
              go_loopw [16] (fun v16 wz => ∃ j : Nat, v16 = .int .i64 (j : Int) ∧ Hid (j ≤ k) ∧ Hid (Kd.C (Kd.slice 5 (Kd.int .u8)) wz A12 k (((rows.take 20)).take k)) ∧ Hid (Below w.heap.size w wz)) (fun v16 _ => k - (intOf v16).toNat)
              case atStart => exact ⟨0, rfl, Lib.hid (by omega), H12, HB4⟩
              case round =>
                clear H12 HB4 HB hc4
                obtain ⟨j, rfl, HJ, H12, HB⟩ := hrel
                by_cases hjk : j < k
                · have d8 : decide ((j : Int) < (k : Int)) = true := by simp; omega
                  have d9 : (j : Int) < (k : Int) := by omega
                  obtain ⟨ad12, B3, d3, rfl, hl3, hk3, hx3⟩ := row_at H12.out j hjk
                  obtain ⟨adA, B6, d6, rfl, hl6, hk6, hx6⟩ := row_at (Kd.C_below HX.out HB.out) j (by have := HKN.out; omega)
                  rw [HGD.out j hjk] at hk3 hx3
                  generalize ((rows.take 20)).getD j [] = X at *
                  have X3 := Lib.hid hx3
                  have X6 := Lib.hid hx6
                  have K3 := Lib.hid hk3
                  have K6 := Lib.hid hk6
                  have d10 : (j : Int) < (20 : Int) := by have := HKN.out; have := HII.out; first | omega | (have := HN.out; omega)
                  clear hx3 hx6 hk3 hk6 hl3 hl6
                  go_wp2
                  refine start_ (n := 11) (S := fun w' => (Below w.heap.size w w') ∧ (Kd.C (Kd.slice 5 (Kd.int .u8)) w' (some ad12) k (((rows.take 20)).take k)) ∧ (w'.cell? (ad12.add j) = some (.slice B3 X.length d3)) ∧ (w'.cell? (adA.add j) = some (.slice B6 X.length d6)) ∧ (Kd.C (Kd.int .u8) w' B3 X.length X) ∧ (Kd.C (Kd.int .u8) w' B6 X.length X)) (ds := []) #[false, false, false, false, false, false, false, false, false, false, false] (by kernel_rfl) rfl rfl ⟨(by repeat (first | exact HB.out | apply below_drew | apply pw_below_drewN)), (by first | exact H12.out | exact Kd.C_drew H12.out), K3.out, K6.out, (by first | exact X3.out | exact Kd.C_drew X3.out), (by first | exact X6.out | exact Kd.C_drew X6.out)⟩ (fun hHeld => ?_)
                  refine pure_ (i := 0) (N := some 126) (v := ?_) (a' := ?_) #[true, false, false, false, false, false, false, false, false, false, false] rfl rfl (by kernel_rfl) (fun _ _ _ h => h) (Or.inl ⟨by rfl, ?_⟩) ?_ ?_
                  rotate_left
                  · intro w'
                    go_simp
                    with_reducible rfl
                  rotate_left
                  · simp only [Act.put, List.setIfInBounds_toArray, List.set_cons_zero, List.set_cons_succ, i64_w, i32_w]
                    rfl
                  refine pure_ (i := 1) (N := some 127) (v := ?_) (a' := ?_) #[true, true, false, false, false, false, false, false, false, false, false] rfl rfl (by kernel_rfl) (fun _ _ _ h => h) (Or.inl ⟨by rfl, ?_⟩) ?_ ?_
                  rotate_left
                  · intro w'
                    go_simp
                    with_reducible rfl
                  rotate_left
                  · simp only [Act.put, List.setIfInBounds_toArray, List.set_cons_zero, List.set_cons_succ, i64_w, i32_w]
                    rfl
                  refine pure_ (i := 2) (N := some 128) (v := ?_) (a' := ?_) #[true, true, true, false, false, false, false, false, false, false, false] rfl rfl (by kernel_rfl) (fun _ _ _ h => h) (Or.inl ⟨by rfl, ?_⟩) ?_ ?_
                  rotate_left
                  · intro w'
                    go_simp
                    with_reducible rfl
                  rotate_left
                  · simp only [Act.put, List.setIfInBounds_toArray, List.set_cons_zero, List.set_cons_succ, i64_w, i32_w]
                    rfl
                  refine pure_ (i := 5) (N := some 131) (v := ?_) (a' := ?_) #[true, true, true, false, false, true, false, false, false, false, false] rfl rfl (by kernel_rfl) (fun _ _ _ h => h) (Or.inl ⟨by rfl, ?_⟩) ?_ ?_
                  rotate_left
                  · intro w'
                    go_simp
                    with_reducible rfl
                  rotate_left
                  · simp only [Act.put, List.setIfInBounds_toArray, List.set_cons_zero, List.set_cons_succ, i64_w, i32_w]
                    rfl
                  refine pure_ (i := 6) (N := some 132) (v := ?_) (a' := ?_) #[true, true, true, false, false, true, true, false, false, false, false] rfl rfl (by kernel_rfl) (fun _ _ _ h => h) (Or.inl ⟨by rfl, ?_⟩) ?_ ?_
                  rotate_left
                  · intro w'
                    go_simp
                    with_reducible rfl
                  rotate_left
                  · simp only [Act.put, List.setIfInBounds_toArray, List.set_cons_zero, List.set_cons_succ, i64_w, i32_w]
                    rfl
                  refine pure_ (i := 7) (N := some 133) (v := ?_) (a' := ?_) #[true, true, true, false, false, true, true, true, false, false, false] rfl rfl (by kernel_rfl) (fun _ _ _ h => h) (Or.inl ⟨by rfl, ?_⟩) ?_ ?_
                  rotate_left
                  · intro w'
                    go_simp
                    with_reducible rfl
                  rotate_left
                  · simp only [Act.put, List.setIfInBounds_toArray, List.set_cons_zero, List.set_cons_succ, i64_w, i32_w]
                    rfl
                  refine take_ (i := 3) (N := some 129) (v := ?_) (a' := ?_) #[true, true, true, true, false, true, true, true, false, false, false] rfl rfl (by kernel_rfl) (fun _ _ _ h => h) (Or.inl ⟨by rfl, ?_⟩) hHeld ?_ ?_
                  rotate_left
                  · rintro w' ⟨hB, h12, k3, k6, x3, x6⟩
                    go_simp
                    with_reducible rfl
                  rotate_left
                  · simp only [Act.put, List.setIfInBounds_toArray, List.set_cons_zero, List.set_cons_succ, i64_w, i32_w]
                    rfl
                  refine take_ (i := 4) (N := some 130) (v := ?_) (a' := ?_) #[true, true, true, true, true, true, true, true, false, false, false] rfl rfl (by kernel_rfl) (fun _ _ _ h => h) (Or.inl ⟨by rfl, ?_⟩) hHeld ?_ ?_
                  rotate_left
                  · rintro w' ⟨hB, h12, k3, k6, x3, x6⟩
                    have cv3 := Kd.C_string (P := Try.prog) (c := d3) Try.underlying22 Try.underlying5 Try.underlying9 x3
                    go_simp
                    with_reducible rfl
                  rotate_left
                  · simp only [Act.put, List.setIfInBounds_toArray, List.set_cons_zero, List.set_cons_succ, i64_w, i32_w]
                    rfl
                  refine take_ (i := 8) (N := some 134) (v := ?_) (a' := ?_) #[true, true, true, true, true, true, true, true, true, false, false] rfl rfl (by kernel_rfl) (fun _ _ _ h => h) (Or.inl ⟨by rfl, ?_⟩) hHeld ?_ ?_
                  rotate_left
                  · rintro w' ⟨hB, h12, k3, k6, x3, x6⟩
                    go_simp
                    with_reducible rfl
                  rotate_left
                  · simp only [Act.put, List.setIfInBounds_toArray, List.set_cons_zero, List.set_cons_succ, i64_w, i32_w]
                    rfl
                  refine take_ (i := 9) (N := some 135) (v := ?_) (a' := ?_) #[true, true, true, true, true, true, true, true, true, true, false] rfl rfl (by kernel_rfl) (fun _ _ _ h => h) (Or.inl ⟨by rfl, ?_⟩) hHeld ?_ ?_
                  rotate_left
                  · rintro w' ⟨hB, h12, k3, k6, x3, x6⟩
                    have cv6 := Kd.C_string (P := Try.prog) (c := d6) Try.underlying22 Try.underlying5 Try.underlying9 x6
                    go_simp
                    with_reducible rfl
                  rotate_left
                  · simp only [Act.put, List.setIfInBounds_toArray, List.set_cons_zero, List.set_cons_succ, i64_w, i32_w]
                    rfl
                  refine pure_ (i := 10) (N := some 136) (v := ?_) (a' := ?_) #[true, true, true, true, true, true, true, true, true, true, true] rfl rfl (by kernel_rfl) (fun _ _ _ h => h) (Or.inl ⟨by rfl, ?_⟩) ?_ ?_
                  rotate_left
                  · intro w'
                    go_simp
                    with_reducible rfl
                  rotate_left
                  · simp only [Act.put, List.setIfInBounds_toArray, List.set_cons_zero, List.set_cons_succ, i64_w, i32_w]
                    rfl
                  refine done_ (by kernel_rfl) ?_
                  obtain ⟨hB, h12, _⟩ := hHeld
                  go_wp2_with fail
                  go_roundw
                  case rel => exact ⟨j + 1, by first | rfl | go_num, Lib.hid (by omega), Lib.hid h12, Lib.hid hB⟩
                  case measure => simp [intOf]; omega
                · have d8 : decide ((j : Int) < (k : Int)) = false := by simp; omega
                  have hcv := Go.Lib.run_convert_bytes_const (P := Try.prog) wr 22 5 #[.int .u8 49, .int .u8 50, .int .u8 51, .int .u8 52, .int .u8 53, .int .u8 54, .int .u8 55, .int .u8 56, .int .u8 57] 9 9 Try.underlying22 Try.underlying5
                  go_wp2_with (go_at_call 10; refine (sum_nine wr.heap.size _ (nine_cells wr)).mono ?_; rintro e w9 ⟨rfl, hb⟩; have HB9 := Lib.hid (below_step (below_alloc HB.out _) hb); clear hb)
                  go_ret
                  exact ⟨rfl, HB9.out⟩
            · have d7 : ((fl (rows.take 20) k : Int) == (a : Int)) = false := by simp; omega
              have HSC := Lib.hid (HSC.out.trans (by rw [if_neg hE]))
              go_wp2_with (first | (go_at_call 16; (with_reducible refine cast_len (A := A5) (n' := ((flat (rows.take 20)).take a).length) ?hl16 ?_); (case hl16 => exact HTL.out.symm); refine (scan_calls A5 c5 ((flat (rows.take 20)).take a) _ (by rw [HTL.out]; exact HTC.out) (by rw [HTL.out]; exact HAC.out) HTO.out (by rw [HTL.out]; exact HAM.out)).mono ?_; rintro e w94 ⟨v12, rfl, ho, hb⟩; rw [HSC.out] at ho ⊢; (obtain ⟨A12, c12, e12, hl12, hC12⟩ := Kd.S_reads ho); subst e12; rw [HTK.out] at hC12; simp only [HTK.out] at *; have hc4 := pw_cell_below hb hc0; have HB4 := Lib.hid (below_step HB.out hb); have H12 := Lib.hid hC12; clear ho hl12 hC12 hb))
              go_loopw [16] (fun v16 wz => ∃ j : Nat, v16 = .int .i64 (j : Int) ∧ Hid (j ≤ k) ∧ Hid (Kd.C (Kd.slice 5 (Kd.int .u8)) wz A12 k (((rows.take 20)).take k)) ∧ Hid (Below w.heap.size w wz)) (fun v16 _ => k - (intOf v16).toNat)
              case atStart => exact ⟨0, rfl, Lib.hid (by omega), H12, HB4⟩
              case round =>
                clear H12 HB4 HB hc4
                obtain ⟨j, rfl, HJ, H12, HB⟩ := hrel
                by_cases hjk : j < k
                · have d8 : decide ((j : Int) < (k : Int)) = true := by simp; omega
                  have d9 : (j : Int) < (k : Int) := by omega
                  obtain ⟨ad12, B3, d3, rfl, hl3, hk3, hx3⟩ := row_at H12.out j hjk
                  obtain ⟨adA, B6, d6, rfl, hl6, hk6, hx6⟩ := row_at (Kd.C_below HX.out HB.out) j (by have := HKN.out; omega)
                  rw [HGD.out j hjk] at hk3 hx3
                  generalize ((rows.take 20)).getD j [] = X at *
                  have X3 := Lib.hid hx3
                  have X6 := Lib.hid hx6
                  have K3 := Lib.hid hk3
                  have K6 := Lib.hid hk6
                  have d10 : (j : Int) < (20 : Int) := by have := HKN.out; have := HII.out; first | omega | (have := HN.out; omega)
                  clear hx3 hx6 hk3 hk6 hl3 hl6
                  go_wp2
                  refine start_ (n := 11) (S := fun w' => (Below w.heap.size w w') ∧ (Kd.C (Kd.slice 5 (Kd.int .u8)) w' (some ad12) k (((rows.take 20)).take k)) ∧ (w'.cell? (ad12.add j) = some (.slice B3 X.length d3)) ∧ (w'.cell? (adA.add j) = some (.slice B6 X.length d6)) ∧ (Kd.C (Kd.int .u8) w' B3 X.length X) ∧ (Kd.C (Kd.int .u8) w' B6 X.length X)) (ds := []) #[false, false, false, false, false, false, false, false, false, false, false] (by kernel_rfl) rfl rfl ⟨(by repeat (first | exact HB.out | apply below_drew | apply pw_below_drewN)), (by first | exact H12.out | exact Kd.C_drew H12.out), K3.out, K6.out, (by first | exact X3.out | exact Kd.C_drew X3.out), (by first | exact X6.out | exact Kd.C_drew X6.out)⟩ (fun hHeld => ?_)
                  refine pure_ (i := 0) (N := some 126) (v := ?_) (a' := ?_) #[true, false, false, false, false, false, false, false, false, false, false] rfl rfl (by kernel_rfl) (fun _ _ _ h => h) (Or.inl ⟨by rfl, ?_⟩) ?_ ?_
                  rotate_left
                  · intro w'
                    go_simp
                    with_reducible rfl
                  rotate_left
                  · simp only [Act.put, List.setIfInBounds_toArray, List.set_cons_zero, List.set_cons_succ, i64_w, i32_w]
                    rfl
                  refine pure_ (i := 1) (N := some 127) (v := ?_) (a' := ?_) #[true, true, false, false, false, false, false, false, false, false, false] rfl rfl (by kernel_rfl) (fun _ _ _ h => h) (Or.inl ⟨by rfl, ?_⟩) ?_ ?_
                  rotate_left
                  · intro w'
                    go_simp
                    with_reducible rfl
                  rotate_left
                  · simp only [Act.put, List.setIfInBounds_toArray, List.set_cons_zero, List.set_cons_succ, i64_w, i32_w]
                    rfl
                  refine pure_ (i := 2) (N := some 128) (v := ?_) (a' := ?_) #[true, true, true, false, false, false, false, false, false, false, false] rfl rfl (by kernel_rfl) (fun _ _ _ h => h) (Or.inl ⟨by rfl, ?_⟩) ?_ ?_
                  rotate_left
                  · intro w'
                    go_simp
                    with_reducible rfl
                  rotate_left
                  · simp only [Act.put, List.setIfInBounds_toArray, List.set_cons_zero, List.set_cons_succ, i64_w, i32_w]
                    rfl
                  refine pure_ (i := 5) (N := some 131) (v := ?_) (a' := ?_) #[true, true, true, false, false, true, false, false, false, false, false] rfl rfl (by kernel_rfl) (fun _ _ _ h => h) (Or.inl ⟨by rfl, ?_⟩) ?_ ?_
                  rotate_left
                  · intro w'
                    go_simp
                    with_reducible rfl
                  rotate_left
                  · simp only [Act.put, List.setIfInBounds_toArray, List.set_cons_zero, List.set_cons_succ, i64_w, i32_w]
                    rfl
                  refine pure_ (i := 6) (N := some 132) (v := ?_) (a' := ?_) #[true, true, true, false, false, true, true, false, false, false, false] rfl rfl (by kernel_rfl) (fun _ _ _ h => h) (Or.inl ⟨by rfl, ?_⟩) ?_ ?_
                  rotate_left
                  · intro w'
                    go_simp
                    with_reducible rfl
                  rotate_left
                  · simp only [Act.put, List.setIfInBounds_toArray, List.set_cons_zero, List.set_cons_succ, i64_w, i32_w]
                    rfl
                  refine pure_ (i := 7) (N := some 133) (v := ?_) (a' := ?_) #[true, true, true, false, false, true, true, true, false, false, false] rfl rfl (by kernel_rfl) (fun _ _ _ h => h) (Or.inl ⟨by rfl, ?_⟩) ?_ ?_
                  rotate_left
                  · intro w'
                    go_simp
                    with_reducible rfl
                  rotate_left
                  · simp only [Act.put, List.setIfInBounds_toArray, List.set_cons_zero, List.set_cons_succ, i64_w, i32_w]
                    rfl
                  refine take_ (i := 3) (N := some 129) (v := ?_) (a' := ?_) #[true, true, true, true, false, true, true, true, false, false, false] rfl rfl (by kernel_rfl) (fun _ _ _ h => h) (Or.inl ⟨by rfl, ?_⟩) hHeld ?_ ?_
                  rotate_left
                  · rintro w' ⟨hB, h12, k3, k6, x3, x6⟩
                    go_simp
                    with_reducible rfl
                  rotate_left
                  · simp only [Act.put, List.setIfInBounds_toArray, List.set_cons_zero, List.set_cons_succ, i64_w, i32_w]
                    rfl
                  refine take_ (i := 4) (N := some 130) (v := ?_) (a' := ?_) #[true, true, true, true, true, true, true, true, false, false, false] rfl rfl (by kernel_rfl) (fun _ _ _ h => h) (Or.inl ⟨by rfl, ?_⟩) hHeld ?_ ?_
                  rotate_left
                  · rintro w' ⟨hB, h12, k3, k6, x3, x6⟩
                    have cv3 := Kd.C_string (P := Try.prog) (c := d3) Try.underlying22 Try.underlying5 Try.underlying9 x3
                    go_simp
                    with_reducible rfl
                  rotate_left
                  · simp only [Act.put, List.setIfInBounds_toArray, List.set_cons_zero, List.set_cons_succ, i64_w, i32_w]
                    rfl
                  refine take_ (i := 8) (N := some 134) (v := ?_) (a' := ?_) #[true, true, true, true, true, true, true, true, true, false, false] rfl rfl (by kernel_rfl) (fun _ _ _ h => h) (Or.inl ⟨by rfl, ?_⟩) hHeld ?_ ?_
                  rotate_left
                  · rintro w' ⟨hB, h12, k3, k6, x3, x6⟩
                    go_simp
                    with_reducible rfl
                  rotate_left
                  · simp only [Act.put, List.setIfInBounds_toArray, List.set_cons_zero, List.set_cons_succ, i64_w, i32_w]
                    rfl
                  refine take_ (i := 9) (N := some 135) (v := ?_) (a' := ?_) #[true, true, true, true, true, true, true, true, true, true, false] rfl rfl (by kernel_rfl) (fun _ _ _ h => h) (Or.inl ⟨by rfl, ?_⟩) hHeld ?_ ?_
                  rotate_left
                  · rintro w' ⟨hB, h12, k3, k6, x3, x6⟩
                    have cv6 := Kd.C_string (P := Try.prog) (c := d6) Try.underlying22 Try.underlying5 Try.underlying9 x6
                    go_simp
                    with_reducible rfl
                  rotate_left
                  · simp only [Act.put, List.setIfInBounds_toArray, List.set_cons_zero, List.set_cons_succ, i64_w, i32_w]
                    rfl
                  refine pure_ (i := 10) (N := some 136) (v := ?_) (a' := ?_) #[true, true, true, true, true, true, true, true, true, true, true] rfl rfl (by kernel_rfl) (fun _ _ _ h => h) (Or.inl ⟨by rfl, ?_⟩) ?_ ?_
                  rotate_left
                  · intro w'
                    go_simp
                    with_reducible rfl
                  rotate_left
                  · simp only [Act.put, List.setIfInBounds_toArray, List.set_cons_zero, List.set_cons_succ, i64_w, i32_w]
                    rfl
                  refine done_ (by kernel_rfl) ?_
                  obtain ⟨hB, h12, _⟩ := hHeld
                  go_wp2_with fail
                  go_roundw
                  case rel => exact ⟨j + 1, by first | rfl | go_num, Lib.hid (by omega), Lib.hid h12, Lib.hid hB⟩
                  case measure => simp [intOf]; omega
                · have d8 : decide ((j : Int) < (k : Int)) = false := by simp; omega
                  have hcv := Go.Lib.run_convert_bytes_const (P := Try.prog) wr 22 5 #[.int .u8 49, .int .u8 50, .int .u8 51, .int .u8 52, .int .u8 53, .int .u8 54, .int .u8 55, .int .u8 56, .int .u8 57] 9 9 Try.underlying22 Try.underlying5
                  go_wp2_with (go_at_call 10; refine (sum_nine wr.heap.size _ (nine_cells wr)).mono ?_; rintro e w9 ⟨rfl, hb⟩; have HB9 := Lib.hid (below_step (below_alloc HB.out _) hb); clear hb)
                  go_ret
                  exact ⟨rfl, HB9.out⟩
        · obtain rfl : k = i := by have := HKI.out; omega
          have HST : Hid (k < k → a < fl (rows.take 20) (k + 1)) := Lib.hid (fun h => absurd h (Nat.lt_irrefl _))
          obtain ⟨i5, hi5, _, hsz5, _⟩ := info_parts info5
          obtain ⟨hcut9, _, _⟩ := print_take_of (P := Try.prog) (Value.int .u8) (0 : Int) 22 5 .i64 Try.underlying22 hi5 hsz5 A5 c5 (flat (rows.take 20)) (a : Int) (by omega) (by rw [hL]; have := HAL.out; omega) (by rw [hL]; exact HL5.out)
          rw [Int.toNat_natCast, List.length_take, hL, Nat.min_eq_left HAL.out] at hcut9
          have HTC : Hid (Kd.C (Kd.int .u8) wr A5 a ((flat (rows.take 20)).take a)) := Lib.hid (by have h := Kd.C_take (m := a) (by rw [hL]; exact HR5.out) (by rw [hL]; exact HAL.out); rw [List.length_take, hL, Nat.min_eq_left HAL.out] at h; exact h)
          have HTL : Hid (((flat (rows.take 20)).take a).length = a) := Lib.hid (by rw [List.length_take, hL, Nat.min_eq_left HAL.out])
          have HTO := Lib.hid (okb_take HOK5.out a)
          have HAC : Hid (a ≤ c5) := Lib.hid (Nat.le_trans HAL.out HL5.out)
          have HAM : Hid (a ≤ 1000000000) := Lib.hid (by have := HAL.out; have := HL.out; omega)
          have HSC := Lib.hid (scan_prefix H5'.out (k := k) (a := a) (by have := HKI.out; have := HII.out; omega) HKA.out (by rw [hL]; exact HAL.out) (fun hk => HST.out (by have := HII.out; omega)))
          have HTK : Hid ((((rows.take 20)).take k).length = k) := Lib.hid (by rw [List.length_take]; have := HKI.out; have := HII.out; omega)
          have K1 : (k : Int) ≤ 20 := by have := HKI.out; omega
          have HGD : Hid (∀ j, j < k → (((rows.take 20)).take k).getD j [] = ((rows.take 20)).getD j []) := Lib.hid (fun j hj => by rw [List.getD_eq_getElem?_getD, List.getD_eq_getElem?_getD, List.getElem?_take_of_lt hj])
          have HKN : Hid (k ≤ ((rows.take 20)).length) := Lib.hid (by have := HKI.out; have := HII.out; omega)
          clear hi5 hsz5
          by_cases hE : fl (rows.take 20) k = a
          · have d7 : ((fl (rows.take 20) k : Int) == (a : Int)) = true := by simp; omega
            have HSC := Lib.hid (HSC.out.trans (by rw [if_pos hE]))
            go_wp2_with (first | (go_at_call 16; (with_reducible refine cast_len (A := A5) (n' := ((flat (rows.take 20)).take a).length) ?hl16 ?_); (case hl16 => exact HTL.out.symm); refine (scan_calls A5 c5 ((flat (rows.take 20)).take a) _ (by rw [HTL.out]; exact HTC.out) (by rw [HTL.out]; exact HAC.out) HTO.out (by rw [HTL.out]; exact HAM.out)).mono ?_; rintro e w94 ⟨v12, rfl, ho, hb⟩; rw [HSC.out] at ho ⊢; (obtain ⟨A12, c12, e12, hl12, hC12⟩ := Kd.S_reads ho); subst e12; rw [HTK.out] at hC12; simp only [HTK.out] at *; have hc4 := pw_cell_below hb hc0; have HB4 := Lib.hid (below_step HB.out hb); have H12 := Lib.hid hC12; clear ho hl12 hC12 hb))
            go_loopw [16] (fun v16 wz => ∃ j : Nat, v16 = .int .i64 (j : Int) ∧ Hid (j ≤ k) ∧ Hid (Kd.C (Kd.slice 5 (Kd.int .u8)) wz A12 k (((rows.take 20)).take k)) ∧ Hid (Below w.heap.size w wz)) (fun v16 _ => k - (intOf v16).toNat)
            case atStart => exact ⟨0, rfl, Lib.hid (by omega), H12, HB4⟩
            case round =>
              clear H12 HB4 HB hc4
              obtain ⟨j, rfl, HJ, H12, HB⟩ := hrel
              by_cases hjk : j < k
              · have d8 : decide ((j : Int) < (k : Int)) = true := by simp; omega
                have d9 : (j : Int) < (k : Int) := by omega
                obtain ⟨ad12, B3, d3, rfl, hl3, hk3, hx3⟩ := row_at H12.out j hjk
                obtain ⟨adA, B6, d6, rfl, hl6, hk6, hx6⟩ := row_at (Kd.C_below HX.out HB.out) j (by have := HKN.out; omega)
                rw [HGD.out j hjk] at hk3 hx3
                generalize ((rows.take 20)).getD j [] = X at *
                have X3 := Lib.hid hx3
                have X6 := Lib.hid hx6
                have K3 := Lib.hid hk3
                have K6 := Lib.hid hk6
                have d10 : (j : Int) < (20 : Int) := by have := HKN.out; have := HII.out; first | omega | (have := HN.out; omega)
                clear hx3 hx6 hk3 hk6 hl3 hl6
                go_wp2
                refine start_ (n := 11) (S := fun w' => (Below w.heap.size w w') ∧ (Kd.C (Kd.slice 5 (Kd.int .u8)) w' (some ad12) k (((rows.take 20)).take k)) ∧ (w'.cell? (ad12.add j) = some (.slice B3 X.length d3)) ∧ (w'.cell? (adA.add j) = some (.slice B6 X.length d6)) ∧ (Kd.C (Kd.int .u8) w' B3 X.length X) ∧ (Kd.C (Kd.int .u8) w' B6 X.length X)) (ds := []) #[false, false, false, false, false, false, false, false, false, false, false] (by kernel_rfl) rfl rfl ⟨(by repeat (first | exact HB.out | apply below_drew | apply pw_below_drewN)), (by first | exact H12.out | exact Kd.C_drew H12.out), K3.out, K6.out, (by first | exact X3.out | exact Kd.C_drew X3.out), (by first | exact X6.out | exact Kd.C_drew X6.out)⟩ (fun hHeld => ?_)
                refine pure_ (i := 0) (N := some 126) (v := ?_) (a' := ?_) #[true, false, false, false, false, false, false, false, false, false, false] rfl rfl (by kernel_rfl) (fun _ _ _ h => h) (Or.inl ⟨by rfl, ?_⟩) ?_ ?_
                rotate_left
                · intro w'
                  go_simp
                  with_reducible rfl
                rotate_left
                · simp only [Act.put, List.setIfInBounds_toArray, List.set_cons_zero, List.set_cons_succ, i64_w, i32_w]
                  rfl
                refine pure_ (i := 1) (N := some 127) (v := ?_) (a' := ?_) #[true, true, false, false, false, false, false, false, false, false, false] rfl rfl (by kernel_rfl) (fun _ _ _ h => h) (Or.inl ⟨by rfl, ?_⟩) ?_ ?_
                rotate_left
                · intro w'
                  go_simp
                  with_reducible rfl
                rotate_left
                · simp only [Act.put, List.setIfInBounds_toArray, List.set_cons_zero, List.set_cons_succ, i64_w, i32_w]
                  rfl
                refine pure_ (i := 2) (N := some 128) (v := ?_) (a' := ?_) #[true, true, true, false, false, false, false, false, false, false, false] rfl rfl (by kernel_rfl) (fun _ _ _ h => h) (Or.inl ⟨by rfl, ?_⟩) ?_ ?_
                rotate_left
                · intro w'
                  go_simp
                  with_reducible rfl
                rotate_left
                · simp only [Act.put, List.setIfInBounds_toArray, List.set_cons_zero, List.set_cons_succ, i64_w, i32_w]
                  rfl
                refine pure_ (i := 5) (N := some 131) (v := ?_) (a' := ?_) #[true, true, true, false, false, true, false, false, false, false, false] rfl rfl (by kernel_rfl) (fun _ _ _ h => h) (Or.inl ⟨by rfl, ?_⟩) ?_ ?_
                rotate_left
                · intro w'
                  go_simp
                  with_reducible rfl
                rotate_left
                · simp only [Act.put, List.setIfInBounds_toArray, List.set_cons_zero, List.set_cons_succ, i64_w, i32_w]
                  rfl
                refine pure_ (i := 6) (N := some 132) (v := ?_) (a' := ?_) #[true, true, true, false, false, true, true, false, false, false, false] rfl rfl (by kernel_rfl) (fun _ _ _ h => h) (Or.inl ⟨by rfl, ?_⟩) ?_ ?_
                rotate_left
                · intro w'
                  go_simp
                  with_reducible rfl
                rotate_left
                · simp only [Act.put, List.setIfInBounds_toArray, List.set_cons_zero, List.set_cons_succ, i64_w, i32_w]
                  rfl
                refine pure_ (i := 7) (N := some 133) (v := ?_) (a' := ?_) #[true, true, true, false, false, true, true, true, false, false, false] rfl rfl (by kernel_rfl) (fun _ _ _ h => h) (Or.inl ⟨by rfl, ?_⟩) ?_ ?_
                rotate_left
                · intro w'
                  go_simp
                  with_reducible rfl
                rotate_left
                · simp only [Act.put, List.setIfInBounds_toArray, List.set_cons_zero, List.set_cons_succ, i64_w, i32_w]
                  rfl
                refine take_ (i := 3) (N := some 129) (v := ?_) (a' := ?_) #[true, true, true, true, false, true, true, true, false, false, false] rfl rfl (by kernel_rfl) (fun _ _ _ h => h) (Or.inl ⟨by rfl, ?_⟩) hHeld ?_ ?_
                rotate_left
                · rintro w' ⟨hB, h12, k3, k6, x3, x6⟩
                  go_simp
                  with_reducible rfl
                rotate_left
                · simp only [Act.put, List.setIfInBounds_toArray, List.set_cons_zero, List.set_cons_succ, i64_w, i32_w]
                  rfl
                refine take_ (i := 4) (N := some 130) (v := ?_) (a' := ?_) #[true, true, true, true, true, true, true, true, false, false, false] rfl rfl (by kernel_rfl) (fun _ _ _ h => h) (Or.inl ⟨by rfl, ?_⟩) hHeld ?_ ?_
                rotate_left
                · rintro w' ⟨hB, h12, k3, k6, x3, x6⟩
                  have cv3 := Kd.C_string (P := Try.prog) (c := d3) Try.underlying22 Try.underlying5 Try.underlying9 x3
                  go_simp
                  with_reducible rfl
                rotate_left
                · simp only [Act.put, List.setIfInBounds_toArray, List.set_cons_zero, List.set_cons_succ, i64_w, i32_w]
                  rfl
                refine take_ (i := 8) (N := some 134) (v := ?_) (a' := ?_) #[true, true, true, true, true, true, true, true, true, false, false] rfl rfl (by kernel_rfl) (fun _ _ _ h => h) (Or.inl ⟨by rfl, ?_⟩) hHeld ?_ ?_
                rotate_left
                · rintro w' ⟨hB, h12, k3, k6, x3, x6⟩
                  go_simp
                  with_reducible rfl
                rotate_left
                · simp only [Act.put, List.setIfInBounds_toArray, List.set_cons_zero, List.set_cons_succ, i64_w, i32_w]
                  rfl
                refine take_ (i := 9) (N := some 135) (v := ?_) (a' := ?_) #[true, true, true, true, true, true, true, true, true, true, false] rfl rfl (by kernel_rfl) (fun _ _ _ h => h) (Or.inl ⟨by rfl, ?_⟩) hHeld ?_ ?_
                rotate_left
                · rintro w' ⟨hB, h12, k3, k6, x3, x6⟩
                  have cv6 := Kd.C_string (P := Try.prog) (c := d6) Try.underlying22 Try.underlying5 Try.underlying9 x6
                  go_simp
                  with_reducible rfl
                rotate_left
                · simp only [Act.put, List.setIfInBounds_toArray, List.set_cons_zero, List.set_cons_succ, i64_w, i32_w]
                  rfl
                refine pure_ (i := 10) (N := some 136) (v := ?_) (a' := ?_) #[true, true, true, true, true, true, true, true, true, true, true] rfl rfl (by kernel_rfl) (fun _ _ _ h => h) (Or.inl ⟨by rfl, ?_⟩) ?_ ?_
                rotate_left
                · intro w'
                  go_simp
                  with_reducible rfl
                rotate_left
                · simp only [Act.put, List.setIfInBounds_toArray, List.set_cons_zero, List.set_cons_succ, i64_w, i32_w]
                  rfl
                refine done_ (by kernel_rfl) ?_
                obtain ⟨hB, h12, _⟩ := hHeld
                go_wp2_with fail
                go_roundw
                case rel => exact ⟨j + 1, by first | rfl | go_num, Lib.hid (by omega), Lib.hid h12, Lib.hid hB⟩
                case measure => simp [intOf]; omega
              · have d8 : decide ((j : Int) < (k : Int)) = false := by simp; omega
                have hcv := Go.Lib.run_convert_bytes_const (P := Try.prog) wr 22 5 #[.int .u8 49, .int .u8 50, .int .u8 51, .int .u8 52, .int .u8 53, .int .u8 54, .int .u8 55, .int .u8 56, .int .u8 57] 9 9 Try.underlying22 Try.underlying5
                go_wp2_with (go_at_call 10; refine (sum_nine wr.heap.size _ (nine_cells wr)).mono ?_; rintro e w9 ⟨rfl, hb⟩; have HB9 := Lib.hid (below_step (below_alloc HB.out _) hb); clear hb)
                go_ret
                exact ⟨rfl, HB9.out⟩
          · have d7 : ((fl (rows.take 20) k : Int) == (a : Int)) = false := by simp; omega
            have HSC := Lib.hid (HSC.out.trans (by rw [if_neg hE]))
            go_wp2_with (first | (go_at_call 16; (with_reducible refine cast_len (A := A5) (n' := ((flat (rows.take 20)).take a).length) ?hl16 ?_); (case hl16 => exact HTL.out.symm); refine (scan_calls A5 c5 ((flat (rows.take 20)).take a) _ (by rw [HTL.out]; exact HTC.out) (by rw [HTL.out]; exact HAC.out) HTO.out (by rw [HTL.out]; exact HAM.out)).mono ?_; rintro e w94 ⟨v12, rfl, ho, hb⟩; rw [HSC.out] at ho ⊢; (obtain ⟨A12, c12, e12, hl12, hC12⟩ := Kd.S_reads ho); subst e12; rw [HTK.out] at hC12; simp only [HTK.out] at *; have hc4 := pw_cell_below hb hc0; have HB4 := Lib.hid (below_step HB.out hb); have H12 := Lib.hid hC12; clear ho hl12 hC12 hb))
            go_loopw [16] (fun v16 wz => ∃ j : Nat, v16 = .int .i64 (j : Int) ∧ Hid (j ≤ k) ∧ Hid (Kd.C (Kd.slice 5 (Kd.int .u8)) wz A12 k (((rows.take 20)).take k)) ∧ Hid (Below w.heap.size w wz)) (fun v16 _ => k - (intOf v16).toNat)
            case atStart => exact ⟨0, rfl, Lib.hid (by omega), H12, HB4⟩
            case round =>
              clear H12 HB4 HB hc4
              obtain ⟨j, rfl, HJ, H12, HB⟩ := hrel
              by_cases hjk : j < k
              · have d8 : decide ((j : Int) < (k : Int)) = true := by simp; omega
                have d9 : (j : Int) < (k : Int) := by omega
                obtain ⟨ad12, B3, d3, rfl, hl3, hk3, hx3⟩ := row_at H12.out j hjk
                obtain ⟨adA, B6, d6, rfl, hl6, hk6, hx6⟩ := row_at (Kd.C_below HX.out HB.out) j (by have := HKN.out; omega)
                rw [HGD.out j hjk] at hk3 hx3
                generalize ((rows.take 20)).getD j [] = X at *
                have X3 := Lib.hid hx3
                have X6 := Lib.hid hx6
                have K3 := Lib.hid hk3
                have K6 := Lib.hid hk6
                have d10 : (j : Int) < (20 : Int) := by have := HKN.out; have := HII.out; first | omega | (have := HN.out; omega)
                clear hx3 hx6 hk3 hk6 hl3 hl6
                go_wp2
                refine start_ (n := 11) (S := fun w' => (Below w.heap.size w w') ∧ (Kd.C (Kd.slice 5 (Kd.int .u8)) w' (some ad12) k (((rows.take 20)).take k)) ∧ (w'.cell? (ad12.add j) = some (.slice B3 X.length d3)) ∧ (w'.cell? (adA.add j) = some (.slice B6 X.length d6)) ∧ (Kd.C (Kd.int .u8) w' B3 X.length X) ∧ (Kd.C (Kd.int .u8) w' B6 X.length X)) (ds := []) #[false, false, false, false, false, false, false, false, false, false, false] (by kernel_rfl) rfl rfl ⟨(by repeat (first | exact HB.out | apply below_drew | apply pw_below_drewN)), (by first | exact H12.out | exact Kd.C_drew H12.out), K3.out, K6.out, (by first | exact X3.out | exact Kd.C_drew X3.out), (by first | exact X6.out | exact Kd.C_drew X6.out)⟩ (fun hHeld => ?_)
                refine pure_ (i := 0) (N := some 126) (v := ?_) (a' := ?_) #[true, false, false, false, false, false, false, false, false, false, false] rfl rfl (by kernel_rfl) (fun _ _ _ h => h) (Or.inl ⟨by rfl, ?_⟩) ?_ ?_
                rotate_left
                · intro w'
                  go_simp
                  with_reducible rfl
                rotate_left
                · simp only [Act.put, List.setIfInBounds_toArray, List.set_cons_zero, List.set_cons_succ, i64_w, i32_w]
                  rfl
                refine pure_ (i := 1) (N := some 127) (v := ?_) (a' := ?_) #[true, true, false, false, false, false, false, false, false, false, false] rfl rfl (by kernel_rfl) (fun _ _ _ h => h) (Or.inl ⟨by rfl, ?_⟩) ?_ ?_
                rotate_left
                · intro w'
                  go_simp
                  with_reducible rfl
                rotate_left
                · simp only [Act.put, List.setIfInBounds_toArray, List.set_cons_zero, List.set_cons_succ, i64_w, i32_w]
                  rfl
                refine pure_ (i := 2) (N := some 128) (v := ?_) (a' := ?_) #[true, true, true, false, false, false, false, false, false, false, false] rfl rfl (by kernel_rfl) (fun _ _ _ h => h) (Or.inl ⟨by rfl, ?_⟩) ?_ ?_
                rotate_left
                · intro w'
                  go_simp
                  with_reducible rfl
                rotate_left
                · simp only [Act.put, List.setIfInBounds_toArray, List.set_cons_zero, List.set_cons_succ, i64_w, i32_w]
                  rfl
                refine pure_ (i := 5) (N := some 131) (v := ?_) (a' := ?_) #[true, true, true, false, false, true, false, false, false, false, false] rfl rfl (by kernel_rfl) (fun _ _ _ h => h) (Or.inl ⟨by rfl, ?_⟩) ?_ ?_
                rotate_left
                · intro w'
                  go_simp
                  with_reducible rfl
                rotate_left
                · simp only [Act.put, List.setIfInBounds_toArray, List.set_cons_zero, List.set_cons_succ, i64_w, i32_w]
                  rfl
                refine pure_ (i := 6) (N := some 132) (v := ?_) (a' := ?_) #[true, true, true, false, false, true, true, false, false, false, false] rfl rfl (by kernel_rfl) (fun _ _ _ h => h) (Or.inl ⟨by rfl, ?_⟩) ?_ ?_
                rotate_left
                · intro w'
                  go_simp
                  with_reducible rfl
                rotate_left
                · simp only [Act.put, List.setIfInBounds_toArray, List.set_cons_zero, List.set_cons_succ, i64_w, i32_w]
                  rfl
                refine pure_ (i := 7) (N := some 133) (v := ?_) (a' := ?_) #[true, true, true, false, false, true, true, true, false, false, false] rfl rfl (by kernel_rfl) (fun _ _ _ h => h) (Or.inl ⟨by rfl, ?_⟩) ?_ ?_
                rotate_left
                · intro w'
                  go_simp
                  with_reducible rfl
                rotate_left
                · simp only [Act.put, List.setIfInBounds_toArray, List.set_cons_zero, List.set_cons_succ, i64_w, i32_w]
                  rfl
                refine take_ (i := 3) (N := some 129) (v := ?_) (a' := ?_) #[true, true, true, true, false, true, true, true, false, false, false] rfl rfl (by kernel_rfl) (fun _ _ _ h => h) (Or.inl ⟨by rfl, ?_⟩) hHeld ?_ ?_
                rotate_left
                · rintro w' ⟨hB, h12, k3, k6, x3, x6⟩
                  go_simp
                  with_reducible rfl
                rotate_left
                · simp only [Act.put, List.setIfInBounds_toArray, List.set_cons_zero, List.set_cons_succ, i64_w, i32_w]
                  rfl
                refine take_ (i := 4) (N := some 130) (v := ?_) (a' := ?_) #[true, true, true, true, true, true, true, true, false, false, false] rfl rfl (by kernel_rfl) (fun _ _ _ h => h) (Or.inl ⟨by rfl, ?_⟩) hHeld ?_ ?_
                rotate_left
                · rintro w' ⟨hB, h12, k3, k6, x3, x6⟩
                  have cv3 := Kd.C_string (P := Try.prog) (c := d3) Try.underlying22 Try.underlying5 Try.underlying9 x3
                  go_simp
                  with_reducible rfl
                rotate_left
                · simp only [Act.put, List.setIfInBounds_toArray, List.set_cons_zero, List.set_cons_succ, i64_w, i32_w]
                  rfl
                refine take_ (i := 8) (N := some 134) (v := ?_) (a' := ?_) #[true, true, true, true, true, true, true, true, true, false, false] rfl rfl (by kernel_rfl) (fun _ _ _ h => h) (Or.inl ⟨by rfl, ?_⟩) hHeld ?_ ?_
                rotate_left
                · rintro w' ⟨hB, h12, k3, k6, x3, x6⟩
                  go_simp
                  with_reducible rfl
                rotate_left
                · simp only [Act.put, List.setIfInBounds_toArray, List.set_cons_zero, List.set_cons_succ, i64_w, i32_w]
                  rfl
                refine take_ (i := 9) (N := some 135) (v := ?_) (a' := ?_) #[true, true, true, true, true, true, true, true, true, true, false] rfl rfl (by kernel_rfl) (fun _ _ _ h => h) (Or.inl ⟨by rfl, ?_⟩) hHeld ?_ ?_
                rotate_left
                · rintro w' ⟨hB, h12, k3, k6, x3, x6⟩
                  have cv6 := Kd.C_string (P := Try.prog) (c := d6) Try.underlying22 Try.underlying5 Try.underlying9 x6
                  go_simp
                  with_reducible rfl
                rotate_left
                · simp only [Act.put, List.setIfInBounds_toArray, List.set_cons_zero, List.set_cons_succ, i64_w, i32_w]
                  rfl
                refine pure_ (i := 10) (N := some 136) (v := ?_) (a' := ?_) #[true, true, true, true, true, true, true, true, true, true, true] rfl rfl (by kernel_rfl) (fun _ _ _ h => h) (Or.inl ⟨by rfl, ?_⟩) ?_ ?_
                rotate_left
                · intro w'
                  go_simp
                  with_reducible rfl
                rotate_left
                · simp only [Act.put, List.setIfInBounds_toArray, List.set_cons_zero, List.set_cons_succ, i64_w, i32_w]
                  rfl
                refine done_ (by kernel_rfl) ?_
                obtain ⟨hB, h12, _⟩ := hHeld
                go_wp2_with fail
                go_roundw
                case rel => exact ⟨j + 1, by first | rfl | go_num, Lib.hid (by omega), Lib.hid h12, Lib.hid hB⟩
                case measure => simp [intOf]; omega
              · have d8 : decide ((j : Int) < (k : Int)) = false := by simp; omega
                have hcv := Go.Lib.run_convert_bytes_const (P := Try.prog) wr 22 5 #[.int .u8 49, .int .u8 50, .int .u8 51, .int .u8 52, .int .u8 53, .int .u8 54, .int .u8 55, .int .u8 56, .int .u8 57] 9 9 Try.underlying22 Try.underlying5
                go_wp2_with (go_at_call 10; refine (sum_nine wr.heap.size _ (nine_cells wr)).mono ?_; rintro e w9 ⟨rfl, hb⟩; have HB9 := Lib.hid (below_step (below_alloc HB.out _) hb); clear hb)
                go_ret
                exact ⟨rfl, HB9.out⟩
end Go.Proofs.Ytojdkfhjhheeaaa.H
