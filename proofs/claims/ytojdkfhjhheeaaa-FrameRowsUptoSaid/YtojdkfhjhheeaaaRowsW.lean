/- Scanning the frames of some records followed by those of others yields all these; what follows a frame that isn't one does not matter: the walk. Condition: so few records that what is made of them is no longer than memory. -/
import Derived.Test.YtojdkfhjhheeaaaRowsH
import Derived.Test.YtojdkfhjhheeaaaScanQ
namespace Go.Proofs.Ytojdkfhjhheeaaa.H
open Go.RowKit Go.Proofs.YtojdkfhjhheeaaaW.PrintWords Go.Proofs.YtojdkfhjhheeaaaW.PrintLast Go.Proofs.YtojdkfhjhheeaaaW.PrintMore
set_option linter.unusedVariables false
set_option linter.unusedSimpArgs false
/-- An element of a row of rows. -/
theorem row_at {W : World} {A : Option Addr} {n : Nat} {rows : List (List Int)} (h : Kd.C (Kd.slice 5 (Kd.int .u8)) W A n rows) (i : Nat) (hi : i < n) :
    ∃ ad B d, A = some ad ∧ (rows.getD i []).length ≤ d ∧ W.cell? (ad.add i) = some (.slice B (rows.getD i []).length d) ∧ Kd.C (Kd.int .u8) W B (rows.getD i []).length (rows.getD i []) := by
  obtain ⟨ad, c, e, _, ⟨B, d, rfl, h1, h2⟩, h3⟩ := Kd.C_get h [] (i : Int) (by omega) (by omega)
  rw [Int.toNat_natCast] at *
  have h4 := h3 0 _ rfl
  refine ⟨ad, B, d, e, h1, ?_, h2⟩
  have e1 : i * (Kd.slice 5 (Kd.int .u8)).sz + 0 = i := by show i * 1 + 0 = i; omega
  rwa [e1] at h4
theorem R_noneH (W : World) : Kd.R KH 22 (W.alloc (.cells #[] 22)) W.heap.size (fun _ => True) (.slice (some ⟨W.heap.size, 0, none⟩) 0 0) [] := Kd.R_of_own (h1 := encH1) (World.ownsRow_lit (base := W.heap.size) (e := 22) (size := 1) W #[] 0 (Nat.le_refl _) (by decide) rfl) (fun _ _ => trivial)
theorem R_none8 (W : World) : Kd.R (Kd.int .u8) 5 (W.alloc (.cells #[] 5)) W.heap.size (fun _ => True) (.slice (some ⟨W.heap.size, 0, none⟩) 0 0) [] := Kd.R_of_own (h1 := fun _ => rfl) (World.ownsRow_lit (base := W.heap.size) (e := 5) (size := 1) W #[] 0 (Nat.le_refl _) (by decide) rfl) (fun _ _ => trivial)
theorem C_four (W : World) : Kd.C (Kd.int .u8) (W.alloc (.cells #[.int .u8 255, .int .u8 255, .int .u8 255, .int .u8 255] 5)) (some ⟨W.heap.size, 0, none⟩) 4 [255, 255, 255, 255] := by
  have h : Kd.R (Kd.int .u8) 5 (W.alloc (.cells #[.int .u8 255, .int .u8 255, .int .u8 255, .int .u8 255] 5)) W.heap.size (fun _ => True) (.slice (some ⟨W.heap.size, 0, none⟩) 4 4) [255, 255, 255, 255] := Kd.R_of_own (World.ownsRow_lit (base := W.heap.size) (e := 5) (size := 1) W #[.int .u8 255, .int .u8 255, .int .u8 255, .int .u8 255] 4 (Nat.le_refl _) (by decide) rfl) (fun _ _ => trivial)
  obtain ⟨A, c, e, _, hC⟩ := Kd.R_reads h
  injection e with e1 e2 e3
  subst e1
  exact hC
theorem take_succ_getD {rows : List (List Int)} {i : Nat} (h : i < rows.length) : rows.take (i + 1) = rows.take i ++ [rows.getD i []] := by
  rw [List.take_succ_eq_append_getElem h, List.getD_eq_getElem?_getD, List.getElem?_eq_getElem h, Option.getD_some]

set_option maxHeartbeats 4000000 in
set_option maxRecDepth 100000 in
theorem rows_walk (AA AB : Option Addr) (cA cB : Nat) (rA rB : List (List Int)) (w : World) (ha : Kd.C (Kd.slice 5 (Kd.int .u8)) w AA rA.length rA) (hb : Kd.C (Kd.slice 5 (Kd.int .u8)) w AB rB.length rB) (oa : ∀ r ∈ rA, okb r = true) (ob : ∀ r ∈ rB, okb r = true) (na : rA.length ≤ 1048576) (nb : rB.length ≤ 1048576) :
    Calls Try.prog 8 #[.slice AA rA.length cA, .slice AB rB.length cB] w fun e w' => e = .returned (.bool true) ∧ Below w.heap.size w w' := by
  obtain ⟨hsA, mA, hCA, hTA⟩ := hs_of_C ha
  obtain ⟨hsB, mB, hCB, hTB⟩ := hs_of_C hb
  obtain ⟨all, hall⟩ : ∃ all, all = rA ++ rB := ⟨_, rfl⟩
  have CA := Lib.hid hCA
  have CB := Lib.hid hCB
  have NA := Lib.hid na
  have NB := Lib.hid nb
  have NL : Hid (hsA.length = rA.length ∧ hsB.length = rB.length) := Lib.hid ⟨by rw [← mA, List.length_map], by rw [← mB, List.length_map]⟩
  have HT : Hid (∀ h ∈ hsA ++ hsB, There w h) := Lib.hid (fun h hh => (List.mem_append.1 hh).elim (hTA h) (hTB h))
  have HM : Hid ((hsA ++ hsB).map Hd.xs = all) := Lib.hid (by rw [List.map_append, mA, mB, hall])
  have HOK0 : Hid (∀ r ∈ all, okb r = true) := Lib.hid (fun r hr => by rw [hall] at hr; exact (List.mem_append.1 hr).elim (oa r) (ob r))
  clear ha hb oa ob na nb mA mB hCA hCB hTA hTB hall
  go_enter Try.func8, Try.ntmps8
  go_upto_region 2 with (first | ((with_reducible refine gate_builtin (b := .append) (xs := #[.tmp 18, .tmp 19]) rfl ?_); at_builtin; refine Kd.R_append_rows KH (w0 := w) w.heap.size rfl (.tmp 18) (.tmp 19) 39 22 (.slice none 0 0) 24 rfl Try.underlying39 info22 rfl (by decide) (by omega) _ [] hsA AA rA.length cA (fun _ => True) (fun _ => False) rfl rfl (R_noneH w) (Kd.C_alloc CA.out _) (fun _ _ h => h) (fun _ h => h.elim) (fun _ _ => trivial) (below_alloc (Below.refl _ _) _) (below_alloc (Below.refl _ _) _).size (by have := NA.out; simp only [List.length_nil]; omega) ?_; intro v20 w20 ho hb hg hat; clear hg hat; have P20 : Hid (Kd.R KH 22 w20 w.heap.size (fun _ => True) v20 hsA) := Lib.hid ho; have H20 := Lib.hid hb; clear ho hb) | ((with_reducible refine gate_builtin (b := .append) (xs := #[.tmp 20, .tmp 21]) rfl ?_); at_builtin; refine Kd.R_append_rows KH (w0 := w) w.heap.size rfl (.tmp 20) (.tmp 21) 39 22 (.slice none 0 0) 24 rfl Try.underlying39 info22 rfl (by decide) (by omega) _ hsA hsB AB rB.length cB (fun _ => True) (fun _ => False) rfl rfl P20.out (Kd.C_below CB.out H20.out) (fun _ _ h => h) (fun _ h => h.elim) (fun _ _ => trivial) H20.out H20.out.size (by have := NA.out; have := NB.out; have := NL.out; omega) ?_; intro v22 w1 ho hb hg hat; clear hg hat; (obtain ⟨A5, c5, e5, hC5⟩ := C_of_hs ho (fun h hh => (HT.out h hh).below hb)); rw [HM.out] at e5 hC5; subst e5; have HA := Lib.hid hC5; have HW := Lib.hid hb; clear ho hb hC5 P20 H20))
  by_cases hbig : 30 < all.length
  · have d0 : decide ((30 : Int) < (all.length : Int)) = true := by simp; omega
    go_wp2
    go_ret
    exact ⟨rfl, HW.out⟩
  have d0 : decide ((30 : Int) < (all.length : Int)) = false := by simp; omega
  have HN : Hid (all.length ≤ 30) := Lib.hid (by omega)
  have N1 : (all.length : Int) ≤ 30 := by omega
  clear hbig
  go_wp2
  go_loopw [6, 7] (fun v6 v7 wr => ∃ i : Nat, v7 = .int .i64 (i : Int) ∧ Hid (i ≤ all.length) ∧ Hid (Kd.R (Kd.int .u8) 5 wr w1.heap.size (fun _ => True) v6 (flat (all.take i))) ∧ Hid (∀ r ∈ all.take i, r.length ≤ 300) ∧ Hid (Below w1.heap.size w1 wr)) (fun _ v7 _ => all.length - (intOf v7).toNat)
  case atStart => exact ⟨0, rfl, Lib.hid (by omega), Lib.hid (Kd.R_nil _ _ _ _ _), Lib.hid (by simp), Lib.hid (Below.refl _ _)⟩
  case round =>
    obtain ⟨i, rfl, HI, P6, H5, HB⟩ := hrel
    by_cases hlt : i < all.length
    · have d1 : decide ((i : Int) < (all.length : Int)) = true := by simp; omega
      obtain ⟨ad, B, d, eA, hl, hk, hx⟩ := row_at (Kd.C_below HA.out HB.out) i hlt
      have hok : okb (all.getD i []) = true := HOK0.out _ (by rw [List.getD_eq_getElem?_getD, List.getElem?_eq_getElem hlt, Option.getD_some]; exact List.getElem_mem hlt)
      have HTS := Lib.hid (take_succ_getD hlt)
      have HF : Hid ((flat (all.take i)).length ≤ 9240) := Lib.hid (by
        have h1 := flat_le (rows := all.take i) (m := 300) H5.out
        have h2 : (all.take i).length ≤ 30 := by rw [List.length_take]; have := HN.out; omega
        omega)
      generalize hX : all.getD i [] = X at *
      subst eA
      have hd2 : (i : Int) < (all.length : Int) := by omega
      have XR := Lib.hid hx
      have XD := Lib.hid hl
      have XK := Lib.hid hok
      clear hx hl hok hX
      by_cases h5 : 300 < X.length
      · have d2 : decide ((300 : Int) < (X.length : Int)) = true := by simp; omega
        go_wp2
        go_ret
        exact ⟨rfl, below_step HW.out HB.out⟩
      · have d2 : decide ((300 : Int) < (X.length : Int)) = false := by simp; omega
        have X5 := Lib.hid h5
        go_wp2_with (first | (go_at_call 11; (with_reducible refine cast_len (A := B) (n' := X.length) ?hl11 ?_); (case hl11 => rfl); refine (seal_calls B d X _ XR.out XD.out XK.out (by have := X5.out; omega)).mono ?_; rintro e w40 ⟨v8, rfl, ho, hb⟩; (obtain ⟨A8, c8, e8, hl8, hC8⟩ := Kd.R_reads ho); subst e8; rw [sealed_length] at *; have P8 := Lib.hid hC8; have HB' := Lib.hid (below_step HB.out hb); have P6' := Lib.hid (Kd.R_below P6.out hb); clear ho hb hl8 hC8 HB P6) | ((with_reducible refine gate_builtin (b := .append) (xs := #[.tmp 46, .tmp 47]) rfl ?_); at_builtin; refine Kd.R_append_rows (Kd.int .u8) (w0 := w1) w1.heap.size rfl (.tmp 46) (.tmp 47) 22 5 (.int .u8 0) 1 rfl Try.underlying22 info5 rfl (by decide) (by omega) _ (flat (all.take i)) (sealed X) A8 (X.length + 8) c8 (fun _ => True) (fun _ => False) rfl rfl P6'.out P8.out (fun _ _ h => h) (fun _ h => h.elim) (fun _ _ => trivial) HB'.out HB'.out.size (by have h := HF.out; have := X5.out; omega) ?_; intro v58 w58 ho hb hg hat; clear hg hat; have P6 := Lib.hid ho; have HB := Lib.hid hb; clear ho hb P6' HB'))
        have hts := HTS.out
        have e8 : wrap64 ((i : Int) + 1) = ((i + 1 : Nat) : Int) := by have := HI.out; have := HN.out; unfold wrap64; omega
        go_roundw
        case rel => exact ⟨i + 1, by first | rfl | rw [e8] | go_num, Lib.hid (by omega), Lib.hid (by rw [hts, flat_snoc]; exact P6.out), Lib.hid (by
          intro r hr
          rw [hts] at hr
          rcases List.mem_append.1 hr with hr | hr
          · exact H5.out r hr
          · obtain rfl := List.mem_singleton.1 hr
            have := X5.out
            omega), HB⟩
        case measure => simp [intOf]; omega
    · have hi : i = all.length := by have := HI.out; omega
      have d1 : decide ((i : Int) < (all.length : Int)) = false := by simp; omega
      have htk : all.take i = all := by rw [hi, List.take_of_length_le (Nat.le_refl _)]
      have H5a := H5.out
      rw [htk] at H5a
      obtain ⟨A6, c6, e6, hl6, hC6⟩ := Kd.R_reads P6.out
      rw [htk] at e6 hl6 hC6
      subst e6
      have HR6 := Lib.hid hC6
      have HL6 := Lib.hid hl6
      have HOK := Lib.hid (flat_okb HOK0.out)
      have HL : Hid ((flat all).length ≤ 9240) := Lib.hid (by
        have h1 := flat_le (rows := all) (m := 300) H5a
        have := HN.out
        omega)
      have hrows : ∀ r ∈ all, okb r = true ∧ r.length ≤ 65536 := fun r hr => ⟨HOK0.out r hr, by have := H5a r hr; omega⟩
      have HSC1 : Hid (scan (flat all) = (all, (flat all).length, 0)) := Lib.hid (by
        have h := scan_flat (t := []) hrows (fun h => absurd rfl h)
        rw [List.append_nil, if_pos rfl] at h
        exact h)
      have HSC2 : Hid (scan (flat all ++ [255, 255, 255, 255] ++ flat all) = (all, (flat all).length, 3)) := Lib.hid (by
        have h := scan_flat (t := [255, 255, 255, 255] ++ flat all) hrows (fun _ => by rw [opened_big]; simp)
        rw [if_neg (by simp), opened_big, ← List.append_assoc] at h
        exact h)
      have HOK2 : Hid (okb (flat all ++ [255, 255, 255, 255] ++ flat all) = true) := Lib.hid (okb_app (okb_app HOK.out (by decide)) HOK.out)
      have HLL : Hid ((flat all).length = (flat all).length) := Lib.hid rfl
      clear P6 H5 H5a hl6 hC6 hrows htk HI
      go_wp2_with (first | (go_at_call 16; (with_reducible refine cast_len (A := A6) (n' := (flat all).length) ?hl16 ?_); (case hl16 => first | rfl | exact HLL.out.symm | exact HLL.out); refine (scan_calls A6 c6 (flat all) _ HR6.out HL6.out HOK.out (by have := HL.out; omega)).mono ?_; rintro e w2 ⟨v10, rfl, ho, hb⟩; rw [HSC1.out] at ho ⊢; (obtain ⟨A10, c10, e10, hl10, hC10⟩ := Kd.S_reads ho); subst e10; have H10 := Lib.hid hC10; have HR6' := Lib.hid (Kd.C_below HR6.out hb); have HB2 := Lib.hid (below_step HB.out hb); clear ho hb hl10 hC10 HB HR6) | ((with_reducible refine gate_builtin (b := .append) (xs := #[.tmp 55, .tmp 56]) rfl ?_); at_builtin; refine Kd.R_append_rows (Kd.int .u8) (w0 := w2) w2.heap.size rfl (.tmp 55) (.tmp 56) 22 5 (.int .u8 0) 1 rfl Try.underlying22 info5 rfl (by decide) (by omega) _ [] (flat all) A6 (flat all).length c6 (fun _ => True) (fun _ => False) rfl rfl (R_none8 w2) (Kd.C_alloc HR6'.out _) (fun _ _ h => h) (fun _ h => h.elim) (fun _ _ => trivial) (below_alloc (Below.refl _ _) _) (below_alloc (Below.refl _ _) _).size (by have := HL.out; simp only [List.length_nil]; omega) ?_; intro v57 w57 ho hb hg hat; clear hg hat; have P57 : Hid (Kd.R (Kd.int .u8) 5 w57 w2.heap.size (fun _ => True) v57 (flat all)) := Lib.hid ho; have H57 := Lib.hid hb; clear ho hb) | ((with_reducible refine gate_builtin (b := .append) (xs := #[.tmp 57, .tmp 58]) rfl ?_); at_builtin; refine Kd.R_append_rows (Kd.int .u8) (w0 := w2) w2.heap.size rfl (.tmp 57) (.tmp 58) 22 5 (.int .u8 0) 1 rfl Try.underlying22 info5 rfl (by decide) (by omega) _ (flat all) [255, 255, 255, 255] (some ⟨w57.heap.size, 0, none⟩) 4 4 (fun _ => True) (fun _ => False) rfl rfl (Kd.R_alloc P57.out _) (C_four w57) (fun _ _ h => h) (fun _ h => h.elim) (fun _ _ => trivial) (below_alloc H57.out _) (below_alloc H57.out _).size (by have := HL.out; omega) ?_; intro v59 w59 ho hb hg hat; clear hg hat; have P59 := Lib.hid ho; have H59 := Lib.hid hb; clear ho hb P57 H57) | ((with_reducible refine gate_builtin (b := .append) (xs := #[.tmp 61, .tmp 62]) rfl ?_); at_builtin; refine Kd.R_append_rows (Kd.int .u8) (w0 := w2) w2.heap.size rfl (.tmp 61) (.tmp 62) 22 5 (.int .u8 0) 1 rfl Try.underlying22 info5 rfl (by decide) (by omega) _ (flat all ++ [255, 255, 255, 255]) (flat all) A6 (flat all).length c6 (fun _ => True) (fun _ => False) rfl rfl P59.out (Kd.C_below HR6'.out H59.out) (fun _ _ h => h) (fun _ h => h.elim) (fun _ _ => trivial) H59.out H59.out.size (by rw [List.length_append]; have := HL.out; simp only [List.length_cons, List.length_nil]; omega) ?_; intro v63 w63 ho hb hg hat; clear hg hat; (obtain ⟨A63, c63, e63, hl63, hC63⟩ := Kd.R_reads ho); subst e63; have H63 := Lib.hid hb; have HR63 := Lib.hid hC63; have HL63 := Lib.hid hl63; clear ho hb P59 H59 hl63 hC63) | (go_at_call 16; (with_reducible refine cast_len (A := A63) (n' := (flat all ++ [255, 255, 255, 255] ++ flat all).length) ?hl17 ?_); (case hl17 => first | rfl | (simp only [List.length_append, List.length_cons, List.length_nil]; omega)); refine (scan_calls A63 c63 (flat all ++ [255, 255, 255, 255] ++ flat all) _ HR63.out HL63.out HOK2.out (by rw [List.length_append, List.length_append]; have := HL.out; simp only [List.length_cons, List.length_nil]; omega)).mono ?_; rintro e w3 ⟨v14, rfl, ho, hb⟩; rw [HSC2.out] at ho ⊢; (obtain ⟨A14, c14, e14, hl14, hC14⟩ := Kd.S_reads ho); subst e14; have H14 := Lib.hid hC14; have H10' := Lib.hid (Kd.C_below (Kd.C_below H10.out H63.out) hb); have HB3 := Lib.hid (below_step (below_step HB2.out H63.out) hb); clear ho hb hl14 hC14 HB2 H63 H10))
      go_loopw [17] (fun v17 wr => ∃ j : Nat, v17 = .int .i64 (j : Int) ∧ Hid (j ≤ all.length) ∧ Hid (Kd.C (Kd.slice 5 (Kd.int .u8)) wr A10 all.length all) ∧ Hid (Kd.C (Kd.slice 5 (Kd.int .u8)) wr A14 all.length all) ∧ Hid (Below w1.heap.size w1 wr)) (fun v17 _ => all.length - (intOf v17).toNat)
      case atStart => exact ⟨0, rfl, Lib.hid (by omega), H10', H14, HB3⟩
      case round =>
        clear H10' H14 HB3
        obtain ⟨j, rfl, HJ, H10, H14, HB⟩ := hrel
        by_cases hjk : j < all.length
        · have d8 : decide ((j : Int) < (all.length : Int)) = true := by simp; omega
          have d9 : (j : Int) < (all.length : Int) := by omega
          obtain ⟨ad10, B1, d1, rfl, hl1, hk1, hx1⟩ := row_at H10.out j hjk
          obtain ⟨ad14, B2, d2, rfl, hl2, hk2, hx2⟩ := row_at H14.out j hjk
          obtain ⟨ad5, B5, d5, rfl, hl5, hk5, hx5⟩ := row_at (Kd.C_below HA.out HB.out) j hjk
          generalize all.getD j [] = X at *
          have X1 := Lib.hid hx1
          have X2 := Lib.hid hx2
          have X5 := Lib.hid hx5
          have K1 := Lib.hid hk1
          have K2 := Lib.hid hk2
          have K5 := Lib.hid hk5
          clear hx1 hx2 hx5 hk1 hk2 hk5 hl1 hl2 hl5
          go_wp2
          refine start_ (n := 24) (S := fun w' => (Below w1.heap.size w1 w') ∧ (Kd.C (Kd.slice 5 (Kd.int .u8)) w' (some ad10) all.length all) ∧ (Kd.C (Kd.slice 5 (Kd.int .u8)) w' (some ad14) all.length all) ∧ (w'.cell? (ad10.add j) = some (.slice B1 X.length d1)) ∧ (w'.cell? (ad14.add j) = some (.slice B2 X.length d2)) ∧ (w'.cell? (ad5.add j) = some (.slice B5 X.length d5)) ∧ (Kd.C (Kd.int .u8) w' B1 X.length X) ∧ (Kd.C (Kd.int .u8) w' B2 X.length X) ∧ (Kd.C (Kd.int .u8) w' B5 X.length X)) (ds := []) #[false, false, false, false, false, false, false, false, false, false, false, false, false, false, false, false, false, false, false, false, false, false, false, false] (by kernel_rfl) rfl rfl ⟨(by repeat (first | exact HB.out | apply below_drew | apply pw_below_drewN)), (by first | exact H10.out | exact Kd.C_drew H10.out), (by first | exact H14.out | exact Kd.C_drew H14.out), K1.out, K2.out, K5.out, (by first | exact X1.out | exact Kd.C_drew X1.out), (by first | exact X2.out | exact Kd.C_drew X2.out), (by first | exact X5.out | exact Kd.C_drew X5.out)⟩ (fun hHeld => ?_)
          refine pure_ (i := 0) (N := some 106) (v := ?_) (a' := ?_) #[true, false, false, false, false, false, false, false, false, false, false, false, false, false, false, false, false, false, false, false, false, false, false, false] rfl rfl (by kernel_rfl) (fun _ _ _ h => h) (Or.inl ⟨by rfl, ?_⟩) ?_ ?_
          rotate_left
          · intro w'
            go_simp
            with_reducible rfl
          rotate_left
          · simp only [Act.put, List.setIfInBounds_toArray, List.set_cons_zero, List.set_cons_succ, i64_w, i32_w]
            rfl
          refine pure_ (i := 1) (N := some 107) (v := ?_) (a' := ?_) #[true, true, false, false, false, false, false, false, false, false, false, false, false, false, false, false, false, false, false, false, false, false, false, false] rfl rfl (by kernel_rfl) (fun _ _ _ h => h) (Or.inl ⟨by rfl, ?_⟩) ?_ ?_
          rotate_left
          · intro w'
            go_simp
            with_reducible rfl
          rotate_left
          · simp only [Act.put, List.setIfInBounds_toArray, List.set_cons_zero, List.set_cons_succ, i64_w, i32_w]
            rfl
          refine pure_ (i := 2) (N := some 108) (v := ?_) (a' := ?_) #[true, true, true, false, false, false, false, false, false, false, false, false, false, false, false, false, false, false, false, false, false, false, false, false] rfl rfl (by kernel_rfl) (fun _ _ _ h => h) (Or.inl ⟨by rfl, ?_⟩) ?_ ?_
          rotate_left
          · intro w'
            go_simp
            with_reducible rfl
          rotate_left
          · simp only [Act.put, List.setIfInBounds_toArray, List.set_cons_zero, List.set_cons_succ, i64_w, i32_w]
            rfl
          refine pure_ (i := 5) (N := some 111) (v := ?_) (a' := ?_) #[true, true, true, false, false, true, false, false, false, false, false, false, false, false, false, false, false, false, false, false, false, false, false, false] rfl rfl (by kernel_rfl) (fun _ _ _ h => h) (Or.inl ⟨by rfl, ?_⟩) ?_ ?_
          rotate_left
          · intro w'
            go_simp
            with_reducible rfl
          rotate_left
          · simp only [Act.put, List.setIfInBounds_toArray, List.set_cons_zero, List.set_cons_succ, i64_w, i32_w]
            rfl
          refine pure_ (i := 6) (N := some 112) (v := ?_) (a' := ?_) #[true, true, true, false, false, true, true, false, false, false, false, false, false, false, false, false, false, false, false, false, false, false, false, false] rfl rfl (by kernel_rfl) (fun _ _ _ h => h) (Or.inl ⟨by rfl, ?_⟩) ?_ ?_
          rotate_left
          · intro w'
            go_simp
            with_reducible rfl
          rotate_left
          · simp only [Act.put, List.setIfInBounds_toArray, List.set_cons_zero, List.set_cons_succ, i64_w, i32_w]
            rfl
          refine pure_ (i := 7) (N := some 113) (v := ?_) (a' := ?_) #[true, true, true, false, false, true, true, true, false, false, false, false, false, false, false, false, false, false, false, false, false, false, false, false] rfl rfl (by kernel_rfl) (fun _ _ _ h => h) (Or.inl ⟨by rfl, ?_⟩) ?_ ?_
          rotate_left
          · intro w'
            go_simp
            with_reducible rfl
          rotate_left
          · simp only [Act.put, List.setIfInBounds_toArray, List.set_cons_zero, List.set_cons_succ, i64_w, i32_w]
            rfl
          refine take_ (i := 3) (N := some 109) (v := ?_) (a' := ?_) #[true, true, true, true, false, true, true, true, false, false, false, false, false, false, false, false, false, false, false, false, false, false, false, false] rfl rfl (by kernel_rfl) (fun _ _ _ h => h) (Or.inl ⟨by rfl, ?_⟩) hHeld ?_ ?_
          rotate_left
          · rintro w' ⟨hB, h10, h14, k1, k2, k5, x1, x2, x5⟩
            go_simp
            with_reducible rfl
          rotate_left
          · simp only [Act.put, List.setIfInBounds_toArray, List.set_cons_zero, List.set_cons_succ, i64_w, i32_w]
            rfl
          refine take_ (i := 4) (N := some 110) (v := ?_) (a' := ?_) #[true, true, true, true, true, true, true, true, false, false, false, false, false, false, false, false, false, false, false, false, false, false, false, false] rfl rfl (by kernel_rfl) (fun _ _ _ h => h) (Or.inl ⟨by rfl, ?_⟩) hHeld ?_ ?_
          rotate_left
          · rintro w' ⟨hB, h10, h14, k1, k2, k5, x1, x2, x5⟩
            have cv1 := Kd.C_string (P := Try.prog) (c := d1) Try.underlying22 Try.underlying5 Try.underlying9 x1
            go_simp
            with_reducible rfl
          rotate_left
          · simp only [Act.put, List.setIfInBounds_toArray, List.set_cons_zero, List.set_cons_succ, i64_w, i32_w]
            rfl
          refine take_ (i := 8) (N := some 114) (v := ?_) (a' := ?_) #[true, true, true, true, true, true, true, true, true, false, false, false, false, false, false, false, false, false, false, false, false, false, false, false] rfl rfl (by kernel_rfl) (fun _ _ _ h => h) (Or.inl ⟨by rfl, ?_⟩) hHeld ?_ ?_
          rotate_left
          · rintro w' ⟨hB, h10, h14, k1, k2, k5, x1, x2, x5⟩
            go_simp
            with_reducible rfl
          rotate_left
          · simp only [Act.put, List.setIfInBounds_toArray, List.set_cons_zero, List.set_cons_succ, i64_w, i32_w]
            rfl
          refine take_ (i := 9) (N := some 115) (v := ?_) (a' := ?_) #[true, true, true, true, true, true, true, true, true, true, false, false, false, false, false, false, false, false, false, false, false, false, false, false] rfl rfl (by kernel_rfl) (fun _ _ _ h => h) (Or.inl ⟨by rfl, ?_⟩) hHeld ?_ ?_
          rotate_left
          · rintro w' ⟨hB, h10, h14, k1, k2, k5, x1, x2, x5⟩
            have cv5 := Kd.C_string (P := Try.prog) (c := d5) Try.underlying22 Try.underlying5 Try.underlying9 x5
            go_simp
            with_reducible rfl
          rotate_left
          · simp only [Act.put, List.setIfInBounds_toArray, List.set_cons_zero, List.set_cons_succ, i64_w, i32_w]
            rfl
          refine pure_ (i := 10) (N := some 116) (v := ?_) (a' := ?_) #[true, true, true, true, true, true, true, true, true, true, true, false, false, false, false, false, false, false, false, false, false, false, false, false] rfl rfl (by kernel_rfl) (fun _ _ _ h => h) (Or.inl ⟨by rfl, ?_⟩) ?_ ?_
          rotate_left
          · intro w'
            go_simp
            with_reducible rfl
          rotate_left
          · simp only [Act.put, List.setIfInBounds_toArray, List.set_cons_zero, List.set_cons_succ, i64_w, i32_w]
            rfl
          refine pure_ (i := 11) (N := some 117) (v := ?_) (a' := ?_) #[true, true, true, true, true, true, true, true, true, true, true, true, false, false, false, false, false, false, false, false, false, false, false, false] rfl rfl (by kernel_rfl) (fun _ _ _ h => h) (Or.inl ⟨by rfl, ?_⟩) ?_ ?_
          rotate_left
          · intro w'
            go_simp
            with_reducible rfl
          rotate_left
          · simp only [Act.put, List.setIfInBounds_toArray, List.set_cons_zero, List.set_cons_succ, i64_w, i32_w]
            rfl
          refine pure_ (i := 12) (N := some 118) (v := ?_) (a' := ?_) #[true, true, true, true, true, true, true, true, true, true, true, true, true, false, false, false, false, false, false, false, false, false, false, false] rfl rfl (by kernel_rfl) (fun _ _ _ h => h) (Or.inl ⟨by rfl, ?_⟩) ?_ ?_
          rotate_left
          · intro w'
            go_simp
            with_reducible rfl
          rotate_left
          · simp only [Act.put, List.setIfInBounds_toArray, List.set_cons_zero, List.set_cons_succ, i64_w, i32_w]
            rfl
          refine pure_ (i := 13) (N := some 119) (v := ?_) (a' := ?_) #[true, true, true, true, true, true, true, true, true, true, true, true, true, true, false, false, false, false, false, false, false, false, false, false] rfl rfl (by kernel_rfl) (fun _ _ _ h => h) (Or.inl ⟨by rfl, ?_⟩) ?_ ?_
          rotate_left
          · intro w'
            go_simp
            with_reducible rfl
          rotate_left
          · simp only [Act.put, List.setIfInBounds_toArray, List.set_cons_zero, List.set_cons_succ, i64_w, i32_w]
            rfl
          refine pure_ (i := 14) (N := some 120) (v := ?_) (a' := ?_) #[true, true, true, true, true, true, true, true, true, true, true, true, true, true, true, false, false, false, false, false, false, false, false, false] rfl rfl (by kernel_rfl) (fun _ _ _ h => h) (Or.inl ⟨by rfl, ?_⟩) ?_ ?_
          rotate_left
          · intro w'
            go_simp
            with_reducible rfl
          rotate_left
          · simp only [Act.put, List.setIfInBounds_toArray, List.set_cons_zero, List.set_cons_succ, i64_w, i32_w]
            rfl
          refine pure_ (i := 17) (N := some 123) (v := ?_) (a' := ?_) #[true, true, true, true, true, true, true, true, true, true, true, true, true, true, true, false, false, true, false, false, false, false, false, false] rfl rfl (by kernel_rfl) (fun _ _ _ h => h) (Or.inl ⟨by rfl, ?_⟩) ?_ ?_
          rotate_left
          · intro w'
            go_simp
            with_reducible rfl
          rotate_left
          · simp only [Act.put, List.setIfInBounds_toArray, List.set_cons_zero, List.set_cons_succ, i64_w, i32_w]
            rfl
          refine pure_ (i := 18) (N := some 124) (v := ?_) (a' := ?_) #[true, true, true, true, true, true, true, true, true, true, true, true, true, true, true, false, false, true, true, false, false, false, false, false] rfl rfl (by kernel_rfl) (fun _ _ _ h => h) (Or.inl ⟨by rfl, ?_⟩) ?_ ?_
          rotate_left
          · intro w'
            go_simp
            with_reducible rfl
          rotate_left
          · simp only [Act.put, List.setIfInBounds_toArray, List.set_cons_zero, List.set_cons_succ, i64_w, i32_w]
            rfl
          refine pure_ (i := 19) (N := some 125) (v := ?_) (a' := ?_) #[true, true, true, true, true, true, true, true, true, true, true, true, true, true, true, false, false, true, true, true, false, false, false, false] rfl rfl (by kernel_rfl) (fun _ _ _ h => h) (Or.inl ⟨by rfl, ?_⟩) ?_ ?_
          rotate_left
          · intro w'
            go_simp
            with_reducible rfl
          rotate_left
          · simp only [Act.put, List.setIfInBounds_toArray, List.set_cons_zero, List.set_cons_succ, i64_w, i32_w]
            rfl
          refine take_ (i := 15) (N := some 121) (v := ?_) (a' := ?_) #[true, true, true, true, true, true, true, true, true, true, true, true, true, true, true, true, false, true, true, true, false, false, false, false] rfl rfl (by kernel_rfl) (fun _ _ _ h => h) (Or.inl ⟨by rfl, ?_⟩) hHeld ?_ ?_
          rotate_left
          · rintro w' ⟨hB, h10, h14, k1, k2, k5, x1, x2, x5⟩
            go_simp
            with_reducible rfl
          rotate_left
          · simp only [Act.put, List.setIfInBounds_toArray, List.set_cons_zero, List.set_cons_succ, i64_w, i32_w]
            rfl
          refine take_ (i := 16) (N := some 122) (v := ?_) (a' := ?_) #[true, true, true, true, true, true, true, true, true, true, true, true, true, true, true, true, true, true, true, true, false, false, false, false] rfl rfl (by kernel_rfl) (fun _ _ _ h => h) (Or.inl ⟨by rfl, ?_⟩) hHeld ?_ ?_
          rotate_left
          · rintro w' ⟨hB, h10, h14, k1, k2, k5, x1, x2, x5⟩
            have cv2 := Kd.C_string (P := Try.prog) (c := d2) Try.underlying22 Try.underlying5 Try.underlying9 x2
            go_simp
            with_reducible rfl
          rotate_left
          · simp only [Act.put, List.setIfInBounds_toArray, List.set_cons_zero, List.set_cons_succ, i64_w, i32_w]
            rfl
          refine take_ (i := 20) (N := some 126) (v := ?_) (a' := ?_) #[true, true, true, true, true, true, true, true, true, true, true, true, true, true, true, true, true, true, true, true, true, false, false, false] rfl rfl (by kernel_rfl) (fun _ _ _ h => h) (Or.inl ⟨by rfl, ?_⟩) hHeld ?_ ?_
          rotate_left
          · rintro w' ⟨hB, h10, h14, k1, k2, k5, x1, x2, x5⟩
            go_simp
            with_reducible rfl
          rotate_left
          · simp only [Act.put, List.setIfInBounds_toArray, List.set_cons_zero, List.set_cons_succ, i64_w, i32_w]
            rfl
          refine take_ (i := 21) (N := some 127) (v := ?_) (a' := ?_) #[true, true, true, true, true, true, true, true, true, true, true, true, true, true, true, true, true, true, true, true, true, true, false, false] rfl rfl (by kernel_rfl) (fun _ _ _ h => h) (Or.inl ⟨by rfl, ?_⟩) hHeld ?_ ?_
          rotate_left
          · rintro w' ⟨hB, h10, h14, k1, k2, k5, x1, x2, x5⟩
            have cv5 := Kd.C_string (P := Try.prog) (c := d5) Try.underlying22 Try.underlying5 Try.underlying9 x5
            go_simp
            with_reducible rfl
          rotate_left
          · simp only [Act.put, List.setIfInBounds_toArray, List.set_cons_zero, List.set_cons_succ, i64_w, i32_w]
            rfl
          refine pure_ (i := 22) (N := some 128) (v := ?_) (a' := ?_) #[true, true, true, true, true, true, true, true, true, true, true, true, true, true, true, true, true, true, true, true, true, true, true, false] rfl rfl (by kernel_rfl) (fun _ _ _ h => h) (Or.inl ⟨by rfl, ?_⟩) ?_ ?_
          rotate_left
          · intro w'
            go_simp
            with_reducible rfl
          rotate_left
          · simp only [Act.put, List.setIfInBounds_toArray, List.set_cons_zero, List.set_cons_succ, i64_w, i32_w]
            rfl
          refine pure_ (i := 23) (N := some 129) (v := ?_) (a' := ?_) #[true, true, true, true, true, true, true, true, true, true, true, true, true, true, true, true, true, true, true, true, true, true, true, true] rfl rfl (by kernel_rfl) (fun _ _ _ h => h) (Or.inl ⟨by rfl, ?_⟩) ?_ ?_
          rotate_left
          · intro w'
            go_simp
            with_reducible rfl
          rotate_left
          · simp only [Act.put, List.setIfInBounds_toArray, List.set_cons_zero, List.set_cons_succ, i64_w, i32_w]
            rfl
          refine done_ (by kernel_rfl) ?_
          obtain ⟨hB, h10, h14, _⟩ := hHeld
          go_wp2_with fail
          go_roundw
          case rel => exact ⟨j + 1, by first | rfl | go_num, Lib.hid (by omega), Lib.hid h10, Lib.hid h14, Lib.hid hB⟩
          case measure => simp [intOf]; omega
        · have d8 : decide ((j : Int) < (all.length : Int)) = false := by simp; omega
          go_wp2
          go_ret
          exact ⟨rfl, below_step HW.out HB.out⟩
end Go.Proofs.Ytojdkfhjhheeaaa.H
