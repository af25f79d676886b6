/- An element that was put is parsed back, whatever follows it; every proper prefix of its bytes is ErrEnd: the walk. Condition: what lies in a memory. -/
import Derived.Test.YtkhghgmonjebnaaPlainC
import Derived.Test.YtkhghgmonjebnaaAgainL
import Derived.Test.YtkhghgmonjebnaaOpenE
namespace Go.Proofs.Ytkhghgmonjebnaa.B
open Go.RowKit Go.Proofs.YtkhghgmonjebnaaW.PrintWords Go.Proofs.YtkhghgmonjebnaaW.PrintLast Go.Proofs.YtkhghgmonjebnaaW.PrintMore
open Go.Proofs.Ytkhghgmonjebnaa.H Go.Proofs.Ytkhghgmonjebnaa.K
set_option linter.unusedVariables false
set_option linter.unusedSimpArgs false

theorem putR_cases (x : S27) : (∃ e, e ≠ 0 ∧ putR x = ([], e)) ∨ (rightE x = true ∧ deepE x ≤ 24 ∧ (encE x).length ≤ 16384 ∧ putR x = (encE x, 0)) := by
  rw [putR_eq]
  split
  · exact .inl ⟨2, by decide, rfl⟩
  · rename_i h1
    split
    · exact .inl ⟨15, by decide, rfl⟩
    · split
      · exact .inl ⟨3, by decide, rfl⟩
      · exact .inr ⟨by simpa using h1, by omega, by omega, rfl⟩
theorem put_zero : putR z27 = ([0, 0], 0) := by decide +kernel
theorem zero_put (W : World) : Calls Try.prog 10 #[.agg #[.int .i64 0, .bool false, .int .i64 0, .slice none 0 0, .slice none 0 0]] W fun e w' => PutQ W z27 e w' :=
  put_calls z27 (by simp [z27, fitE, fitL, okb]) (by simp [z27, thinE, thinL]) none 0 none 0 W ⟨Nat.le_refl _, Kd.C_nil _ _, Nat.le_refl _, Kd.C_nil _ _⟩
theorem enc_pos {x : S27} (h : rightE x = true) : 2 ≤ (encE x).length := by
  obtain ⟨t, b, k⟩ := x
  rw [encE_eq, List.length_append]
  have := head_pos t (b ++ encL k).length (right_mk h).1
  omega

set_option maxRecDepth 100000 in
set_option maxHeartbeats 20000000 in
theorem back_walk (x : S27) (A3 : Option Addr) (c3 : Nat) (A4 : Option Addr) (c4 : Nat) (BA : Option Addr) (bc : Nat) (beh : List Int) (z : Int) (w : World) (hL : Lies w x A3 c3 A4 c4) (hf : fitE x)
    (hBC : Kd.C (Kd.int .u8) w BA beh.length beh) (hbc : beh.length ≤ bc) (hbo : okb beh = true) (hz0 : -9223372036854775808 ≤ z) (hz1 : z ≤ 9223372036854775807) :
    Calls Try.prog 6 #[ev x A3 c3 A4 c4, .slice BA beh.length bc, .int .i64 z] w fun e w' => e = .returned (.bool true) ∧ Below w.heap.size w w' := by
  have HOWN : Hid (∀ W, Below w.heap.size w W → Calls Try.prog 9 #[ev x A3 c3 A4 c4, .int .i64 0] W fun e w' => OwnQ w W x 0 A3 c3 e w') := Lib.hid (fun W hW => own_walk x hf w W 0 A3 c3 A4 c4 hL hW (by omega))
  have HL := Lib.hid hL
  have HFIT := Lib.hid hf
  have HBC := Lib.hid hBC
  by_cases hn : (30000 : Int) ≤ (ownR x 0).2
  · clear hL hf hBC hbc hbo hz0 hz1
    generalize (ownR x 0).1 = ox at HOWN
    go_enter Try.func6, Try.ntmps6
    go_wp2_with (go_at_call 9; refine (HOWN.out _ (below_alloc (Below.refl _ _) _)).mono ?_; unfold OwnQ; rintro e w1 ⟨B4, d4, rfl, _, hb1⟩; have HV1 := Lib.hid (blk_below (blk_new w (.cells #[.int .i64 x.f0.f0, .bool x.f0.f1, .int .i64 x.f0.f2, .slice A3 x.f1.length c3, .slice A4 x.f2.length c4] 27)) hb1); have HB1 := Lib.hid (below_then (below_alloc (Below.refl _ _) _) (by simp) hb1 : Below w.heap.size w w1); have p0 : ∀ o, (w1.alloc o).cell? ⟨w.heap.size, 0, none⟩ = some (.int .i64 x.f0.f0) := fun o => (blk_cell (blk_below HV1.out (below_alloc (Below.refl _ _) o)) 0).trans rfl; have p1 : ∀ o, (w1.alloc o).cell? ⟨w.heap.size, 1, none⟩ = some (.bool x.f0.f1) := fun o => (blk_cell (blk_below HV1.out (below_alloc (Below.refl _ _) o)) 1).trans rfl; have p2 : ∀ o, (w1.alloc o).cell? ⟨w.heap.size, 2, none⟩ = some (.int .i64 x.f0.f2) := fun o => (blk_cell (blk_below HV1.out (below_alloc (Below.refl _ _) o)) 2).trans rfl; have p3 : ∀ o, (w1.alloc o).cell? ⟨w.heap.size, 3, none⟩ = some (.slice A3 x.f1.length c3) := fun o => (blk_cell (blk_below HV1.out (below_alloc (Below.refl _ _) o)) 3).trans rfl; have p4 : ∀ o, (w1.alloc o).cell? ⟨w.heap.size, 4, none⟩ = some (.slice A4 x.f2.length c4) := fun o => (blk_cell (blk_below HV1.out (below_alloc (Below.refl _ _) o)) 4).trans rfl; clear hb1)
    go_ret
    exact ⟨rfl, below_alloc HB1.out _⟩
  · by_cases hbl : (300 : Int) < (beh.length : Int)
    · clear hL hf hBC hbc hbo hz0 hz1
      go_enter Try.func6, Try.ntmps6
      go_wp2_with (go_at_call 9; refine (HOWN.out _ (below_alloc (Below.refl _ _) _)).mono ?_; unfold OwnQ; rintro e w1 ⟨B4, d4, rfl, _, hb1⟩; have HV1 := Lib.hid (blk_below (blk_new w (.cells #[.int .i64 x.f0.f0, .bool x.f0.f1, .int .i64 x.f0.f2, .slice A3 x.f1.length c3, .slice A4 x.f2.length c4] 27)) hb1); have HB1 := Lib.hid (below_then (below_alloc (Below.refl _ _) _) (by simp) hb1 : Below w.heap.size w w1); have p0 : ∀ o, (w1.alloc o).cell? ⟨w.heap.size, 0, none⟩ = some (.int .i64 x.f0.f0) := fun o => (blk_cell (blk_below HV1.out (below_alloc (Below.refl _ _) o)) 0).trans rfl; have p1 : ∀ o, (w1.alloc o).cell? ⟨w.heap.size, 1, none⟩ = some (.bool x.f0.f1) := fun o => (blk_cell (blk_below HV1.out (below_alloc (Below.refl _ _) o)) 1).trans rfl; have p2 : ∀ o, (w1.alloc o).cell? ⟨w.heap.size, 2, none⟩ = some (.int .i64 x.f0.f2) := fun o => (blk_cell (blk_below HV1.out (below_alloc (Below.refl _ _) o)) 2).trans rfl; have p3 : ∀ o, (w1.alloc o).cell? ⟨w.heap.size, 3, none⟩ = some (.slice A3 x.f1.length c3) := fun o => (blk_cell (blk_below HV1.out (below_alloc (Below.refl _ _) o)) 3).trans rfl; have p4 : ∀ o, (w1.alloc o).cell? ⟨w.heap.size, 4, none⟩ = some (.slice A4 x.f2.length c4) := fun o => (blk_cell (blk_below HV1.out (below_alloc (Below.refl _ _) o)) 4).trans rfl; clear hb1)
      go_ret
      exact ⟨rfl, below_alloc HB1.out _⟩
    · obtain ⟨hth, hdp⟩ := own_thin x 0 (by omega) (by omega)
      have HPUT : Hid (∀ W, Below w.heap.size w W → Calls Try.prog 10 #[ev x A3 c3 A4 c4] W fun e w' => PutQ W x e w') := Lib.hid (fun W hW => put_calls x hf hth A3 c3 A4 c4 W (hL.below hW))
      have HBL : Hid (beh.length ≤ 300) := Lib.hid (by omega)
      rcases putR_cases x with ⟨e0, he0, hpr⟩ | ⟨g1, g2, g3, hpr⟩
      · have he1 : (e0 != 0) = true := by simpa using he0
        clear hL hf hBC hbc hbo hz0 hz1 hth hdp he0
        go_enter Try.func6, Try.ntmps6
        go_wp2_with (first | (go_at_call 9; refine (HOWN.out _ (below_alloc (Below.refl _ _) _)).mono ?_; unfold OwnQ; rintro e w1 ⟨B4, d4, rfl, _, hb1⟩; have HV1 := Lib.hid (blk_below (blk_new w (.cells #[.int .i64 x.f0.f0, .bool x.f0.f1, .int .i64 x.f0.f2, .slice A3 x.f1.length c3, .slice A4 x.f2.length c4] 27)) hb1); have HB1 := Lib.hid (below_then (below_alloc (Below.refl _ _) _) (by simp) hb1 : Below w.heap.size w w1); have p0 : ∀ o, (w1.alloc o).cell? ⟨w.heap.size, 0, none⟩ = some (.int .i64 x.f0.f0) := fun o => (blk_cell (blk_below HV1.out (below_alloc (Below.refl _ _) o)) 0).trans rfl; have p1 : ∀ o, (w1.alloc o).cell? ⟨w.heap.size, 1, none⟩ = some (.bool x.f0.f1) := fun o => (blk_cell (blk_below HV1.out (below_alloc (Below.refl _ _) o)) 1).trans rfl; have p2 : ∀ o, (w1.alloc o).cell? ⟨w.heap.size, 2, none⟩ = some (.int .i64 x.f0.f2) := fun o => (blk_cell (blk_below HV1.out (below_alloc (Below.refl _ _) o)) 2).trans rfl; have p3 : ∀ o, (w1.alloc o).cell? ⟨w.heap.size, 3, none⟩ = some (.slice A3 x.f1.length c3) := fun o => (blk_cell (blk_below HV1.out (below_alloc (Below.refl _ _) o)) 3).trans rfl; have p4 : ∀ o, (w1.alloc o).cell? ⟨w.heap.size, 4, none⟩ = some (.slice A4 x.f2.length c4) := fun o => (blk_cell (blk_below HV1.out (below_alloc (Below.refl _ _) o)) 4).trans rfl; clear hb1) | (go_at_call 10; with_reducible refine (HPUT.out _ (below_alloc HB1.out _)).mono ?_; unfold PutQ; rw [hpr]; rintro e w2 ⟨v9, rfl, h9, hb2⟩; (obtain ⟨A9, c9, hv9⟩ := Kd.R_slice h9); subst hv9; have HB2 := Lib.hid (below_then (below_alloc HB1.out _) (by simp; have := HB1.out.size; omega) hb2 : Below w.heap.size w w2); clear h9 hb2) | (go_at_call 10; refine (zero_put _).mono ?_; unfold PutQ; rw [put_zero]; rintro e w3 ⟨v11, rfl, h11, hb3⟩; (obtain ⟨A11, c11, hv11, _, hC11⟩ := Kd.R_reads h11); subst hv11; have HB3 := Lib.hid (below_then HB2.out HB2.out.size hb3); have hcv : (convert 24 9 (.slice A11 2 c11)).run Try.prog w3 = .ok (.string (strOfNums [0, 0])) w3 := Kd.C_string (P := Try.prog) (c := c11) Try.underlying24 Try.underlying5 Try.underlying9 hC11; clear h11 hb3 hC11))
        have hs7 : ((strOfNums [0, 0]).toList == [0, 0]) = true := by decide +kernel
        go_ret
        exact ⟨congrArg (fun b => Ending.returned (Value.bool b)) hs7, HB3.out⟩
      · have g4 := enc_pos g1
        have HEL : Hid (2 ≤ (encE x).length ∧ (encE x).length ≤ 16384) := Lib.hid ⟨g4, g3⟩
        have hoe := enc_okb x hf (by omega)
        obtain ⟨al, hal⟩ : ∃ l, l = encE x ++ beh := ⟨_, rfl⟩
        have HAL := Lib.hid hal
        have HOKA : Hid (okb al = true) := Lib.hid (by rw [hal]; exact okb_app hoe hbo)
        have HLA : Hid ((al.length : Int) < 1000000000) := Lib.hid (by rw [hal, List.length_append]; omega)
        have HPB : Hid (parseF al = .ok (x, ((encE x).length : Int))) := Lib.hid (by rw [hal]; exact parse_back (x := x) (behind := beh) g1 g3 g2)
        clear hal
        obtain ⟨jj, hjj⟩ : ∃ j, j = ((z.tmod ((encE x).length : Int)) + ((encE x).length : Int)).tmod ((encE x).length : Int) := ⟨_, rfl⟩
        have hm1 := Int.tmod_lt_of_pos z (show (0 : Int) < ((encE x).length : Int) by omega)
        have hm2 : -((encE x).length : Int) < z.tmod ((encE x).length : Int) := by
          rcases Int.le_total 0 z with h | h
          · have := Int.tmod_nonneg ((encE x).length : Int) h
            omega
          · have h2 := Int.tmod_lt_of_pos (-z) (show (0 : Int) < ((encE x).length : Int) by omega)
            rw [Int.neg_tmod] at h2
            omega
        have hj0 : 0 ≤ jj := by rw [hjj]; exact Int.tmod_nonneg _ (by omega)
        have hj1 : jj < ((encE x).length : Int) := by rw [hjj]; exact Int.tmod_lt_of_pos _ (by omega)
        obtain ⟨tk, htk⟩ : ∃ l, l = (encE x).take jj.toNat := ⟨_, rfl⟩
        have HPJ : Hid (parseF tk = .error 10) := Lib.hid (by rw [htk]; exact cut_end g1 g3 jj.toNat (by omega))
        have HOKJ : Hid (okb tk = true) := Lib.hid (by rw [htk]; exact okb_take hoe jj.toNat)
        have HLJ : Hid ((tk.length : Int) < 1000000000) := Lib.hid (by rw [htk, List.length_take]; omega)
        obtain ⟨i5, hi5, _, hsz5, _⟩ := info_parts info5
        have HCUT := Lib.hid (fun (A9 : Option Addr) (c9 : Nat) (h : (encE x).length ≤ c9) => print_take_of (P := Try.prog) (Value.int .u8) 0 24 5 .i64 Try.underlying24 hi5 hsz5 A9 c9 (encE x) jj hj0 (by omega) h)
        rw [← htk] at HCUT
        rw [hjj] at HCUT
        clear htk
        have hw1 : wrap64 (z.tmod ((encE x).length : Int) + ((encE x).length : Int)) = z.tmod ((encE x).length : Int) + ((encE x).length : Int) := by unfold wrap64; omega
        have hlt2 : decide (((encE x).length : Int) < 2) = false := decide_eq_false (by omega)
        have hne0 : ¬ ((encE x).length : Int) = 0 := by omega
        have hnb : decide ((30000 : Int) ≤ (ownR x 0).2) = false := decide_eq_false hn
        have hbb : decide ((300 : Int) < (beh.length : Int)) = false := decide_eq_false hbl
        clear hn hbl hL hf hBC hbc hbo hz0 hz1 hth hdp g1 g2 g3 g4 hoe hi5 hsz5 hj0 hj1 hm1 hm2
        go_enter Try.func6, Try.ntmps6
        go_wp2_with (first | (go_at_call 9; refine (HOWN.out _ (below_alloc (Below.refl _ _) _)).mono ?_; unfold OwnQ; rintro e w1 ⟨B4, d4, rfl, _, hb1⟩; have HV1 := Lib.hid (blk_below (blk_new w (.cells #[.int .i64 x.f0.f0, .bool x.f0.f1, .int .i64 x.f0.f2, .slice A3 x.f1.length c3, .slice A4 x.f2.length c4] 27)) hb1); have HB1 := Lib.hid (below_then (below_alloc (Below.refl _ _) _) (by simp) hb1 : Below w.heap.size w w1); have p0 : ∀ o, (w1.alloc o).cell? ⟨w.heap.size, 0, none⟩ = some (.int .i64 x.f0.f0) := fun o => (blk_cell (blk_below HV1.out (below_alloc (Below.refl _ _) o)) 0).trans rfl; have p1 : ∀ o, (w1.alloc o).cell? ⟨w.heap.size, 1, none⟩ = some (.bool x.f0.f1) := fun o => (blk_cell (blk_below HV1.out (below_alloc (Below.refl _ _) o)) 1).trans rfl; have p2 : ∀ o, (w1.alloc o).cell? ⟨w.heap.size, 2, none⟩ = some (.int .i64 x.f0.f2) := fun o => (blk_cell (blk_below HV1.out (below_alloc (Below.refl _ _) o)) 2).trans rfl; have p3 : ∀ o, (w1.alloc o).cell? ⟨w.heap.size, 3, none⟩ = some (.slice A3 x.f1.length c3) := fun o => (blk_cell (blk_below HV1.out (below_alloc (Below.refl _ _) o)) 3).trans rfl; have p4 : ∀ o, (w1.alloc o).cell? ⟨w.heap.size, 4, none⟩ = some (.slice A4 x.f2.length c4) := fun o => (blk_cell (blk_below HV1.out (below_alloc (Below.refl _ _) o)) 4).trans rfl; clear hb1) | (go_at_call 10; with_reducible refine (HPUT.out _ (below_alloc HB1.out _)).mono ?_; unfold PutQ; rw [hpr]; rintro e w2 ⟨v9, rfl, h9, hb2⟩; (obtain ⟨A9, c9, hv9, hl9, hC9⟩ := Kd.R_reads h9); subst hv9; have HC9 := Lib.hid hC9; have HL9 := Lib.hid hl9; have HV2 := Lib.hid (blk_below (blk_below HV1.out (below_alloc (Below.refl _ _) _)) hb2); have HB2 := Lib.hid (below_then (below_alloc HB1.out _) (by simp; have := HB1.out.size; omega) hb2 : Below w.heap.size w w2); clear h9 hb2 hC9 hl9) | ((with_reducible refine gate_dst (N := 55) rfl ?_); refine Kd.R_lit (Kd.int .u8) (w0 := w2) w2.heap.size 5 ?hg (N := 55) ?hd (xs := ([] : List Int)) (inner := []) (ok := fun _ => True) (okp := fun _ => True) ?hr ?hp (fun _ hk => hk) trivial (Below.refl _ _) (Nat.le_refl _) (by simp) ?_; (case hd => rfl); (case hg => rfl); (case hr => first | (go_simp; done) | (go_simp; rfl)); (case hp => exact (Reps.none _ _)); intro v55 w55 ho hb hg hnew; have HO55 := Lib.hid ho; have HB55 := Lib.hid hb; clear ho hb hg hnew) | ((with_reducible refine gate_builtin (b := .append) (xs := #[.tmp 55, .tmp 56]) rfl ?_); at_builtin; refine Kd.R_append_rows (Kd.int .u8) (w0 := w2) w2.heap.size rfl (.tmp 55) (.tmp 56) 24 5 (.int .u8 0) 1 rfl Try.underlying24 info5 rfl (by decide) (by omega) v55 [] (encE x) A9 (encE x).length c9 (fun _ => True) (fun _ => False) rfl rfl HO55.out (Kd.C_below HC9.out HB55.out) (fun _ _ h => h) (fun _ h => h.elim) (fun _ _ => trivial) HB55.out HB55.out.size (by have := HEL.out; simp; omega) ?_; intro v57 w57 ho hb hg hat; rw [List.nil_append] at ho; have HO57 := Lib.hid ho; have HB57 := Lib.hid hb; clear ho hb hg hat) | ((with_reducible refine gate_builtin (b := .append) (xs := #[.tmp 57, .tmp 58]) rfl ?_); at_builtin; refine Kd.R_append_rows (Kd.int .u8) (w0 := w2) w2.heap.size rfl (.tmp 57) (.tmp 58) 24 5 (.int .u8 0) 1 rfl Try.underlying24 info5 rfl (by decide) (by omega) v57 (encE x) beh BA beh.length bc (fun _ => True) (fun _ => False) rfl rfl HO57.out (Kd.C_below HBC.out (below_then HB2.out HB2.out.size HB57.out)) (fun _ _ h => h) (fun _ h => h.elim) (fun _ _ => trivial) HB57.out HB57.out.size (by have := HEL.out; have := HBL.out; omega) ?_; intro v59 w59 ho hb hg hat; rw [← HAL.out] at ho; (obtain ⟨A59, c59, hv59, hl59, hC59⟩ := Kd.R_reads ho); subst hv59; have HC59 := Lib.hid hC59; have HL59 := Lib.hid hl59; have HB59 := Lib.hid (below_then HB2.out HB2.out.size hb); have HV59 := Lib.hid (blk_below HV2.out hb); have HC99 := Lib.hid (Kd.C_below HC9.out hb); clear ho hb hg hat hC59 hl59) | (go_at_call 17; with_reducible refine (parse_calls tk A9 c9 _ HCK.out HLK.out HOKJ.out HLJ.out).mono ?_; unfold ParseQ; rw [HPJ.out]; rintro e w5 ⟨hb5, rfl⟩; have HB5 := Lib.hid (below_then HB4.out HB4.out.size hb5); clear hb5) | (go_at_call 17; with_reducible refine (parse_calls al A59 c59 _ HC59.out HL59.out HOKA.out HLA.out).mono ?_; unfold ParseQ; rw [HPB.out]; rintro e w3 ⟨hb3, E3, f3, E4, f4, rfl, h3, h4⟩; have HB3 := Lib.hid (below_then HB59.out HB59.out.size hb3); have HV3 := Lib.hid (blk_below HV59.out hb3); have HM3 := Lib.hid (lies_R h3 h4); have HC93 := Lib.hid (Kd.C_below HC99.out hb3); have q0 : ∀ o, (w3.alloc o).cell? ⟨w.heap.size, 0, none⟩ = some (.int .i64 x.f0.f0) := fun o => (blk_cell (blk_below HV3.out (below_alloc (Below.refl _ _) o)) 0).trans rfl; have q1 : ∀ o, (w3.alloc o).cell? ⟨w.heap.size, 1, none⟩ = some (.bool x.f0.f1) := fun o => (blk_cell (blk_below HV3.out (below_alloc (Below.refl _ _) o)) 1).trans rfl; have q2 : ∀ o, (w3.alloc o).cell? ⟨w.heap.size, 2, none⟩ = some (.int .i64 x.f0.f2) := fun o => (blk_cell (blk_below HV3.out (below_alloc (Below.refl _ _) o)) 2).trans rfl; have q3 : ∀ o, (w3.alloc o).cell? ⟨w.heap.size, 3, none⟩ = some (.slice A3 x.f1.length c3) := fun o => (blk_cell (blk_below HV3.out (below_alloc (Below.refl _ _) o)) 3).trans rfl; have q4 : ∀ o, (w3.alloc o).cell? ⟨w.heap.size, 4, none⟩ = some (.slice A4 x.f2.length c4) := fun o => (blk_cell (blk_below HV3.out (below_alloc (Below.refl _ _) o)) 4).trans rfl; clear h3 h4 hb3) | (go_at_call 12; refine (same_walk x x HFIT.out HFIT.out A3 c3 A4 c4 E3 f3 E4 f4 _ (HL.out.below (below_alloc HB3.out _)) (HM3.out.below (below_alloc (Below.refl _ _) _))).mono ?_; rw [same_refl]; rintro e w4 ⟨rfl, hb4⟩; have HB4 := Lib.hid (below_then (below_alloc HB3.out _) (by simp; have := HB3.out.size; omega) hb4 : Below w.heap.size w w4); have HC94 := Lib.hid (Kd.C_below HC93.out (below_then (below_alloc (Below.refl _ _) _) (by simp) hb4)); have hcut := fun W => (HCUT.out A9 c9 HL9.out).1 W; have HCK := Lib.hid (show Kd.C (Kd.int .u8) w4 A9 tk.length tk from Kd.C_of_reads (h1 := fun _ => rfl) ((HCUT.out A9 c9 HL9.out).2.1 _ (Kd.reads_of_C HC94.out))); have HLK := Lib.hid (HCUT.out A9 c9 HL9.out).2.2; clear hb4))
        go_ret
        exact ⟨rfl, below_alloc HB5.out _⟩
theorem back_row (x : S27) (A3 : Option Addr) (c3 : Nat) (A4 : Option Addr) (c4 : Nat) (a1 : Option Addr) (len1 cap1 : Nat) (z1 : List Int) (z : Int) (w : World) (hL : Lies w x A3 c3 A4 c4) (hf : fitE x) (w1 : InRow w a1 len1 cap1 z1) (hz : (Lit.int .i64 z).wf = true) :
    Calls Try.prog 6 #[ev x A3 c3 A4 c4, .slice a1 len1 cap1, .int .i64 z] w fun e w' => e = .returned (.bool true) ∧ Below w.heap.size w w' := by
  obtain ⟨l, rfl, hr0, hm0, hw0, hc0⟩ := ReadsInt.ofRowC w1
  have hX : Kd.C (Kd.int .u8) w a1 l.length l := Kd.C_of_reads (d := (0 : Int)) (h1 := fun _ => rfl) hr0
  have hz2 : -9223372036854775808 ≤ z ∧ z ≤ 9223372036854775807 := by
    simp [Lit.wf, IntKind.min, IntKind.max, IntKind.signed, IntKind.bits] at hz
    omega
  exact back_walk x A3 c3 A4 c4 a1 cap1 l z w hL hf hX hc0 (okb_wf hw0) hz2.1 hz2.2
end Go.Proofs.Ytkhghgmonjebnaa.B
