/- A net that nobody made has no messages: the walk. Condition: the message's shape. -/
import Derived.Test.YtbojccpaohccfaaNetF
namespace Go.Proofs.Ytbojccpaohccfaa.H
open Go.RowKit Go.Proofs.YtbojccpaohccfaaW.PrintWords Go.Proofs.YtbojccpaohccfaaW.PrintLast Go.Proofs.YtbojccpaohccfaaW.PrintMore
set_option linter.unusedVariables false
set_option linter.unusedSimpArgs false
/-- A net that nobody made. -/
def NoN (w : World) (v : Value) : Prop := v = .pointer none ∨ ∃ p, v = .pointer (some ⟨p, 0, none⟩) ∧ w.cell? ⟨p, 0, none⟩ = some (.bool false)
theorem NoN.below {w w' : World} {v : Value} (h : NoN w v) (hb : Below w.heap.size w w') : NoN w' v := by
  rcases h with h | ⟨p, h, hc⟩
  · exact .inl h
  · exact .inr ⟨p, h, pw_cell_below hb hc⟩
theorem is_no {v : Value} {w : World} (h : NoN w v) : Calls Try.prog 18 #[v] w fun e w' => e = .returned (.bool false) ∧ w = w' := by
  rcases h with rfl | ⟨p, rfl, hc⟩
  · go_enter Try.func18, Try.ntmps18
    go_wp2
    go_ret
    exact ⟨rfl, rfl⟩
  · go_enter Try.func18, Try.ntmps18
    go_wp2
    go_ret
    exact ⟨rfl, rfl⟩
theorem send_no {v s : Value} {w : World} (h : NoN w v) : Calls Try.prog 8 #[v, s] w fun e w' => e = .returned (.tuple #[]) ∧ w = w' := by
  have H := Lib.hid h
  clear h
  go_enter Try.func8, Try.ntmps8
  go_wp2_with (go_at_call 18; refine (is_no H.out).mono ?_; rintro e w1 ⟨rfl, rfl⟩)
  exact bodyPost_ret (v := .tuple #[]) (by simp [results, Try.results8, go_sem]) rfl ⟨rfl, rfl⟩
theorem empty_no {v : Value} {w : World} (h : NoN w v) : Calls Try.prog 12 #[v] w fun e w' => e = .returned (.tuple #[]) ∧ w = w' := by
  have H := Lib.hid h
  clear h
  go_enter Try.func12, Try.ntmps12
  go_wp2_with (go_at_call 18; refine (is_no H.out).mono ?_; rintro e w1 ⟨rfl, rfl⟩)
  exact bodyPost_end (v := .tuple #[]) (by simp [results, Try.results12, go_sem]) rfl ⟨rfl, rfl⟩
theorem len_no {v : Value} {w : World} (h : NoN w v) : Calls Try.prog 14 #[v] w fun e w' => e = .returned (.int .i64 0) ∧ w = w' := by
  have H := Lib.hid h
  clear h
  go_enter Try.func14, Try.ntmps14
  go_wp2_with (go_at_call 18; refine (is_no H.out).mono ?_; rintro e w1 ⟨rfl, rfl⟩)
  go_ret
  exact ⟨rfl, rfl⟩
theorem all_no {v : Value} {w : World} (h : NoN w v) : Calls Try.prog 13 #[v] w fun e w' => e = .returned nil_ ∧ w = w' := by
  have H := Lib.hid h
  clear h
  go_enter Try.func13, Try.ntmps13
  go_wp2_with (go_at_call 18; refine (is_no H.out).mono ?_; rintro e w1 ⟨rfl, rfl⟩)
  go_ret
  exact ⟨rfl, rfl⟩
theorem place_no {v : Value} {x : Int} {w : World} (h : NoN w v) : Calls Try.prog 20 #[v, .int .i64 x] w fun e w' => e = .returned (.tuple #[.int .i64 0, .bool false]) ∧ w = w' := by
  have H := Lib.hid h
  clear h
  go_enter Try.func20, Try.ntmps20
  go_wp2_with (go_at_call 18; refine (is_no H.out).mono ?_; rintro e w1 ⟨rfl, rfl⟩)
  exact bodyPost_ret (v := .tuple #[.int .i64 0, .bool false]) (by simp [results, Try.results20, go_sem]) rfl ⟨rfl, rfl⟩
theorem copy_no {v : Value} {x : Int} {w : World} (h : NoN w v) : Calls Try.prog 11 #[v, .int .i64 x] w fun e w' => e = .returned (.bool false) ∧ w = w' := by
  have H := Lib.hid h
  clear h
  go_enter Try.func11, Try.ntmps11
  go_wp2_with (go_at_call 20; refine (place_no H.out).mono ?_; rintro e w1 ⟨rfl, rfl⟩)
  go_ret
  exact ⟨rfl, rfl⟩
set_option maxRecDepth 100000 in
theorem take_no {v : Value} {x : Int} {w : World} (h : NoN w v) : Calls Try.prog 9 #[v, .int .i64 x] w fun e w' => e = .returned (.tuple #[MV 0, .bool false]) ∧ Below w.heap.size w w' := by
  have H := Lib.hid h
  clear h
  go_enter Try.func9, Try.ntmps9
  go_wp2_with (first
    | ((with_reducible refine gate_dst (N := 4) rfl ?_); refine box_event ?hg4 (N := 4) ?hd4 (cs := mcs 0) (t := 39) ?hr4 ?_; (case hd4 => rfl); (case hg4 => rfl); (case hr4 => first | (go_simp; done) | (go_simp; rfl)); intro o4 ho4 w4 hbox hb; have HO4 := Lib.hid hbox; have EO4 := Lib.hid (show o4 = w.heap.size from ho4); have HB4 := Lib.hid hb; have H4 := Lib.hid (H.out.below hb); clear hbox hb ho4)
    | (go_at_call 20; refine (place_no H4.out).mono ?_; rintro e w1 ⟨rfl, rfl⟩)
    | (refine gate_ (.store 39 (.tmp 4) (.tmp 17)) rfl ?_; refine put_box rfl rfl 39 (.tmp 4) (.tmp 17) rfl (MV 0) (by rfl) (by rfl) HO4.out (cs' := mcs 0) (by rfl) (by kernel_rfl) (by rfl) (mcs_one 0) ?_; intro w5 hbox hg; have HO5 := Lib.hid hbox; have HB5 := Lib.hid (pw_below_grown HB4.out (some o4) HB4.out.size hg (fun k hk => by injection hk with hk; have := EO4.out; omega)); clear hbox hg))
  obtain ⟨y0, y1, y2, y3, y4, y5, y6, y7, y8, y9, y10⟩ := mcs_eq HO5.out
  exact bodyPost_ret (v := .tuple #[MV 0, .bool false]) (by simp [results, Try.results9, go_sem, *]) rfl ⟨rfl, HB5.out⟩
section
variable (m0 m1 m2 m3 m5 : Int) (m4 : Bool) (A6 A7 A8 A9 A10 : Option Addr) (n6 c6 n7 c7 n8 c8 n9 c9 n10 c10 : Nat)
abbrev mgs : Array Value := #[.int .i64 m0, .int .i64 m1, .int .i64 m2, .int .i64 m3, .bool m4, .int .i64 m5, .slice A6 n6 c6, .slice A7 n7 c7, .slice A8 n8 c8, .slice A9 n9 c9, .slice A10 n10 c10]
end
set_option maxRecDepth 100000 in
set_option maxHeartbeats 8000000 in
theorem nobody_walk (m0 m1 m2 m3 m5 : Int) (m4 : Bool) (A6 A7 A8 A9 A10 : Option Addr) (n6 c6 n7 c7 n8 c8 n9 c9 n10 c10 : Nat) (x : Int) (w : World) : Calls Try.prog 4 #[.agg (mgs m0 m1 m2 m3 m5 m4 A6 A7 A8 A9 A10 n6 c6 n7 c7 n8 c8 n9 c9 n10 c10), .int .i64 x] w fun e w' => e = .returned (.bool true) ∧ Below w.heap.size w w' := by
  go_enter Try.func4, Try.ntmps4
  go_wp2_with (first
    | ((with_reducible refine gate_dst (N := 2) rfl ?_); refine box_event ?hg2 (N := 2) ?hd2 (cs := (mgs m0 m1 m2 m3 m5 m4 A6 A7 A8 A9 A10 n6 c6 n7 c7 n8 c8 n9 c9 n10 c10)) (t := 39) ?hr2 ?_; (case hd2 => rfl); (case hg2 => rfl); (case hr2 => first | (go_simp; done) | (go_simp; rfl)); intro gm hgm w1 hbox hb; have HM1 := Lib.hid hbox; have HB1 := Lib.hid hb; clear hbox hb hgm)
    | ((with_reducible refine gate_dst (N := 10) rfl ?_); refine box_event ?hg10 (N := 10) ?hd10 (cs := #[.bool false, nil_]) (t := 53) ?hr10 ?_; (case hd10 => rfl); (case hg10 => rfl); (case hr10 => first | (go_simp; done) | (go_simp; rfl)); intro q hq w2 hbox hb; have HQ2 := Lib.hid (show NoN w2 (.pointer (some ⟨q, 0, none⟩)) from .inr ⟨q, rfl, (blk_cell hbox 0).trans rfl⟩); have HM2 := Lib.hid (blk_below HM1.out hb); have HB2 := Lib.hid (below_then HB1.out HB1.out.size hb); clear hbox hb hq)
    | ((with_reducible refine gate_dst (N := 11) rfl ?_); refine lit_event ?hg11 (N := 11) ?hd11 (cs := #[.pointer none, .pointer (some ⟨q, 0, none⟩)]) (t := 23) (n := 2) ?hr11 ?_; (case hd11 => rfl); (case hg11 => rfl); (case hr11 => first | (go_simp; done) | (go_simp; rfl)); intro ba hba Wb hbox hb; have HA := Lib.hid hbox; have HQ := Lib.hid (HQ2.out.below hb); have HM := Lib.hid (blk_below HM2.out hb); have HB := Lib.hid (below_then HB2.out HB2.out.size hb); clear hbox hb hba))
  go_loopw [13] (fun i wr => ∃ k : Nat, k ≤ 2 ∧ i = .int .i64 k ∧ Hid (Below Wb.heap.size Wb wr)) (fun i _ => 2 - (intOf i).toNat)
  case atStart => exact ⟨0, by omega, rfl, Lib.hid (Below.refl _ _)⟩
  case round =>
    obtain ⟨k, hk, rfl, HBr⟩ := hrel
    by_cases hlt : k < 2
    · rcases (by omega : k = 0 ∨ k = 1) with rfl | rfl
      · have hc : wr.cell? ⟨ba, 0, none⟩ = some (.pointer none) := pw_cell_below HBr.out ((blk_cell HA.out 0).trans rfl)
        have NK := Lib.hid (show NoN wr (.pointer none) from .inl rfl)
        have hM := blk_below HM.out HBr.out
        have z0 : wr.cell? ⟨gm, 0, none⟩ = some (.int .i64 m0) := (blk_cell hM 0).trans rfl
        have z1 : wr.cell? ⟨gm, 1, none⟩ = some (.int .i64 m1) := (blk_cell hM 1).trans rfl
        have z2 : wr.cell? ⟨gm, 2, none⟩ = some (.int .i64 m2) := (blk_cell hM 2).trans rfl
        have z3 : wr.cell? ⟨gm, 3, none⟩ = some (.int .i64 m3) := (blk_cell hM 3).trans rfl
        have z4 : wr.cell? ⟨gm, 4, none⟩ = some (.bool m4) := (blk_cell hM 4).trans rfl
        have z5 : wr.cell? ⟨gm, 5, none⟩ = some (.int .i64 m5) := (blk_cell hM 5).trans rfl
        have z6 : wr.cell? ⟨gm, 6, none⟩ = some (.slice A6 n6 c6) := (blk_cell hM 6).trans rfl
        have z7 : wr.cell? ⟨gm, 7, none⟩ = some (.slice A7 n7 c7) := (blk_cell hM 7).trans rfl
        have z8 : wr.cell? ⟨gm, 8, none⟩ = some (.slice A8 n8 c8) := (blk_cell hM 8).trans rfl
        have z9 : wr.cell? ⟨gm, 9, none⟩ = some (.slice A9 n9 c9) := (blk_cell hM 9).trans rfl
        have z10 : wr.cell? ⟨gm, 10, none⟩ = some (.slice A10 n10 c10) := (blk_cell hM 10).trans rfl
        have HBW := Lib.hid (show Below w.heap.size w wr from below_then HB.out HB.out.size HBr.out)
        go_wp2_with (first
          | ((with_reducible refine gate_dst (N := 19) rfl ?_); refine lit_event ?hg19 (N := 19) ?hd19 (cs := (mgs m0 m1 m2 m3 m5 m4 A6 A7 A8 A9 A10 n6 c6 n7 c7 n8 c8 n9 c9 n10 c10)) (t := 39) (n := 1) ?hr19 ?_; (case hd19 => rfl); (case hg19 => rfl); (case hr19 => first | (go_simp; done) | (go_simp; rfl)); intro b19 hb19 w2 hbox hb; have NK2 := Lib.hid (NK.out.below hb); have HB2 := Lib.hid (below_then HBr.out HBr.out.size hb); clear hbox hb hb19 z0 z1 z2 z3 z4 z5 z6 z7 z8 z9 z10 hc)
          | (go_at_call 8; refine (send_no NK2.out).mono ?_; rintro e w3 ⟨rfl, rfl⟩)
          | (go_at_call 12; refine (empty_no NK2.out).mono ?_; rintro e w3 ⟨rfl, rfl⟩)
          | (go_at_call 9; refine (take_no NK2.out).mono ?_; rintro e w4 ⟨rfl, hb⟩; have NK4 := Lib.hid (NK2.out.below hb); have HB4 := Lib.hid (below_then HB2.out HB2.out.size hb); clear hb)
          | ((with_reducible refine gate_dst (N := 7) rfl ?_); refine box_event ?hg7 (N := 7) ?hd7 (cs := mcs 0) (t := 39) ?hr7 ?_; (case hd7 => rfl); (case hg7 => rfl); (case hr7 => first | (go_simp; done) | (go_simp; rfl)); intro o7 ho7 w5 hbox hb; have HO5 := Lib.hid hbox; have EO5 := Lib.hid (show o7 = w4.heap.size from ho7); have HB45 := Lib.hid hb; clear hbox hb ho7)
          | (refine gate_ (.store 39 (.tmp 7) (.tmp 27)) rfl ?_; refine put_box rfl rfl 39 (.tmp 7) (.tmp 27) rfl (MV 0) (by rfl) (by rfl) HO5.out (cs' := mcs 0) (by rfl) (by kernel_rfl) (by rfl) (mcs_one 0) ?_; intro w6 hbox hg; have HB46 := Lib.hid (pw_below_grown HB45.out (some o7) HB45.out.size hg (fun k hk => by injection hk with hk; have := EO5.out; omega)); have NK6 := Lib.hid (NK4.out.below HB46.out); have HB6 := Lib.hid (below_then HB4.out HB4.out.size HB46.out); have q0 := (blk_cell hbox 0).trans (show (mcs 0)[0]? = some (.int .i64 0) from rfl); clear hbox hg HB45 HO5)
          | (go_at_call 11; refine (copy_no NK6.out).mono ?_; rintro e w7 ⟨rfl, rfl⟩)
          | (go_at_call 14; refine (len_no NK6.out).mono ?_; rintro e w7 ⟨rfl, rfl⟩)
          | (go_at_call 13; refine (all_no NK6.out).mono ?_; rintro e w7 ⟨rfl, rfl⟩))
        go_roundw
        case rel => exact ⟨1, by omega, by go_num, HB6⟩
        case measure => simp [intOf]
      · have hc : wr.cell? ⟨ba, 1, none⟩ = some (.pointer (some ⟨q, 0, none⟩)) := pw_cell_below HBr.out ((blk_cell HA.out 1).trans rfl)
        have NK := Lib.hid (show NoN wr (.pointer (some ⟨q, 0, none⟩)) from HQ.out.below HBr.out)
        have hM := blk_below HM.out HBr.out
        have z0 : wr.cell? ⟨gm, 0, none⟩ = some (.int .i64 m0) := (blk_cell hM 0).trans rfl
        have z1 : wr.cell? ⟨gm, 1, none⟩ = some (.int .i64 m1) := (blk_cell hM 1).trans rfl
        have z2 : wr.cell? ⟨gm, 2, none⟩ = some (.int .i64 m2) := (blk_cell hM 2).trans rfl
        have z3 : wr.cell? ⟨gm, 3, none⟩ = some (.int .i64 m3) := (blk_cell hM 3).trans rfl
        have z4 : wr.cell? ⟨gm, 4, none⟩ = some (.bool m4) := (blk_cell hM 4).trans rfl
        have z5 : wr.cell? ⟨gm, 5, none⟩ = some (.int .i64 m5) := (blk_cell hM 5).trans rfl
        have z6 : wr.cell? ⟨gm, 6, none⟩ = some (.slice A6 n6 c6) := (blk_cell hM 6).trans rfl
        have z7 : wr.cell? ⟨gm, 7, none⟩ = some (.slice A7 n7 c7) := (blk_cell hM 7).trans rfl
        have z8 : wr.cell? ⟨gm, 8, none⟩ = some (.slice A8 n8 c8) := (blk_cell hM 8).trans rfl
        have z9 : wr.cell? ⟨gm, 9, none⟩ = some (.slice A9 n9 c9) := (blk_cell hM 9).trans rfl
        have z10 : wr.cell? ⟨gm, 10, none⟩ = some (.slice A10 n10 c10) := (blk_cell hM 10).trans rfl
        have HBW := Lib.hid (show Below w.heap.size w wr from below_then HB.out HB.out.size HBr.out)
        go_wp2_with (first
          | ((with_reducible refine gate_dst (N := 19) rfl ?_); refine lit_event ?hg19 (N := 19) ?hd19 (cs := (mgs m0 m1 m2 m3 m5 m4 A6 A7 A8 A9 A10 n6 c6 n7 c7 n8 c8 n9 c9 n10 c10)) (t := 39) (n := 1) ?hr19 ?_; (case hd19 => rfl); (case hg19 => rfl); (case hr19 => first | (go_simp; done) | (go_simp; rfl)); intro b19 hb19 w2 hbox hb; have NK2 := Lib.hid (NK.out.below hb); have HB2 := Lib.hid (below_then HBr.out HBr.out.size hb); clear hbox hb hb19 z0 z1 z2 z3 z4 z5 z6 z7 z8 z9 z10 hc)
          | (go_at_call 8; refine (send_no NK2.out).mono ?_; rintro e w3 ⟨rfl, rfl⟩)
          | (go_at_call 12; refine (empty_no NK2.out).mono ?_; rintro e w3 ⟨rfl, rfl⟩)
          | (go_at_call 9; refine (take_no NK2.out).mono ?_; rintro e w4 ⟨rfl, hb⟩; have NK4 := Lib.hid (NK2.out.below hb); have HB4 := Lib.hid (below_then HB2.out HB2.out.size hb); clear hb)
          | ((with_reducible refine gate_dst (N := 7) rfl ?_); refine box_event ?hg7 (N := 7) ?hd7 (cs := mcs 0) (t := 39) ?hr7 ?_; (case hd7 => rfl); (case hg7 => rfl); (case hr7 => first | (go_simp; done) | (go_simp; rfl)); intro o7 ho7 w5 hbox hb; have HO5 := Lib.hid hbox; have EO5 := Lib.hid (show o7 = w4.heap.size from ho7); have HB45 := Lib.hid hb; clear hbox hb ho7)
          | (refine gate_ (.store 39 (.tmp 7) (.tmp 27)) rfl ?_; refine put_box rfl rfl 39 (.tmp 7) (.tmp 27) rfl (MV 0) (by rfl) (by rfl) HO5.out (cs' := mcs 0) (by rfl) (by kernel_rfl) (by rfl) (mcs_one 0) ?_; intro w6 hbox hg; have HB46 := Lib.hid (pw_below_grown HB45.out (some o7) HB45.out.size hg (fun k hk => by injection hk with hk; have := EO5.out; omega)); have NK6 := Lib.hid (NK4.out.below HB46.out); have HB6 := Lib.hid (below_then HB4.out HB4.out.size HB46.out); have q0 := (blk_cell hbox 0).trans (show (mcs 0)[0]? = some (.int .i64 0) from rfl); clear hbox hg HB45 HO5)
          | (go_at_call 11; refine (copy_no NK6.out).mono ?_; rintro e w7 ⟨rfl, rfl⟩)
          | (go_at_call 14; refine (len_no NK6.out).mono ?_; rintro e w7 ⟨rfl, rfl⟩)
          | (go_at_call 13; refine (all_no NK6.out).mono ?_; rintro e w7 ⟨rfl, rfl⟩))
        go_roundw
        case rel => exact ⟨2, by omega, by go_num, HB6⟩
        case measure => simp [intOf]
    · obtain rfl : k = 2 := by omega
      have HBW := Lib.hid (show Below w.heap.size w wr from below_then HB.out HB.out.size HBr.out)
      go_wp2_with (go_at_call 15; refine (one_calls _).mono ?_; rintro e w9 ⟨rfl, hb⟩; have HB9 := Lib.hid (below_then HBW.out HBW.out.size hb); clear hb)
      go_ret
      exact ⟨rfl, HB9.out⟩
end Go.Proofs.Ytbojccpaohccfaa.H
