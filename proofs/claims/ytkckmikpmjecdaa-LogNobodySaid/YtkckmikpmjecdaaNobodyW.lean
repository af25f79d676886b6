/- A log without a disk does nothing: the walk. No condition. -/
import Derived.Test.YtkckmikpmjecdaaDiskW
import Derived.Lib.SliceRun
namespace Go.Proofs.Ytkckmikpmjecdaa.N
open Go.RowKit H Go.Proofs.YtkckmikpmjecdaaW.PrintWords Go.Proofs.YtkckmikpmjecdaaW.PrintLast Go.Proofs.YtkckmikpmjecdaaW.PrintMore
set_option linter.unusedVariables false
set_option linter.unusedSimpArgs false
/-- A disk that nobody made. -/
def NoD (w : World) (v : Value) : Prop := v = .pointer none ∨ ∃ p, v = .pointer (some ⟨p, 0, none⟩) ∧ w.cell? ⟨p, 0, none⟩ = some (.bool false)
theorem NoD.below {w w' : World} {v : Value} (h : NoD w v) (hb : Below w.heap.size w w') : NoD w' v := by
  rcases h with h | ⟨p, h, hc⟩
  · exact .inl h
  · exact .inr ⟨p, h, pw_cell_below hb hc⟩
theorem is_no {v : Value} {w : World} (h : NoD w v) : Calls Try.prog 33 #[v] w fun e w' => e = .returned (.bool false) ∧ w = w' := by
  rcases h with rfl | ⟨p, rfl, hc⟩
  · go_enter Try.func33, Try.ntmps33
    go_wp2
    go_ret
    exact ⟨rfl, rfl⟩
  · go_enter Try.func33, Try.ntmps33
    go_wp2
    go_ret
    exact ⟨rfl, rfl⟩
theorem on_no {v f g : Value} {w : World} (h : NoD w v) : Calls Try.prog 28 #[v, f, g] w fun e w' => e = .returned (.int .i64 1) ∧ w = w' := by
  have H := Lib.hid h
  clear h
  go_enter Try.func28, Try.ntmps28
  go_wp2_with (go_at_call 33; refine (is_no H.out).mono ?_; rintro e w1 ⟨rfl, rfl⟩)
  go_ret
  exact ⟨rfl, rfl⟩
theorem cut_no {v : Value} {x : Int} {w : World} (h : NoD w v) : Calls Try.prog 34 #[v, .int .i64 x] w fun e w' => e = .returned (.int .i64 1) ∧ Below w.heap.size w w' := by
  have H := Lib.hid h
  clear h
  go_enter Try.func34, Try.ntmps34
  go_wp2_with (first | ((with_reducible refine gate_dst (N := 3) rfl ?_); refine box_event ?hg (N := 3) ?hd (cs := #[.int .i64 x]) (t := 3) ?hr ?_; (case hd => rfl); (case hg => rfl); (case hr => first | (go_simp; done) | (go_simp; rfl)); intro g hgz w3 hbox hb; have H3 := Lib.hid (H.out.below hb); have B3 := Lib.hid hb; clear hbox hb hgz) | (go_at_call 28; refine (on_no H3.out).mono ?_; rintro e w1 ⟨rfl, rfl⟩))
  go_ret
  exact ⟨rfl, B3.out⟩
theorem bytes_no {v : Value} {w : World} (h : NoD w v) : Calls Try.prog 14 #[v] w fun e w' => e = .returned (.slice none 0 0) ∧ w = w' := by
  have H := Lib.hid h
  clear h
  go_enter Try.func14, Try.ntmps14
  go_wp2_with (go_at_call 33; refine (is_no H.out).mono ?_; rintro e w1 ⟨rfl, rfl⟩)
  go_ret
  exact ⟨rfl, rfl⟩
theorem scan_nil (w : World) : Calls Try.prog 36 #[.slice none 0 0] w fun e w' => e = .returned (.tuple #[.slice none 0 0, .int .i64 0, .int .i64 0]) ∧ w = w' := by
  go_enter Try.func36, Try.ntmps36
  go_wp2_with fail
  go_loop [5, 6] (fun a b => a = .slice none 0 0 ∧ b = .int .i64 0) (fun _ _ => 0)
  case atStart => exact ⟨rfl, rfl⟩
  case round =>
    obtain ⟨rfl, rfl⟩ := hrel
    go_wp2_with fail
    exact bodyPost_ret (v := .tuple #[.slice none 0 0, .int .i64 0, .int .i64 0]) (by simp [results, Try.results36, go_sem]) rfl ⟨rfl, rfl⟩
theorem open_no {v : Value} {w : World} (h : NoD w v) : Calls Try.prog 19 #[v] w fun e w' => e = .returned (.tuple #[.pointer none, .slice none 0 0, .int .i64 1]) ∧ Below w.heap.size w w' := by
  have H := Lib.hid h
  clear h
  go_enter Try.func19, Try.ntmps19
  go_wp2_with (go_at_call 34; refine (cut_no H.out).mono ?_; rintro e w1 ⟨rfl, hb⟩; have B1 := Lib.hid hb; clear hb)
  exact bodyPost_ret (v := .tuple #[.pointer none, .slice none 0 0, .int .i64 1]) (by simp [results, Try.results19, go_sem]) rfl ⟨rfl, B1.out⟩
/-- A log of none. -/
def NoG (w : World) (v : Value) : Prop := v = .pointer none ∨ ∃ q d, v = .pointer (some ⟨q, 0, none⟩) ∧ w.cell? ⟨q, 0, none⟩ = some d ∧ NoD w d
theorem NoG.below {w w' : World} {v : Value} (h : NoG w v) (hb : Below w.heap.size w w') : NoG w' v := by
  rcases h with h | ⟨q, d, h, hc, hd⟩
  · exact .inl h
  · exact .inr ⟨q, d, h, pw_cell_below hb hc, hd.below hb⟩
theorem write_no {v b : Value} {w : World} (h : NoG w v) : Calls Try.prog 16 #[v, b] w fun e w' => e = .returned (.int .i64 1) ∧ Below w.heap.size w w' := by
  rcases h with rfl | ⟨q, d, rfl, hc, hd⟩
  · go_enter Try.func16, Try.ntmps16
    go_wp2
    go_ret
    exact ⟨rfl, Below.refl _ _⟩
  · have H := Lib.hid hd
    clear hd
    go_enter Try.func16, Try.ntmps16
    go_wp2_with (go_at_call 34; refine (cut_no H.out).mono ?_; rintro e w1 ⟨rfl, hb⟩; have B1 := Lib.hid hb; clear hb)
    go_ret
    exact ⟨rfl, B1.out⟩
theorem force_no {v b : Value} {w : World} (h : NoG w v) : Calls Try.prog 17 #[v, b] w fun e w' => e = .returned (.int .i64 1) ∧ Below w.heap.size w w' := by
  have H := Lib.hid h
  clear h
  go_enter Try.func17, Try.ntmps17
  go_wp2_with (go_at_call 16; refine (write_no H.out).mono ?_; rintro e w1 ⟨rfl, hb⟩; have B1 := Lib.hid hb; clear hb)
  go_ret
  exact ⟨rfl, B1.out⟩
theorem records_no {v : Value} {w : World} (h : NoG w v) : Calls Try.prog 18 #[v] w fun e w' => e = .returned (.slice none 0 0) ∧ w = w' := by
  rcases h with rfl | ⟨q, d, rfl, hc, hd⟩
  · go_enter Try.func18, Try.ntmps18
    go_wp2
    go_ret
    exact ⟨rfl, rfl⟩
  · have H := Lib.hid hd
    clear hd
    go_enter Try.func18, Try.ntmps18
    go_wp2_with (first | (go_at_call 14; refine (bytes_no H.out).mono ?_; rintro e w1 ⟨rfl, rfl⟩) | (go_at_call 36; refine (scan_nil _).mono ?_; rintro e w1 ⟨rfl, rfl⟩))
    go_ret
    exact ⟨rfl, rfl⟩

set_option maxHeartbeats 4000000 in
theorem nobody_walk (A : Option Addr) (n c : Nat) (w : World) : Calls Try.prog 4 #[.slice A n c] w fun e w' => e = .returned (.bool true) ∧ Below w.heap.size w w' := by
  go_enter Try.func4, Try.ntmps4
  go_wp2_with (first | ((with_reducible refine gate_dst (N := 12) rfl ?_); refine box_event ?hg12 (N := 12) ?hd12 (cs := #[.pointer none]) (t := 34) ?hr12 ?_; (case hd12 => rfl); (case hg12 => rfl); (case hr12 => first | (go_simp; done) | (go_simp; rfl)); intro g1 hgz w1 hbox hb; have G1 := Lib.hid (show NoG w1 (.pointer (some ⟨g1, 0, none⟩)) from .inr ⟨g1, .pointer none, rfl, (blk_cell hbox 0).trans rfl, .inl rfl⟩); have B1 := Lib.hid hb; clear hbox hb hgz) | ((with_reducible refine gate_dst (N := 14) rfl ?_); refine box_event ?hg14 (N := 14) ?hd14 (cs := #[.bool false, .slice none 0 0, .int .i64 0, .int .i64 0]) (t := 36) ?hr14 ?_; (case hd14 => rfl); (case hg14 => rfl); (case hr14 => first | (go_simp; done) | (go_simp; rfl)); intro p hgz w2 hbox hb; have G2 := Lib.hid (G1.out.below hb); have D2 := Lib.hid (show NoD w2 (.pointer (some ⟨p, 0, none⟩)) from .inr ⟨p, rfl, (blk_cell hbox 0).trans rfl⟩); have B2 := Lib.hid (below_step B1.out hb); clear hbox hb hgz) | ((with_reducible refine gate_dst (N := 16) rfl ?_); refine box_event ?hg16 (N := 16) ?hd16 (cs := #[.pointer (some ⟨p, 0, none⟩)]) (t := 34) ?hr16 ?_; (case hd16 => rfl); (case hg16 => rfl); (case hr16 => first | (go_simp; done) | (go_simp; rfl)); intro g2 hgz w3 hbox hb; have G3 := Lib.hid (G2.out.below hb); have K3 := Lib.hid (show NoG w3 (.pointer (some ⟨g2, 0, none⟩)) from .inr ⟨g2, .pointer (some ⟨p, 0, none⟩), rfl, (blk_cell hbox 0).trans rfl, D2.out.below hb⟩); have B3 := Lib.hid (below_step B2.out hb); clear hbox hb hgz))
  have hA : (w3.alloc (.cells #[.pointer none, .pointer (some ⟨g1, 0, none⟩), .pointer (some ⟨g2, 0, none⟩)] 32)).heap[w3.heap.size]? = some (.cells #[.pointer none, .pointer (some ⟨g1, 0, none⟩), .pointer (some ⟨g2, 0, none⟩)] 32 (0, 0)) := blk_new w3 _
  have hG := G3.out.below (below_alloc (Below.refl _ _) (.cells #[.pointer none, .pointer (some ⟨g1, 0, none⟩), .pointer (some ⟨g2, 0, none⟩)] 32))
  have hK := K3.out.below (below_alloc (Below.refl _ _) (.cells #[.pointer none, .pointer (some ⟨g1, 0, none⟩), .pointer (some ⟨g2, 0, none⟩)] 32))
  have hB := below_alloc B3.out (.cells #[.pointer none, .pointer (some ⟨g1, 0, none⟩), .pointer (some ⟨g2, 0, none⟩)] 32)
  generalize w3.alloc (.cells #[.pointer none, .pointer (some ⟨g1, 0, none⟩), .pointer (some ⟨g2, 0, none⟩)] 32) = Wb at *
  generalize w3.heap.size = a at *
  have HA := Lib.hid hA
  have GB := Lib.hid hG
  have KB := Lib.hid hK
  have BB := Lib.hid hB
  clear hA hG hK hB G3 K3 B3
  go_loopw [4, 19] (fun _ i wr => ∃ k : Nat, k ≤ 3 ∧ i = .int .i64 k ∧ Hid (Below Wb.heap.size Wb wr)) (fun _ i _ => 3 - (intOf i).toNat)
  case atStart => exact ⟨0, by omega, rfl, Lib.hid (Below.refl _ _)⟩
  case round =>
    obtain ⟨k, hk, rfl, HBr⟩ := hrel
    by_cases hlt : k < 3
    · rcases (by omega : k = 0 ∨ k = 1 ∨ k = 2) with rfl | rfl | rfl
      · have hc : wr.cell? ⟨a, 0, none⟩ = some (.pointer none) := pw_cell_below HBr.out ((blk_cell HA.out 0).trans rfl)
        have NK := Lib.hid (show NoG wr (.pointer none) from .inl rfl)
        go_wp2_with (first | (go_at_call 16; refine (write_no NK.out).mono ?_; rintro e w6 ⟨rfl, hb⟩; have NK6 := Lib.hid (NK.out.below hb); have HB6 := Lib.hid (below_step HBr.out hb); clear hb) | (go_at_call 17; refine (force_no NK6.out).mono ?_; rintro e w7 ⟨rfl, hb⟩; have NK7 := Lib.hid (NK6.out.below hb); have HB7 := Lib.hid (below_step HB6.out hb); clear hb) | (go_at_call 18; refine (records_no NK7.out).mono ?_; rintro e w8 ⟨rfl, rfl⟩))
        go_roundw
        case rel => exact ⟨1, by omega, by go_num, HB7⟩
        case measure => simp [intOf]
      · have hc : wr.cell? ⟨a, 1, none⟩ = some (.pointer (some ⟨g1, 0, none⟩)) := pw_cell_below HBr.out ((blk_cell HA.out 1).trans rfl)
        have NK := Lib.hid (show NoG wr (.pointer (some ⟨g1, 0, none⟩)) from GB.out.below HBr.out)
        go_wp2_with (first | (go_at_call 16; refine (write_no NK.out).mono ?_; rintro e w6 ⟨rfl, hb⟩; have NK6 := Lib.hid (NK.out.below hb); have HB6 := Lib.hid (below_step HBr.out hb); clear hb) | (go_at_call 17; refine (force_no NK6.out).mono ?_; rintro e w7 ⟨rfl, hb⟩; have NK7 := Lib.hid (NK6.out.below hb); have HB7 := Lib.hid (below_step HB6.out hb); clear hb) | (go_at_call 18; refine (records_no NK7.out).mono ?_; rintro e w8 ⟨rfl, rfl⟩))
        go_roundw
        case rel => exact ⟨2, by omega, by go_num, HB7⟩
        case measure => simp [intOf]
      · have hc : wr.cell? ⟨a, 2, none⟩ = some (.pointer (some ⟨g2, 0, none⟩)) := pw_cell_below HBr.out ((blk_cell HA.out 2).trans rfl)
        have NK := Lib.hid (show NoG wr (.pointer (some ⟨g2, 0, none⟩)) from KB.out.below HBr.out)
        go_wp2_with (first | (go_at_call 16; refine (write_no NK.out).mono ?_; rintro e w6 ⟨rfl, hb⟩; have NK6 := Lib.hid (NK.out.below hb); have HB6 := Lib.hid (below_step HBr.out hb); clear hb) | (go_at_call 17; refine (force_no NK6.out).mono ?_; rintro e w7 ⟨rfl, hb⟩; have NK7 := Lib.hid (NK6.out.below hb); have HB7 := Lib.hid (below_step HB6.out hb); clear hb) | (go_at_call 18; refine (records_no NK7.out).mono ?_; rintro e w8 ⟨rfl, rfl⟩))
        go_roundw
        case rel => exact ⟨3, by omega, by go_num, HB7⟩
        case measure => simp [intOf]
    · have hk3 : k = 3 := by omega
      have HB2 := Lib.hid (show Below w.heap.size w wr from below_then BB.out BB.out.size HBr.out)
      go_wp2_with (first | ((with_reducible refine gate_dst (N := 42) rfl ?_); refine box_event ?hg42 (N := 42) ?hd42 (cs := #[.bool false, .slice none 0 0, .int .i64 0, .int .i64 0]) (t := 36) ?hr42 ?_; (case hd42 => rfl); (case hg42 => rfl); (case hr42 => first | (go_simp; done) | (go_simp; rfl)); intro p2 hgz w5 hbox hb; have D5 := Lib.hid (show NoD w5 (.pointer (some ⟨p2, 0, none⟩)) from .inr ⟨p2, rfl, (blk_cell hbox 0).trans rfl⟩); have B5 := Lib.hid (below_then HB2.out HB2.out.size hb); clear hbox hb hgz) | (go_at_call_of 19 (Value.pointer (some (Addr.mk p2 0 none))); refine (open_no D5.out).mono ?_; rintro e w9 ⟨rfl, hb⟩; have B9 := Lib.hid (below_step B5.out hb); clear hb) | (go_at_call 19; refine (open_no (.inl rfl)).mono ?_; rintro e w10 ⟨rfl, hb⟩; have B10 := Lib.hid (below_step B9.out hb); clear hb))
      go_ret
      exact ⟨rfl, B10.out⟩
end Go.Proofs.Ytkckmikpmjecdaa.N
