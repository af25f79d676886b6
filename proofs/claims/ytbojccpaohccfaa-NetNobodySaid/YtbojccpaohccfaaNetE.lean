/- What Take answers on a net of two messages: a contract. -/
import Derived.Test.YtbojccpaohccfaaNetD
namespace Go.Proofs.Ytbojccpaohccfaa.H
open Go.RowKit Go.Proofs.YtbojccpaohccfaaW.PrintWords Go.Proofs.YtbojccpaohccfaaW.PrintLast Go.Proofs.YtbojccpaohccfaaW.PrintMore
set_option linter.unusedVariables false
set_option linter.unusedSimpArgs false
theorem delete_calls (g c B : Nat) (t0 t1 : Int) (w : World) (hR : (Kd.raw 11).R 39 w B (fun _ => True) (.slice (some ⟨g, 0, none⟩) 2 c) [ml t0, ml t1]) (hBW : B ≤ w.heap.size) :
    Calls Try.prog 21 #[.slice (some ⟨g, 0, none⟩) 2 c, .int .i64 1, .int .i64 2] w fun e w' => e = .returned (.slice (some ⟨g, 0, none⟩) 1 c) ∧ w.drew.grownBy w' (some g) := by
  obtain ⟨hc, _⟩ := own_head hR
  rcases (by omega : c = 2 ∨ 2 < c) with rfl | hc
  · exact delete_two g B t0 t1 w hR hBW
  · exact delete_more g c B t0 t1 w hc hR hBW
theorem row_cell {w : World} {B g c : Nat} {ok : Nat → Prop} {a b : List Value} (h : (Kd.raw 11).R 39 w B ok (.slice (some ⟨g, 0, none⟩) 2 c) [a, b]) (j : Nat) (u : Value) (hj : b[j]? = some u) : w.cell? ⟨g, 11 + j, none⟩ = some u := by
  obtain ⟨A, c', e, hl, hC⟩ := Kd.R_reads h
  injection e with eA _ _
  obtain ⟨ad, cs, hA, hcl, hK, hcc⟩ := Kd.C_get hC [] 1 (by omega) (by simp)
  rw [← eA] at hA
  obtain rfl := Option.some.inj hA
  have hb : cs = b := hK.1
  subst hb
  have := hcc j u hj
  have e2 : (⟨g, 0, none⟩ : Addr).add ((1 : Int).toNat * (Kd.raw 11).sz + j) = ⟨g, 11 + j, none⟩ := by
    show (⟨g, 0, none⟩ : Addr).add (1 * 11 + j) = _
    simp [Addr.add]
  rw [e2] at this
  exact this
set_option maxRecDepth 100000 in
set_option maxHeartbeats 4000000 in
theorem take_calls (w0 : World) (p g c B : Nat) (t0 t1 : Int) (w : World) (h : Nt w p (.slice (some ⟨g, 0, none⟩) 2 c)) (hR : (Kd.raw 11).R 39 w B (fun _ => True) (.slice (some ⟨g, 0, none⟩) 2 c) [ml t0, ml t1])
    (hBW : B ≤ w.heap.size) (hp : w0.heap.size ≤ p) (hgB : w0.heap.size ≤ B) (hB : Below w0.heap.size w0 w) :
    Calls Try.prog 9 #[.pointer (some ⟨p, 0, none⟩), .int .i64 3] w fun e w' => e = .returned (.tuple #[MV t1, .bool true]) ∧ (∃ A, Nt w' p (.slice A 1 c)) ∧ Below w0.heap.size w0 w' := by
  have HN := Lib.hid h
  have HR := Lib.hid hR
  have HBW := Lib.hid hBW
  have HP := Lib.hid hp
  have HGB := Lib.hid hgB
  have HB := Lib.hid hB
  have hpg : p ≠ g := fun e => Kd.R_ne hR h (by decide) (by rw [e]; simp [Value.ownBlock])
  have HPG := Lib.hid hpg
  have HGG := Lib.hid (show w0.heap.size ≤ g from Nat.le_trans hgB (Kd.R_base hR g (by simp [Value.ownBlock])))
  have HGL := Lib.hid (show g < w.heap.size from Kd.R_lt hR g (by simp [Value.ownBlock]))
  have HPL := Lib.hid (show p < w.heap.size from blk_lt h)
  have HWW := Lib.hid (show w0.heap.size ≤ w.heap.size from hB.size)
  clear h hR hBW hp hgB hB hpg
  go_enter Try.func9, Try.ntmps9
  go_wp2_with (first
    | ((with_reducible refine gate_dst (N := 4) rfl ?_); refine box_event ?hg4 (N := 4) ?hd4 (cs := mcs 0) (t := 39) ?hr4 ?_; (case hd4 => rfl); (case hg4 => rfl); (case hr4 => first | (go_simp; done) | (go_simp; rfl)); intro o4 ho4 w4 hbox hb; have HO4 := Lib.hid hbox; have EO4 := Lib.hid ho4; have HN4 := Lib.hid (blk_below HN.out hb); have HR4 := Lib.hid (Kd.R_below HR.out hb); have HB4 := Lib.hid (below_then HB.out HWW.out hb); have HS4 := Lib.hid hb.size; have HL4 := Lib.hid (blk_lt hbox); clear hbox hb ho4)
    | (go_at_call 20; refine (place_calls p _ c _ HN4.out).mono ?_; rintro e w5 ⟨rfl, q5, rfl⟩; have HN5 := Lib.hid (show Nt (w4.drewN q5) p _ from HN4.out); have HR5 := Lib.hid (Kd.R_drewN HR4.out q5); have n5 := HN5.out.c1; have y0 := row_cell HR5.out 0 _ rfl; have y1 := row_cell HR5.out 1 _ rfl; have y2 := row_cell HR5.out 2 _ rfl; have y3 := row_cell HR5.out 3 _ rfl; have y4 := row_cell HR5.out 4 _ rfl; have y5 := row_cell HR5.out 5 _ rfl; have y6 := row_cell HR5.out 6 _ rfl; have y7 := row_cell HR5.out 7 _ rfl; have y8 := row_cell HR5.out 8 _ rfl; have y9 := row_cell HR5.out 9 _ rfl; have y10 := row_cell HR5.out 10 _ rfl; simp only [Nat.reduceAdd] at y0 y1 y2 y3 y4 y5 y6 y7 y8 y9 y10)
    | ((with_reducible refine gate_dst (N := 8) rfl ?_); refine box_event ?hg8 (N := 8) ?hd8 (cs := mcs 0) (t := 39) ?hr8 ?_; (case hd8 => rfl); (case hg8 => rfl); (case hr8 => first | (go_simp; done) | (go_simp; rfl)); intro o8 ho8 w8 hbox hb; have HO8 := Lib.hid hbox; have EO8 := Lib.hid (show o8 = w4.heap.size from ho8); have HB58 := Lib.hid hb; clear hbox hb ho8 n5 y0 y1 y2 y3 y4 y5 y6 y7 y8 y9 y10)
    | (refine gate_ (.store 39 (.tmp 8) (.tmp 24)) rfl ?_; refine put_box rfl rfl 39 (.tmp 8) (.tmp 24) rfl (MV t1) (by rfl) (by rfl) HO8.out (cs' := mcs t1) (by rfl) (by kernel_rfl) (by rfl) (mcs_one t1) ?_; intro w9 hbox hg; have HO9 := Lib.hid hbox; have HB59 := Lib.hid (pw_below_grown HB58.out (some o8) HB58.out.size hg (fun k hk => by injection hk with hk; have := EO8.out; show w4.heap.size ≤ k; omega)); have HN9 := Lib.hid (show Nt w9 p _ from blk_below HN5.out HB59.out); have HR9 := Lib.hid (Kd.R_below HR5.out HB59.out); have HO49 := Lib.hid (blk_below (show (w4.drewN q5).heap[o4]? = _ from HO4.out) HB59.out); have HB9 := Lib.hid (below_then (show Below w0.heap.size w0 (w4.drewN q5) from pw_below_drewN HB4.out q5) HB4.out.size HB59.out); have HS9 := Lib.hid (show w4.heap.size ≤ w9.heap.size from HB59.out.size); have n9 := HN9.out.c1; clear hbox hg HB58 HO8)
    | (go_at_call 21; refine (delete_calls g c B t0 t1 _ HR9.out (by have := HBW.out; have := HS4.out; have := HS9.out; omega)).mono ?_; rintro e w10 ⟨rfl, hg⟩; have HN10 := Lib.hid (show Nt w10 p _ from blk_grown (show w9.drew.heap[p]? = _ from HN9.out) hg (fun e => by injection e with e; exact HPG.out e)); have HO10 := Lib.hid (blk_grown (show w9.drew.heap[o8]? = _ from HO9.out) hg (fun e => by injection e with e; have := HGL.out; have := HS4.out; have := EO8.out; omega)); have HO410 := Lib.hid (blk_grown (show w9.drew.heap[o4]? = _ from HO49.out) hg (fun e => by injection e with e; have := HGL.out; have := EO4.out; omega)); have HB10 := Lib.hid (pw_below_grown (below_drew HB9.out) (some g) HB9.out.size hg (fun k hk => by injection hk with hk; have := HGG.out; omega)); have hf10 := blk_frozen HN10.out 1; have hc10 := HN10.out.c1; clear hg n9)
    | (refine gate_ (.store 47 (.tmp 35) (.tmp 33)) rfl ?_; refine store_event rfl rfl rfl (w1 := w10.setCell ⟨p, 1, none⟩ (.slice (some ⟨g, 0, none⟩) 1 c)) ?hs ?_; (case hs => first | (go_simp; done) | (go_simp; rfl)); intro w11 e11; subst e11; have HN11 := Lib.hid (show Nt _ p _ from blk_put HN10.out 1 (.slice (some ⟨g, 0, none⟩) 1 c) rfl); have HO11 := Lib.hid (blk_far HO10.out (p := ⟨p, 1, none⟩) (fun e => by have := HPL.out; have := HS4.out; have := EO8.out; simp at e; omega) (.slice (some ⟨g, 0, none⟩) 1 c)); have HO411 := Lib.hid (blk_far HO410.out (p := ⟨p, 1, none⟩) (fun e => by have := HPL.out; have := EO4.out; simp at e; omega) (.slice (some ⟨g, 0, none⟩) 1 c)); have HB11 := Lib.hid (below_set (g := p) (j := 1) (v := .slice (some ⟨g, 0, none⟩) 1 c) HB10.out HP.out); generalize World.setCell w10 ⟨p, 1, none⟩ (.slice (some ⟨g, 0, none⟩) 1 c) = w11 at *; clear hf10 hc10; obtain ⟨z0, z1, z2, z3, z4, z5, z6, z7, z8, z9, z10⟩ := mcs_eq HO11.out)
    | (refine gate_ (.store 39 (.tmp 4) (.tmp 36)) rfl ?_; refine put_box rfl rfl 39 (.tmp 4) (.tmp 36) rfl (MV t1) (by rfl) (by rfl) HO411.out (cs' := mcs t1) (by rfl) (by kernel_rfl) (by rfl) (mcs_one t1) ?_; intro w12 hbox hg; have HO12 := Lib.hid hbox; have HN12 := Lib.hid (show Nt w12 p _ from blk_grown HN11.out hg (fun e => by injection e with e; have := HPL.out; have := EO4.out; omega)); have HB12 := Lib.hid (pw_below_grown HB11.out (some o4) HB11.out.size hg (fun k hk => by injection hk with hk; have := HWW.out; have := EO4.out; omega)); clear hbox hg z0 z1 z2 z3 z4 z5 z6 z7 z8 z9 z10))
  obtain ⟨y0, y1, y2, y3, y4, y5, y6, y7, y8, y9, y10⟩ := mcs_eq HO12.out
  exact bodyPost_ret (v := .tuple #[MV t1, .bool true]) (by simp [results, Try.results9, go_sem, *]) rfl ⟨rfl, ⟨_, HN12.out⟩, HB12.out⟩
end Go.Proofs.Ytbojccpaohccfaa.H
