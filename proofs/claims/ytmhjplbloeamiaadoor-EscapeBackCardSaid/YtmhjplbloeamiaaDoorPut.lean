/- What Put and Filter answer: contracts. Condition: texts of at most a thousand million bytes. -/
import Derived.Test.YtmhjplbloeamiaaDoorEsc
namespace Go.Proofs.YtmhjplbloeamiaaDoor.H
open Go.RowKit Go.Proofs.YtmhjplbloeamiaaDoor.M Go.Proofs.YtmhjplbloeamiaaDoor.PEsc Go.Proofs.YtmhjplbloeamiaaDoorW.PrintWords Go.Proofs.YtmhjplbloeamiaaDoorW.PrintLast Go.Proofs.YtmhjplbloeamiaaDoorW.PrintMore
set_option linter.unusedVariables false
set_option linter.unusedSimpArgs false
def puts (l : Bs) : Bs := pre (gput (right l).isSome ((l.length : Int) - 1)) l l.length
def fils (l : Bs) : Bs := pre (gfil (right l).isSome) l l.length
set_option maxHeartbeats 1000000 in
theorem fil_walk (l : Bs) (w : World) (hl : l.length ≤ 1000000000) :
    Calls Tryd.prog 7 #[.string (mk l)] w fun e w' => e = .returned (.string (mk (fils l))) ∧ Below w.heap.size w w' := by
  have HL := Lib.hid hl
  have HL4 := Lib.hid (show l.length ≤ 4000000000 by omega)
  unfold fils
  generalize hr : (right l).isSome = r
  have HR := Lib.hid hr
  generalize hS : mk l = S at *
  have HS := Lib.hid hS.symm
  clear hl hS hr
  go_enter Tryd.func7, Tryd.ntmps7
  go_wp2_with (first | (go_at_call 10; rw [HS.out]; refine (right_calls l _ HL4.out).mono ?_; rintro e w1 ⟨rfl, ⟨n1, rfl⟩⟩; rw [HR.out]; rw [← HS.out]; have hc : ((w.drewN n1).alloc (.cells #[Value.bool false] 4)).cell? ⟨w.heap.size, 0, none⟩ = some (.bool false) := blk_cell (blk_new (w.drewN n1) (.cells #[Value.bool false] 4)) 0; have hf : ((w.drewN n1).alloc (.cells #[Value.bool false] 4)).frozen? ⟨w.heap.size, 0, none⟩ = false := blk_frozen (blk_new (w.drewN n1) (.cells #[Value.bool false] 4)) 0) | (go_at_call 11; rw [HS.out]; refine (esc_fil l r w.heap.size _ HL.out (blk_cell (blk_put (blk_new (w.drewN n1) (.cells #[Value.bool false] 4)) 0 (.bool r) rfl) 0)).mono ?_; rintro e w2 ⟨rfl, hb⟩; have HB2 := Lib.hid (below_step (Below.setCell (below_alloc (pw_below_drewN (Below.refl _ _) _) _) (Nat.le_refl _) _) hb); clear hb))
  go_ret
  exact ⟨rfl, HB2.out⟩
set_option maxHeartbeats 1000000 in
theorem put_walk (l : Bs) (w : World) (hl : l.length ≤ 1000000000) :
    Calls Tryd.prog 4 #[.string (mk l)] w fun e w' => e = .returned (.string (mk (puts l))) ∧ Below w.heap.size w w' := by
  have HL := Lib.hid hl
  have HL4 := Lib.hid (show l.length ≤ 4000000000 by omega)
  have HZ := Lib.hid (mk_size l)
  unfold puts
  have hw : wrap64 ((mk l).size - 1) = (l.length : Int) - 1 := by rw [mk_size]; unfold wrap64; omega
  generalize hr : (right l).isSome = r
  have HR := Lib.hid hr
  generalize hla : (l.length : Int) - 1 = last at hw ⊢
  generalize hS : mk l = S at *
  have HS := Lib.hid hS.symm
  clear hl hS hr hla
  go_enter Tryd.func4, Tryd.ntmps4
  go_wp2_with (first | (go_at_call 10; rw [HS.out]; refine (right_calls l _ HL4.out).mono ?_; rintro e w1 ⟨rfl, ⟨n1, rfl⟩⟩; rw [HR.out]; rw [← HS.out]; have hc : ((w.drewN n1).alloc (.cells #[Value.bool false] 4)).cell? ⟨w.heap.size, 0, none⟩ = some (.bool false) := blk_cell (blk_new (w.drewN n1) (.cells #[Value.bool false] 4)) 0; have hf : ((w.drewN n1).alloc (.cells #[Value.bool false] 4)).frozen? ⟨w.heap.size, 0, none⟩ = false := blk_frozen (blk_new (w.drewN n1) (.cells #[Value.bool false] 4)) 0) | (go_at_call 11; rw [HS.out]; have hz : ((((w.drewN n1).alloc (.cells #[Value.bool false] 4)).setCell ⟨w.heap.size, 0, none⟩ (.bool r))).heap.size = w.heap.size + 1 := (by simp [World.setCell, World.alloc]); have hla := blk_new ((((w.drewN n1).alloc (.cells #[Value.bool false] 4)).setCell ⟨w.heap.size, 0, none⟩ (.bool r))) (.cells #[Value.int .i64 last] 3); rw [hz] at hla; refine (esc_put l r last w.heap.size (w.heap.size + 1) _ HL.out (blk_cell (blk_alloc (blk_put (blk_new (w.drewN n1) (.cells #[Value.bool false] 4)) 0 (.bool r) rfl) _) 0) (blk_cell hla 0)).mono ?_; rintro e w2 ⟨rfl, hb⟩; have HB2 := Lib.hid (below_step (below_alloc (Below.setCell (below_alloc (pw_below_drewN (Below.refl _ _) _) _) (Nat.le_refl _) _) _) hb); clear hb))
  go_ret
  exact ⟨rfl, HB2.out⟩
end Go.Proofs.YtmhjplbloeamiaaDoor.H
