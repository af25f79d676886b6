/- What one() answers: a contract. No condition. -/
import Derived.Test.YtbojccpaohccfaaNetE
namespace Go.Proofs.Ytbojccpaohccfaa.H
open Go.RowKit Go.Proofs.YtbojccpaohccfaaW.PrintWords Go.Proofs.YtbojccpaohccfaaW.PrintLast Go.Proofs.YtbojccpaohccfaaW.PrintMore
set_option linter.unusedVariables false
set_option linter.unusedSimpArgs false
section
variable {P : Program} {ops : Array Oper} {rest : List Oper} {o : Oper} {a : Act} {Q : Exit → Act → World → Prop}
theorem lit_event {W : World} (hgd : o.guard = none) {N : Tmp} (_hd : o.dst = some N) {cs : Array Value} {t : TypeId} {n : Nat}
    (hrun : (execOp a.eval o).run P W = .ok (.value (.slice (some ⟨W.heap.size, 0, none⟩) n n)) (W.alloc (.cells cs t (0, 0))))
    (h : ∀ g, g = W.heap.size → ∀ w1, w1.heap[g]? = some (.cells cs t (0, 0)) → Below W.heap.size W w1 → wpList P ops Q rest (a.put o.dst (.slice (some ⟨g, 0, none⟩) n n)) w1) : wpList P ops Q (o :: rest) a W :=
  Kd.event_run hgd hrun (h _ rfl _ (blk_new W _) (below_alloc (Below.refl _ _) _))
end
theorem row_slice {w : World} {B : Nat} {ok : Nat → Prop} {v : Value} {a b : List Value} (h : (Kd.raw 11).R 39 w B ok v [a, b]) : ∃ g c, v = .slice (some ⟨g, 0, none⟩) 2 c := by
  obtain ⟨_, inner, ho, _⟩ := h
  rcases ho.2 with ⟨_, hn⟩ | ⟨g', cap, cur, hv, _⟩
  · simp at hn
  · exact ⟨g', cap, hv⟩
set_option maxRecDepth 100000 in
set_option maxHeartbeats 4000000 in
theorem one_calls (w : World) : Calls Try.prog 15 #[] w fun e w' => e = .returned (.bool true) ∧ Below w.heap.size w w' := by
  go_enter Try.func15, Try.ntmps15
  go_wp2_with (first
    | (go_at_call 6; refine (new_calls _).mono ?_; rintro e w1 ⟨p, rfl, hp, hN, hb⟩; have HP := Lib.hid hp; have HN1 := Lib.hid hN; have HB1 := Lib.hid hb; clear hp hN hb)
    | ((with_reducible refine gate_dst (N := 8) rfl ?_); refine lit_event ?hg8 (N := 8) ?hd8 (cs := mcs 1 ++ mcs 2) (t := 39) (n := 2) ?hr8 ?_; (case hd8 => rfl); (case hg8 => rfl); (case hr8 => first | (go_simp; done) | (go_simp; rfl)); intro b8 hb8 w2 hbox hb; have HL := Lib.hid hbox; have HN2 := Lib.hid (show Nt w2 p nil_ from blk_below HN1.out hb); have HB2 := Lib.hid (below_then HB1.out HB1.out.size hb); clear hbox hb hb8)
    | (go_at_call 8; refine (send_calls w p b8 1 2 _ HN2.out HL.out HP.out HB2.out).mono ?_; rintro e w3 ⟨rfl, ⟨v3, hN, hR⟩, hb⟩; obtain ⟨g3, c3, e3⟩ := row_slice hR; subst e3; have HN3 := Lib.hid hN; have HR3 := Lib.hid hR; have HB3 := Lib.hid hb; have HS3 := Lib.hid (show w2.heap.size ≤ w3.heap.size by have := Kd.R_base hR g3 (by simp [Value.ownBlock]); have := Kd.R_lt hR g3 (by simp [Value.ownBlock]); omega); clear hN hR hb)
    | (go_at_call 9; refine (take_calls w p g3 c3 _ 1 2 _ HN3.out HR3.out HS3.out HP.out HB2.out.size HB3.out).mono ?_; rintro e w4 ⟨rfl, ⟨A4, hN⟩, hb⟩; have HN4 := Lib.hid hN; have HB4 := Lib.hid hb; clear hN hb)
    | ((with_reducible refine gate_dst (N := 2) rfl ?_); refine box_event ?hg2 (N := 2) ?hd2 (cs := mcs 0) (t := 39) ?hr2 ?_; (case hd2 => rfl); (case hg2 => rfl); (case hr2 => first | (go_simp; done) | (go_simp; rfl)); intro o2 ho2 w5 hbox hb; have HO5 := Lib.hid hbox; have EO5 := Lib.hid (show o2 = w4.heap.size from ho2); have HB45 := Lib.hid hb; clear hbox hb ho2)
    | (refine gate_ (.store 39 (.tmp 2) (.tmp 13)) rfl ?_; refine put_box rfl rfl 39 (.tmp 2) (.tmp 13) rfl (MV 2) (by rfl) (by rfl) HO5.out (cs' := mcs 2) (by rfl) (by kernel_rfl) (by rfl) (mcs_one 2) ?_; intro w6 hbox hg; have HB46 := Lib.hid (pw_below_grown HB45.out (some o2) HB45.out.size hg (fun k hk => by injection hk with hk; have := EO5.out; omega)); have HN6 := Lib.hid (show Nt w6 p _ from blk_below HN4.out HB46.out); have HB6 := Lib.hid (below_then HB4.out HB4.out.size HB46.out); have z3 := (blk_cell hbox 3).trans (show (mcs 2)[3]? = some (.int .i64 2) from rfl); clear hbox hg HB45 HO5)
    | (go_at_call 14; refine (len_calls p A4 1 c3 _ HN6.out).mono ?_; rintro e w7 ⟨rfl, rfl⟩))
  go_ret
  exact ⟨rfl, HB6.out⟩
end Go.Proofs.Ytbojccpaohccfaa.H
