/- What Send answers where two messages of no slices are sent into an empty net: a contract. -/
import Derived.Test.YtbojccpaohccfaaNetA
namespace Go.Proofs.Ytbojccpaohccfaa.H
open Go.RowKit Go.Proofs.YtbojccpaohccfaaW.PrintWords Go.Proofs.YtbojccpaohccfaaW.PrintLast Go.Proofs.YtbojccpaohccfaaW.PrintMore
set_option linter.unusedVariables false
set_option linter.unusedSimpArgs false
/-- A net in memory. -/
def Nt (w : World) (p : Nat) (v : Value) : Prop := w.heap[p]? = some (.cells #[.bool true, v] 53 (0, 0))
theorem Nt.c0 {w p v} (h : Nt w p v) : w.cell? ⟨p, 0, none⟩ = some (.bool true) := (blk_cell h 0).trans rfl
theorem Nt.c1 {w p v} (h : Nt w p v) : w.cell? ⟨p, 1, none⟩ = some v := (blk_cell h 1).trans rfl
theorem is_calls (p : Nat) (v : Value) (w : World) (h : Nt w p v) : Calls Try.prog 18 #[.pointer (some ⟨p, 0, none⟩)] w fun e w' => e = .returned (.bool true) ∧ w = w' := by
  have h0 := h.c0
  clear h
  go_enter Try.func18, Try.ntmps18
  go_wp2
  go_ret
  exact ⟨rfl, rfl⟩
abbrev ml (t : Int) : List Value := [.int .i64 0, .int .i64 0, .int .i64 0, .int .i64 t, .bool false, .int .i64 0, nil_, nil_, nil_, nil_, nil_]
theorem info39 : (Try.prog.info? 39).map (fun i => (i.zero, i.size, i.bytes)) = some (some (MV 0), 11, 168) := by kernel_rfl
theorem ml_raw (t : Int) (W : World) (B : Nat) (ok : Nat → Prop) : (Kd.raw 11).M W B ok (ml t) (ml t) := ⟨rfl, rfl, mcs_one t⟩
theorem two_eq {t0 t1 : Int} {w : World} {b : Nat} (h : w.heap[b]? = some (.cells (mcs t0 ++ mcs t1) 39 (0, 0))) (i : Nat) : w.cell? ⟨b, i, none⟩ = (mcs t0 ++ mcs t1)[i]? := blk_cell h i
theorem raw_types : ∀ q, q ∈ 39 :: (Kd.raw 11).E → q ≠ 53 := by intro q hq; simp [Kd.raw] at hq; omega
theorem reps1 (t : Int) (W : World) (B : Nat) (ok : Nat → Prop) : Reps ((Kd.raw 11).M W B ok) 11 [ml t] (ml t) := by
  refine ⟨rfl, fun j p hj => ?_⟩
  cases j with
  | zero =>
    obtain rfl := Option.some.inj hj
    exact ml_raw t W B ok
  | succ j => cases hj
/-- A net and its own row. -/
def Nr (B : Nat) (w : World) (p : Nat) (xs : List (List Value)) : Prop := ∃ v, Nt w p v ∧ (Kd.raw 11).R 39 w B (fun _ => True) v xs
def sent.T4 : Bool × List (List Nat × List Nat) := (true, [([], []), ([], []), ([1], [1]), ([2], [2]), ([3], [3]), ([], []), ([5], [5]), ([6], [6]), ([4, 7, 6], [4, 7]), ([0, 0, 1, 2, 3, 4, 5, 6, 7, 8], [0]), ([9, 0, 1, 2, 3, 4, 5, 6, 7, 8], [9]), ([10, 8, 8, 0, 1, 2, 3, 4, 5, 6, 7, 8], [8, 10])])
def sent.B4 : List Nat := [0, 0, 2, 6, 14, 0, 32, 96, 254, 511, 1023, 2047]
theorem sent.tab4 : rtab .any (opsOf Try.f8 4) = sent.T4 := by kernel_rfl
theorem sent.bits4 : waitsOk sent.T4.2 sent.B4 = true := by kernel_rfl

set_option maxRecDepth 100000 in
set_option maxHeartbeats 4000000 in
theorem send_calls (w0 : World) (p b : Nat) (t0 t1 : Int) (w : World) (h : Nt w p nil_) (hL : w.heap[b]? = some (.cells (mcs t0 ++ mcs t1) 39 (0, 0))) (hp : w0.heap.size ≤ p) (hB : Below w0.heap.size w0 w) :
    Calls Try.prog 8 #[.pointer (some ⟨p, 0, none⟩), .slice (some ⟨b, 0, none⟩) 2 2] w fun e w' => e = .returned (.tuple #[]) ∧ Nr w.heap.size w' p [ml t0, ml t1] ∧ Below w0.heap.size w0 w' := by
  have HN0 := Lib.hid h
  have HL := Lib.hid hL
  have HP := Lib.hid hp
  have HB0 := Lib.hid hB
  have HS := Lib.hid (show w0.heap.size ≤ w.heap.size from hB.size)
  have HNE := Lib.hid (show b ≠ p from blk_ne hL h (by decide))
  clear h hL hp hB
  go_enter Try.func8, Try.ntmps8
  go_wp2_with (go_at_call 18; refine (is_calls _ _ _ HN0.out).mono ?_; rintro e w1 ⟨rfl, rfl⟩)
  go_loopw [11] (fun i wr => ∃ k : Nat, k ≤ 2 ∧ i = .int .i64 k ∧ Hid (Nr w.heap.size wr p ([ml t0, ml t1].take k)) ∧ Hid (Below w0.heap.size w0 wr) ∧ Hid (KeepBut w wr p none)) (fun i _ => 2 - (intOf i).toNat)
  case atStart => exact ⟨0, by omega, rfl, Lib.hid ⟨_, HN0.out, Kd.R_nil _ _ _ _ _⟩, HB0, Lib.hid (KeepBut.refl _ _ _)⟩
  case round =>
    obtain ⟨k, hk, rfl, HR0, HB, HK⟩ := hrel
    by_cases hlt : k < 2
    · rcases (by omega : k = 0 ∨ k = 1) with rfl | rfl
      · obtain ⟨v, hN, hR⟩ := HR0.out
        have hLr : wr.heap[b]? = some (.cells (mcs t0 ++ mcs t1) 39 (0, 0)) := HK.out.blk HL.out HNE.out (by simp)
        have z0 : wr.cell? ⟨b, 0, none⟩ = some (.int .i64 0) := (two_eq hLr 0).trans rfl
        have z1 : wr.cell? ⟨b, 1, none⟩ = some (.int .i64 0) := (two_eq hLr 1).trans rfl
        have z2 : wr.cell? ⟨b, 2, none⟩ = some (.int .i64 0) := (two_eq hLr 2).trans rfl
        have z3 : wr.cell? ⟨b, 3, none⟩ = some (.int .i64 t0) := (two_eq hLr 3).trans rfl
        have z4 : wr.cell? ⟨b, 4, none⟩ = some (.bool false) := (two_eq hLr 4).trans rfl
        have z5 : wr.cell? ⟨b, 5, none⟩ = some (.int .i64 0) := (two_eq hLr 5).trans rfl
        have z6 : wr.cell? ⟨b, 6, none⟩ = some nil_ := (two_eq hLr 6).trans rfl
        have z7 : wr.cell? ⟨b, 7, none⟩ = some nil_ := (two_eq hLr 7).trans rfl
        have z8 : wr.cell? ⟨b, 8, none⟩ = some nil_ := (two_eq hLr 8).trans rfl
        have z9 : wr.cell? ⟨b, 9, none⟩ = some nil_ := (two_eq hLr 9).trans rfl
        have z10 : wr.cell? ⟨b, 10, none⟩ = some nil_ := (two_eq hLr 10).trans rfl
        have HNr := Lib.hid hN
        have HRr := Lib.hid (show (Kd.raw 11).R 39 wr w.heap.size (fun _ => True) v [] from hR)
        clear hN hR hLr HR0
        go_wp2_with (refine gate_ (.store 39 (.tmp 5) (.tmp 14)) rfl ?_; refine put_box rfl rfl 39 (.tmp 5) (.tmp 14) rfl (MV t0) (by rfl) (by rfl) (blk_new wr _) (cs' := mcs t0) (by rfl) (by kernel_rfl) (by rfl) (mcs_one t0) ?_; intro w9 hbox hg; have HM := Lib.hid hbox; have HW := Lib.hid (pw_below_grown (below_alloc (Below.refl wr.heap.size wr) (.cells (mcs 0) 39)) (some wr.heap.size) (below_alloc (Below.refl wr.heap.size wr) (.cells (mcs 0) 39)).size hg (fun q hq => by injection hq with hq; omega)); clear hg hbox)
        have HN9 := Lib.hid (blk_below HNr.out HW.out)
        have HR9 := Lib.hid (Kd.R_below HRr.out HW.out)
        have HB9 := Lib.hid (below_then HB.out HB.out.size HW.out)
        have HK9 := Lib.hid (HK.out.trans (KeepBut.of_below HW.out p none) (.inl rfl))
        clear HNr HRr HB HK HW z0 z1 z2 z3 z4 z5 z6 z7 z8 z9 z10
        generalize wr.heap.size = gm at *
        refine start_ (n := 12) (S := fun w' => (w'.heap[p]? = some (.cells #[.bool true, v] 53 (0, 0))) ∧ (w'.heap[gm]? = some (.cells (mcs t0) 39 (0, 0))) ∧ ((Kd.raw 11).R 39 w' w.heap.size (fun _ => True) v []) ∧ (Below w0.heap.size w0 w') ∧ (KeepBut w w' p none)) (ds := [8, 11]) #[false, false, false, false, false, false, false, false, false, false, false, false] (by kernel_rfl) rfl rfl ⟨(blk_drew HN9.out), (blk_drew HM.out), (Kd.R_drew HR9.out), (below_drew HB9.out), (keep_drew HK9.out)⟩ (fun hHeld => ?_)
        refine with_tabW sent.tab4 sent.bits4 (fun HT_ HW_ => ?_)
        refine pure_ (i := 0) (N := some 15) (v := ?_) (a' := ?_) #[true, false, false, false, false, false, false, false, false, false, false, false] rfl rfl (any_of HT_.out (by kernel_rfl)) (fun _ _ _ h => h) (Or.inl ⟨by rfl, ?_⟩) ?_ ?_
        rotate_left
        · intro w'
          go_simp
          with_reducible rfl
        rotate_left
        · simp only [Act.put, List.setIfInBounds_toArray, List.set_cons_zero, List.set_cons_succ, i64_w, i32_w]
          rfl
        refine pure_ (i := 1) (N := some 16) (v := ?_) (a' := ?_) #[true, true, false, false, false, false, false, false, false, false, false, false] rfl rfl (any_of HT_.out (by kernel_rfl)) (fun _ _ _ h => h) (Or.inl ⟨by rfl, ?_⟩) ?_ ?_
        rotate_left
        · intro w'
          go_simp
          with_reducible rfl
        rotate_left
        · simp only [Act.put, List.setIfInBounds_toArray, List.set_cons_zero, List.set_cons_succ, i64_w, i32_w]
          rfl
        refine pure_ (i := 2) (N := some 17) (v := ?_) (a' := ?_) #[true, true, true, false, false, false, false, false, false, false, false, false] rfl rfl (any_of HT_.out (by kernel_rfl)) (fun _ _ _ h => h) (Or.inl ⟨by rfl, ?_⟩) ?_ ?_
        rotate_left
        · intro w'
          go_simp
          with_reducible rfl
        rotate_left
        · simp only [Act.put, List.setIfInBounds_toArray, List.set_cons_zero, List.set_cons_succ, i64_w, i32_w]
          rfl
        refine pure_ (i := 3) (N := some 18) (v := ?_) (a' := ?_) #[true, true, true, true, false, false, false, false, false, false, false, false] rfl rfl (any_of HT_.out (by kernel_rfl)) (fun _ _ _ h => h) (Or.inl ⟨by rfl, ?_⟩) ?_ ?_
        rotate_left
        · intro w'
          go_simp
          with_reducible rfl
        rotate_left
        · simp only [Act.put, List.setIfInBounds_toArray, List.set_cons_zero, List.set_cons_succ, i64_w, i32_w]
          rfl
        refine take_ (i := 4) (N := some 19) (v := ?_) (a' := ?_) #[true, true, true, true, true, false, false, false, false, false, false, false] rfl rfl (take_ofW HT_.out HW_.out (by kernel_rfl)) (fun _ _ _ h => h) (Or.inl ⟨by rfl, ?_⟩) hHeld ?_ ?_
        rotate_left
        · rintro w' ⟨hN, hM, hR, hB, hE⟩
          have c1 := (blk_cell hN 1).trans (show (#[.bool true, v] : Array Value)[1]? = some v from rfl)
          go_simp
          with_reducible rfl
        rotate_left
        · simp only [Act.put, List.setIfInBounds_toArray, List.set_cons_zero, List.set_cons_succ, i64_w, i32_w]
          rfl
        refine take_ (i := 5) (N := some 20) (v := ?_) (a' := ?_) #[true, true, true, true, true, true, false, false, false, false, false, false] rfl rfl (take_ofW HT_.out HW_.out (by kernel_rfl)) (fun _ _ _ h => h) (Or.inl ⟨by rfl, ?_⟩) hHeld ?_ ?_
        rotate_left
        · rintro w' ⟨hN, hM, hR, hB, hE⟩
          obtain ⟨x0, x1, x2, x3, x4, x5, x6, x7, x8, x9, x10⟩ := mcs_eq hM
          go_simp
          with_reducible rfl
        rotate_left
        · simp only [Act.put, List.setIfInBounds_toArray, List.set_cons_zero, List.set_cons_succ, i64_w, i32_w]
          rfl
        refine one_ (i := 6) (N := some 21) #[true, true, true, true, true, true, true, false, false, false, false, false] rfl rfl (one_of HT_.out (by kernel_rfl)) (by decide) (fun K hK => ?_)
        obtain ⟨hN, hM, hR, hB, hE⟩ := hHeld
        refine goes_ Try.func19 (by kernel_rfl) rfl #[MV t0] (by rfl) rfl rfl (by simp only [List.map_toArray, List.map_cons, List.map_nil]; rfl) ?_
        with_reducible refine (kept_calls t0 _).mono ?_
        rintro e w6 ⟨rfl, hb⟩
        refine ⟨_, rfl, ?_⟩
        refine hK.out _ _ ⟨(blk_below hN hb), (blk_below hM hb), (Kd.R_below hR hb), (below_then hB hB.size hb), (hE.trans (KeepBut.of_below hb p none) (.inl rfl))⟩ (fun hHeld => ?_)
        clear hK K
        refine norm_ (a' := ?_) ?_ ?_
        rotate_left
        · show Act.put _ (some 21) _ = _
          simp only [Act.put, List.setIfInBounds_toArray, List.set_cons_zero, List.set_cons_succ, i64_w, i32_w]
          rfl
        refine one_ (i := 7) (N := some 22) #[true, true, true, true, true, true, true, true, false, false, false, false] rfl rfl (one_of HT_.out (by kernel_rfl)) (by decide) (fun K hK => ?_)
        obtain ⟨hN, hM, hR, hB, hE⟩ := hHeld
        refine Kd.R_lit_step (Kd.raw 11) (w0 := w6) w.heap.size 39 ?hw7 (N := 22) ?hd7 (xs := [ml t0]) (inner := ml t0) (ok := fun _ => True) (okp := fun _ => True) ?hrun7 ?hrep7 ?hok7 ?hf7 ?hB7 ?hb7 ?hm7 ?_
        case hw7 => rfl
        case hd7 => rfl
        case hrep7 => exact reps1 t0 _ _ _
        case hok7 => exact fun _ h => h
        case hf7 => trivial
        case hB7 => exact Below.refl _ _
        case hb7 => exact hE.1
        case hm7 => simp
        case hrun7 => clear hN hM hR hB hE; first | (go_simp; done) | (go_simp; rfl)
        intro v7 w7 hL _ hg hat
        clear hat
        refine hK.out _ _ ⟨(blk_grown hN hg (by simp)), (blk_grown hM hg (by simp)), (Kd.R_grown hR hg (fun _ _ => by simp)), (pw_below_grown hB none hB.size hg (fun k hk => by cases hk)), (hE.trans (KeepBut.of_grown hg p) (.inl rfl))⟩ (fun hHeld => ?_)
        clear hK K
        refine norm_ (a' := ?_) ?_ ?_
        rotate_left
        · show Act.put _ (some 22) _ = _
          simp only [Act.put, List.setIfInBounds_toArray, List.set_cons_zero, List.set_cons_succ, i64_w, i32_w]
          rfl
        refine last_ (i := 8) (N := some 23) #[true, true, true, true, true, true, true, true, true, false, false, false] rfl rfl (one_of HT_.out (by kernel_rfl)) (by decide) (fun K hK => ?_)
        obtain ⟨hN, hM, hR, hB, hE⟩ := hHeld
        obtain ⟨A7, c7, e7, hl7, hC7⟩ := Kd.R_reads hL
        subst e7
        refine Kd.R_append_rows_step (Kd.raw 11) (w0 := w7) w.heap.size ?hw8 (.tmp 19) (.tmp 22) 47 39 (MV 0) 168 ?ho8 Try.underlying47 info39 rfl (by decide) (by omega) v [] [ml t0] A7 ([ml t0] : List (List Value)).length c7 (fun _ => True) (fun _ => False) ?hs8 ?hx8 hR hC7 (fun _ _ h => h) (fun _ h => h.elim) (fun _ _ => trivial) (Below.refl _ _) hE.1 (by simp) ?_
        case hw8 => rfl
        case ho8 => rfl
        case hs8 => rfl
        case hx8 => rfl
        intro v8 w8 hR8 _ hg hat
        have NP := Kd.R_ne hR hN (by decide)
        refine hK.out _ _ ?_
        clear hK K
        have hN8 := blk_grown hN hg NP
        have hB8 := pw_below_grown hB _ hB.size hg (fun k hk => by have := Kd.R_base hR k hk; have := HS.out; omega)
        have hE8 := hE.trans (KeepBut.of_grown hg p) ((Kd.R_base2 hR).elim .inl .inr)
        obtain ⟨A8, c8, e8⟩ := Kd.R_slice hR8
        subst e8
        clear hN hM hR hB hE hg NP hC7 hat
        refine norm_ (a' := ?_) ?_ ?_
        rotate_left
        · show Act.put _ (some 23) _ = _
          simp only [Act.put, List.setIfInBounds_toArray, List.set_cons_zero, List.set_cons_succ, i64_w, i32_w]
          rfl
        refine pure_ (i := 9) (N := some 24) (v := ?_) (a' := ?_) #[true, true, true, true, true, true, true, true, true, true, false, false] rfl rfl (any_of HT_.out (by kernel_rfl)) (fun _ _ _ h => h) (Or.inl ⟨by rfl, ?_⟩) ?_ ?_
        rotate_left
        · intro w'
          go_simp
          with_reducible rfl
        rotate_left
        · simp only [Act.put, List.setIfInBounds_toArray, List.set_cons_zero, List.set_cons_succ, i64_w, i32_w]
          rfl
        refine pure_ (i := 10) (N := some 25) (v := ?_) (a' := ?_) #[true, true, true, true, true, true, true, true, true, true, true, false] rfl rfl (any_of HT_.out (by kernel_rfl)) (fun _ _ _ h => h) (Or.inl ⟨by rfl, ?_⟩) ?_ ?_
        rotate_left
        · intro w'
          go_simp
          with_reducible rfl
        rotate_left
        · simp only [Act.put, List.setIfInBounds_toArray, List.set_cons_zero, List.set_cons_succ, i64_w, i32_w]
          rfl
        refine last_ (i := 11) (N := none) #[true, true, true, true, true, true, true, true, true, true, true, true] rfl rfl (one_of HT_.out (by kernel_rfl)) (by decide) (fun K hK => ?_)
        have hf := blk_frozen hN8 1
        have hc := (blk_cell hN8 1).trans (show (#[.bool true, v] : Array Value)[1]? = some v from rfl)
        refine skip_ (w1 := ?_) (by rfl) rfl ?_ ?_
        rotate_left
        · go_simp
          rfl
        refine hK.out _ _ ?_
        clear hK K
        have HB2 := Lib.hid (below_set (g := p) (j := 1) (v := (.slice A8 ([] ++ [ml t0] : List (List Value)).length c8)) hB8 HP.out)
        have HE2 := Lib.hid (KeepBut.set_ hE8 1 (.slice A8 ([] ++ [ml t0] : List (List Value)).length c8))
        have HNR := Lib.hid (show Nr w.heap.size (World.setCell w8 ⟨p, 1, none⟩ (.slice A8 ([] ++ [ml t0] : List (List Value)).length c8)) p [ml t0] from ⟨(.slice A8 ([] ++ [ml t0] : List (List Value)).length c8), blk_put hN8 1 (.slice A8 ([] ++ [ml t0] : List (List Value)).length c8) rfl, Kd.R_set hR8 hN8 raw_types 1 (.slice A8 ([] ++ [ml t0] : List (List Value)).length c8)⟩)
        clear hf hc hN8 hB8 hE8 hR8
        refine done_ (done_of HT_.out (by kernel_rfl)) ?_
        go_wp2_with fail
        go_roundw
        case rel => exact ⟨1, by omega, by go_num, HNR, HB2, HE2⟩
        case measure => simp [intOf]
      · obtain ⟨v, hN, hR⟩ := HR0.out
        have hLr : wr.heap[b]? = some (.cells (mcs t0 ++ mcs t1) 39 (0, 0)) := HK.out.blk HL.out HNE.out (by simp)
        have z0 : wr.cell? ⟨b, 11, none⟩ = some (.int .i64 0) := (two_eq hLr 11).trans rfl
        have z1 : wr.cell? ⟨b, 12, none⟩ = some (.int .i64 0) := (two_eq hLr 12).trans rfl
        have z2 : wr.cell? ⟨b, 13, none⟩ = some (.int .i64 0) := (two_eq hLr 13).trans rfl
        have z3 : wr.cell? ⟨b, 14, none⟩ = some (.int .i64 t1) := (two_eq hLr 14).trans rfl
        have z4 : wr.cell? ⟨b, 15, none⟩ = some (.bool false) := (two_eq hLr 15).trans rfl
        have z5 : wr.cell? ⟨b, 16, none⟩ = some (.int .i64 0) := (two_eq hLr 16).trans rfl
        have z6 : wr.cell? ⟨b, 17, none⟩ = some nil_ := (two_eq hLr 17).trans rfl
        have z7 : wr.cell? ⟨b, 18, none⟩ = some nil_ := (two_eq hLr 18).trans rfl
        have z8 : wr.cell? ⟨b, 19, none⟩ = some nil_ := (two_eq hLr 19).trans rfl
        have z9 : wr.cell? ⟨b, 20, none⟩ = some nil_ := (two_eq hLr 20).trans rfl
        have z10 : wr.cell? ⟨b, 21, none⟩ = some nil_ := (two_eq hLr 21).trans rfl
        have HNr := Lib.hid hN
        have HRr := Lib.hid (show (Kd.raw 11).R 39 wr w.heap.size (fun _ => True) v [ml t0] from hR)
        clear hN hR hLr HR0
        go_wp2_with (refine gate_ (.store 39 (.tmp 5) (.tmp 14)) rfl ?_; refine put_box rfl rfl 39 (.tmp 5) (.tmp 14) rfl (MV t1) (by rfl) (by rfl) (blk_new wr _) (cs' := mcs t1) (by rfl) (by kernel_rfl) (by rfl) (mcs_one t1) ?_; intro w9 hbox hg; have HM := Lib.hid hbox; have HW := Lib.hid (pw_below_grown (below_alloc (Below.refl wr.heap.size wr) (.cells (mcs 0) 39)) (some wr.heap.size) (below_alloc (Below.refl wr.heap.size wr) (.cells (mcs 0) 39)).size hg (fun q hq => by injection hq with hq; omega)); clear hg hbox)
        have HN9 := Lib.hid (blk_below HNr.out HW.out)
        have HR9 := Lib.hid (Kd.R_below HRr.out HW.out)
        have HB9 := Lib.hid (below_then HB.out HB.out.size HW.out)
        have HK9 := Lib.hid (HK.out.trans (KeepBut.of_below HW.out p none) (.inl rfl))
        clear HNr HRr HB HK HW z0 z1 z2 z3 z4 z5 z6 z7 z8 z9 z10
        generalize wr.heap.size = gm at *
        refine start_ (n := 12) (S := fun w' => (w'.heap[p]? = some (.cells #[.bool true, v] 53 (0, 0))) ∧ (w'.heap[gm]? = some (.cells (mcs t1) 39 (0, 0))) ∧ ((Kd.raw 11).R 39 w' w.heap.size (fun _ => True) v [ml t0]) ∧ (Below w0.heap.size w0 w') ∧ (KeepBut w w' p none)) (ds := [8, 11]) #[false, false, false, false, false, false, false, false, false, false, false, false] (by kernel_rfl) rfl rfl ⟨(blk_drew HN9.out), (blk_drew HM.out), (Kd.R_drew HR9.out), (below_drew HB9.out), (keep_drew HK9.out)⟩ (fun hHeld => ?_)
        refine with_tabW sent.tab4 sent.bits4 (fun HT_ HW_ => ?_)
        refine pure_ (i := 0) (N := some 15) (v := ?_) (a' := ?_) #[true, false, false, false, false, false, false, false, false, false, false, false] rfl rfl (any_of HT_.out (by kernel_rfl)) (fun _ _ _ h => h) (Or.inl ⟨by rfl, ?_⟩) ?_ ?_
        rotate_left
        · intro w'
          go_simp
          with_reducible rfl
        rotate_left
        · simp only [Act.put, List.setIfInBounds_toArray, List.set_cons_zero, List.set_cons_succ, i64_w, i32_w]
          rfl
        refine pure_ (i := 1) (N := some 16) (v := ?_) (a' := ?_) #[true, true, false, false, false, false, false, false, false, false, false, false] rfl rfl (any_of HT_.out (by kernel_rfl)) (fun _ _ _ h => h) (Or.inl ⟨by rfl, ?_⟩) ?_ ?_
        rotate_left
        · intro w'
          go_simp
          with_reducible rfl
        rotate_left
        · simp only [Act.put, List.setIfInBounds_toArray, List.set_cons_zero, List.set_cons_succ, i64_w, i32_w]
          rfl
        refine pure_ (i := 2) (N := some 17) (v := ?_) (a' := ?_) #[true, true, true, false, false, false, false, false, false, false, false, false] rfl rfl (any_of HT_.out (by kernel_rfl)) (fun _ _ _ h => h) (Or.inl ⟨by rfl, ?_⟩) ?_ ?_
        rotate_left
        · intro w'
          go_simp
          with_reducible rfl
        rotate_left
        · simp only [Act.put, List.setIfInBounds_toArray, List.set_cons_zero, List.set_cons_succ, i64_w, i32_w]
          rfl
        refine pure_ (i := 3) (N := some 18) (v := ?_) (a' := ?_) #[true, true, true, true, false, false, false, false, false, false, false, false] rfl rfl (any_of HT_.out (by kernel_rfl)) (fun _ _ _ h => h) (Or.inl ⟨by rfl, ?_⟩) ?_ ?_
        rotate_left
        · intro w'
          go_simp
          with_reducible rfl
        rotate_left
        · simp only [Act.put, List.setIfInBounds_toArray, List.set_cons_zero, List.set_cons_succ, i64_w, i32_w]
          rfl
        refine take_ (i := 4) (N := some 19) (v := ?_) (a' := ?_) #[true, true, true, true, true, false, false, false, false, false, false, false] rfl rfl (take_ofW HT_.out HW_.out (by kernel_rfl)) (fun _ _ _ h => h) (Or.inl ⟨by rfl, ?_⟩) hHeld ?_ ?_
        rotate_left
        · rintro w' ⟨hN, hM, hR, hB, hE⟩
          have c1 := (blk_cell hN 1).trans (show (#[.bool true, v] : Array Value)[1]? = some v from rfl)
          go_simp
          with_reducible rfl
        rotate_left
        · simp only [Act.put, List.setIfInBounds_toArray, List.set_cons_zero, List.set_cons_succ, i64_w, i32_w]
          rfl
        refine take_ (i := 5) (N := some 20) (v := ?_) (a' := ?_) #[true, true, true, true, true, true, false, false, false, false, false, false] rfl rfl (take_ofW HT_.out HW_.out (by kernel_rfl)) (fun _ _ _ h => h) (Or.inl ⟨by rfl, ?_⟩) hHeld ?_ ?_
        rotate_left
        · rintro w' ⟨hN, hM, hR, hB, hE⟩
          obtain ⟨x0, x1, x2, x3, x4, x5, x6, x7, x8, x9, x10⟩ := mcs_eq hM
          go_simp
          with_reducible rfl
        rotate_left
        · simp only [Act.put, List.setIfInBounds_toArray, List.set_cons_zero, List.set_cons_succ, i64_w, i32_w]
          rfl
        refine one_ (i := 6) (N := some 21) #[true, true, true, true, true, true, true, false, false, false, false, false] rfl rfl (one_of HT_.out (by kernel_rfl)) (by decide) (fun K hK => ?_)
        obtain ⟨hN, hM, hR, hB, hE⟩ := hHeld
        refine goes_ Try.func19 (by kernel_rfl) rfl #[MV t1] (by rfl) rfl rfl (by simp only [List.map_toArray, List.map_cons, List.map_nil]; rfl) ?_
        with_reducible refine (kept_calls t1 _).mono ?_
        rintro e w6 ⟨rfl, hb⟩
        refine ⟨_, rfl, ?_⟩
        refine hK.out _ _ ⟨(blk_below hN hb), (blk_below hM hb), (Kd.R_below hR hb), (below_then hB hB.size hb), (hE.trans (KeepBut.of_below hb p none) (.inl rfl))⟩ (fun hHeld => ?_)
        clear hK K
        refine norm_ (a' := ?_) ?_ ?_
        rotate_left
        · show Act.put _ (some 21) _ = _
          simp only [Act.put, List.setIfInBounds_toArray, List.set_cons_zero, List.set_cons_succ, i64_w, i32_w]
          rfl
        refine one_ (i := 7) (N := some 22) #[true, true, true, true, true, true, true, true, false, false, false, false] rfl rfl (one_of HT_.out (by kernel_rfl)) (by decide) (fun K hK => ?_)
        obtain ⟨hN, hM, hR, hB, hE⟩ := hHeld
        refine Kd.R_lit_step (Kd.raw 11) (w0 := w6) w.heap.size 39 ?hw7 (N := 22) ?hd7 (xs := [ml t1]) (inner := ml t1) (ok := fun _ => True) (okp := fun _ => True) ?hrun7 ?hrep7 ?hok7 ?hf7 ?hB7 ?hb7 ?hm7 ?_
        case hw7 => rfl
        case hd7 => rfl
        case hrep7 => exact reps1 t1 _ _ _
        case hok7 => exact fun _ h => h
        case hf7 => trivial
        case hB7 => exact Below.refl _ _
        case hb7 => exact hE.1
        case hm7 => simp
        case hrun7 => clear hN hM hR hB hE; first | (go_simp; done) | (go_simp; rfl)
        intro v7 w7 hL _ hg hat
        clear hat
        refine hK.out _ _ ⟨(blk_grown hN hg (by simp)), (blk_grown hM hg (by simp)), (Kd.R_grown hR hg (fun _ _ => by simp)), (pw_below_grown hB none hB.size hg (fun k hk => by cases hk)), (hE.trans (KeepBut.of_grown hg p) (.inl rfl))⟩ (fun hHeld => ?_)
        clear hK K
        refine norm_ (a' := ?_) ?_ ?_
        rotate_left
        · show Act.put _ (some 22) _ = _
          simp only [Act.put, List.setIfInBounds_toArray, List.set_cons_zero, List.set_cons_succ, i64_w, i32_w]
          rfl
        refine last_ (i := 8) (N := some 23) #[true, true, true, true, true, true, true, true, true, false, false, false] rfl rfl (one_of HT_.out (by kernel_rfl)) (by decide) (fun K hK => ?_)
        obtain ⟨hN, hM, hR, hB, hE⟩ := hHeld
        obtain ⟨A7, c7, e7, hl7, hC7⟩ := Kd.R_reads hL
        subst e7
        refine Kd.R_append_rows_step (Kd.raw 11) (w0 := w7) w.heap.size ?hw8 (.tmp 19) (.tmp 22) 47 39 (MV 0) 168 ?ho8 Try.underlying47 info39 rfl (by decide) (by omega) v [ml t0] [ml t1] A7 ([ml t1] : List (List Value)).length c7 (fun _ => True) (fun _ => False) ?hs8 ?hx8 hR hC7 (fun _ _ h => h) (fun _ h => h.elim) (fun _ _ => trivial) (Below.refl _ _) hE.1 (by simp) ?_
        case hw8 => rfl
        case ho8 => rfl
        case hs8 => rfl
        case hx8 => rfl
        intro v8 w8 hR8 _ hg hat
        have NP := Kd.R_ne hR hN (by decide)
        refine hK.out _ _ ?_
        clear hK K
        have hN8 := blk_grown hN hg NP
        have hB8 := pw_below_grown hB _ hB.size hg (fun k hk => by have := Kd.R_base hR k hk; have := HS.out; omega)
        have hE8 := hE.trans (KeepBut.of_grown hg p) ((Kd.R_base2 hR).elim .inl .inr)
        obtain ⟨A8, c8, e8⟩ := Kd.R_slice hR8
        subst e8
        clear hN hM hR hB hE hg NP hC7 hat
        refine norm_ (a' := ?_) ?_ ?_
        rotate_left
        · show Act.put _ (some 23) _ = _
          simp only [Act.put, List.setIfInBounds_toArray, List.set_cons_zero, List.set_cons_succ, i64_w, i32_w]
          rfl
        refine pure_ (i := 9) (N := some 24) (v := ?_) (a' := ?_) #[true, true, true, true, true, true, true, true, true, true, false, false] rfl rfl (any_of HT_.out (by kernel_rfl)) (fun _ _ _ h => h) (Or.inl ⟨by rfl, ?_⟩) ?_ ?_
        rotate_left
        · intro w'
          go_simp
          with_reducible rfl
        rotate_left
        · simp only [Act.put, List.setIfInBounds_toArray, List.set_cons_zero, List.set_cons_succ, i64_w, i32_w]
          rfl
        refine pure_ (i := 10) (N := some 25) (v := ?_) (a' := ?_) #[true, true, true, true, true, true, true, true, true, true, true, false] rfl rfl (any_of HT_.out (by kernel_rfl)) (fun _ _ _ h => h) (Or.inl ⟨by rfl, ?_⟩) ?_ ?_
        rotate_left
        · intro w'
          go_simp
          with_reducible rfl
        rotate_left
        · simp only [Act.put, List.setIfInBounds_toArray, List.set_cons_zero, List.set_cons_succ, i64_w, i32_w]
          rfl
        refine last_ (i := 11) (N := none) #[true, true, true, true, true, true, true, true, true, true, true, true] rfl rfl (one_of HT_.out (by kernel_rfl)) (by decide) (fun K hK => ?_)
        have hf := blk_frozen hN8 1
        have hc := (blk_cell hN8 1).trans (show (#[.bool true, v] : Array Value)[1]? = some v from rfl)
        refine skip_ (w1 := ?_) (by rfl) rfl ?_ ?_
        rotate_left
        · go_simp
          rfl
        refine hK.out _ _ ?_
        clear hK K
        have HB2 := Lib.hid (below_set (g := p) (j := 1) (v := (.slice A8 ([ml t0] ++ [ml t1] : List (List Value)).length c8)) hB8 HP.out)
        have HE2 := Lib.hid (KeepBut.set_ hE8 1 (.slice A8 ([ml t0] ++ [ml t1] : List (List Value)).length c8))
        have HNR := Lib.hid (show Nr w.heap.size (World.setCell w8 ⟨p, 1, none⟩ (.slice A8 ([ml t0] ++ [ml t1] : List (List Value)).length c8)) p [ml t0, ml t1] from ⟨(.slice A8 ([ml t0] ++ [ml t1] : List (List Value)).length c8), blk_put hN8 1 (.slice A8 ([ml t0] ++ [ml t1] : List (List Value)).length c8) rfl, Kd.R_set hR8 hN8 raw_types 1 (.slice A8 ([ml t0] ++ [ml t1] : List (List Value)).length c8)⟩)
        clear hf hc hN8 hB8 hE8 hR8
        refine done_ (done_of HT_.out (by kernel_rfl)) ?_
        go_wp2_with fail
        go_roundw
        case rel => exact ⟨2, by omega, by go_num, HNR, HB2, HE2⟩
        case measure => simp [intOf]
    · obtain rfl : k = 2 := by omega
      go_wp2_with fail
      exact bodyPost_end (v := .tuple #[]) (by simp [results, Try.results8, go_sem]) rfl ⟨rfl, HR0.out, HB.out⟩
end Go.Proofs.Ytbojccpaohccfaa.H
