/- What ber.Put answers for an element: the walk. Condition: what lies in a memory, not too many bytes in one. -/
import Derived.Test.YtkhghgmonjebnaaBytesW
import Derived.Test.YtkhghgmonjebnaaRightW
import Derived.Defers
import Derived.Recover
namespace Go.Proofs.Ytkhghgmonjebnaa.B
open Go.RowKit Go.Proofs.YtkhghgmonjebnaaW.PrintWords Go.Proofs.YtkhghgmonjebnaaW.PrintLast Go.Proofs.YtkhghgmonjebnaaW.PrintMore
open Go.Proofs.Ytkhghgmonjebnaa.H Go.Proofs.Ytkhghgmonjebnaa.K
set_option linter.unusedVariables false
set_option linter.unusedSimpArgs false

theorem caught_idle (p : Addr) (w : World) :
    CallsD Try.prog 21 #[.pointer (some p)] .returning w fun e u' w' => e = .returned (.tuple #[]) ∧ u' = .returning ∧ w' = w := by
  refine callsD_of_wpS Try.func21 rfl fun c₀ cs hu => ?_
  apply wpS_seq
  apply wpS_region
  simp [wpOpsS, go_sem, recoverD, hu, Try.ntmps21, Exit.thenS]
  refine wpS_of_wp ?_
  go_wp2
  cases c₀
  simp_all [bodyPostS, results, Try.results21]

set_option maxHeartbeats 4000000 in
theorem caught_fault (n : Int) (p : Addr) (x : Value) (older : List PanicEntry) (w : World) (hc : w.cell? p = some x) (hz : w.frozen? p = false) :
    CallsD Try.prog 21 #[.pointer (some p)] (.panicking ({ v := .iface 80 (.agg #[.int .i64 n]), recovered := false } :: older)) w fun e u' w' =>
      e = .returned (.tuple #[]) ∧ u' = .panicking ({ v := .iface 80 (.agg #[.int .i64 n]), recovered := true } :: older) ∧ w' = (w.alloc (.cells #[.int .i64 n] 80)).setCell p (.int .i64 n) := by
  have hc2 : ∀ o, (w.alloc o).cell? p = some x := fun o => pw_cell_below (below_alloc (Below.refl _ _) _) hc
  have hz2 : ∀ c t, (w.alloc (.cells c t)).frozen? p = false := fun c t => (frozen?_alloc_cells w c t p).trans hz
  refine callsD_of_wpS Try.func21 rfl fun c₀ cs hu => ?_
  apply wpS_seq
  apply wpS_region
  simp [wpOpsS, go_sem, recoverD, hu, Try.ntmps21, Exit.thenS]
  refine wpS_of_wp ?_
  have ht := assert80 (.agg #[.int .i64 n])
  go_wp2
  cases c₀
  simp_all [bodyPostS, results, Try.results21]
theorem blk2 (w : World) (o p : Obj) : ((w.alloc o).alloc p).heap[w.heap.size + 1]? = some p := by
  have h := blk_new (w.alloc o) p
  have hs : (w.alloc o).heap.size = w.heap.size + 1 := by simp
  rw [hs] at h
  exact h
/-- What Put answers. -/
def putR (x : S27) : List Int × Int :=
  if rightE x = false then ([], 2) else if 24 < deepE x then ([], 15) else if 16384 < (layE x 0).2 then ([], 3) else ((layE x 0).1, 0)
def PutQ (w : World) (x : S27) (e : Ending) (w' : World) : Prop :=
  ∃ v, e = .returned (.tuple #[v, .int .i64 (putR x).2]) ∧ Kd.R (Kd.int .u8) 5 w' w.heap.size (fun _ => True) v (putR x).1 ∧ Below w.heap.size w w'

set_option maxRecDepth 100000 in
set_option maxHeartbeats 8000000 in
theorem put_calls (x : S27) (hf : fitE x) (ht : thinE x) (A3 : Option Addr) (c3 : Nat) (A4 : Option Addr) (c4 : Nat) (w : World) (hL : Lies w x A3 c3 A4 c4) :
    Calls Try.prog 10 #[ev x A3 c3 A4 c4] w fun e w' => PutQ w x e w' := by
  have HR0 := Lib.hid (right_walk x hf)
  have HBW := Lib.hid (bytes_walk x hf ht)
  have HL := Lib.hid hL
  clear hL hf ht
  cases hr : rightE x
  · go_enter_defers Try.func10, Try.ntmps10
    go_wp2_with (go_at_call 20; refine (HR0.out _ _ _ _ _ (HL.out.below ?hb)).mono ?_; (case hb => exact below_alloc (below_alloc (Below.refl _ _) _) _); rintro e w1 ⟨rfl, hb1⟩; rw [hr]; have HB1 := Lib.hid (below_then (below_alloc (below_alloc (Below.refl _ _) _) _) (by simp; omega) hb1 : Below w.heap.size w w1); have HV := Lib.hid (blk_below (blk_below (blk_new w _) (below_alloc (Below.refl _ _) _)) hb1 : w1.heap[w.heap.size]? = some (.cells #[.int .i64 x.f0.f0, .bool x.f0.f1, .int .i64 x.f0.f2, .slice A3 x.f1.length c3, .slice A4 x.f2.length c4] 27 (0, 0))); have HE := Lib.hid (blk_below (blk2 w _ _) hb1 : w1.heap[w.heap.size + 1]? = some (.cells #[.int .i64 0] 33 (0, 0))); have hcE : w1.cell? ⟨w.heap.size + 1, 0, none⟩ = some (.int .i64 0) := blk_cell HE.out 0; have hzE : w1.frozen? ⟨w.heap.size + 1, 0, none⟩ = false := blk_frozen HE.out 0; skip; clear hb1)
    have hc : (w1.setCell ⟨w.heap.size + 1, 0, none⟩ (.int .i64 2)).cell? ⟨w.heap.size + 1, 0, none⟩ = some (.int .i64 2) := blk_cell (blk_put HE.out 0 _ rfl) 0
    have hq : PutQ w x (.returned (.tuple #[.slice none 0 0, .int .i64 2])) (w1.setCell ⟨w.heap.size + 1, 0, none⟩ (.int .i64 2)) := by
      have e : putR x = ([], 2) := by unfold putR; rw [if_pos hr]
      unfold PutQ
      rw [e]
      exact ⟨_, rfl, Kd.R_nil _ _ _ _ _, Below.setCell HB1.out (by simp) _⟩
    simpa [bodyPostD, Leaves, settle, results, Try.results10, go_sem, hc] using hq
  · by_cases hd : deepE x ≤ 24
    · by_cases hbig : (16384 : Int) < (layE x 0).2
      · go_enter_defers Try.func10, Try.ntmps10
        go_wp2_with (first | (go_at_call 20; refine (HR0.out _ _ _ _ _ (HL.out.below ?hb)).mono ?_; (case hb => exact below_alloc (below_alloc (Below.refl _ _) _) _); rintro e w1 ⟨rfl, hb1⟩; rw [hr]; have HB1 := Lib.hid (below_then (below_alloc (below_alloc (Below.refl _ _) _) _) (by simp; omega) hb1 : Below w.heap.size w w1); have HV := Lib.hid (blk_below (blk_below (blk_new w _) (below_alloc (Below.refl _ _) _)) hb1 : w1.heap[w.heap.size]? = some (.cells #[.int .i64 x.f0.f0, .bool x.f0.f1, .int .i64 x.f0.f2, .slice A3 x.f1.length c3, .slice A4 x.f2.length c4] 27 (0, 0))); have HE := Lib.hid (blk_below (blk2 w _ _) hb1 : w1.heap[w.heap.size + 1]? = some (.cells #[.int .i64 0] 33 (0, 0))); have hcE : w1.cell? ⟨w.heap.size + 1, 0, none⟩ = some (.int .i64 0) := blk_cell HE.out 0; have hzE : w1.frozen? ⟨w.heap.size + 1, 0, none⟩ = false := blk_frozen HE.out 0; have hv0 : ∀ o, (w1.alloc o).cell? ⟨w.heap.size, 0, none⟩ = some (.int .i64 x.f0.f0) := fun o => blk_cell (blk_below HV.out (below_alloc (Below.refl _ _) o)) 0; have hv1 : ∀ o, (w1.alloc o).cell? ⟨w.heap.size, 1, none⟩ = some (.bool x.f0.f1) := fun o => blk_cell (blk_below HV.out (below_alloc (Below.refl _ _) o)) 1; have hv2 : ∀ o, (w1.alloc o).cell? ⟨w.heap.size, 2, none⟩ = some (.int .i64 x.f0.f2) := fun o => blk_cell (blk_below HV.out (below_alloc (Below.refl _ _) o)) 2; have hv3 : ∀ o, (w1.alloc o).cell? ⟨w.heap.size, 3, none⟩ = some (.slice A3 x.f1.length c3) := fun o => blk_cell (blk_below HV.out (below_alloc (Below.refl _ _) o)) 3; have hv4 : ∀ o, (w1.alloc o).cell? ⟨w.heap.size, 4, none⟩ = some (.slice A4 x.f2.length c4) := fun o => blk_cell (blk_below HV.out (below_alloc (Below.refl _ _) o)) 4; clear hb1) | (go_at_call 22; refine (HBW.out w _ A3 c3 A4 c4 w1.heap.size 0 0 HL.out (below_alloc HB1.out _) HB1.out.size (blk_new w1 _) (by omega)).mono ?_; intro e w2 hpost; unfold BytesQ at hpost; rw [if_pos (by omega)] at hpost; obtain ⟨v13, rfl, ho, ⟨hk2, hp2, hb2⟩⟩ := hpost; have HO := Lib.hid ho; have HE2 := Lib.hid (hk2.blk (blk_below HE.out (below_alloc (Below.refl _ _) _)) (Nat.ne_of_lt (blk_lt HE.out)) (by simp)); have hcp : w2.cell? ⟨w1.heap.size, 0, none⟩ = some (.int .i64 (layE x 0).2) := blk_cell hp2 0; have HB2 := Lib.hid hb2; have hcE2 : w2.cell? ⟨w.heap.size + 1, 0, none⟩ = some (.int .i64 0) := blk_cell HE2.out 0; have hzE2 : w2.frozen? ⟨w.heap.size + 1, 0, none⟩ = false := blk_frozen HE2.out 0; clear ho hk2 hp2 hb2))
        have hc : (w2.setCell ⟨w.heap.size + 1, 0, none⟩ (.int .i64 3)).cell? ⟨w.heap.size + 1, 0, none⟩ = some (.int .i64 3) := blk_cell (blk_put HE2.out 0 _ rfl) 0
        have hq : PutQ w x (.returned (.tuple #[.slice none 0 0, .int .i64 3])) (w2.setCell ⟨w.heap.size + 1, 0, none⟩ (.int .i64 3)) := by
          have e : putR x = ([], 3) := by unfold putR; rw [if_neg (by rw [hr]; simp), if_neg (by omega), if_pos hbig]
          unfold PutQ
          rw [e]
          exact ⟨_, rfl, Kd.R_nil _ _ _ _ _, Below.setCell HB2.out (by simp) _⟩
        refine leaves_cons (f := 21) (args := #[.pointer (some ⟨w.heap.size + 1, 0, none⟩)]) (by simp) (by simp [go_sem]) ?_
        refine (caught_idle _ _).mono ?_
        rintro e u' w'' ⟨rfl, rfl, rfl⟩
        simpa [bodyPostD, Leaves, settle, results, Try.results10, go_sem, hc] using hq
      · go_enter_defers Try.func10, Try.ntmps10
        go_wp2_with (first | (go_at_call 20; refine (HR0.out _ _ _ _ _ (HL.out.below ?hb)).mono ?_; (case hb => exact below_alloc (below_alloc (Below.refl _ _) _) _); rintro e w1 ⟨rfl, hb1⟩; rw [hr]; have HB1 := Lib.hid (below_then (below_alloc (below_alloc (Below.refl _ _) _) _) (by simp; omega) hb1 : Below w.heap.size w w1); have HV := Lib.hid (blk_below (blk_below (blk_new w _) (below_alloc (Below.refl _ _) _)) hb1 : w1.heap[w.heap.size]? = some (.cells #[.int .i64 x.f0.f0, .bool x.f0.f1, .int .i64 x.f0.f2, .slice A3 x.f1.length c3, .slice A4 x.f2.length c4] 27 (0, 0))); have HE := Lib.hid (blk_below (blk2 w _ _) hb1 : w1.heap[w.heap.size + 1]? = some (.cells #[.int .i64 0] 33 (0, 0))); have hcE : w1.cell? ⟨w.heap.size + 1, 0, none⟩ = some (.int .i64 0) := blk_cell HE.out 0; have hzE : w1.frozen? ⟨w.heap.size + 1, 0, none⟩ = false := blk_frozen HE.out 0; have hv0 : ∀ o, (w1.alloc o).cell? ⟨w.heap.size, 0, none⟩ = some (.int .i64 x.f0.f0) := fun o => blk_cell (blk_below HV.out (below_alloc (Below.refl _ _) o)) 0; have hv1 : ∀ o, (w1.alloc o).cell? ⟨w.heap.size, 1, none⟩ = some (.bool x.f0.f1) := fun o => blk_cell (blk_below HV.out (below_alloc (Below.refl _ _) o)) 1; have hv2 : ∀ o, (w1.alloc o).cell? ⟨w.heap.size, 2, none⟩ = some (.int .i64 x.f0.f2) := fun o => blk_cell (blk_below HV.out (below_alloc (Below.refl _ _) o)) 2; have hv3 : ∀ o, (w1.alloc o).cell? ⟨w.heap.size, 3, none⟩ = some (.slice A3 x.f1.length c3) := fun o => blk_cell (blk_below HV.out (below_alloc (Below.refl _ _) o)) 3; have hv4 : ∀ o, (w1.alloc o).cell? ⟨w.heap.size, 4, none⟩ = some (.slice A4 x.f2.length c4) := fun o => blk_cell (blk_below HV.out (below_alloc (Below.refl _ _) o)) 4; clear hb1) | (go_at_call 22; refine (HBW.out w _ A3 c3 A4 c4 w1.heap.size 0 0 HL.out (below_alloc HB1.out _) HB1.out.size (blk_new w1 _) (by omega)).mono ?_; intro e w2 hpost; unfold BytesQ at hpost; rw [if_pos (by omega)] at hpost; obtain ⟨v13, rfl, ho, ⟨hk2, hp2, hb2⟩⟩ := hpost; have HO := Lib.hid ho; have HE2 := Lib.hid (hk2.blk (blk_below HE.out (below_alloc (Below.refl _ _) _)) (Nat.ne_of_lt (blk_lt HE.out)) (by simp)); have hcp : w2.cell? ⟨w1.heap.size, 0, none⟩ = some (.int .i64 (layE x 0).2) := blk_cell hp2 0; have HB2 := Lib.hid hb2; have hcE2 : w2.cell? ⟨w.heap.size + 1, 0, none⟩ = some (.int .i64 0) := blk_cell HE2.out 0; have hzE2 : w2.frozen? ⟨w.heap.size + 1, 0, none⟩ = false := blk_frozen HE2.out 0; clear ho hk2 hp2 hb2))
        have hc : (w2.setCell ⟨w.heap.size + 1, 0, none⟩ (.int .i64 0)).cell? ⟨w.heap.size + 1, 0, none⟩ = some (.int .i64 0) := blk_cell (blk_put HE2.out 0 _ rfl) 0
        have hq : PutQ w x (.returned (.tuple #[v13, .int .i64 0])) (w2.setCell ⟨w.heap.size + 1, 0, none⟩ (.int .i64 0)) := by
          have e : putR x = ((layE x 0).1, 0) := by unfold putR; rw [if_neg (by rw [hr]; simp), if_neg (by omega), if_neg (by omega)]
          unfold PutQ
          rw [e]
          exact ⟨_, rfl, Kd.R_lower (Kd.R_set HO.out HE2.out (by decide) 0 _) (Nat.le_trans HB1.out.size (by simp)), Below.setCell HB2.out (by simp) _⟩
        refine leaves_cons (f := 21) (args := #[.pointer (some ⟨w.heap.size + 1, 0, none⟩)]) (by simp) (by simp [go_sem]) ?_
        refine (caught_idle _ _).mono ?_
        rintro e u' w'' ⟨rfl, rfl, rfl⟩
        simpa [bodyPostD, Leaves, settle, results, Try.results10, go_sem, hc] using hq
    · go_enter_defers Try.func10, Try.ntmps10
      go_wp2_with (first | (go_at_call 20; refine (HR0.out _ _ _ _ _ (HL.out.below ?hb)).mono ?_; (case hb => exact below_alloc (below_alloc (Below.refl _ _) _) _); rintro e w1 ⟨rfl, hb1⟩; rw [hr]; have HB1 := Lib.hid (below_then (below_alloc (below_alloc (Below.refl _ _) _) _) (by simp; omega) hb1 : Below w.heap.size w w1); have HV := Lib.hid (blk_below (blk_below (blk_new w _) (below_alloc (Below.refl _ _) _)) hb1 : w1.heap[w.heap.size]? = some (.cells #[.int .i64 x.f0.f0, .bool x.f0.f1, .int .i64 x.f0.f2, .slice A3 x.f1.length c3, .slice A4 x.f2.length c4] 27 (0, 0))); have HE := Lib.hid (blk_below (blk2 w _ _) hb1 : w1.heap[w.heap.size + 1]? = some (.cells #[.int .i64 0] 33 (0, 0))); have hcE : w1.cell? ⟨w.heap.size + 1, 0, none⟩ = some (.int .i64 0) := blk_cell HE.out 0; have hzE : w1.frozen? ⟨w.heap.size + 1, 0, none⟩ = false := blk_frozen HE.out 0; have hv0 : ∀ o, (w1.alloc o).cell? ⟨w.heap.size, 0, none⟩ = some (.int .i64 x.f0.f0) := fun o => blk_cell (blk_below HV.out (below_alloc (Below.refl _ _) o)) 0; have hv1 : ∀ o, (w1.alloc o).cell? ⟨w.heap.size, 1, none⟩ = some (.bool x.f0.f1) := fun o => blk_cell (blk_below HV.out (below_alloc (Below.refl _ _) o)) 1; have hv2 : ∀ o, (w1.alloc o).cell? ⟨w.heap.size, 2, none⟩ = some (.int .i64 x.f0.f2) := fun o => blk_cell (blk_below HV.out (below_alloc (Below.refl _ _) o)) 2; have hv3 : ∀ o, (w1.alloc o).cell? ⟨w.heap.size, 3, none⟩ = some (.slice A3 x.f1.length c3) := fun o => blk_cell (blk_below HV.out (below_alloc (Below.refl _ _) o)) 3; have hv4 : ∀ o, (w1.alloc o).cell? ⟨w.heap.size, 4, none⟩ = some (.slice A4 x.f2.length c4) := fun o => blk_cell (blk_below HV.out (below_alloc (Below.refl _ _) o)) 4; clear hb1) | (go_at_call 22; refine (HBW.out w _ A3 c3 A4 c4 w1.heap.size 0 0 HL.out (below_alloc HB1.out _) HB1.out.size (blk_new w1 _) (by omega)).mono ?_; intro e w2 hpost; unfold BytesQ at hpost; rw [if_neg (by omega)] at hpost; obtain ⟨rfl, s', hk2, hp2, hb2⟩ := hpost; have HE2 := Lib.hid (hk2.blk (blk_below HE.out (below_alloc (Below.refl _ _) _)) (Nat.ne_of_lt (blk_lt HE.out)) (by simp)); have HB2 := Lib.hid hb2; clear hk2 hp2 hb2))
      have hE3 := blk_below HE2.out (below_alloc (Below.refl _ _) (.cells #[.int .i64 15] 80))
      have hc : ((w2.alloc (.cells #[.int .i64 15] 80)).setCell ⟨w.heap.size + 1, 0, none⟩ (.int .i64 15)).cell? ⟨w.heap.size + 1, 0, none⟩ = some (.int .i64 15) := blk_cell (blk_put hE3 0 _ rfl) 0
      have hq : PutQ w x (.returned (.tuple #[.slice none 0 0, .int .i64 15])) ((w2.alloc (.cells #[.int .i64 15] 80)).setCell ⟨w.heap.size + 1, 0, none⟩ (.int .i64 15)) := by
        have e : putR x = ([], 15) := by unfold putR; rw [if_neg (by rw [hr]; simp), if_pos (by omega)]
        unfold PutQ
        rw [e]
        exact ⟨_, rfl, Kd.R_nil _ _ _ _ _, Below.setCell (below_alloc HB2.out _) (by simp) _⟩
      refine leaves_cons (f := 21) (args := #[.pointer (some ⟨w.heap.size + 1, 0, none⟩)]) (by simp) (by simp [go_sem]) ?_
      refine (caught_fault 15 ⟨w.heap.size + 1, 0, none⟩ (.int .i64 0) [] _ (blk_cell HE2.out 0) (blk_frozen HE2.out 0)).mono ?_
      rintro e u' w'' ⟨rfl, rfl, rfl⟩
      simpa [bodyPostD, Leaves, settle, results, Try.results10, go_sem, hc] using hq
end Go.Proofs.Ytkhghgmonjebnaa.B
