/- What begin and Need answer for bytes: the walk. Condition: the slice holds bytes. -/
import Derived.Test.YtkhghgmonjebnaaBytesW
import Derived.Test.YtkhghgmonjebnaaHand
namespace Go.Proofs.Ytkhghgmonjebnaa.B
open Go.RowKit Go.Proofs.YtkhghgmonjebnaaW.PrintWords Go.Proofs.YtkhghgmonjebnaaW.PrintLast Go.Proofs.YtkhghgmonjebnaaW.PrintMore
open Go.Proofs.Ytkhghgmonjebnaa.H Go.Proofs.Ytkhghgmonjebnaa.K
set_option linter.unusedVariables false
set_option linter.unusedSimpArgs false

theorem seven_le (l : List Int) : ∀ (acc : Int) (i : Nat), (seven acc i l).2.2 = 0 → (seven acc i l).2.1 ≤ i + l.length := by
  induction l with
  | nil => intro acc i h; simp only [seven]; split <;> simp <;> omega
  | cons c l ih =>
    intro acc i h
    simp only [seven] at h ⊢
    split
    · simp; omega
    · rename_i h1
      rw [if_neg h1] at h
      split
      · simp; omega
      · rename_i h2
        rw [if_neg h2] at h
        have := ih _ _ h
        simp at this ⊢
        omega
theorem read_n {l : List Int} (h : (read5 l).2.2.2.2 = 0) : 1 ≤ (read5 l).2.2.2.1 ∧ (read5 l).2.2.2.1 ≤ l.length ∧ (read5 l).2.2.2.1 ≤ 5 := by
  unfold read5 at h ⊢
  split
  · rename_i h0
    rw [if_pos h0] at h
    cases h
  · rename_i h0
    rw [if_neg h0] at h
    split
    · simp; omega
    · rename_i h1
      rw [if_neg h1] at h
      split
      · rename_i h2
        have ha := seven_le (l.drop 1) 0 0 h2
        have hb := seven_used (l.drop 1) 0 0 (by omega)
        rw [List.length_drop] at ha
        generalize (seven 0 0 (l.drop 1)).2.1 = u at ha hb ⊢
        refine ⟨?_, ?_, ?_⟩
        · show 1 ≤ 1 + u; omega
        · show 1 + u ≤ _; omega
        · show 1 + u ≤ 5; omega
      · rename_i h2
        rw [if_neg h2] at h
        exact absurd h h2
theorem len_n {l : List Int} (hb : okb l = true) (h : (len3 l).2.2 = 0) : 1 ≤ (len3 l).2.1 ∧ (len3 l).2.1 ≤ l.length ∧ (len3 l).2.1 ≤ 5 ∧ 0 ≤ (len3 l).1 ∧ (len3 l).1 ≤ 2147483647 := by
  have hr := okb_at hb 0
  unfold len3 at h ⊢
  split
  · rename_i h0
    rw [if_pos h0] at h
    cases h
  · rename_i h0
    rw [if_neg h0] at h
    split
    · simp; omega
    · rename_i h1
      rw [if_neg h1] at h
      split
      · rename_i h2
        rw [if_pos h2] at h
        cases h
      · rename_i h2
        rw [if_neg h2] at h
        split
        · rename_i h3
          rw [if_pos h3] at h
          cases h
        · rename_i h3
          rw [if_neg h3] at h
          split
          · rename_i h4
            rw [if_pos h4] at h
            cases h
          · rename_i h4
            rw [if_neg h4] at h
            split
            · rename_i h5
              rw [if_pos h5] at h
              cases h
            · rename_i h5
              have hbg := big_range (okb_drop (okb_take hb (1 + (rd l 0 - 128)).toNat) 1)
              generalize big ((l.take (1 + (rd l 0 - 128)).toNat).drop 1) = g at *
              refine ⟨?_, ?_, ?_, ?_, ?_⟩
              · show 1 ≤ 1 + (rd l 0 - 128); omega
              · show 1 + (rd l 0 - 128) ≤ _; omega
              · show 1 + (rd l 0 - 128) ≤ 5; omega
              · exact hbg.1
              · show g ≤ _; omega
/-- What begin answers: class, made, number, where the content begins and ends; the error. -/
def begin6 (l : List Int) : (Int × Bool × Int × Int × Int) × Int :=
  if (read5 l).2.2.2.2 ≠ 0 then ((0, false, 0, 0, 0), (read5 l).2.2.2.2) else
  if (len3 (l.drop (read5 l).2.2.2.1.toNat)).2.2 ≠ 0 then ((0, false, 0, 0, 0), (len3 (l.drop (read5 l).2.2.2.1.toNat)).2.2) else
  if 16384 < (read5 l).2.2.2.1 + (len3 (l.drop (read5 l).2.2.2.1.toNat)).2.1 + (len3 (l.drop (read5 l).2.2.2.1.toNat)).1 then ((0, false, 0, 0, 0), 3) else
  (((read5 l).1, (read5 l).2.1, (read5 l).2.2.1, (read5 l).2.2.2.1 + (len3 (l.drop (read5 l).2.2.2.1.toNat)).2.1, (read5 l).2.2.2.1 + (len3 (l.drop (read5 l).2.2.2.1.toNat)).2.1 + (len3 (l.drop (read5 l).2.2.2.1.toNat)).1), 0)
/-- A beginning as a value. -/
abbrev bv (r : Int × Bool × Int × Int × Int) : Value := .agg #[.int .i64 r.1, .bool r.2.1, .int .i64 r.2.2.1, .int .i64 r.2.2.2.1, .int .i64 r.2.2.2.2]

/-- Five cells turned. -/
abbrev set5 (W : World) (b : Nat) (r : Int × Bool × Int × Int × Int) : World := ((((W.setCell ⟨b, 0, none⟩ (.int .i64 r.1)).setCell ⟨b, 1, none⟩ (.bool r.2.1)).setCell ⟨b, 2, none⟩ (.int .i64 r.2.2.1)).setCell ⟨b, 3, none⟩ (.int .i64 r.2.2.2.1)).setCell ⟨b, 4, none⟩ (.int .i64 r.2.2.2.2)
theorem set5_blk {W : World} {b t : Nat} {z0 z1 z2 z3 z4 : Value} (h : W.heap[b]? = some (.cells #[z0, z1, z2, z3, z4] t (0, 0))) (r : Int × Bool × Int × Int × Int) :
    (set5 W b r).heap[b]? = some (.cells #[.int .i64 r.1, .bool r.2.1, .int .i64 r.2.2.1, .int .i64 r.2.2.2.1, .int .i64 r.2.2.2.2] t (0, 0)) :=
  blk_put (blk_put (blk_put (blk_put (blk_put h 0 _ rfl) 1 _ rfl) 2 _ rfl) 3 _ rfl) 4 _ rfl
theorem set5_cells {W : World} {b t : Nat} {z0 z1 z2 z3 z4 : Value} (h : W.heap[b]? = some (.cells #[z0, z1, z2, z3, z4] t (0, 0))) (r : Int × Bool × Int × Int × Int) :
    (set5 W b r).cell? ⟨b, 0, none⟩ = some (.int .i64 r.1) ∧ (set5 W b r).cell? ⟨b, 1, none⟩ = some (.bool r.2.1) ∧ (set5 W b r).cell? ⟨b, 2, none⟩ = some (.int .i64 r.2.2.1) ∧ (set5 W b r).cell? ⟨b, 3, none⟩ = some (.int .i64 r.2.2.2.1) ∧ (set5 W b r).cell? ⟨b, 4, none⟩ = some (.int .i64 r.2.2.2.2) :=
  have hB := set5_blk h r
  ⟨blk_cell hB 0, blk_cell hB 1, blk_cell hB 2, blk_cell hB 3, blk_cell hB 4⟩
theorem set5_below {B b : Nat} {w W : World} (h : Below B w W) (hb : B ≤ b) (r : Int × Bool × Int × Int × Int) : Below B w (set5 W b r) :=
  Below.setCell (Below.setCell (Below.setCell (Below.setCell (Below.setCell h hb _) hb _) hb _) hb _) hb _

set_option maxRecDepth 100000 in
set_option maxHeartbeats 8000000 in
theorem begin_calls (A : Option Addr) (c : Nat) (l : List Int) (w : World) (hC : Kd.C (Kd.int .u8) w A l.length l) (hc : l.length ≤ c) (hb : okb l = true) (hl : (l.length : Int) < 1000000000) :
    Calls Try.prog 28 #[.slice A l.length c] w fun e w' => e = .returned (.tuple #[bv (begin6 l).1, .int .i64 (begin6 l).2]) ∧ Below w.heap.size w w' := by
  have HR := Lib.hid (fun W hW => tag_Read.calls A c l (read5 l).1 (read5 l).2.1 (read5 l).2.2.1 (read5 l).2.2.2.1 (read5 l).2.2.2.2 W (Kd.C_below hC hW) hc (if_pos ⟨hb, hl⟩))
  unfold begin6
  by_cases h1 : (read5 l).2.2.2.2 = 0
  · have hn := read_n h1
    obtain ⟨i5, hi5, _, hsz5, _⟩ := info_parts info5
    obtain ⟨A', hcut, hA, hcA⟩ := print_drop_of (P := Try.prog) (Value.int .u8) 0 24 5 .i64 Try.underlying24 hi5 hsz5 A c l (read5 l).2.2.2.1 (by omega) (by omega) hc
    have HCd := Lib.hid (Kd.C_of_reads (h1 := fun _ => rfl) (hA w (Kd.reads_of_C hC)))
    have HS := Lib.hid (fun W hW => tag_ReadLen.calls A' (c - (read5 l).2.2.2.1.toNat) (l.drop (read5 l).2.2.2.1.toNat) (len3 (l.drop (read5 l).2.2.2.1.toNat)).1 (len3 (l.drop (read5 l).2.2.2.1.toNat)).2.1 (len3 (l.drop (read5 l).2.2.2.1.toNat)).2.2 W (Kd.C_below HCd.out hW) hcA (if_pos (okb_drop hb _)))
    have hq := fun h => len_n (okb_drop hb (read5 l).2.2.2.1.toNat) h
    rw [if_neg (by simpa using h1)]
    rw [h1] at HR
    clear hA hi5 hsz5 hC hb h1 HCd
    generalize l.drop (read5 l).2.2.2.1.toNat = l2 at *
    generalize c - (read5 l).2.2.2.1.toNat = c2 at *
    generalize (read5 l).1 = cl at *
    generalize (read5 l).2.1 = md at *
    generalize (read5 l).2.2.1 = nn at *
    generalize (read5 l).2.2.2.1 = n at *
    generalize (len3 l2).1 = L at *
    generalize (len3 l2).2.1 = k at *
    generalize (len3 l2).2.2 = e2 at *
    by_cases h2 : e2 = 0
    · subst h2
      obtain ⟨q0, _, q2, q3, q4⟩ := hq rfl
      obtain ⟨n0, _, n2⟩ := hn
      have hw1 : wrap64 (n + k) = n + k := by unfold wrap64; omega
      have hw2 : wrap64 (n + k + L) = n + k + L := by unfold wrap64; omega
      rw [if_neg (by simp)]
      clear hq
      by_cases h3 : 16384 < n + k + L
      · rw [if_pos h3]
        go_enter Try.func28, Try.ntmps28
        go_wp2_with (first | (go_at_call 41; refine (HR.out _ (below_alloc (Below.refl _ _) _)).mono ?_; rintro e w1 ⟨rfl, hb1⟩; have HB1 := Lib.hid (below_then (below_alloc (Below.refl _ _) _) (by simp) hb1 : Below w.heap.size w w1); have HRB := Lib.hid (blk_below (blk_new w (.cells #[.int .i64 0, .bool false, .int .i64 0, .int .i64 0, .int .i64 0] 67)) hb1); have hz0 : ∀ o, (w1.alloc o).cell? ⟨w.heap.size, 0, none⟩ = some (.int .i64 0) := fun o => blk_cell (blk_below HRB.out (below_alloc (Below.refl _ _) o)) 0; have hf0 : ∀ o, (w1.alloc o).frozen? ⟨w.heap.size, 0, none⟩ = false := fun o => blk_frozen (blk_below HRB.out (below_alloc (Below.refl _ _) o)) 0; have hz1 : ∀ o, (w1.alloc o).cell? ⟨w.heap.size, 1, none⟩ = some (.bool false) := fun o => blk_cell (blk_below HRB.out (below_alloc (Below.refl _ _) o)) 1; have hf1 : ∀ o, (w1.alloc o).frozen? ⟨w.heap.size, 1, none⟩ = false := fun o => blk_frozen (blk_below HRB.out (below_alloc (Below.refl _ _) o)) 1; have hz2 : ∀ o, (w1.alloc o).cell? ⟨w.heap.size, 2, none⟩ = some (.int .i64 0) := fun o => blk_cell (blk_below HRB.out (below_alloc (Below.refl _ _) o)) 2; have hf2 : ∀ o, (w1.alloc o).frozen? ⟨w.heap.size, 2, none⟩ = false := fun o => blk_frozen (blk_below HRB.out (below_alloc (Below.refl _ _) o)) 2; have hz3 : ∀ o, (w1.alloc o).cell? ⟨w.heap.size, 3, none⟩ = some (.int .i64 0) := fun o => blk_cell (blk_below HRB.out (below_alloc (Below.refl _ _) o)) 3; have hf3 : ∀ o, (w1.alloc o).frozen? ⟨w.heap.size, 3, none⟩ = false := fun o => blk_frozen (blk_below HRB.out (below_alloc (Below.refl _ _) o)) 3; have hz4 : ∀ o, (w1.alloc o).cell? ⟨w.heap.size, 4, none⟩ = some (.int .i64 0) := fun o => blk_cell (blk_below HRB.out (below_alloc (Below.refl _ _) o)) 4; have hf4 : ∀ o, (w1.alloc o).frozen? ⟨w.heap.size, 4, none⟩ = false := fun o => blk_frozen (blk_below HRB.out (below_alloc (Below.refl _ _) o)) 4; clear hb1) | (go_at_call 42; refine (HS.out _ (below_alloc HB1.out _)).mono ?_; rintro e w2 ⟨rfl, hb2⟩; have HB2 := Lib.hid (below_then (below_alloc HB1.out _) (by simp; have := HB1.out.size; omega) hb2 : Below w.heap.size w w2); have HTG := Lib.hid (blk_below (blk_new w1 (.cells #[.int .i64 cl, .bool md, .int .i64 nn] 23)) hb2); have HRB2 := Lib.hid (blk_below (blk_below HRB.out (below_alloc (Below.refl _ _) (.cells #[.int .i64 cl, .bool md, .int .i64 nn] 23))) hb2); have gz0 : w2.cell? ⟨w.heap.size, 0, none⟩ = some (.int .i64 0) := blk_cell HRB2.out 0; have gf0 : w2.frozen? ⟨w.heap.size, 0, none⟩ = false := blk_frozen HRB2.out 0; have gz1 : w2.cell? ⟨w.heap.size, 1, none⟩ = some (.bool false) := blk_cell HRB2.out 1; have gf1 : w2.frozen? ⟨w.heap.size, 1, none⟩ = false := blk_frozen HRB2.out 1; have gz2 : w2.cell? ⟨w.heap.size, 2, none⟩ = some (.int .i64 0) := blk_cell HRB2.out 2; have gf2 : w2.frozen? ⟨w.heap.size, 2, none⟩ = false := blk_frozen HRB2.out 2; have gz3 : w2.cell? ⟨w.heap.size, 3, none⟩ = some (.int .i64 0) := blk_cell HRB2.out 3; have gf3 : w2.frozen? ⟨w.heap.size, 3, none⟩ = false := blk_frozen HRB2.out 3; have gz4 : w2.cell? ⟨w.heap.size, 4, none⟩ = some (.int .i64 0) := blk_cell HRB2.out 4; have gf4 : w2.frozen? ⟨w.heap.size, 4, none⟩ = false := blk_frozen HRB2.out 4; have t0 : w2.cell? ⟨w1.heap.size, 0, none⟩ = some (.int .i64 cl) := blk_cell HTG.out 0; have t1 : w2.cell? ⟨w1.heap.size, 1, none⟩ = some (.bool md) := blk_cell HTG.out 1; have t2 : w2.cell? ⟨w1.heap.size, 2, none⟩ = some (.int .i64 nn) := blk_cell HTG.out 2; clear hb2))
        obtain ⟨e0, e1', e2', e3, e4⟩ := set5_cells HRB2.out (0, false, 0, 0, 0)
        refine bodyPost_ret (v := .tuple #[bv (0, false, 0, 0, 0), .int .i64 3]) ?_ rfl ⟨rfl, set5_below HB2.out (by simp) (0, false, 0, 0, 0)⟩
        simp only [set5] at e0 e1' e2' e3 e4
        simp [results, Try.results28, go_sem, e0, e1', e2', e3, e4]
      · rw [if_neg h3]
        have h3b : ¬ (16384 < n + k + L) := h3
        clear h3 q0 q2 q3 q4 n0 n2 hl hc hcA
        go_enter Try.func28, Try.ntmps28
        go_wp2_with (first | (go_at_call 41; refine (HR.out _ (below_alloc (Below.refl _ _) _)).mono ?_; rintro e w1 ⟨rfl, hb1⟩; have HB1 := Lib.hid (below_then (below_alloc (Below.refl _ _) _) (by simp) hb1 : Below w.heap.size w w1); have HRB := Lib.hid (blk_below (blk_new w (.cells #[.int .i64 0, .bool false, .int .i64 0, .int .i64 0, .int .i64 0] 67)) hb1); have hz0 : ∀ o, (w1.alloc o).cell? ⟨w.heap.size, 0, none⟩ = some (.int .i64 0) := fun o => blk_cell (blk_below HRB.out (below_alloc (Below.refl _ _) o)) 0; have hf0 : ∀ o, (w1.alloc o).frozen? ⟨w.heap.size, 0, none⟩ = false := fun o => blk_frozen (blk_below HRB.out (below_alloc (Below.refl _ _) o)) 0; have hz1 : ∀ o, (w1.alloc o).cell? ⟨w.heap.size, 1, none⟩ = some (.bool false) := fun o => blk_cell (blk_below HRB.out (below_alloc (Below.refl _ _) o)) 1; have hf1 : ∀ o, (w1.alloc o).frozen? ⟨w.heap.size, 1, none⟩ = false := fun o => blk_frozen (blk_below HRB.out (below_alloc (Below.refl _ _) o)) 1; have hz2 : ∀ o, (w1.alloc o).cell? ⟨w.heap.size, 2, none⟩ = some (.int .i64 0) := fun o => blk_cell (blk_below HRB.out (below_alloc (Below.refl _ _) o)) 2; have hf2 : ∀ o, (w1.alloc o).frozen? ⟨w.heap.size, 2, none⟩ = false := fun o => blk_frozen (blk_below HRB.out (below_alloc (Below.refl _ _) o)) 2; have hz3 : ∀ o, (w1.alloc o).cell? ⟨w.heap.size, 3, none⟩ = some (.int .i64 0) := fun o => blk_cell (blk_below HRB.out (below_alloc (Below.refl _ _) o)) 3; have hf3 : ∀ o, (w1.alloc o).frozen? ⟨w.heap.size, 3, none⟩ = false := fun o => blk_frozen (blk_below HRB.out (below_alloc (Below.refl _ _) o)) 3; have hz4 : ∀ o, (w1.alloc o).cell? ⟨w.heap.size, 4, none⟩ = some (.int .i64 0) := fun o => blk_cell (blk_below HRB.out (below_alloc (Below.refl _ _) o)) 4; have hf4 : ∀ o, (w1.alloc o).frozen? ⟨w.heap.size, 4, none⟩ = false := fun o => blk_frozen (blk_below HRB.out (below_alloc (Below.refl _ _) o)) 4; clear hb1) | (go_at_call 42; refine (HS.out _ (below_alloc HB1.out _)).mono ?_; rintro e w2 ⟨rfl, hb2⟩; have HB2 := Lib.hid (below_then (below_alloc HB1.out _) (by simp; have := HB1.out.size; omega) hb2 : Below w.heap.size w w2); have HTG := Lib.hid (blk_below (blk_new w1 (.cells #[.int .i64 cl, .bool md, .int .i64 nn] 23)) hb2); have HRB2 := Lib.hid (blk_below (blk_below HRB.out (below_alloc (Below.refl _ _) (.cells #[.int .i64 cl, .bool md, .int .i64 nn] 23))) hb2); have gz0 : w2.cell? ⟨w.heap.size, 0, none⟩ = some (.int .i64 0) := blk_cell HRB2.out 0; have gf0 : w2.frozen? ⟨w.heap.size, 0, none⟩ = false := blk_frozen HRB2.out 0; have gz1 : w2.cell? ⟨w.heap.size, 1, none⟩ = some (.bool false) := blk_cell HRB2.out 1; have gf1 : w2.frozen? ⟨w.heap.size, 1, none⟩ = false := blk_frozen HRB2.out 1; have gz2 : w2.cell? ⟨w.heap.size, 2, none⟩ = some (.int .i64 0) := blk_cell HRB2.out 2; have gf2 : w2.frozen? ⟨w.heap.size, 2, none⟩ = false := blk_frozen HRB2.out 2; have gz3 : w2.cell? ⟨w.heap.size, 3, none⟩ = some (.int .i64 0) := blk_cell HRB2.out 3; have gf3 : w2.frozen? ⟨w.heap.size, 3, none⟩ = false := blk_frozen HRB2.out 3; have gz4 : w2.cell? ⟨w.heap.size, 4, none⟩ = some (.int .i64 0) := blk_cell HRB2.out 4; have gf4 : w2.frozen? ⟨w.heap.size, 4, none⟩ = false := blk_frozen HRB2.out 4; have t0 : w2.cell? ⟨w1.heap.size, 0, none⟩ = some (.int .i64 cl) := blk_cell HTG.out 0; have t1 : w2.cell? ⟨w1.heap.size, 1, none⟩ = some (.bool md) := blk_cell HTG.out 1; have t2 : w2.cell? ⟨w1.heap.size, 2, none⟩ = some (.int .i64 nn) := blk_cell HTG.out 2; clear hb2))
        obtain ⟨e0, e1', e2', e3, e4⟩ := set5_cells HRB2.out (cl, md, nn, n + k, n + k + L)
        refine bodyPost_ret (v := .tuple #[bv (cl, md, nn, n + k, n + k + L), .int .i64 0]) ?_ rfl ⟨rfl, set5_below HB2.out (by simp) (cl, md, nn, n + k, n + k + L)⟩
        simp only [set5] at e0 e1' e2' e3 e4
        simp [results, Try.results28, go_sem, e0, e1', e2', e3, e4]
    · rw [if_pos h2]
      have h2b : (e2 != 0) = true := by simpa using h2
      clear hq
      go_enter Try.func28, Try.ntmps28
      go_wp2_with (first | (go_at_call 41; refine (HR.out _ (below_alloc (Below.refl _ _) _)).mono ?_; rintro e w1 ⟨rfl, hb1⟩; have HB1 := Lib.hid (below_then (below_alloc (Below.refl _ _) _) (by simp) hb1 : Below w.heap.size w w1); have HRB := Lib.hid (blk_below (blk_new w (.cells #[.int .i64 0, .bool false, .int .i64 0, .int .i64 0, .int .i64 0] 67)) hb1); have hz0 : ∀ o, (w1.alloc o).cell? ⟨w.heap.size, 0, none⟩ = some (.int .i64 0) := fun o => blk_cell (blk_below HRB.out (below_alloc (Below.refl _ _) o)) 0; have hf0 : ∀ o, (w1.alloc o).frozen? ⟨w.heap.size, 0, none⟩ = false := fun o => blk_frozen (blk_below HRB.out (below_alloc (Below.refl _ _) o)) 0; have hz1 : ∀ o, (w1.alloc o).cell? ⟨w.heap.size, 1, none⟩ = some (.bool false) := fun o => blk_cell (blk_below HRB.out (below_alloc (Below.refl _ _) o)) 1; have hf1 : ∀ o, (w1.alloc o).frozen? ⟨w.heap.size, 1, none⟩ = false := fun o => blk_frozen (blk_below HRB.out (below_alloc (Below.refl _ _) o)) 1; have hz2 : ∀ o, (w1.alloc o).cell? ⟨w.heap.size, 2, none⟩ = some (.int .i64 0) := fun o => blk_cell (blk_below HRB.out (below_alloc (Below.refl _ _) o)) 2; have hf2 : ∀ o, (w1.alloc o).frozen? ⟨w.heap.size, 2, none⟩ = false := fun o => blk_frozen (blk_below HRB.out (below_alloc (Below.refl _ _) o)) 2; have hz3 : ∀ o, (w1.alloc o).cell? ⟨w.heap.size, 3, none⟩ = some (.int .i64 0) := fun o => blk_cell (blk_below HRB.out (below_alloc (Below.refl _ _) o)) 3; have hf3 : ∀ o, (w1.alloc o).frozen? ⟨w.heap.size, 3, none⟩ = false := fun o => blk_frozen (blk_below HRB.out (below_alloc (Below.refl _ _) o)) 3; have hz4 : ∀ o, (w1.alloc o).cell? ⟨w.heap.size, 4, none⟩ = some (.int .i64 0) := fun o => blk_cell (blk_below HRB.out (below_alloc (Below.refl _ _) o)) 4; have hf4 : ∀ o, (w1.alloc o).frozen? ⟨w.heap.size, 4, none⟩ = false := fun o => blk_frozen (blk_below HRB.out (below_alloc (Below.refl _ _) o)) 4; clear hb1) | (go_at_call 42; refine (HS.out _ (below_alloc HB1.out _)).mono ?_; rintro e w2 ⟨rfl, hb2⟩; have HB2 := Lib.hid (below_then (below_alloc HB1.out _) (by simp; have := HB1.out.size; omega) hb2 : Below w.heap.size w w2); have HTG := Lib.hid (blk_below (blk_new w1 (.cells #[.int .i64 cl, .bool md, .int .i64 nn] 23)) hb2); have HRB2 := Lib.hid (blk_below (blk_below HRB.out (below_alloc (Below.refl _ _) (.cells #[.int .i64 cl, .bool md, .int .i64 nn] 23))) hb2); have gz0 : w2.cell? ⟨w.heap.size, 0, none⟩ = some (.int .i64 0) := blk_cell HRB2.out 0; have gf0 : w2.frozen? ⟨w.heap.size, 0, none⟩ = false := blk_frozen HRB2.out 0; have gz1 : w2.cell? ⟨w.heap.size, 1, none⟩ = some (.bool false) := blk_cell HRB2.out 1; have gf1 : w2.frozen? ⟨w.heap.size, 1, none⟩ = false := blk_frozen HRB2.out 1; have gz2 : w2.cell? ⟨w.heap.size, 2, none⟩ = some (.int .i64 0) := blk_cell HRB2.out 2; have gf2 : w2.frozen? ⟨w.heap.size, 2, none⟩ = false := blk_frozen HRB2.out 2; have gz3 : w2.cell? ⟨w.heap.size, 3, none⟩ = some (.int .i64 0) := blk_cell HRB2.out 3; have gf3 : w2.frozen? ⟨w.heap.size, 3, none⟩ = false := blk_frozen HRB2.out 3; have gz4 : w2.cell? ⟨w.heap.size, 4, none⟩ = some (.int .i64 0) := blk_cell HRB2.out 4; have gf4 : w2.frozen? ⟨w.heap.size, 4, none⟩ = false := blk_frozen HRB2.out 4; have t0 : w2.cell? ⟨w1.heap.size, 0, none⟩ = some (.int .i64 cl) := blk_cell HTG.out 0; have t1 : w2.cell? ⟨w1.heap.size, 1, none⟩ = some (.bool md) := blk_cell HTG.out 1; have t2 : w2.cell? ⟨w1.heap.size, 2, none⟩ = some (.int .i64 nn) := blk_cell HTG.out 2; clear hb2))
      obtain ⟨e0, e1', e2', e3, e4⟩ := set5_cells HRB2.out (0, false, 0, 0, 0)
      refine bodyPost_ret (v := .tuple #[bv (0, false, 0, 0, 0), .int .i64 e2]) ?_ rfl ⟨rfl, set5_below HB2.out (by simp) (0, false, 0, 0, 0)⟩
      simp only [set5] at e0 e1' e2' e3 e4
      simp [results, Try.results28, go_sem, e0, e1', e2', e3, e4]
  · rw [if_pos h1]
    generalize (read5 l).1 = cl at *
    generalize (read5 l).2.1 = md at *
    generalize (read5 l).2.2.1 = nn at *
    generalize (read5 l).2.2.2.1 = n at *
    generalize (read5 l).2.2.2.2 = e1 at *
    have h1b : (e1 != 0) = true := by simpa using h1
    go_enter Try.func28, Try.ntmps28
    go_wp2_with (go_at_call 41; refine (HR.out _ (below_alloc (Below.refl _ _) _)).mono ?_; rintro e w1 ⟨rfl, hb1⟩; have HB1 := Lib.hid (below_then (below_alloc (Below.refl _ _) _) (by simp) hb1 : Below w.heap.size w w1); have HRB := Lib.hid (blk_below (blk_new w (.cells #[.int .i64 0, .bool false, .int .i64 0, .int .i64 0, .int .i64 0] 67)) hb1); have hz0 : ∀ o, (w1.alloc o).cell? ⟨w.heap.size, 0, none⟩ = some (.int .i64 0) := fun o => blk_cell (blk_below HRB.out (below_alloc (Below.refl _ _) o)) 0; have hf0 : ∀ o, (w1.alloc o).frozen? ⟨w.heap.size, 0, none⟩ = false := fun o => blk_frozen (blk_below HRB.out (below_alloc (Below.refl _ _) o)) 0; have hz1 : ∀ o, (w1.alloc o).cell? ⟨w.heap.size, 1, none⟩ = some (.bool false) := fun o => blk_cell (blk_below HRB.out (below_alloc (Below.refl _ _) o)) 1; have hf1 : ∀ o, (w1.alloc o).frozen? ⟨w.heap.size, 1, none⟩ = false := fun o => blk_frozen (blk_below HRB.out (below_alloc (Below.refl _ _) o)) 1; have hz2 : ∀ o, (w1.alloc o).cell? ⟨w.heap.size, 2, none⟩ = some (.int .i64 0) := fun o => blk_cell (blk_below HRB.out (below_alloc (Below.refl _ _) o)) 2; have hf2 : ∀ o, (w1.alloc o).frozen? ⟨w.heap.size, 2, none⟩ = false := fun o => blk_frozen (blk_below HRB.out (below_alloc (Below.refl _ _) o)) 2; have hz3 : ∀ o, (w1.alloc o).cell? ⟨w.heap.size, 3, none⟩ = some (.int .i64 0) := fun o => blk_cell (blk_below HRB.out (below_alloc (Below.refl _ _) o)) 3; have hf3 : ∀ o, (w1.alloc o).frozen? ⟨w.heap.size, 3, none⟩ = false := fun o => blk_frozen (blk_below HRB.out (below_alloc (Below.refl _ _) o)) 3; have hz4 : ∀ o, (w1.alloc o).cell? ⟨w.heap.size, 4, none⟩ = some (.int .i64 0) := fun o => blk_cell (blk_below HRB.out (below_alloc (Below.refl _ _) o)) 4; have hf4 : ∀ o, (w1.alloc o).frozen? ⟨w.heap.size, 4, none⟩ = false := fun o => blk_frozen (blk_below HRB.out (below_alloc (Below.refl _ _) o)) 4; clear hb1)
    obtain ⟨e0, e1', e2', e3, e4⟩ := set5_cells (blk_below HRB.out (below_alloc (Below.refl _ _) (.cells #[.int .i64 cl, .bool md, .int .i64 nn] 23))) (0, false, 0, 0, 0)
    refine bodyPost_ret (v := .tuple #[bv (0, false, 0, 0, 0), .int .i64 e1]) ?_ rfl ⟨rfl, set5_below (below_alloc HB1.out _) (by simp) (0, false, 0, 0, 0)⟩
    simp only [set5] at e0 e1' e2' e3 e4
    simp [results, Try.results28, go_sem, e0, e1', e2', e3, e4]
/-- What stands in a beginning without an error. -/
theorem begin_ok {l : List Int} (hb : okb l = true) (h : (begin6 l).2 = 0) : 2 ≤ (begin6 l).1.2.2.2.1 ∧ (begin6 l).1.2.2.2.1 ≤ (begin6 l).1.2.2.2.2 ∧ (begin6 l).1.2.2.2.1 ≤ l.length ∧ (begin6 l).1.2.2.2.2 ≤ 16384 := by
  unfold begin6 at h ⊢
  split
  · rename_i h1
    rw [if_pos h1] at h
    exact absurd h h1
  · rename_i h1
    rw [if_neg h1] at h
    have h1 : (read5 l).2.2.2.2 = 0 := by simpa using h1
    have hn := read_n h1
    split
    · rename_i h2
      rw [if_pos h2] at h
      exact absurd h h2
    · rename_i h2
      rw [if_neg h2] at h
      have h2 : (len3 (l.drop (read5 l).2.2.2.1.toNat)).2.2 = 0 := by simpa using h2
      have hk := len_n (okb_drop hb _) h2
      rw [List.length_drop] at hk
      split
      · rename_i h3
        rw [if_pos h3] at h
        cases h
      · rename_i h3
        refine ⟨?_, ?_, ?_, ?_⟩ <;> simp only [] <;> omega

set_option maxHeartbeats 4000000 in
theorem need_calls (A : Option Addr) (c : Nat) (l : List Int) (w : World) (hC : Kd.C (Kd.int .u8) w A l.length l) (hc : l.length ≤ c) (hb : okb l = true) (hl : (l.length : Int) < 1000000000) :
    Calls Try.prog 15 #[.slice A l.length c] w fun e w' => e = .returned (.tuple #[.int .i64 (begin6 l).1.2.2.2.2, .int .i64 (begin6 l).2]) ∧ Below w.heap.size w w' := by
  have HR := Lib.hid (begin_calls A c l w hC hc hb hl)
  clear hC hc hb hl
  generalize begin6 l = r at *
  obtain ⟨⟨a, b, c', d, e⟩, g⟩ := r
  go_enter Try.func15, Try.ntmps15
  go_wp2_with (go_at_call 28; refine HR.out.mono ?_; rintro e' w1 ⟨rfl, hb1⟩)
  exact bodyPost_ret (v := .tuple #[.int .i64 e, .int .i64 g]) (by simp [results, Try.results15, go_sem]) rfl ⟨rfl, below_alloc hb1 _⟩
end Go.Proofs.Ytkhghgmonjebnaa.B
