/- What ber.right answers for an element: the walk. No condition. -/
import Derived.Test.YtkhghgmonjebnaaBerA
namespace Go.Proofs.Ytkhghgmonjebnaa.B
open Go.RowKit Go.Proofs.YtkhghgmonjebnaaW.PrintWords Go.Proofs.YtkhghgmonjebnaaW.PrintLast Go.Proofs.YtkhghgmonjebnaaW.PrintMore
open Go.Proofs.Ytkhghgmonjebnaa.H Go.Proofs.Ytkhghgmonjebnaa.K
set_option linter.unusedVariables false
set_option linter.unusedSimpArgs false

def RightP (x : S27) : Prop := ∀ A3 c3 A4 c4 w, Lies w x A3 c3 A4 c4 → Calls Try.prog 20 #[ev x A3 c3 A4 c4] w fun e w' => e = .returned (.bool (rightE x)) ∧ Below w.heap.size w w'

set_option maxHeartbeats 2000000 in
theorem right1 (x : S27) (h : RightP x) : ∀ A3 c3 A4 c4 w, Lies w x A3 c3 A4 c4 → Calls Try.prog 36 #[ev x A3 c3 A4 c4] w fun e w' => e = .returned (.bool (!rightE x)) ∧ Below w.heap.size w w' := by
  intro A3 c3 A4 c4 w hL
  have HL := Lib.hid hL
  have HR := Lib.hid h
  clear hL h
  go_enter Try.func36, Try.ntmps36
  go_wp2_with (go_at_call 20; refine (HR.out _ _ _ _ _ (HL.out.below ?hb)).mono ?_; (case hb => exact below_alloc (Below.refl _ _) _); rintro e w1 ⟨rfl, hb1⟩)
  go_ret
  exact ⟨rfl, below_then (below_alloc (Below.refl _ _) _) (by simp) hb1⟩
set_option maxHeartbeats 2000000 in
theorem index36 (xs : List S27) (A : Option Addr) (c : Nat) (w : World) (hC : Kd.C k27 w A xs.length xs) (h : ∀ x ∈ xs, RightP x) (hl : xs.length ≤ 9223372036854775807) :
    Calls Try.prog 46 #[.slice A xs.length c, .func (Fn.func 36) #[] #[]] w fun e w' => (∃ i : Int, e = .returned (.int .i64 i) ∧ decide (0 ≤ i) = !rightL xs) ∧ Below w.heap.size w w' := by
  have HC := Lib.hid hC
  have HR := Lib.hid h
  clear hC h
  go_enter Try.func46, Try.ntmps46
  go_wp2_with fail
  go_loopw [8] (fun v8 wr => ∃ k : Nat, k ≤ xs.length ∧ v8 = .int .i64 k ∧ Hid (rightL (xs.take k) = true) ∧ Hid (Below w.heap.size w wr)) (fun v8 _ => xs.length - (intOf v8).toNat)
  case atStart => exact ⟨0, Nat.zero_le _, rfl, Lib.hid (by simp [rightL]), Lib.hid (Below.refl _ _)⟩
  case round =>
    obtain ⟨k, hk, rfl, HK, HB⟩ := hrel
    by_cases hlt : k < xs.length
    · obtain ⟨ad, A3, c3, A4, c4, rfl, hL, h0, h1, h2, h3, h4⟩ := at_ (Kd.C_below HC.out HB.out) k hlt rfl
      have HL := Lib.hid hL
      have HS := Lib.hid (show rightL (xs.take (k + 1)) = rightE xs[k] by rw [List.take_succ_eq_append_getElem hlt, rightL_all, List.all_append, ← rightL_all, HK.out]; simp)
      have HX := Lib.hid (HR.out xs[k] (List.getElem_mem hlt))
      have HD := Lib.hid (show rightE xs[k] = false → rightL xs = false from fun hf => by rw [rightL_all, List.all_eq_false]; exact ⟨xs[k], List.getElem_mem hlt, by simp [hf]⟩)
      clear hL
      generalize xs[k] = x at *
      cases hr : rightE x
      · go_wp2_with (go_at_call 36; refine (right1 x HX.out _ _ _ _ _ HL.out).mono ?_; rintro e w1 ⟨rfl, hb1⟩; rw [hr])
        go_ret
        exact ⟨⟨_, rfl, by simp [HD.out hr]⟩, below_then HB.out HB.out.size hb1⟩
      · go_wp2_with (go_at_call 36; refine (right1 x HX.out _ _ _ _ _ HL.out).mono ?_; rintro e w1 ⟨rfl, hb1⟩; rw [hr])
        go_roundw
        case rel => exact ⟨k + 1, by omega, by go_num, Lib.hid (by rw [HS.out, hr]), Lib.hid (below_then HB.out HB.out.size hb1)⟩
        case measure => simp [intOf]; omega
    · have hkl : k = xs.length := by omega
      subst hkl
      go_wp2_with fail
      go_ret
      have hK := HK.out
      rw [List.take_length] at hK
      exact ⟨⟨_, rfl, by simp [hK]⟩, HB.out⟩
set_option maxHeartbeats 2000000 in
theorem contains36 (xs : List S27) (A : Option Addr) (c : Nat) (w : World) (hC : Kd.C k27 w A xs.length xs) (h : ∀ x ∈ xs, RightP x) (hl : xs.length ≤ 9223372036854775807) :
    Calls Try.prog 35 #[.slice A xs.length c, .func (Fn.func 36) #[] #[]] w fun e w' => e = .returned (.bool (!rightL xs)) ∧ Below w.heap.size w w' := by
  have HI := Lib.hid (index36 xs A c w hC h hl)
  clear hC h
  go_enter Try.func35, Try.ntmps35
  go_wp2_with (go_at_call 46; refine HI.out.mono ?_; rintro e w1 ⟨⟨i, rfl, hi⟩, hb1⟩)
  rw [← hi]
  go_ret
  exact ⟨rfl, hb1⟩

set_option maxHeartbeats 4000000 in
theorem right_walk (x : S27) : fitE x → RightP x := by
  refine ind (P := fun x => fitE x → RightP x) ?_ x
  intro t b k ih hf A3 c3 A4 c4 w hL
  obtain ⟨cl, md, nn⟩ := t
  simp only [fitE] at hf
  have hx : ∀ x ∈ k, RightP x := fun x hx => ih x hx ((fitL_iff k).1 hf.2.2.2 x hx)
  have HK := Lib.hid (fun w' (hb : Below w.heap.size w w') => contains36 k A4 c4 w' (Kd.C_below hL.g4 hb) hx hf.2.2.1)
  clear hx ih hL hf
  simp only [rightE]
  have e0 : ev ⟨⟨cl, md, nn⟩, b, k⟩ A3 c3 A4 c4 = .agg #[.int .i64 cl, .bool md, .int .i64 nn, .slice A3 b.length c3, .slice A4 k.length c4] := rfl
  rw [e0]
  clear e0
  generalize hkn : k.length = kn at HK ⊢
  generalize hbn : b.length = bn
  have HKN := Lib.hid hkn
  have HBN := Lib.hid hbn
  clear hkn hbn
  cases hr : right cl nn
  · skip
    go_enter Try.func20, Try.ntmps20
    go_wp2_with (first | (go_at_call 34; refine (right_calls cl nn md _).mono ?_; rintro e w1 ⟨rfl, hb1⟩; rw [hr]; have HB1 := Lib.hid (below_then (below_alloc (Below.refl _ _) _) (by simp) hb1 : Below w.heap.size w w1); have B := blk_below (blk_new w _) hb1; have h1 : w1.cell? ⟨w.heap.size, 1, none⟩ = some (.bool md) := blk_cell B 1; have h3 : w1.cell? ⟨w.heap.size, 3, none⟩ = some (.slice A3 bn c3) := blk_cell B 3; have h4 : w1.cell? ⟨w.heap.size, 4, none⟩ = some (.slice A4 kn c4) := blk_cell B 4; clear hb1 B))
    go_ret
    exact ⟨by simp, HB1.out⟩
  · cases md
    · by_cases hz : (0 : Int) < (kn : Int)
      · skip
        go_enter Try.func20, Try.ntmps20
        go_wp2_with (first | (go_at_call 34; refine (right_calls cl nn false _).mono ?_; rintro e w1 ⟨rfl, hb1⟩; rw [hr]; have HB1 := Lib.hid (below_then (below_alloc (Below.refl _ _) _) (by simp) hb1 : Below w.heap.size w w1); have B := blk_below (blk_new w _) hb1; have h1 : w1.cell? ⟨w.heap.size, 1, none⟩ = some (.bool false) := blk_cell B 1; have h3 : w1.cell? ⟨w.heap.size, 3, none⟩ = some (.slice A3 bn c3) := blk_cell B 3; have h4 : w1.cell? ⟨w.heap.size, 4, none⟩ = some (.slice A4 kn c4) := blk_cell B 4; clear hb1 B))
        go_ret
        have he : k.isEmpty = false := by have := HKN.out; cases k with | nil => simp at this; omega | cons _ _ => rfl
        exact ⟨by simp [he], HB1.out⟩
      · skip
        obtain rfl : kn = 0 := by omega
        go_enter Try.func20, Try.ntmps20
        go_wp2_with (first | (go_at_call 34; refine (right_calls cl nn false _).mono ?_; rintro e w1 ⟨rfl, hb1⟩; rw [hr]; have HB1 := Lib.hid (below_then (below_alloc (Below.refl _ _) _) (by simp) hb1 : Below w.heap.size w w1); have B := blk_below (blk_new w _) hb1; have h1 : w1.cell? ⟨w.heap.size, 1, none⟩ = some (.bool false) := blk_cell B 1; have h3 : w1.cell? ⟨w.heap.size, 3, none⟩ = some (.slice A3 bn c3) := blk_cell B 3; have h4 : w1.cell? ⟨w.heap.size, 4, none⟩ = some (.slice A4 0 c4) := blk_cell B 4; clear hb1 B) | (go_at_call 35; refine (HK.out _ HB1.out).mono ?_; rintro e w2 ⟨rfl, hb2⟩))
        go_ret
        have he : k.isEmpty = true := by have := HKN.out; cases k with | nil => rfl | cons _ _ => simp at this
        exact ⟨by simp [he], below_then HB1.out HB1.out.size hb2⟩
    · by_cases hz : (0 : Int) < (bn : Int)
      · skip
        go_enter Try.func20, Try.ntmps20
        go_wp2_with (first | (go_at_call 34; refine (right_calls cl nn true _).mono ?_; rintro e w1 ⟨rfl, hb1⟩; rw [hr]; have HB1 := Lib.hid (below_then (below_alloc (Below.refl _ _) _) (by simp) hb1 : Below w.heap.size w w1); have B := blk_below (blk_new w _) hb1; have h1 : w1.cell? ⟨w.heap.size, 1, none⟩ = some (.bool true) := blk_cell B 1; have h3 : w1.cell? ⟨w.heap.size, 3, none⟩ = some (.slice A3 bn c3) := blk_cell B 3; have h4 : w1.cell? ⟨w.heap.size, 4, none⟩ = some (.slice A4 kn c4) := blk_cell B 4; clear hb1 B))
        go_ret
        have he : b.isEmpty = false := by have := HBN.out; cases b with | nil => simp at this; omega | cons _ _ => rfl
        exact ⟨by simp [he], HB1.out⟩
      · skip
        go_enter Try.func20, Try.ntmps20
        go_wp2_with (first | (go_at_call 34; refine (right_calls cl nn true _).mono ?_; rintro e w1 ⟨rfl, hb1⟩; rw [hr]; have HB1 := Lib.hid (below_then (below_alloc (Below.refl _ _) _) (by simp) hb1 : Below w.heap.size w w1); have B := blk_below (blk_new w _) hb1; have h1 : w1.cell? ⟨w.heap.size, 1, none⟩ = some (.bool true) := blk_cell B 1; have h3 : w1.cell? ⟨w.heap.size, 3, none⟩ = some (.slice A3 bn c3) := blk_cell B 3; have h4 : w1.cell? ⟨w.heap.size, 4, none⟩ = some (.slice A4 kn c4) := blk_cell B 4; clear hb1 B) | (go_at_call 35; refine (HK.out _ HB1.out).mono ?_; rintro e w2 ⟨rfl, hb2⟩))
        go_ret
        have he : b.isEmpty = true := by have := HBN.out; cases b with | nil => rfl | cons _ _ => simp at this; omega
        exact ⟨by simp [he], below_then HB1.out HB1.out.size hb2⟩
end Go.Proofs.Ytkhghgmonjebnaa.B
