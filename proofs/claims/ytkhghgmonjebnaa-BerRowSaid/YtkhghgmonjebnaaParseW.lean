/- What ber.Parse answers for bytes: the walk. Condition: the slice holds bytes, not too many. -/
import Derived.Test.YtkhghgmonjebnaaElemW
import Derived.Test.YtkhghgmonjebnaaPutE
namespace Go.Proofs.Ytkhghgmonjebnaa.B
open Go.RowKit Go.Proofs.YtkhghgmonjebnaaW.PrintWords Go.Proofs.YtkhghgmonjebnaaW.PrintLast Go.Proofs.YtkhghgmonjebnaaW.PrintMore
open Go.Proofs.Ytkhghgmonjebnaa.H Go.Proofs.Ytkhghgmonjebnaa.K
set_option linter.unusedVariables false
set_option linter.unusedSimpArgs false

theorem elem_all (f : Nat) : ElemP f := by
  induction f using Nat.strongRecOn with
  | _ f ih => exact elem_step f ih
theorem cont_len (l : List Int) : (cont l).length = min (begin6 l).1.2.2.2.2.toNat l.length - (begin6 l).1.2.2.2.1.toNat := by unfold cont; rw [List.length_drop, List.length_take]
theorem cont_ok {l : List Int} (h : okb l = true) : okb (cont l) = true := okb_drop (okb_take h _) _
/-- What may be wrong within. -/
theorem kidsF_wrong : ∀ (f d : Nat) (l : List Int) (n : Int), okb l = true → l.length < f → kidsF f d l = .error n → n = 15 ∨ n = 11 := by
  intro f
  induction f with
  | zero => intro d l n _ h; omega
  | succ f ih =>
    intro d l n hb hl h
    rw [kidsF] at h
    split at h
    · cases h
    · split at h
      · injection h with h; omega
      · split at h
        · injection h with h; omega
        · rename_i h0 h1 h2
          have h3 : (begin6 l).2 = 0 := by
            by_cases h4 : (begin6 l).2 = 0
            · exact h4
            · exact absurd (Or.inl h4) h2
          have h5 : (begin6 l).1.2.2.2.2 ≤ l.length := by
            by_cases h4 : (begin6 l).1.2.2.2.2 ≤ l.length
            · exact h4
            · exact absurd (Or.inr (by omega)) h2
          obtain ⟨k0, k1, k2, k3⟩ := begin_ok hb h3
          split at h
          · rename_i e he
            injection h with h
            subst h
            split at he
            · exact ih _ _ _ (cont_ok hb) (by rw [cont_len]; omega) he
            · cases he
          · split at h
            · rename_i e he
              injection h with h
              subst h
              exact ih _ _ _ (okb_drop hb _) (by rw [List.length_drop]; omega) he
            · cases h
theorem elemF_wrong {f d : Nat} {l : List Int} {n : Int} (hb : okb l = true) (hl : (cont l).length < f) (h : elemF f d l = .error n) : n = 15 ∨ n = 11 := by
  unfold elemF at h
  split at h
  · rename_i e he
    injection h with h
    subst h
    split at he
    · exact kidsF_wrong _ _ _ _ (cont_ok hb) hl he
    · cases he
  · cases h

abbrev zv : Value := .agg #[.int .i64 0, .bool false, .int .i64 0, .slice none 0 0, .slice none 0 0]
def WholeQ (w : World) (r : Except Int S27) (e : Ending) (w' : World) : Prop := Below w.heap.size w w' ∧ match r with
  | .ok x => ∃ A3 c3 A4 c4, e = .returned (.tuple #[kv x (.slice A3 x.f1.length c3) (.slice A4 x.f2.length c4), .int .i64 0]) ∧ Kd.R (Kd.int .u8) 5 w' w.heap.size (fun _ => True) (.slice A3 x.f1.length c3) x.f1 ∧ Kd.R k27 27 w' w.heap.size (fun _ => True) (.slice A4 x.f2.length c4) x.f2
  | .error n => e = .returned (.tuple #[zv, .int .i64 n])

set_option maxRecDepth 100000 in
set_option maxHeartbeats 20000000 in
theorem whole_calls (f : Nat) (l : List Int) (A : Option Addr) (c : Nat) (w : World) (hC : Kd.C (Kd.int .u8) w A l.length l) (hc : l.length ≤ c) (hb : okb l = true) (hl : (l.length : Int) < 1000000000) (hok : (begin6 l).2 = 0) (hall : (begin6 l).1.2.2.2.2 ≤ l.length) (hf : (cont l).length < f) :
    Calls Try.prog 30 #[bv (begin6 l).1, .slice A l.length c] w fun e w' => WholeQ w (elemF f 0 l) e w' := by
  have HE0 := Lib.hid (fun (W : World) (hW : Below w.heap.size w W) => elem_all f l 0 A c W (Kd.C_below hC hW) hc hb hl hok hall hf (by omega))
  clear hC hc hb hl hok hall hf
  generalize elemF f 0 l = res at HE0 ⊢
  generalize begin6 l = r at HE0 ⊢
  generalize l.length = ln at HE0 ⊢
  obtain ⟨⟨cl, md, nn, h0, al⟩, er⟩ := r
  simp only [] at HE0 ⊢
  have HB3 : Hid (Below w.heap.size w (((w.alloc (.cells #[.int .i64 cl, .bool md, .int .i64 nn, .int .i64 h0, .int .i64 al] 67)).alloc (.cells #[.int .i64 0, .bool false, .int .i64 0, .slice none 0 0, .slice none 0 0] 27)).alloc (.cells #[.int .i64 0] 33))) := Lib.hid (below_alloc (below_alloc (below_alloc (Below.refl _ _) _) _) _)
  have hs1 : (w.alloc (.cells #[.int .i64 cl, .bool md, .int .i64 nn, .int .i64 h0, .int .i64 al] 67)).heap.size = w.heap.size + 1 := by simp
  have hs2 : ((w.alloc (.cells #[.int .i64 cl, .bool md, .int .i64 nn, .int .i64 h0, .int .i64 al] 67)).alloc (.cells #[.int .i64 0, .bool false, .int .i64 0, .slice none 0 0, .slice none 0 0] 27)).heap.size = w.heap.size + 1 + 1 := by simp
  have hs3 : (((w.alloc (.cells #[.int .i64 cl, .bool md, .int .i64 nn, .int .i64 h0, .int .i64 al] 67)).alloc (.cells #[.int .i64 0, .bool false, .int .i64 0, .slice none 0 0, .slice none 0 0] 27)).alloc (.cells #[.int .i64 0] 33)).heap.size = w.heap.size + 3 := by simp
  have HZ3 : Hid ((((w.alloc (.cells #[.int .i64 cl, .bool md, .int .i64 nn, .int .i64 h0, .int .i64 al] 67)).alloc (.cells #[.int .i64 0, .bool false, .int .i64 0, .slice none 0 0, .slice none 0 0] 27)).alloc (.cells #[.int .i64 0] 33)).heap[w.heap.size + 1]? = some (.cells #[.int .i64 0, .bool false, .int .i64 0, .slice none 0 0, .slice none 0 0] 27 (0, 0))) := Lib.hid (by have h := blk_new (w.alloc (.cells #[.int .i64 cl, .bool md, .int .i64 nn, .int .i64 h0, .int .i64 al] 67)) (.cells #[.int .i64 0, .bool false, .int .i64 0, .slice none 0 0, .slice none 0 0] 27); rw [hs1] at h; exact blk_below h (below_alloc (Below.refl _ _) _))
  have HE3 : Hid ((((w.alloc (.cells #[.int .i64 cl, .bool md, .int .i64 nn, .int .i64 h0, .int .i64 al] 67)).alloc (.cells #[.int .i64 0, .bool false, .int .i64 0, .slice none 0 0, .slice none 0 0] 27)).alloc (.cells #[.int .i64 0] 33)).heap[w.heap.size + 1 + 1]? = some (.cells #[.int .i64 0] 33 (0, 0))) := Lib.hid (by have h := blk_new ((w.alloc (.cells #[.int .i64 cl, .bool md, .int .i64 nn, .int .i64 h0, .int .i64 al] 67)).alloc (.cells #[.int .i64 0, .bool false, .int .i64 0, .slice none 0 0, .slice none 0 0] 27)) (.cells #[.int .i64 0] 33); rw [hs2] at h; exact h)
  clear hs1 hs2
  cases res with
  | error n =>
    have HE : Hid (∀ W, Below w.heap.size w W → Calls Try.prog 45 #[bv (cl, md, nn, h0, al), .slice A ln c, .int .i64 0] W fun e w' => Below W.heap.size W w' ∧ e = .panicked (chainN n)) := Lib.hid (fun W hW => (HE0.out W hW).mono (fun e w' h => h))
    clear HE0
    go_enter_defers Try.func30, Try.ntmps30
    go_wp2_with (go_at_call 45; refine (HE.out _ HB3.out).mono ?_; rintro e w5 ⟨hb, rfl⟩; have HZ := Lib.hid (blk_below HZ3.out hb); have HEE := Lib.hid (blk_below HE3.out hb); have HB5 := Lib.hid (below_then HB3.out HB3.out.size hb); clear hb)
    have hE3 := blk_below HEE.out (below_alloc (Below.refl _ _) (.cells #[.int .i64 n] 80))
    have hZ3 := blk_far (p := ⟨w.heap.size + 1 + 1, 0, none⟩) (blk_below HZ.out (below_alloc (Below.refl _ _) (.cells #[.int .i64 n] 80))) (by simp) (.int .i64 n)
    have hc : ((w5.alloc (.cells #[.int .i64 n] 80)).setCell ⟨w.heap.size + 1 + 1, 0, none⟩ (.int .i64 n)).cell? ⟨w.heap.size + 1 + 1, 0, none⟩ = some (.int .i64 n) := blk_cell (blk_put hE3 0 _ rfl) 0
    have z0 : ((w5.alloc (.cells #[.int .i64 n] 80)).setCell ⟨w.heap.size + 1 + 1, 0, none⟩ (.int .i64 n)).cell? ⟨w.heap.size + 1, 0, none⟩ = some (.int .i64 0) := blk_cell hZ3 0
    have z1 : ((w5.alloc (.cells #[.int .i64 n] 80)).setCell ⟨w.heap.size + 1 + 1, 0, none⟩ (.int .i64 n)).cell? ⟨w.heap.size + 1, 1, none⟩ = some (.bool false) := blk_cell hZ3 1
    have z2 : ((w5.alloc (.cells #[.int .i64 n] 80)).setCell ⟨w.heap.size + 1 + 1, 0, none⟩ (.int .i64 n)).cell? ⟨w.heap.size + 1, 2, none⟩ = some (.int .i64 0) := blk_cell hZ3 2
    have z3 : ((w5.alloc (.cells #[.int .i64 n] 80)).setCell ⟨w.heap.size + 1 + 1, 0, none⟩ (.int .i64 n)).cell? ⟨w.heap.size + 1, 3, none⟩ = some (.slice none 0 0) := blk_cell hZ3 3
    have z4 : ((w5.alloc (.cells #[.int .i64 n] 80)).setCell ⟨w.heap.size + 1 + 1, 0, none⟩ (.int .i64 n)).cell? ⟨w.heap.size + 1, 4, none⟩ = some (.slice none 0 0) := blk_cell hZ3 4
    have hq : WholeQ w (.error n) (.returned (.tuple #[zv, .int .i64 n])) ((w5.alloc (.cells #[.int .i64 n] 80)).setCell ⟨w.heap.size + 1 + 1, 0, none⟩ (.int .i64 n)) := ⟨Below.setCell (below_alloc HB5.out _) (by simp; omega) _, rfl⟩
    refine leaves_cons (f := 21) (args := #[.pointer (some ⟨w.heap.size + 1 + 1, 0, none⟩)]) (by simp) (by simp [go_sem]) ?_
    refine (caught_fault n ⟨w.heap.size + 1 + 1, 0, none⟩ (.int .i64 0) [] _ (blk_cell HEE.out 0) (blk_frozen HEE.out 0)).mono ?_
    rintro e u' w'' ⟨rfl, rfl, rfl⟩
    simpa [bodyPostD, Leaves, settle, results, Try.results30, go_sem, hc, z0, z1, z2, z3, z4] using hq
  | ok x =>
    have HE : Hid (∀ W, Below w.heap.size w W → Calls Try.prog 45 #[bv (cl, md, nn, h0, al), .slice A ln c, .int .i64 0] W fun e w' => Below W.heap.size W w' ∧ ∃ v3 v4, e = .returned (kv x v3 v4) ∧ Kd.R (Kd.int .u8) 5 w' W.heap.size (fun _ => True) v3 x.f1 ∧ Kd.R k27 27 w' W.heap.size (fun _ => True) v4 x.f2) := Lib.hid (fun W hW => (HE0.out W hW).mono (fun e w' h => h))
    clear HE0
    go_enter_defers Try.func30, Try.ntmps30
    go_wp2_with (go_at_call 45; refine (HE.out _ HB3.out).mono ?_; rintro e w5 ⟨hb, v3, v4, rfl, h3, h4⟩; rw [hs3] at h3 h4; (obtain ⟨A3, c3, hv3⟩ := Kd.R_slice h3); (obtain ⟨A4, c4, hv4⟩ := Kd.R_slice h4); subst hv3 hv4; have H3 := Lib.hid h3; have H4 := Lib.hid h4; have HZ := Lib.hid (blk_below HZ3.out hb); have HEE := Lib.hid (blk_below HE3.out hb); have HB5 := Lib.hid (below_then HB3.out HB3.out.size hb); have hz0 : w5.cell? ⟨w.heap.size + 1, 0, none⟩ = some (.int .i64 0) := blk_cell HZ.out 0; have hfz0 : w5.frozen? ⟨w.heap.size + 1, 0, none⟩ = false := blk_frozen HZ.out 0; have hz1 : w5.cell? ⟨w.heap.size + 1, 1, none⟩ = some (.bool false) := blk_cell HZ.out 1; have hfz1 : w5.frozen? ⟨w.heap.size + 1, 1, none⟩ = false := blk_frozen HZ.out 1; have hz2 : w5.cell? ⟨w.heap.size + 1, 2, none⟩ = some (.int .i64 0) := blk_cell HZ.out 2; have hfz2 : w5.frozen? ⟨w.heap.size + 1, 2, none⟩ = false := blk_frozen HZ.out 2; have hz3 : w5.cell? ⟨w.heap.size + 1, 3, none⟩ = some (.slice none 0 0) := blk_cell HZ.out 3; have hfz3 : w5.frozen? ⟨w.heap.size + 1, 3, none⟩ = false := blk_frozen HZ.out 3; have hz4 : w5.cell? ⟨w.heap.size + 1, 4, none⟩ = some (.slice none 0 0) := blk_cell HZ.out 4; have hfz4 : w5.frozen? ⟨w.heap.size + 1, 4, none⟩ = false := blk_frozen HZ.out 4; have he0 : w5.cell? ⟨w.heap.size + 1 + 1, 0, none⟩ = some (.int .i64 0) := blk_cell HEE.out 0; have hfe : w5.frozen? ⟨w.heap.size + 1 + 1, 0, none⟩ = false := blk_frozen HEE.out 0; clear h3 h4 hb)
    have hB := set5v_blk HZ.out (.int .i64 x.f0.f0) (.bool x.f0.f1) (.int .i64 x.f0.f2) (.slice A3 x.f1.length c3) (.slice A4 x.f2.length c4)
    have hBz := blk_far (p := ⟨w.heap.size + 1 + 1, 0, none⟩) hB (by simp) (.int .i64 0)
    have hE := (set5v_keep (W := w5) (b := w.heap.size + 1) (.int .i64 x.f0.f0) (.bool x.f0.f1) (.int .i64 x.f0.f2) (.slice A3 x.f1.length c3) (.slice A4 x.f2.length c4)).blk HEE.out (by simp) (by simp)
    have hc : ((set5v w5 (w.heap.size + 1) (.int .i64 x.f0.f0) (.bool x.f0.f1) (.int .i64 x.f0.f2) (.slice A3 x.f1.length c3) (.slice A4 x.f2.length c4)).setCell ⟨w.heap.size + 1 + 1, 0, none⟩ (.int .i64 0)).cell? ⟨w.heap.size + 1 + 1, 0, none⟩ = some (.int .i64 0) := blk_cell (blk_put hE 0 _ rfl) 0
    have z0 : ((set5v w5 (w.heap.size + 1) (.int .i64 x.f0.f0) (.bool x.f0.f1) (.int .i64 x.f0.f2) (.slice A3 x.f1.length c3) (.slice A4 x.f2.length c4)).setCell ⟨w.heap.size + 1 + 1, 0, none⟩ (.int .i64 0)).cell? ⟨w.heap.size + 1, 0, none⟩ = some (.int .i64 x.f0.f0) := blk_cell hBz 0
    have z1 : ((set5v w5 (w.heap.size + 1) (.int .i64 x.f0.f0) (.bool x.f0.f1) (.int .i64 x.f0.f2) (.slice A3 x.f1.length c3) (.slice A4 x.f2.length c4)).setCell ⟨w.heap.size + 1 + 1, 0, none⟩ (.int .i64 0)).cell? ⟨w.heap.size + 1, 1, none⟩ = some (.bool x.f0.f1) := blk_cell hBz 1
    have z2 : ((set5v w5 (w.heap.size + 1) (.int .i64 x.f0.f0) (.bool x.f0.f1) (.int .i64 x.f0.f2) (.slice A3 x.f1.length c3) (.slice A4 x.f2.length c4)).setCell ⟨w.heap.size + 1 + 1, 0, none⟩ (.int .i64 0)).cell? ⟨w.heap.size + 1, 2, none⟩ = some (.int .i64 x.f0.f2) := blk_cell hBz 2
    have z3 : ((set5v w5 (w.heap.size + 1) (.int .i64 x.f0.f0) (.bool x.f0.f1) (.int .i64 x.f0.f2) (.slice A3 x.f1.length c3) (.slice A4 x.f2.length c4)).setCell ⟨w.heap.size + 1 + 1, 0, none⟩ (.int .i64 0)).cell? ⟨w.heap.size + 1, 3, none⟩ = some (.slice A3 x.f1.length c3) := blk_cell hBz 3
    have z4 : ((set5v w5 (w.heap.size + 1) (.int .i64 x.f0.f0) (.bool x.f0.f1) (.int .i64 x.f0.f2) (.slice A3 x.f1.length c3) (.slice A4 x.f2.length c4)).setCell ⟨w.heap.size + 1 + 1, 0, none⟩ (.int .i64 0)).cell? ⟨w.heap.size + 1, 4, none⟩ = some (.slice A4 x.f2.length c4) := blk_cell hBz 4
    have hq : WholeQ w (.ok x) (.returned (.tuple #[kv x (.slice A3 x.f1.length c3) (.slice A4 x.f2.length c4), .int .i64 0])) ((set5v w5 (w.heap.size + 1) (.int .i64 x.f0.f0) (.bool x.f0.f1) (.int .i64 x.f0.f2) (.slice A3 x.f1.length c3) (.slice A4 x.f2.length c4)).setCell ⟨w.heap.size + 1 + 1, 0, none⟩ (.int .i64 0)) :=
      ⟨Below.setCell (set5v_below HB5.out (by simp) _ _ _ _ _) (by simp; omega) _, A3, c3, A4, c4, rfl, Kd.R_lower (R_up (R_up H3.out (set5v_keep _ _ _ _ _) (by omega)) (KeepBut.set_ (KeepBut.refl _ _ _) 0 _) (by omega)) (by omega), Kd.R_lower (R_up (R_up H4.out (set5v_keep _ _ _ _ _) (by omega)) (KeepBut.set_ (KeepBut.refl _ _ _) 0 _) (by omega)) (by omega)⟩
    refine leaves_cons (f := 21) (args := #[.pointer (some ⟨w.heap.size + 1 + 1, 0, none⟩)]) (by simp) (by simp [go_sem]) ?_
    refine (caught_idle _ _).mono ?_
    rintro e u' w'' ⟨rfl, rfl, rfl⟩
    simp only [set5v] at hc z0 z1 z2 z3 z4 hq
    simpa [bodyPostD, Leaves, settle, results, Try.results30, go_sem, hc, z0, z1, z2, z3, z4] using hq

/-- What Parse answers. -/
def parseF (l : List Int) : Except Int (S27 × Int) :=
  if (begin6 l).2 ≠ 0 then .error (begin6 l).2 else if (l.length : Int) < (begin6 l).1.2.2.2.2 then .error 10 else
  match elemF (l.length + 1) 0 l with
  | .error n => .error n
  | .ok x => .ok (x, (begin6 l).1.2.2.2.2)
def ParseQ (w : World) (r : Except Int (S27 × Int)) (e : Ending) (w' : World) : Prop := Below w.heap.size w w' ∧ match r with
  | .ok (x, n) => ∃ A3 c3 A4 c4, e = .returned (.tuple #[kv x (.slice A3 x.f1.length c3) (.slice A4 x.f2.length c4), .int .i64 n, .int .i64 0]) ∧ Kd.R (Kd.int .u8) 5 w' w.heap.size (fun _ => True) (.slice A3 x.f1.length c3) x.f1 ∧ Kd.R k27 27 w' w.heap.size (fun _ => True) (.slice A4 x.f2.length c4) x.f2
  | .error n => e = .returned (.tuple #[zv, .int .i64 0, .int .i64 n])

set_option maxRecDepth 100000 in
set_option maxHeartbeats 20000000 in
theorem parse_calls (l : List Int) (A : Option Addr) (c : Nat) (w : World) (hC : Kd.C (Kd.int .u8) w A l.length l) (hc : l.length ≤ c) (hb : okb l = true) (hl : (l.length : Int) < 1000000000) :
    Calls Try.prog 17 #[.slice A l.length c] w fun e w' => ParseQ w (parseF l) e w' := by
  have HBG : Hid (∀ W, Below w.heap.size w W → Calls Try.prog 28 #[.slice A l.length c] W fun e w' => e = .returned (.tuple #[bv (begin6 l).1, .int .i64 (begin6 l).2]) ∧ Below W.heap.size W w') := Lib.hid (fun W hW => begin_calls A c l W (Kd.C_below hC hW) hc hb hl)
  have HW0 := Lib.hid (fun (W : World) (hW : Below w.heap.size w W) (h1 : (begin6 l).2 = 0) (h2 : (begin6 l).1.2.2.2.2 ≤ l.length) => whole_calls (l.length + 1) l A c W (Kd.C_below hC hW) hc hb hl h1 h2 (by rw [cont_len]; omega))
  have HWR := Lib.hid (fun (h2 : (begin6 l).1.2.2.2.2 ≤ l.length) n (h : elemF (l.length + 1) 0 l = .error n) => elemF_wrong hb (by rw [cont_len]; omega) h)
  unfold parseF
  clear hC hc hb hl
  generalize elemF (l.length + 1) 0 l = res at HW0 HWR ⊢
  generalize begin6 l = r at HBG HW0 HWR ⊢
  generalize l.length = ln at HBG HW0 HWR ⊢
  obtain ⟨⟨cl, md, nn, h0, al⟩, er⟩ := r
  simp only [] at HBG HW0 HWR ⊢
  by_cases her : er = 0
  · subst her
    rw [if_neg (by simp)]
    by_cases hal : (ln : Int) < al
    · rw [if_pos hal]
      go_enter Try.func17, Try.ntmps17
      go_wp2_with (go_at_call 28; refine (HBG.out _ (below_alloc (Below.refl _ _) _)).mono ?_; rintro e w1 ⟨rfl, hb1⟩; have HZ1 := Lib.hid (blk_below (blk_new w (.cells #[.int .i64 0, .bool false, .int .i64 0, .slice none 0 0, .slice none 0 0] 27)) hb1); have HB1 := Lib.hid (below_then (below_alloc (Below.refl _ _) _) (by simp) hb1 : Below w.heap.size w w1); have hz0 : ∀ o, (w1.alloc o).cell? ⟨w.heap.size, 0, none⟩ = some (.int .i64 0) := fun o => blk_cell (blk_below HZ1.out (below_alloc (Below.refl _ _) o)) 0; have hf0 : ∀ o, (w1.alloc o).frozen? ⟨w.heap.size, 0, none⟩ = false := fun o => blk_frozen (blk_below HZ1.out (below_alloc (Below.refl _ _) o)) 0; have hz1 : ∀ o, (w1.alloc o).cell? ⟨w.heap.size, 1, none⟩ = some (.bool false) := fun o => blk_cell (blk_below HZ1.out (below_alloc (Below.refl _ _) o)) 1; have hf1 : ∀ o, (w1.alloc o).frozen? ⟨w.heap.size, 1, none⟩ = false := fun o => blk_frozen (blk_below HZ1.out (below_alloc (Below.refl _ _) o)) 1; have hz2 : ∀ o, (w1.alloc o).cell? ⟨w.heap.size, 2, none⟩ = some (.int .i64 0) := fun o => blk_cell (blk_below HZ1.out (below_alloc (Below.refl _ _) o)) 2; have hf2 : ∀ o, (w1.alloc o).frozen? ⟨w.heap.size, 2, none⟩ = false := fun o => blk_frozen (blk_below HZ1.out (below_alloc (Below.refl _ _) o)) 2; have hz3 : ∀ o, (w1.alloc o).cell? ⟨w.heap.size, 3, none⟩ = some (.slice none 0 0) := fun o => blk_cell (blk_below HZ1.out (below_alloc (Below.refl _ _) o)) 3; have hf3 : ∀ o, (w1.alloc o).frozen? ⟨w.heap.size, 3, none⟩ = false := fun o => blk_frozen (blk_below HZ1.out (below_alloc (Below.refl _ _) o)) 3; have hz4 : ∀ o, (w1.alloc o).cell? ⟨w.heap.size, 4, none⟩ = some (.slice none 0 0) := fun o => blk_cell (blk_below HZ1.out (below_alloc (Below.refl _ _) o)) 4; have hf4 : ∀ o, (w1.alloc o).frozen? ⟨w.heap.size, 4, none⟩ = false := fun o => blk_frozen (blk_below HZ1.out (below_alloc (Below.refl _ _) o)) 4; clear hb1)
      obtain ⟨e0, e1, e2, e3, e4⟩ := set5v_cells (blk_below HZ1.out (below_alloc (Below.refl _ _) (.cells #[.int .i64 cl, .bool md, .int .i64 nn, .int .i64 h0, .int .i64 al] 67))) (.int .i64 0) (.bool false) (.int .i64 0) (.slice none 0 0) (.slice none 0 0)
      have hq : ParseQ w (.error 10) (.returned (.tuple #[zv, .int .i64 0, .int .i64 10])) (set5v (w1.alloc (.cells #[.int .i64 cl, .bool md, .int .i64 nn, .int .i64 h0, .int .i64 al] 67)) w.heap.size (.int .i64 0) (.bool false) (.int .i64 0) (.slice none 0 0) (.slice none 0 0)) := ⟨set5v_below (below_alloc HB1.out _) (Nat.le_refl _) _ _ _ _ _, rfl⟩
      simp only [set5v] at e0 e1 e2 e3 e4 hq
      refine bodyPost_ret (v := .tuple #[zv, .int .i64 0, .int .i64 10]) ?_ rfl hq
      simp [results, Try.results17, go_sem, e0, e1, e2, e3, e4]
    · rw [if_neg hal]
      cases res with
      | error n =>
        have HWH : Hid (∀ W, Below w.heap.size w W → Calls Try.prog 30 #[bv (cl, md, nn, h0, al), .slice A ln c] W fun e w' => Below W.heap.size W w' ∧ e = .returned (.tuple #[zv, .int .i64 n])) := Lib.hid (fun W hW => (HW0.out W hW rfl (by omega)).mono (fun e w' h => h))
        have hn : (n != 0) = true := by have := HWR.out (by omega) n rfl; simp; omega
        clear HW0 HWR
        go_enter Try.func17, Try.ntmps17
        go_wp2_with (first | (go_at_call 28; refine (HBG.out _ (below_alloc (Below.refl _ _) _)).mono ?_; rintro e w1 ⟨rfl, hb1⟩; have HZ1 := Lib.hid (blk_below (blk_new w (.cells #[.int .i64 0, .bool false, .int .i64 0, .slice none 0 0, .slice none 0 0] 27)) hb1); have HB1 := Lib.hid (below_then (below_alloc (Below.refl _ _) _) (by simp) hb1 : Below w.heap.size w w1); have hz0 : ∀ o, (w1.alloc o).cell? ⟨w.heap.size, 0, none⟩ = some (.int .i64 0) := fun o => blk_cell (blk_below HZ1.out (below_alloc (Below.refl _ _) o)) 0; have hf0 : ∀ o, (w1.alloc o).frozen? ⟨w.heap.size, 0, none⟩ = false := fun o => blk_frozen (blk_below HZ1.out (below_alloc (Below.refl _ _) o)) 0; have hz1 : ∀ o, (w1.alloc o).cell? ⟨w.heap.size, 1, none⟩ = some (.bool false) := fun o => blk_cell (blk_below HZ1.out (below_alloc (Below.refl _ _) o)) 1; have hf1 : ∀ o, (w1.alloc o).frozen? ⟨w.heap.size, 1, none⟩ = false := fun o => blk_frozen (blk_below HZ1.out (below_alloc (Below.refl _ _) o)) 1; have hz2 : ∀ o, (w1.alloc o).cell? ⟨w.heap.size, 2, none⟩ = some (.int .i64 0) := fun o => blk_cell (blk_below HZ1.out (below_alloc (Below.refl _ _) o)) 2; have hf2 : ∀ o, (w1.alloc o).frozen? ⟨w.heap.size, 2, none⟩ = false := fun o => blk_frozen (blk_below HZ1.out (below_alloc (Below.refl _ _) o)) 2; have hz3 : ∀ o, (w1.alloc o).cell? ⟨w.heap.size, 3, none⟩ = some (.slice none 0 0) := fun o => blk_cell (blk_below HZ1.out (below_alloc (Below.refl _ _) o)) 3; have hf3 : ∀ o, (w1.alloc o).frozen? ⟨w.heap.size, 3, none⟩ = false := fun o => blk_frozen (blk_below HZ1.out (below_alloc (Below.refl _ _) o)) 3; have hz4 : ∀ o, (w1.alloc o).cell? ⟨w.heap.size, 4, none⟩ = some (.slice none 0 0) := fun o => blk_cell (blk_below HZ1.out (below_alloc (Below.refl _ _) o)) 4; have hf4 : ∀ o, (w1.alloc o).frozen? ⟨w.heap.size, 4, none⟩ = false := fun o => blk_frozen (blk_below HZ1.out (below_alloc (Below.refl _ _) o)) 4; clear hb1) | (go_at_call 30; refine (HWH.out _ (below_alloc HB1.out _)).mono ?_; rintro e w5 ⟨hb, rfl⟩; have HZ5 := Lib.hid (blk_below (blk_below HZ1.out (below_alloc (Below.refl _ _) _)) hb); have HB5 := Lib.hid (below_then (below_alloc HB1.out _) (by simp; have := HB1.out.size; omega) hb : Below w.heap.size w w5); have gz0 : ∀ o, (w5.alloc o).cell? ⟨w.heap.size, 0, none⟩ = some (.int .i64 0) := fun o => blk_cell (blk_below HZ5.out (below_alloc (Below.refl _ _) o)) 0; have gf0 : ∀ o, (w5.alloc o).frozen? ⟨w.heap.size, 0, none⟩ = false := fun o => blk_frozen (blk_below HZ5.out (below_alloc (Below.refl _ _) o)) 0; have gz1 : ∀ o, (w5.alloc o).cell? ⟨w.heap.size, 1, none⟩ = some (.bool false) := fun o => blk_cell (blk_below HZ5.out (below_alloc (Below.refl _ _) o)) 1; have gf1 : ∀ o, (w5.alloc o).frozen? ⟨w.heap.size, 1, none⟩ = false := fun o => blk_frozen (blk_below HZ5.out (below_alloc (Below.refl _ _) o)) 1; have gz2 : ∀ o, (w5.alloc o).cell? ⟨w.heap.size, 2, none⟩ = some (.int .i64 0) := fun o => blk_cell (blk_below HZ5.out (below_alloc (Below.refl _ _) o)) 2; have gf2 : ∀ o, (w5.alloc o).frozen? ⟨w.heap.size, 2, none⟩ = false := fun o => blk_frozen (blk_below HZ5.out (below_alloc (Below.refl _ _) o)) 2; have gz3 : ∀ o, (w5.alloc o).cell? ⟨w.heap.size, 3, none⟩ = some (.slice none 0 0) := fun o => blk_cell (blk_below HZ5.out (below_alloc (Below.refl _ _) o)) 3; have gf3 : ∀ o, (w5.alloc o).frozen? ⟨w.heap.size, 3, none⟩ = false := fun o => blk_frozen (blk_below HZ5.out (below_alloc (Below.refl _ _) o)) 3; have gz4 : ∀ o, (w5.alloc o).cell? ⟨w.heap.size, 4, none⟩ = some (.slice none 0 0) := fun o => blk_cell (blk_below HZ5.out (below_alloc (Below.refl _ _) o)) 4; have gf4 : ∀ o, (w5.alloc o).frozen? ⟨w.heap.size, 4, none⟩ = false := fun o => blk_frozen (blk_below HZ5.out (below_alloc (Below.refl _ _) o)) 4; clear hb))
        obtain ⟨e0, e1, e2, e3, e4⟩ := set5v_cells (blk_below HZ5.out (below_alloc (Below.refl _ _) (.cells #[.int .i64 0, .bool false, .int .i64 0, .slice none 0 0, .slice none 0 0] 27))) (.int .i64 0) (.bool false) (.int .i64 0) (.slice none 0 0) (.slice none 0 0)
        have hq : ParseQ w (.error n) (.returned (.tuple #[zv, .int .i64 0, .int .i64 n])) (set5v (w5.alloc (.cells #[.int .i64 0, .bool false, .int .i64 0, .slice none 0 0, .slice none 0 0] 27)) w.heap.size (.int .i64 0) (.bool false) (.int .i64 0) (.slice none 0 0) (.slice none 0 0)) := ⟨set5v_below (below_alloc HB5.out _) (Nat.le_refl _) _ _ _ _ _, rfl⟩
        simp only [set5v] at e0 e1 e2 e3 e4 hq
        refine bodyPost_ret (v := .tuple #[zv, .int .i64 0, .int .i64 n]) ?_ rfl hq
        simp [results, Try.results17, go_sem, e0, e1, e2, e3, e4]
      | ok x =>
        have HWH : Hid (∀ W, Below w.heap.size w W → Calls Try.prog 30 #[bv (cl, md, nn, h0, al), .slice A ln c] W fun e w' => Below W.heap.size W w' ∧ ∃ A3 c3 A4 c4, e = .returned (.tuple #[kv x (.slice A3 x.f1.length c3) (.slice A4 x.f2.length c4), .int .i64 0]) ∧ Kd.R (Kd.int .u8) 5 w' W.heap.size (fun _ => True) (.slice A3 x.f1.length c3) x.f1 ∧ Kd.R k27 27 w' W.heap.size (fun _ => True) (.slice A4 x.f2.length c4) x.f2) := Lib.hid (fun W hW => (HW0.out W hW rfl (by omega)).mono (fun e w' h => h))
        clear HW0 HWR
        go_enter Try.func17, Try.ntmps17
        go_upto_region 9 with (first | (go_at_call 28; refine (HBG.out _ (below_alloc (Below.refl _ _) _)).mono ?_; rintro e w1 ⟨rfl, hb1⟩; have HZ1 := Lib.hid (blk_below (blk_new w (.cells #[.int .i64 0, .bool false, .int .i64 0, .slice none 0 0, .slice none 0 0] 27)) hb1); have HB1 := Lib.hid (below_then (below_alloc (Below.refl _ _) _) (by simp) hb1 : Below w.heap.size w w1); have hz0 : ∀ o, (w1.alloc o).cell? ⟨w.heap.size, 0, none⟩ = some (.int .i64 0) := fun o => blk_cell (blk_below HZ1.out (below_alloc (Below.refl _ _) o)) 0; have hf0 : ∀ o, (w1.alloc o).frozen? ⟨w.heap.size, 0, none⟩ = false := fun o => blk_frozen (blk_below HZ1.out (below_alloc (Below.refl _ _) o)) 0; have hz1 : ∀ o, (w1.alloc o).cell? ⟨w.heap.size, 1, none⟩ = some (.bool false) := fun o => blk_cell (blk_below HZ1.out (below_alloc (Below.refl _ _) o)) 1; have hf1 : ∀ o, (w1.alloc o).frozen? ⟨w.heap.size, 1, none⟩ = false := fun o => blk_frozen (blk_below HZ1.out (below_alloc (Below.refl _ _) o)) 1; have hz2 : ∀ o, (w1.alloc o).cell? ⟨w.heap.size, 2, none⟩ = some (.int .i64 0) := fun o => blk_cell (blk_below HZ1.out (below_alloc (Below.refl _ _) o)) 2; have hf2 : ∀ o, (w1.alloc o).frozen? ⟨w.heap.size, 2, none⟩ = false := fun o => blk_frozen (blk_below HZ1.out (below_alloc (Below.refl _ _) o)) 2; have hz3 : ∀ o, (w1.alloc o).cell? ⟨w.heap.size, 3, none⟩ = some (.slice none 0 0) := fun o => blk_cell (blk_below HZ1.out (below_alloc (Below.refl _ _) o)) 3; have hf3 : ∀ o, (w1.alloc o).frozen? ⟨w.heap.size, 3, none⟩ = false := fun o => blk_frozen (blk_below HZ1.out (below_alloc (Below.refl _ _) o)) 3; have hz4 : ∀ o, (w1.alloc o).cell? ⟨w.heap.size, 4, none⟩ = some (.slice none 0 0) := fun o => blk_cell (blk_below HZ1.out (below_alloc (Below.refl _ _) o)) 4; have hf4 : ∀ o, (w1.alloc o).frozen? ⟨w.heap.size, 4, none⟩ = false := fun o => blk_frozen (blk_below HZ1.out (below_alloc (Below.refl _ _) o)) 4; clear hb1) | (go_at_call 30; refine (HWH.out _ (below_alloc HB1.out _)).mono ?_; rintro e w5 ⟨hb, A3, c3, A4, c4, rfl, h3, h4⟩; have HZ5 := Lib.hid (blk_below (blk_below HZ1.out (below_alloc (Below.refl _ _) _)) hb); have HG5 := Lib.hid (blk_below (blk_new w1 (.cells #[.int .i64 cl, .bool md, .int .i64 nn, .int .i64 h0, .int .i64 al] 67)) hb); have HB5 := Lib.hid (below_then (below_alloc HB1.out _) (by simp; have := HB1.out.size; omega) hb : Below w.heap.size w w5); have H3 := Lib.hid (Kd.R_lower h3 (by have := blk_lt HZ1.out; simp; omega) : Kd.R (Kd.int .u8) 5 w5 (w.heap.size + 1) (fun _ => True) (.slice A3 x.f1.length c3) x.f1); have H4 := Lib.hid (Kd.R_lower h4 (by have := blk_lt HZ1.out; simp; omega) : Kd.R k27 27 w5 (w.heap.size + 1) (fun _ => True) (.slice A4 x.f2.length c4) x.f2); clear hb h3 h4))
        have hal9 : Below w5.heap.size w5 (w5.alloc (.cells #[.int .i64 x.f0.f0, .bool x.f0.f1, .int .i64 x.f0.f2, .slice A3 x.f1.length c3, .slice A4 x.f2.length c4] 27)) := below_alloc (Below.refl _ _) _
        have hX2 : (w5.alloc (.cells #[.int .i64 x.f0.f0, .bool x.f0.f1, .int .i64 x.f0.f2, .slice A3 x.f1.length c3, .slice A4 x.f2.length c4] 27)).heap[w5.heap.size]? = some (.cells #[.int .i64 x.f0.f0, .bool x.f0.f1, .int .i64 x.f0.f2, .slice A3 x.f1.length c3, .slice A4 x.f2.length c4] 27 (0, 0)) := blk_new w5 _
        have hG2 := blk_below HG5.out hal9
        have hZ2 := blk_below HZ5.out hal9
        have hB2 := below_alloc HB5.out (.cells #[.int .i64 x.f0.f0, .bool x.f0.f1, .int .i64 x.f0.f2, .slice A3 x.f1.length c3, .slice A4 x.f2.length c4] 27)
        have h32 := Kd.R_below H3.out hal9
        have h42 := Kd.R_below H4.out hal9
        have hzx := blk_lt HZ5.out
        clear hal9
        generalize w5.alloc (.cells #[.int .i64 x.f0.f0, .bool x.f0.f1, .int .i64 x.f0.f2, .slice A3 x.f1.length c3, .slice A4 x.f2.length c4] 27) = w9 at hX2 hG2 hZ2 hB2 h32 h42 ⊢
        generalize w5.heap.size = xb at hX2 hzx ⊢
        generalize w1.heap.size = gb at hG2 ⊢
        have hX := blk_below hX2 (below_drew (Below.refl _ _))
        have hG := blk_below hG2 (below_drew (Below.refl _ _))
        have hZ := blk_below hZ2 (below_drew (Below.refl _ _))
        have hB := below_drew hB2
        have h3 := Kd.R_below h32 (below_drew (Below.refl _ _))
        have h4 := Kd.R_below h42 (below_drew (Below.refl _ _))
        skip
        have hnx : xb ≠ w.heap.size := by omega
        have hng := blk_ne hG2 hZ2 (by decide)
        refine start_ (n := 6) (S := fun w' => (w'.heap[xb]? = some (.cells #[.int .i64 x.f0.f0, .bool x.f0.f1, .int .i64 x.f0.f2, .slice A3 x.f1.length c3, .slice A4 x.f2.length c4] 27 (0, 0))) ∧ (w'.heap[gb]? = some (.cells #[.int .i64 cl, .bool md, .int .i64 nn, .int .i64 h0, .int .i64 al] 67 (0, 0)))) (ds := []) #[false, false, false, false, false, false] (by kernel_rfl) rfl rfl ⟨hX, hG⟩ (fun hHeld => ?_)
        refine pure_ (i := 1) (N := some 36) (v := ?_) (a' := ?_) #[false, true, false, false, false, false] rfl rfl (by kernel_rfl) (fun _ _ _ h => h) (Or.inl ⟨by rfl, ?_⟩) ?_ ?_
        rotate_left
        · intro w'
          go_simp
          with_reducible rfl
        rotate_left
        · simp only [Act.put, List.setIfInBounds_toArray, List.set_cons_zero, List.set_cons_succ, i64_w, i32_w]
          rfl
        refine take_ (i := 0) (N := some 35) (v := ?_) (a' := ?_) #[true, true, false, false, false, false] rfl rfl (by kernel_rfl) (fun _ _ _ h => h) (Or.inl ⟨by rfl, ?_⟩) hHeld ?_ ?_
        rotate_left
        · rintro w' ⟨hX, hG⟩
          have x0 : w'.cell? ⟨xb, 0, none⟩ = some (.int .i64 x.f0.f0) := blk_cell hX 0
          have x1 : w'.cell? ⟨xb, 1, none⟩ = some (.bool x.f0.f1) := blk_cell hX 1
          have x2 : w'.cell? ⟨xb, 2, none⟩ = some (.int .i64 x.f0.f2) := blk_cell hX 2
          have x3 : w'.cell? ⟨xb, 3, none⟩ = some (.slice A3 x.f1.length c3) := blk_cell hX 3
          have x4 : w'.cell? ⟨xb, 4, none⟩ = some (.slice A4 x.f2.length c4) := blk_cell hX 4
          go_simp
          with_reducible rfl
        rotate_left
        · simp only [Act.put, List.setIfInBounds_toArray, List.set_cons_zero, List.set_cons_succ, i64_w, i32_w]
          rfl
        refine take_ (i := 2) (N := some 37) (v := ?_) (a' := ?_) #[true, true, true, false, false, false] rfl rfl (by kernel_rfl) (fun _ _ _ h => h) (Or.inl ⟨by rfl, ?_⟩) hHeld ?_ ?_
        rotate_left
        · rintro w' ⟨hX, hG⟩
          have g4 : w'.cell? ⟨gb, 4, none⟩ = some (.int .i64 al) := blk_cell hG 4
          go_simp
          with_reducible rfl
        rotate_left
        · simp only [Act.put, List.setIfInBounds_toArray, List.set_cons_zero, List.set_cons_succ, i64_w, i32_w]
          rfl
        refine one_ (i := 3) (N := none) #[true, true, true, true, false, false] rfl rfl (by kernel_rfl) (by decide) (fun K hK => ?_)
        obtain ⟨hX, hG⟩ := hHeld
        have y0 : w9.cell? ⟨w.heap.size, 0, none⟩ = some (.int .i64 0) := blk_cell hZ2 0
        have f0 : w9.frozen? ⟨w.heap.size, 0, none⟩ = false := blk_frozen hZ2 0
        have y1 : w9.cell? ⟨w.heap.size, 1, none⟩ = some (.bool false) := blk_cell hZ2 1
        have f1 : w9.frozen? ⟨w.heap.size, 1, none⟩ = false := blk_frozen hZ2 1
        have y2 : w9.cell? ⟨w.heap.size, 2, none⟩ = some (.int .i64 0) := blk_cell hZ2 2
        have f2 : w9.frozen? ⟨w.heap.size, 2, none⟩ = false := blk_frozen hZ2 2
        have y3 : w9.cell? ⟨w.heap.size, 3, none⟩ = some (.slice none 0 0) := blk_cell hZ2 3
        have f3 : w9.frozen? ⟨w.heap.size, 3, none⟩ = false := blk_frozen hZ2 3
        have y4 : w9.cell? ⟨w.heap.size, 4, none⟩ = some (.slice none 0 0) := blk_cell hZ2 4
        have f4 : w9.frozen? ⟨w.heap.size, 4, none⟩ = false := blk_frozen hZ2 4
        refine skip_ (w1 := ?_) (by rfl) rfl ?_ ?_
        rotate_left
        · go_simp
          rfl
        refine hK.out _ _ ⟨((set5v_keep (W := w9) (b := w.heap.size) (.int .i64 x.f0.f0) (.bool x.f0.f1) (.int .i64 x.f0.f2) (.slice A3 x.f1.length c3) (.slice A4 x.f2.length c4)).blk hX2 hnx (by simp)), ((set5v_keep (W := w9) (b := w.heap.size) (.int .i64 x.f0.f0) (.bool x.f0.f1) (.int .i64 x.f0.f2) (.slice A3 x.f1.length c3) (.slice A4 x.f2.length c4)).blk hG2 hng (by simp))⟩ (fun hHeld => ?_)
        clear hK K
        refine pure_ (i := 4) (N := some 3) (v := ?_) (a' := ?_) #[true, true, true, true, true, false] rfl rfl (by kernel_rfl) (fun _ _ _ h => h) (Or.inl ⟨by rfl, ?_⟩) ?_ ?_
        rotate_left
        · intro w'
          go_simp
          with_reducible rfl
        rotate_left
        · simp only [Act.put, List.setIfInBounds_toArray, List.set_cons_zero, List.set_cons_succ, i64_w, i32_w]
          rfl
        refine pure_ (i := 5) (N := some 4) (v := ?_) (a' := ?_) #[true, true, true, true, true, true] rfl rfl (by kernel_rfl) (fun _ _ _ h => h) (Or.inl ⟨by rfl, ?_⟩) ?_ ?_
        rotate_left
        · intro w'
          go_simp
          with_reducible rfl
        rotate_left
        · simp only [Act.put, List.setIfInBounds_toArray, List.set_cons_zero, List.set_cons_succ, i64_w, i32_w]
          rfl
        refine done_ (by kernel_rfl) ?_
        go_wp2_with fail
        obtain ⟨e0, e1, e2, e3, e4⟩ := set5v_cells hZ2 (.int .i64 x.f0.f0) (.bool x.f0.f1) (.int .i64 x.f0.f2) (.slice A3 x.f1.length c3) (.slice A4 x.f2.length c4)
        have hq : ParseQ w (.ok (x, al)) (.returned (.tuple #[kv x (.slice A3 x.f1.length c3) (.slice A4 x.f2.length c4), .int .i64 al, .int .i64 0])) (set5v w9 w.heap.size (.int .i64 x.f0.f0) (.bool x.f0.f1) (.int .i64 x.f0.f2) (.slice A3 x.f1.length c3) (.slice A4 x.f2.length c4)).drew := ⟨below_drew (set5v_below hB2 (Nat.le_refl _) _ _ _ _ _), A3, c3, A4, c4, rfl, Kd.R_drew (Kd.R_lower (R_up h32 (set5v_keep _ _ _ _ _) (by omega)) (by omega)), Kd.R_drew (Kd.R_lower (R_up h42 (set5v_keep _ _ _ _ _) (by omega)) (by omega))⟩
        simp only [set5v] at e0 e1 e2 e3 e4 hq
        refine bodyPost_ret (v := .tuple #[kv x (.slice A3 x.f1.length c3) (.slice A4 x.f2.length c4), .int .i64 al, .int .i64 0]) ?_ rfl hq
        simp [results, Try.results17, go_sem, e0, e1, e2, e3, e4]
  · rw [if_pos her]
    have her2 : (er != 0) = true := by simpa using her
    clear HW0 HWR
    go_enter Try.func17, Try.ntmps17
    go_wp2_with (go_at_call 28; refine (HBG.out _ (below_alloc (Below.refl _ _) _)).mono ?_; rintro e w1 ⟨rfl, hb1⟩; have HZ1 := Lib.hid (blk_below (blk_new w (.cells #[.int .i64 0, .bool false, .int .i64 0, .slice none 0 0, .slice none 0 0] 27)) hb1); have HB1 := Lib.hid (below_then (below_alloc (Below.refl _ _) _) (by simp) hb1 : Below w.heap.size w w1); have hz0 : ∀ o, (w1.alloc o).cell? ⟨w.heap.size, 0, none⟩ = some (.int .i64 0) := fun o => blk_cell (blk_below HZ1.out (below_alloc (Below.refl _ _) o)) 0; have hf0 : ∀ o, (w1.alloc o).frozen? ⟨w.heap.size, 0, none⟩ = false := fun o => blk_frozen (blk_below HZ1.out (below_alloc (Below.refl _ _) o)) 0; have hz1 : ∀ o, (w1.alloc o).cell? ⟨w.heap.size, 1, none⟩ = some (.bool false) := fun o => blk_cell (blk_below HZ1.out (below_alloc (Below.refl _ _) o)) 1; have hf1 : ∀ o, (w1.alloc o).frozen? ⟨w.heap.size, 1, none⟩ = false := fun o => blk_frozen (blk_below HZ1.out (below_alloc (Below.refl _ _) o)) 1; have hz2 : ∀ o, (w1.alloc o).cell? ⟨w.heap.size, 2, none⟩ = some (.int .i64 0) := fun o => blk_cell (blk_below HZ1.out (below_alloc (Below.refl _ _) o)) 2; have hf2 : ∀ o, (w1.alloc o).frozen? ⟨w.heap.size, 2, none⟩ = false := fun o => blk_frozen (blk_below HZ1.out (below_alloc (Below.refl _ _) o)) 2; have hz3 : ∀ o, (w1.alloc o).cell? ⟨w.heap.size, 3, none⟩ = some (.slice none 0 0) := fun o => blk_cell (blk_below HZ1.out (below_alloc (Below.refl _ _) o)) 3; have hf3 : ∀ o, (w1.alloc o).frozen? ⟨w.heap.size, 3, none⟩ = false := fun o => blk_frozen (blk_below HZ1.out (below_alloc (Below.refl _ _) o)) 3; have hz4 : ∀ o, (w1.alloc o).cell? ⟨w.heap.size, 4, none⟩ = some (.slice none 0 0) := fun o => blk_cell (blk_below HZ1.out (below_alloc (Below.refl _ _) o)) 4; have hf4 : ∀ o, (w1.alloc o).frozen? ⟨w.heap.size, 4, none⟩ = false := fun o => blk_frozen (blk_below HZ1.out (below_alloc (Below.refl _ _) o)) 4; clear hb1)
    obtain ⟨e0, e1, e2, e3, e4⟩ := set5v_cells (blk_below HZ1.out (below_alloc (Below.refl _ _) (.cells #[.int .i64 cl, .bool md, .int .i64 nn, .int .i64 h0, .int .i64 al] 67))) (.int .i64 0) (.bool false) (.int .i64 0) (.slice none 0 0) (.slice none 0 0)
    have hq : ParseQ w (.error er) (.returned (.tuple #[zv, .int .i64 0, .int .i64 er])) (set5v (w1.alloc (.cells #[.int .i64 cl, .bool md, .int .i64 nn, .int .i64 h0, .int .i64 al] 67)) w.heap.size (.int .i64 0) (.bool false) (.int .i64 0) (.slice none 0 0) (.slice none 0 0)) := ⟨set5v_below (below_alloc HB1.out _) (Nat.le_refl _) _ _ _ _ _, rfl⟩
    simp only [set5v] at e0 e1 e2 e3 e4 hq
    refine bodyPost_ret (v := .tuple #[zv, .int .i64 0, .int .i64 er]) ?_ rfl hq
    simp [results, Try.results17, go_sem, e0, e1, e2, e3, e4]
end Go.Proofs.Ytkhghgmonjebnaa.B
