/- WholeOrder: the walk. Conditions: none beyond the statement's own. -/
import Derived.Test.YtcbppladofnnlaaDoorOrdW
import Derived.Test.YtcbppladofnnlaaDoorGrow
namespace Go.Proofs.YtcbppladofnnlaaDoor.O
open Go.RowKit Go.Proofs.YtcbppladofnnlaaDoor.H Go.Proofs.YtcbppladofnnlaaDoor.M Go.Proofs.YtcbppladofnnlaaDoorW.PrintWords Go.Proofs.YtcbppladofnnlaaDoorW.PrintLast Go.Proofs.YtcbppladofnnlaaDoorW.PrintMore
set_option linter.unusedVariables false
set_option linter.unusedSimpArgs false
theorem cmp_range (a b : Bs) : cmp a b = -1 ∨ cmp a b = 0 ∨ cmp a b = 1 := by
  rw [cmp_eq]
  cases num a <;> cases num b <;> simp only [cmpO, cmpI] <;> (repeat' split) <;> decide
theorem cmp_text (x y : Int) : cmp (text x) (text y) = cmpI x y := by rw [cmp_eq, num_text, num_text]; rfl
theorem text_size (x : Int) (h0 : -9223372036854775808 ≤ x) (h1 : x ≤ 9223372036854775807) : (mk (text x)).size ≤ 4000000000 := by
  have := dec_le (m := x.natAbs) (by omega)
  rw [mk_size]
  unfold text
  split <;> simp <;> omega
theorem f_lt (x y : Int) : (decide (cmpI x y < 0) != decide (x < y)) = false := by
  unfold cmpI
  by_cases h : x < y
  · simp [h]
  · by_cases h2 : x = y <;> simp [h, h2]
theorem f_eq (x y : Int) : ((cmpI x y == 0) != (x == y)) = false := by
  unfold cmpI
  by_cases h : x < y
  · have : x ≠ y := by omega
    simp [h, this]
  · by_cases h2 : x = y <;> simp [h, h2]
theorem f_neg (a b : Bs) : (cmp a b != wrap64 (-(cmp b a))) = false := by
  have h1 := cmpO_anti (num a) (num b)
  rw [← cmp_eq, ← cmp_eq] at h1
  have h2 := cmp_range b a
  have : wrap64 (-(cmp b a)) = -(cmp b a) := by unfold wrap64; omega
  rw [this, h1]
  simp
theorem f_zero (a b : Bs) : ((cmp a b == 0) != ((mk (plain a)).toList == (mk (plain b)).toList)) = false := by
  rw [mk_toList, mk_toList, cmp_eq]
  have h1 := cmpO_zero (num a) (num b)
  have h2 := plain_iff a b
  by_cases h : num a = num b
  · simp [h1.2 h, h2.2 h]
  · have h3 : cmpO (num a) (num b) ≠ 0 := fun e => h (h1.1 e)
    have h4 : plain a ≠ plain b := fun e => h (h2.1 e)
    rw [beq_eq_false_iff_ne.2 h3, beq_eq_false_iff_ne.2 h4]
    rfl
theorem g_lt {r x y : Int} (h : r = cmpI x y) : (decide (r < 0) != decide (x < y)) = false := by rw [h]; exact f_lt x y
theorem g_eq {r x y : Int} (h : r = cmpI x y) : ((r == 0) != (x == y)) = false := by rw [h]; exact f_eq x y
theorem g_neg {p q : Int} {a b : Bs} (h : p = cmp a b) (h2 : q = cmp b a) : (p != wrap64 (-q)) = false := by rw [h, h2]; exact f_neg a b
theorem g_zero {p : Int} {u v : ByteArray} {a b : Bs} (h : p = cmp a b) (hu : u = mk (plain a)) (hv : v = mk (plain b)) : ((p == 0) != (u.toList == v.toList)) = false := by rw [h, hu, hv]; exact f_zero a b
theorem cmp_var (a b : ByteArray) (w : World) (ha : a.size ≤ 4000000000) (hb : b.size ≤ 4000000000) :
    Calls Tryd.prog 8 #[.string a, .string b] w fun e w' => ∃ r, e = .returned (.int .i64 r) ∧ r = cmp (L a) (L b) ∧ Below w.heap.size w w' :=
  (cmp_calls a b w ha hb).mono fun e w' ⟨he, hb⟩ => ⟨_, he, rfl, hb⟩
theorem plain_var (a : ByteArray) (w : World) (ha : a.size ≤ 4000000000) :
    Calls Tryd.prog 9 #[.string a] w fun e w' => ∃ r, e = .returned (.string r) ∧ r = mk (plain (L a)) ∧ Below w.heap.size w w' :=
  (plain_calls a w ha).mono fun e w' ⟨he, hb⟩ => ⟨_, he, rfl, hb⟩
theorem digits_var (x : Int) (w : World) (h0 : -9223372036854775808 ≤ x) (h1 : x ≤ 9223372036854775807) :
    Calls Tryd.prog 7 #[.int .i64 x] w fun e w' => ∃ r, e = .returned (.string r) ∧ r = mk (text x) ∧ Below w.heap.size w w' :=
  (digits_calls x w h0 h1).mono fun e w' ⟨he, hb⟩ => ⟨_, he, rfl, hb⟩
theorem bad {p q : Bool} (h : (p != q) = false) (h2 : (!(p == q)) = true) : False := by cases p <;> cases q <;> simp_all
theorem bad6 {A B : Prop} [Decidable A] [Decidable B] (h : (decide A != decide B) = false) (h2 : ¬ (A ↔ B)) : False := by
  by_cases a : A <;> by_cases b : B <;> simp_all
theorem f_trans (a b x : Bs) (h1 : cmp a b ≤ 0) (h2 : cmp b x ≤ 0) : cmp a x ≤ 0 := by
  rw [cmp_eq] at *
  exact cmpO_trans h1 h2

set_option maxHeartbeats 1500000 in
theorem order_short (x y : Int) (a b : ByteArray) (w : World) (hx : -9223372036854775808 ≤ x ∧ x ≤ 9223372036854775807) (hy : -9223372036854775808 ≤ y ∧ y ≤ 9223372036854775807) (hs : (a.size : Int) + (b.size : Int) ≤ 600) :
    Calls Tryd.prog 3 #[.agg #[.int .i64 x, .int .i64 y], .string a, .string b] w fun e w' => e = .returned (.bool true) ∧ Below w.heap.size w w' := by
  have SA := Lib.hid (show a.size ≤ 4000000000 by omega)
  have SB := Lib.hid (show b.size ≤ 4000000000 by omega)
  have SX := Lib.hid (text_size x hx.1 hx.2)
  have SY := Lib.hid (text_size y hy.1 hy.2)
  have t1 : decide ((600 : Int) < wrap64 ((a.size : Int) + (b.size : Int))) = false := by
    rw [show wrap64 ((a.size : Int) + (b.size : Int)) = (a.size : Int) + (b.size : Int) by unfold wrap64; omega]
    simp
    omega
  clear hs
  go_enter Tryd.func3, Tryd.ntmps3
  go_wp2_with fail
  have hblk : (w.alloc (.cells #[.int .i64 x, .int .i64 y] 22)).heap[w.heap.size]? = some (.cells #[.int .i64 x, .int .i64 y] 22 (0, 0)) := blk_new w _
  have hb0 : Below w.heap.size w (w.alloc (.cells #[.int .i64 x, .int .i64 y] 22)) := below_alloc (Below.refl _ _) _
  generalize w.alloc (.cells #[.int .i64 x, .int .i64 y] 22) = W0 at *
  generalize hg : w.heap.size = g at hblk
  have hc0 : W0.cell? ⟨g, 0, none⟩ = some (.int .i64 x) := (blk_cell hblk 0).trans rfl
  have hc1 : W0.cell? ⟨g, 1, none⟩ = some (.int .i64 y) := (blk_cell hblk 1).trans rfl
  have HB := Lib.hid hb0
  clear hblk hb0
  refine start_ (n := 8) (S := fun w' => (w'.cell? ⟨g, 0, none⟩ = some (.int .i64 x)) ∧ (w'.cell? ⟨g, 1, none⟩ = some (.int .i64 y)) ∧ (Below w.heap.size w w')) (ds := []) #[false, false, false, false, false, false, false, false] (by kernel_rfl) rfl rfl ⟨hc0, hc1, (below_drew HB.out)⟩ (fun hHeld => ?_)
  refine pure_ (i := 0) (N := some 18) (v := ?_) (a' := ?_) #[true, false, false, false, false, false, false, false] rfl rfl (by kernel_rfl) (fun _ _ _ h => h) (Or.inl ⟨by rfl, ?_⟩) ?_ ?_
  rotate_left
  · intro w'
    go_simp
    with_reducible rfl
  rotate_left
  · simp only [Act.put, List.setIfInBounds_toArray, List.set_cons_zero, List.set_cons_succ, i64_w, i32_w]
    rfl
  refine pure_ (i := 3) (N := some 21) (v := ?_) (a' := ?_) #[true, false, false, true, false, false, false, false] rfl rfl (by kernel_rfl) (fun _ _ _ h => h) (Or.inl ⟨by rfl, ?_⟩) ?_ ?_
  rotate_left
  · intro w'
    go_simp
    with_reducible rfl
  rotate_left
  · simp only [Act.put, List.setIfInBounds_toArray, List.set_cons_zero, List.set_cons_succ, i64_w, i32_w]
    rfl
  refine take_ (i := 1) (N := some 19) (v := ?_) (a' := ?_) #[true, true, false, true, false, false, false, false] rfl rfl (by kernel_rfl) (fun _ _ _ h => h) (Or.inl ⟨by rfl, ?_⟩) hHeld ?_ ?_
  rotate_left
  · rintro w' ⟨c0, c1, hB⟩
    go_simp
    with_reducible rfl
  rotate_left
  · simp only [Act.put, List.setIfInBounds_toArray, List.set_cons_zero, List.set_cons_succ, i64_w, i32_w]
    rfl
  refine take_ (i := 4) (N := some 22) (v := ?_) (a' := ?_) #[true, true, false, true, true, false, false, false] rfl rfl (by kernel_rfl) (fun _ _ _ h => h) (Or.inl ⟨by rfl, ?_⟩) hHeld ?_ ?_
  rotate_left
  · rintro w' ⟨c0, c1, hB⟩
    go_simp
    with_reducible rfl
  rotate_left
  · simp only [Act.put, List.setIfInBounds_toArray, List.set_cons_zero, List.set_cons_succ, i64_w, i32_w]
    rfl
  refine one_ (i := 2) (N := some 20) #[true, true, true, true, true, false, false, false] rfl rfl (by kernel_rfl) (by decide) (fun K hK => ?_)
  obtain ⟨c0, c1, hB⟩ := hHeld
  refine goes_ Tryd.func7 (by kernel_rfl) rfl #[.int .i64 x] (by rfl) rfl rfl (by simp only [List.map_toArray, List.map_cons, List.map_nil]; rfl) ?_
  with_reducible refine (digits_var x _ hx.1 hx.2).mono ?_
  rintro e w20 ⟨DX, rfl, hdx, hb⟩
  refine ⟨_, rfl, ?_⟩
  have HDX := Lib.hid hdx
  clear hdx
  refine hK.out _ _ ⟨(pw_cell_below hb c0), (pw_cell_below hb c1), (below_step hB hb)⟩ (fun hHeld => ?_)
  clear hK K
  refine norm_ (a' := ?_) ?_ ?_
  rotate_left
  · show Act.put _ (some 20) _ = _
    simp only [Act.put, List.setIfInBounds_toArray, List.set_cons_zero, List.set_cons_succ, i64_w, i32_w]
    rfl
  refine one_ (i := 5) (N := some 23) #[true, true, true, true, true, true, false, false] rfl rfl (by kernel_rfl) (by decide) (fun K hK => ?_)
  obtain ⟨c0, c1, hB⟩ := hHeld
  refine goes_ Tryd.func7 (by kernel_rfl) rfl #[.int .i64 y] (by rfl) rfl rfl (by simp only [List.map_toArray, List.map_cons, List.map_nil]; rfl) ?_
  with_reducible refine (digits_var y _ hy.1 hy.2).mono ?_
  rintro e w23 ⟨DY, rfl, hdy, hb⟩
  refine ⟨_, rfl, ?_⟩
  have HDY := Lib.hid hdy
  clear hdy
  refine hK.out _ _ ⟨(pw_cell_below hb c0), (pw_cell_below hb c1), (below_step hB hb)⟩ (fun hHeld => ?_)
  clear hK K
  refine norm_ (a' := ?_) ?_ ?_
  rotate_left
  · show Act.put _ (some 23) _ = _
    simp only [Act.put, List.setIfInBounds_toArray, List.set_cons_zero, List.set_cons_succ, i64_w, i32_w]
    rfl
  refine pure_ (i := 6) (N := some 7) (v := ?_) (a' := ?_) #[true, true, true, true, true, true, true, false] rfl rfl (by kernel_rfl) (fun _ _ _ h => h) (Or.inl ⟨by rfl, ?_⟩) ?_ ?_
  rotate_left
  · intro w'
    go_simp
    with_reducible rfl
  rotate_left
  · simp only [Act.put, List.setIfInBounds_toArray, List.set_cons_zero, List.set_cons_succ, i64_w, i32_w]
    rfl
  refine pure_ (i := 7) (N := some 8) (v := ?_) (a' := ?_) #[true, true, true, true, true, true, true, true] rfl rfl (by kernel_rfl) (fun _ _ _ h => h) (Or.inl ⟨by rfl, ?_⟩) ?_ ?_
  rotate_left
  · intro w'
    go_simp
    with_reducible rfl
  rotate_left
  · simp only [Act.put, List.setIfInBounds_toArray, List.set_cons_zero, List.set_cons_succ, i64_w, i32_w]
    rfl
  refine done_ (by kernel_rfl) ?_
  obtain ⟨c0, c1, hB⟩ := hHeld
  have HB := Lib.hid hB
  clear hB hc0 hc1
  have hXY := Lib.hid (show cmp (L DX) (L DY) = cmpI x y by rw [HDX.out, HDY.out]; exact cmp_text x y)
  have SX2 := Lib.hid (show DX.size ≤ 4000000000 by rw [HDX.out]; exact SX.out)
  have SY2 := Lib.hid (show DY.size ≤ 4000000000 by rw [HDY.out]; exact SY.out)
  clear SX SY
  have SX := SX2
  have SY := SY2
  clear SX2 SY2
  go_wp2_with (first | (go_at_call_of 8 (Value.string DX); with_reducible refine (cmp_var DX DY _ SX.out SY.out).mono ?_; rintro e wz ⟨K, rfl, hK, hb⟩; have HK := Lib.hid hK; clear hK; have k1 := g_lt (HK.out.trans (hXY.out)); have k2 := g_eq (HK.out.trans (hXY.out)); have BN := Lib.hid (below_step HB.out hb); have d0 := pw_cell_below hb c0; have d1 := pw_cell_below hb c1; clear HB c0 c1; have HB := BN; have c0 := d0; have c1 := d1; clear BN d0 d1 hb) | (go_at_call_of 8 (Value.string a); with_reducible refine (cmp_var a b _ SA.out SB.out).mono ?_; rintro e wz ⟨P, rfl, hP, hb⟩; have HP := Lib.hid hP; clear hP; have BN := Lib.hid (below_step HB.out hb); have d0 := pw_cell_below hb c0; have d1 := pw_cell_below hb c1; clear HB c0 c1; have HB := BN; have c0 := d0; have c1 := d1; clear BN d0 d1 hb) | (go_at_call_of 8 (Value.string b); with_reducible refine (cmp_var b a _ SB.out SA.out).mono ?_; rintro e wz ⟨Q, rfl, hQ, hb⟩; have HQ := Lib.hid hQ; clear hQ; have k3 := g_neg HP.out HQ.out; have BN := Lib.hid (below_step HB.out hb); have d0 := pw_cell_below hb c0; have d1 := pw_cell_below hb c1; clear HB c0 c1; have HB := BN; have c0 := d0; have c1 := d1; clear BN d0 d1 hb) | (go_at_call_of 9 (Value.string a); with_reducible refine (plain_var a _ SA.out).mono ?_; rintro e wz ⟨U, rfl, hU, hb⟩; have HU := Lib.hid hU; clear hU; have BN := Lib.hid (below_step HB.out hb); have d0 := pw_cell_below hb c0; have d1 := pw_cell_below hb c1; clear HB c0 c1; have HB := BN; have c0 := d0; have c1 := d1; clear BN d0 d1 hb) | (go_at_call_of 9 (Value.string b); with_reducible refine (plain_var b _ SB.out).mono ?_; rintro e wz ⟨V, rfl, hV, hb⟩; have HV := Lib.hid hV; clear hV; have k4 := g_zero HP.out HU.out HV.out; have BN := Lib.hid (below_step HB.out hb); have d0 := pw_cell_below hb c0; have d1 := pw_cell_below hb c1; clear HB c0 c1; have HB := BN; have c0 := d0; have c1 := d1; clear BN d0 d1 hb) | (go_at_call_of 8 (Value.string b); with_reducible refine (cmp_var b DX _ SB.out SX.out).mono ?_; rintro e wz ⟨R, rfl, hR, hb⟩; have HR := Lib.hid hR; clear hR; have BN := Lib.hid (below_step HB.out hb); have d0 := pw_cell_below hb c0; have d1 := pw_cell_below hb c1; clear HB c0 c1; have HB := BN; have c0 := d0; have c1 := d1; clear BN d0 d1 hb) | (go_at_call_of 8 (Value.string a); with_reducible refine (cmp_var a DX _ SA.out SX.out).mono ?_; rintro e wz ⟨S, rfl, hS, hb⟩; have HS := Lib.hid hS; clear hS; have k5 := f_trans (L a) (L b) (L DX); rw [← HP.out, ← HR.out, ← HS.out] at k5; have K5 := Lib.hid k5; clear k5; have BN := Lib.hid (below_step HB.out hb); have d0 := pw_cell_below hb c0; have d1 := pw_cell_below hb c1; clear HB c0 c1; have HB := BN; have c0 := d0; have c1 := d1; clear BN d0 d1 hb))
  · rename_i _ h2
    exact absurd h2 (bad k2)
  · rename_i h2
    exact absurd h2 (bad k4)
  · have k6 : decide (S ≤ 0) = true := decide_eq_true (K5.out (by assumption) (by assumption))
    go_ret
    exact ⟨by rw [k6]; rfl, HB.out⟩
  · go_ret
    exact ⟨rfl, by rw [← hg]; exact HB.out⟩
  · go_ret
    exact ⟨rfl, by rw [← hg]; exact HB.out⟩
  · rename_i h2
    exact absurd h2 (bad6 k1)
set_option maxHeartbeats 1500000 in
theorem order_long (x y : Int) (a b : ByteArray) (w : World) (ha : a.size ≤ 140737488351232) (hb : b.size ≤ 140737488351232) (hs : 600 < (a.size : Int) + (b.size : Int)) :
    Calls Tryd.prog 3 #[.agg #[.int .i64 x, .int .i64 y], .string a, .string b] w fun e w' => e = .returned (.bool true) ∧ Below w.heap.size w w' := by
  have t1 : decide ((600 : Int) < wrap64 ((a.size : Int) + (b.size : Int))) = true := by
    rw [show wrap64 ((a.size : Int) + (b.size : Int)) = (a.size : Int) + (b.size : Int) by unfold wrap64; omega]
    simp
    omega
  clear hs ha hb
  go_enter Tryd.func3, Tryd.ntmps3
  go_wp2_with fail
  go_ret
  exact ⟨rfl, below_alloc (Below.refl _ _) _⟩
theorem order_walk (x y : Int) (a b : ByteArray) (w : World) (hx : -9223372036854775808 ≤ x ∧ x ≤ 9223372036854775807) (hy : -9223372036854775808 ≤ y ∧ y ≤ 9223372036854775807) (ha : a.size ≤ 140737488351232) (hb : b.size ≤ 140737488351232) :
    Calls Tryd.prog 3 #[.agg #[.int .i64 x, .int .i64 y], .string a, .string b] w fun e w' => e = .returned (.bool true) ∧ Below w.heap.size w w' := by
  by_cases h : (a.size : Int) + (b.size : Int) ≤ 600
  · exact order_short x y a b w hx hy h
  · exact order_long x y a b w ha hb (by omega)
end Go.Proofs.YtcbppladofnnlaaDoor.O
