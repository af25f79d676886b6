/- What Own tells of an element: the reference's element, that shares the bytes, and how great it is: the walk. Condition: what lies in a memory. -/
import Derived.Test.YtkhghgmonjebnaaElemW
namespace Go.Proofs.Ytkhghgmonjebnaa.B
open Go.RowKit Go.Proofs.YtkhghgmonjebnaaW.PrintWords Go.Proofs.YtkhghgmonjebnaaW.PrintLast Go.Proofs.YtkhghgmonjebnaaW.PrintMore
open Go.Proofs.Ytkhghgmonjebnaa.H Go.Proofs.Ytkhghgmonjebnaa.K
set_option linter.unusedVariables false
set_option linter.unusedSimpArgs false

/-- Bytes that lie in an elder world. -/
def oldK (w0 : World) : Kd (List Int) where
  sz := 1
  E := []
  K := fun _ xs cs => ∃ A c, cs = [.slice A xs.length c] ∧ xs.length ≤ c ∧ Kd.C (Kd.int .u8) w0 A xs.length xs
  M := fun _ _ _ xs cs => ∃ A c, cs = [.slice A xs.length c] ∧ xs.length ≤ c ∧ Kd.C (Kd.int .u8) w0 A xs.length xs
  K_len := by
    rintro w x cs ⟨A, c, rfl, _⟩
    rfl
  K_one := by
    rintro w x cs ⟨A, c, rfl, _⟩ u hu
    rw [List.mem_singleton.1 hu]
    rfl
  K_below := fun _ h => h
  K_of_M := fun h => h
  M_mono := fun _ h => h
  M_bound := fun h => h
  M_move := fun _ h => h
  M_lower := fun _ h => h
def F30o (w0 : World) (d : Kd S30) : Kd S30 := Kd.iso (Kd.pair (Kd.int .i64) (Kd.pair Kd.bool (Kd.pair (Kd.int .i64) (Kd.pair (oldK w0) (Kd.slice 30 d))))) (fun x : S30 => (x.f0, x.f1, x.f2, x.f3, x.f4))
theorem mono30o (w0 : World) : Kd.Mono (F30o w0) := Kd.mono_iso _ (Kd.mono_pair (Kd.mono_const _) (Kd.mono_pair (Kd.mono_const _) (Kd.mono_pair (Kd.mono_const _) (Kd.mono_pair (Kd.mono_const _) (Kd.mono_slice 30 Kd.mono_id)))))
theorem sub30o (w0 : World) : Kd.Sub (F30o w0) [30] := Kd.sub_iso _ (Kd.sub_pair (Kd.sub_const _ (by intro q hq; cases hq)) (Kd.sub_pair (Kd.sub_const _ (by intro q hq; cases hq)) (Kd.sub_pair (Kd.sub_const _ (by intro q hq; cases hq)) (Kd.sub_pair (Kd.sub_const _ (by intro q hq; cases hq)) (Kd.sub_slice 30 (by decide) Kd.sub_id)))))
theorem sz30o (w0 : World) : ∀ n, (Kd.upto (F30o w0) 5 [30] n).sz = 5 := Kd.upto_sz (fun _ => rfl)
def k30o (w0 : World) : Kd S30 := Kd.fix (F30o w0) 5 [30] (sz30o w0) (Kd.upto_E (sub30o w0))
theorem k30o_open {w0 w : World} {x : S30} {cs : List Value} (h : (k30o w0).K w x cs) : ∃ A3 c3 A4 c4, cs = [.int .i64 x.f0, .bool x.f1, .int .i64 x.f2, .slice A3 x.f3.length c3, .slice A4 x.f4.length c4] ∧ x.f3.length ≤ c3 ∧ (Kd.int .u8).C w0 A3 x.f3.length x.f3 ∧ x.f4.length ≤ c4 ∧ (k30o w0).C w A4 x.f4.length x.f4 := by
  obtain ⟨n, h⟩ := h
  cases n with
  | zero => exact h.elim
  | succ n =>
    obtain ⟨_, _, rfl, rfl, ⟨_, _, rfl, rfl, ⟨_, _, rfl, rfl, ⟨_, _, rfl, ⟨A3, c3, rfl, l3, g3⟩, ⟨A4, c4, rfl, l4, g4⟩⟩⟩⟩⟩ := h
    exact ⟨A3, c3, A4, c4, rfl, l3, g3, l4, Kd.fix_C g4⟩
theorem k30o_mkM (w0 w : World) (base : Nat) (ok : Nat → Prop) (x : S30) {A3 : Option Addr} {c3 : Nat} (l3 : x.f3.length ≤ c3) (g3 : (Kd.int .u8).C w0 A3 x.f3.length x.f3) {v4 : Value} (g4 : (k30o w0).R 30 w base ok v4 x.f4) : (k30o w0).M w base ok x [.int .i64 x.f0, .bool x.f1, .int .i64 x.f2, .slice A3 x.f3.length c3, v4] := by
  obtain ⟨n4, q4⟩ := Kd.fix_R_back (mono30o w0) g4
  have r4 := Kd.upto_R_le (mono30o w0) (sz30o w0) (show n4 ≤ n4 by omega) q4
  exact ⟨n4 + 1, ⟨[.int .i64 x.f0], [.bool x.f1, .int .i64 x.f2, .slice A3 x.f3.length c3, v4], rfl, rfl, ⟨[.bool x.f1], [.int .i64 x.f2, .slice A3 x.f3.length c3, v4], rfl, rfl, ⟨[.int .i64 x.f2], [.slice A3 x.f3.length c3, v4], rfl, rfl, ⟨[.slice A3 x.f3.length c3], [v4], rfl, ⟨A3, c3, rfl, l3, g3⟩, ⟨v4, rfl, r4⟩⟩⟩⟩⟩⟩
theorem info30 : (Try.prog.info? 30).map (fun i => (i.zero, i.size, i.bytes)) = some (some (.agg #[.int .i64 0, .bool false, .int .i64 0, .slice none 0 0, .slice none 0 0]), 5, 72) := by kernel_rfl

mutual
/-- What Own tells. -/
def ownR : S27 → Nat → S30 × Int
  | ⟨t, b, k⟩, d => if 60 < d then (⟨t.f0, t.f1, t.f2, b, []⟩, 1048576) else
    (⟨t.f0, t.f1, t.f2, b, (ownL k d [] (1 + min (b.length : Int) 30000)).1⟩, (ownL k d [] (1 + min (b.length : Int) 30000)).2)
def ownL : List S27 → Nat → List S30 → Int → List S30 × Int
  | [], _, ks, n => (ks, n)
  | k :: l, d, ks, n => if n < 1048576 then ownL l d (ks ++ [(ownR k (d + 1)).1]) (n + (ownR k (d + 1)).2) else (ks, n)
end
theorem own_bound (x : S27) : ∀ d, d ≤ 61 → 1 ≤ (ownR x d).2 ∧ (ownR x d).2 ≤ (62 - (d : Int)) * 1100000 := by
  refine ind (P := fun x => ∀ d, d ≤ 61 → 1 ≤ (ownR x d).2 ∧ (ownR x d).2 ≤ (62 - (d : Int)) * 1100000) ?_ x
  intro t b k ih d hd
  simp only [ownR]
  split
  · simp only []; omega
  · have hL : ∀ (k : List S27), (∀ x ∈ k, ∀ d, d ≤ 61 → 1 ≤ (ownR x d).2 ∧ (ownR x d).2 ≤ (62 - (d : Int)) * 1100000) → ∀ ks n, 1 ≤ n → n ≤ (62 - (d : Int)) * 1100000 → 1 ≤ (ownL k d ks n).2 ∧ (ownL k d ks n).2 ≤ (62 - (d : Int)) * 1100000 := by
      intro k
      induction k with
      | nil => intro _ ks n h1 h2; simp only [ownL]; exact ⟨h1, h2⟩
      | cons x k ih2 =>
        intro h ks n h1 h2
        simp only [ownL]
        split
        · have hx := h x (by simp) (d + 1) (by omega)
          exact ih2 (fun y hy => h y (by simp [hy])) _ _ (by omega) (by omega)
        · exact ⟨h1, h2⟩
    exact hL k ih [] _ (by omega) (by omega)
theorem ownR_tag (x : S27) (d : Nat) : (ownR x d).1.f0 = x.f0.f0 ∧ (ownR x d).1.f1 = x.f0.f1 ∧ (ownR x d).1.f2 = x.f0.f2 ∧ (ownR x d).1.f3 = x.f1 := by
  obtain ⟨t, b, k⟩ := x
  simp only [ownR]
  split <;> exact ⟨rfl, rfl, rfl, rfl⟩
theorem ownL_step {k : List S27} {i d : Nat} (h : i < k.length) {ks : List S30} {n : Int} (hn : n < 1048576) : ownL (k.drop i) d ks n = ownL (k.drop (i + 1)) d (ks ++ [(ownR k[i] (d + 1)).1]) (n + (ownR k[i] (d + 1)).2) := by
  rw [List.drop_eq_getElem_cons h, ownL, if_pos hn]
theorem ownL_stop {k : List S27} {d : Nat} {ks : List S30} {n : Int} (hn : ¬ n < 1048576) : ownL k d ks n = (ks, n) := by
  cases k with
  | nil => rfl
  | cons x k => rw [ownL, if_neg hn]

abbrev ov (x : S27) (A3 : Option Addr) (c3 : Nat) (v4 : Value) : Value := .agg #[.int .i64 x.f0.f0, .bool x.f0.f1, .int .i64 x.f0.f2, .slice A3 x.f1.length c3, v4]
def OwnQ (w0 w : World) (x : S27) (d : Nat) (A3 : Option Addr) (c3 : Nat) (e : Ending) (w' : World) : Prop :=
  ∃ A4 c4, e = .returned (.tuple #[ov x A3 c3 (.slice A4 (ownR x d).1.f4.length c4), .int .i64 (ownR x d).2]) ∧ Kd.R (k30o w0) 30 w' w.heap.size (fun _ => True) (.slice A4 (ownR x d).1.f4.length c4) (ownR x d).1.f4 ∧ Below w.heap.size w w'
def OwnP (x : S27) : Prop := ∀ (w0 w : World) (d : Nat) (A3 : Option Addr) (c3 : Nat) (A4 : Option Addr) (c4 : Nat), Lies w0 x A3 c3 A4 c4 → Below w0.heap.size w0 w → d ≤ 61 →
  Calls Try.prog 9 #[ev x A3 c3 A4 c4, .int .i64 (d : Int)] w fun e w' => OwnQ w0 w x d A3 c3 e w'

set_option maxRecDepth 100000 in
set_option maxHeartbeats 20000000 in
theorem own_walk (x : S27) : fitE x → OwnP x := by
  refine ind (P := fun x => fitE x → OwnP x) ?_ x
  rintro ⟨t0, t1, t2⟩ b k ih hf w0 w d A3 c3 A4 c4 hL hB hd
  simp only [fitE] at hf
  have HX0 := Lib.hid (show ∀ x ∈ k, OwnP x from fun x hx => ih x hx ((fitL_iff k).1 hf.2.2.2 x hx))
  have HC := Lib.hid hL.g4
  have HB0 := Lib.hid hB
  have HBW := Lib.hid (fun W (hW : Below w.heap.size w W) => below_then hB hB.size hW)
  have HDD := Lib.hid hd
  have HFB := Lib.hid hf.2.1
  have HFK := Lib.hid hf.2.2.1
  have e0 : ev ⟨⟨t0, t1, t2⟩, b, k⟩ A3 c3 A4 c4 = .agg #[.int .i64 t0, .bool t1, .int .i64 t2, .slice A3 b.length c3, .slice A4 k.length c4] := rfl
  rw [e0]
  have e1 : ∀ v, ov ⟨⟨t0, t1, t2⟩, b, k⟩ A3 c3 v = .agg #[.int .i64 t0, .bool t1, .int .i64 t2, .slice A3 b.length c3, v] := fun _ => rfl
  clear e0 ih hf hL hB hd
  have HCx : Hid (Kd.C k27 w0 A4 k.length k) := HC
  clear HC
  have HC := HCx
  clear HCx
  generalize hkn : k.length = kn at HC HFK ⊢
  generalize hbn : b.length = bn at HFB ⊢
  have HKE := Lib.hid hkn
  have HBL := Lib.hid hbn
  have HBN : Hid (0 ≤ bn) := Lib.hid (Nat.zero_le _)
  have hkl : kn ≤ 9223372036854775807 := HFK.out
  clear hkn hbn
  by_cases h60 : (60 : Int) < (d : Int)
  · have HE : Hid (ownR ⟨⟨t0, t1, t2⟩, b, k⟩ d = (⟨t0, t1, t2, b, []⟩, 1048576)) := Lib.hid (by simp only [ownR]; rw [if_pos (by omega)])
    by_cases hb3 : (bn : Int) ≤ 30000
    · have hb4 : ¬ (30000 : Int) < (bn : Int) := by omega
      go_enter Try.func9, Try.ntmps9
      go_wp2_with fail
      refine bodyPost_ret (v := .tuple #[.agg #[.int .i64 t0, .bool t1, .int .i64 t2, .slice A3 bn c3, .slice none 0 0], .int .i64 1048576]) ?_ rfl ?_
      · simp [results, Try.results9, go_sem]
      · unfold OwnQ
        rw [HE.out, ← HBL.out]
        exact ⟨none, 0, rfl, Kd.R_nil _ _ _ _ _, below_alloc (below_alloc (below_alloc (Below.refl _ _) _) _) _⟩
    · have hb4 : (30000 : Int) < (bn : Int) := by omega
      go_enter Try.func9, Try.ntmps9
      go_wp2_with fail
      refine bodyPost_ret (v := .tuple #[.agg #[.int .i64 t0, .bool t1, .int .i64 t2, .slice A3 bn c3, .slice none 0 0], .int .i64 1048576]) ?_ rfl ?_
      · simp [results, Try.results9, go_sem]
      · unfold OwnQ
        rw [HE.out, ← HBL.out]
        exact ⟨none, 0, rfl, Kd.R_nil _ _ _ _ _, below_alloc (below_alloc (below_alloc (Below.refl _ _) _) _) _⟩
  · have HD60 : Hid (¬ 60 < d) := Lib.hid (by omega)
    have HV3 : Hid ((((w.alloc (.cells #[.int .i64 t0, .bool t1, .int .i64 t2, .slice A3 bn c3, .slice A4 kn c4] 27)).alloc (.cells #[.int .i64 0, .bool false, .int .i64 0, .slice none 0 0, .slice none 0 0] 30)).alloc (.cells #[.int .i64 t0, .bool t1, .int .i64 t2, .slice A3 bn c3, .slice none 0 0] 30)).heap[w.heap.size]? = some (.cells #[.int .i64 t0, .bool t1, .int .i64 t2, .slice A3 bn c3, .slice A4 kn c4] 27 (0, 0))) := Lib.hid (blk_below (blk_below (blk_new w _) (below_alloc (Below.refl _ _) _)) (below_alloc (Below.refl _ _) _))
    have hs1 : (w.alloc (.cells #[.int .i64 t0, .bool t1, .int .i64 t2, .slice A3 bn c3, .slice A4 kn c4] 27)).heap.size = w.heap.size + 1 := by simp
    have hs2 : ((w.alloc (.cells #[.int .i64 t0, .bool t1, .int .i64 t2, .slice A3 bn c3, .slice A4 kn c4] 27)).alloc (.cells #[.int .i64 0, .bool false, .int .i64 0, .slice none 0 0, .slice none 0 0] 30)).heap.size = w.heap.size + 1 + 1 := by simp
    have HZ3 : Hid ((((w.alloc (.cells #[.int .i64 t0, .bool t1, .int .i64 t2, .slice A3 bn c3, .slice A4 kn c4] 27)).alloc (.cells #[.int .i64 0, .bool false, .int .i64 0, .slice none 0 0, .slice none 0 0] 30)).alloc (.cells #[.int .i64 t0, .bool t1, .int .i64 t2, .slice A3 bn c3, .slice none 0 0] 30)).heap[w.heap.size + 1]? = some (.cells #[.int .i64 0, .bool false, .int .i64 0, .slice none 0 0, .slice none 0 0] 30 (0, 0))) := Lib.hid (by have h := blk_new (w.alloc (.cells #[.int .i64 t0, .bool t1, .int .i64 t2, .slice A3 bn c3, .slice A4 kn c4] 27)) (.cells #[.int .i64 0, .bool false, .int .i64 0, .slice none 0 0, .slice none 0 0] 30); rw [hs1] at h; exact blk_below h (below_alloc (Below.refl _ _) _))
    have HO3 : Hid ((((w.alloc (.cells #[.int .i64 t0, .bool t1, .int .i64 t2, .slice A3 bn c3, .slice A4 kn c4] 27)).alloc (.cells #[.int .i64 0, .bool false, .int .i64 0, .slice none 0 0, .slice none 0 0] 30)).alloc (.cells #[.int .i64 t0, .bool t1, .int .i64 t2, .slice A3 bn c3, .slice none 0 0] 30)).heap[w.heap.size + 1 + 1]? = some (.cells #[.int .i64 t0, .bool t1, .int .i64 t2, .slice A3 bn c3, .slice none 0 0] 30 (0, 0))) := Lib.hid (by have h := blk_new ((w.alloc (.cells #[.int .i64 t0, .bool t1, .int .i64 t2, .slice A3 bn c3, .slice A4 kn c4] 27)).alloc (.cells #[.int .i64 0, .bool false, .int .i64 0, .slice none 0 0, .slice none 0 0] 30)) (.cells #[.int .i64 t0, .bool t1, .int .i64 t2, .slice A3 bn c3, .slice none 0 0] 30); rw [hs2] at h; exact h)
    have HB3 : Hid (Below w.heap.size w (((w.alloc (.cells #[.int .i64 t0, .bool t1, .int .i64 t2, .slice A3 bn c3, .slice A4 kn c4] 27)).alloc (.cells #[.int .i64 0, .bool false, .int .i64 0, .slice none 0 0, .slice none 0 0] 30)).alloc (.cells #[.int .i64 t0, .bool t1, .int .i64 t2, .slice A3 bn c3, .slice none 0 0] 30))) := Lib.hid (below_alloc (below_alloc (below_alloc (Below.refl _ _) _) _) _)
    clear hs1 hs2
    by_cases hb3 : (bn : Int) ≤ 30000
    · have hb4 : ¬ (30000 : Int) < (bn : Int) := by omega
      have HM0 : Hid ((1 : Int) + min (b.length : Int) 30000 = 1 + (bn : Int)) := Lib.hid (by rw [HBL.out]; omega)
      have HB30 : Hid ((bn : Int) ≤ 30000) := Lib.hid hb3
      go_enter Try.func9, Try.ntmps9
      go_wp2_with fail
      clear hb3 hb4
      go_loopw [7, 8] (fun v7 v8 wr => ∃ (i : Nat) (ks : List S30) (n : Int) (A6 : Option Addr) (c6 : Nat), i ≤ kn ∧ v7 = .int .i64 n ∧ v8 = .int .i64 i ∧ Hid (ownL (k.drop i) d ks n = ownL k d [] (1 + (bn : Int))) ∧ Hid (1 ≤ n ∧ n ≤ (62 - (d : Int)) * 1100000 ∧ (ks.length : Int) ≤ n) ∧ Hid (ks.length = i) ∧ Hid (Kd.R (k30o w0) 30 wr (w.heap.size + 3) (fun _ => True) (.slice A6 ks.length c6) ks) ∧ Hid (wr.heap[w.heap.size]? = some (.cells #[.int .i64 t0, .bool t1, .int .i64 t2, .slice A3 bn c3, .slice A4 kn c4] 27 (0, 0))) ∧ Hid (wr.heap[w.heap.size + 1]? = some (.cells #[.int .i64 0, .bool false, .int .i64 0, .slice none 0 0, .slice none 0 0] 30 (0, 0))) ∧ Hid (wr.heap[w.heap.size + 1 + 1]? = some (.cells #[.int .i64 t0, .bool t1, .int .i64 t2, .slice A3 bn c3, .slice A6 ks.length c6] 30 (0, 0))) ∧ Hid (Below w.heap.size w wr)) (fun _ v8 _ => kn - (intOf v8).toNat)
      case atStart => exact ⟨0, [], _, none, 0, Nat.zero_le _, rfl, rfl, Lib.hid (by rw [List.drop_zero]), Lib.hid (by have := HD60.out; have := HB30.out; simp; omega), Lib.hid rfl, Lib.hid (Kd.R_nil _ _ _ _ _), HV3, HZ3, HO3, HB3⟩
      case round =>
        clear HV3 HZ3 HO3 HB3
        obtain ⟨i, ks, n, A6, c6, hi, rfl, rfl, HLL, HNB, HKS0, HR, HV, HZ, HO, HB⟩ := hrel
        have HKS : Hid (ks.length ≤ 1000000000) := Lib.hid (by have := HNB.out; have := HDD.out; omega)
        have tcc0 : wr.cell? ⟨w.heap.size, 0, none⟩ = some (.int .i64 t0) := (blk_cell HV.out 0).trans rfl
        have tcc1 : wr.cell? ⟨w.heap.size, 1, none⟩ = some (.bool t1) := (blk_cell HV.out 1).trans rfl
        have tcc2 : wr.cell? ⟨w.heap.size, 2, none⟩ = some (.int .i64 t2) := (blk_cell HV.out 2).trans rfl
        have tcc3 : wr.cell? ⟨w.heap.size, 3, none⟩ = some (.slice A3 bn c3) := (blk_cell HV.out 3).trans rfl
        have tcc4 : wr.cell? ⟨w.heap.size, 4, none⟩ = some (.slice A4 kn c4) := (blk_cell HV.out 4).trans rfl
        by_cases hlt : (i : Int) < (kn : Int)
        · by_cases hn : n < 1048576
          · skip
            have hlt2 : i < k.length := by have := HKE.out; omega
            obtain ⟨ad, a3, e3, a4, e4, rfl, hLx, h0, h1, h2, h3, h4⟩ := at_ HC.out i hlt2 HKE.out.symm
            replace h0 := pw_cell_below (HBW.out _ HB.out) h0
            replace h1 := pw_cell_below (HBW.out _ HB.out) h1
            replace h2 := pw_cell_below (HBW.out _ HB.out) h2
            replace h3 := pw_cell_below (HBW.out _ HB.out) h3
            replace h4 := pw_cell_below (HBW.out _ HB.out) h4
            have HLx := Lib.hid hLx
            have HX := Lib.hid (HX0.out k[i] (List.getElem_mem hlt2))
            have HST := Lib.hid (ownL_step (d := d) (ks := ks) hlt2 hn)
            have HBX := Lib.hid (own_bound k[i] (d + 1) (by have := HD60.out; omega))
            have HTG := Lib.hid (ownR_tag k[i] (d + 1))
            clear hLx
            generalize k[i] = x at h0 h1 h2 h3 h4 HLx HX HST HBX HTG
            have HD1 : Hid (((d : Int) + 1) = ((d + 1 : Nat) : Int)) := Lib.hid (by omega)
            have HBw := Lib.hid (HBW.out _ HB.out)
            obtain ⟨ks2, hks2⟩ : ∃ l, l = ks ++ [(ownR x (d + 1)).1] := ⟨_, rfl⟩
            have HK2 := Lib.hid hks2
            have HKL2 : Hid (ks2.length = i + 1) := Lib.hid (by rw [hks2]; simp [HKS0.out])
            rw [← hks2] at HST
            clear hks2
            skip
            obtain ⟨m, hm⟩ : ∃ m, m = (ownR x (d + 1)).2 := ⟨_, rfl⟩
            have HMM := Lib.hid hm
            rw [← hm] at HST HBX
            clear hm
            have hw1 : wrap64 (n + m) = n + m := by have := HBX.out; have := HNB.out; have := HDD.out; unfold wrap64; omega
            have HK72 : Hid ((ks.length + 1) * 72 ≤ 140737488355328) := Lib.hid (by have := HKS.out; omega)
            have MX : ∀ (A5 : Option Addr) (c5 : Nat), Hid (∀ (W : World) (ok : Nat → Prop), Kd.R (k30o w0) 30 W (w.heap.size + 3) ok (.slice A5 (ownR x (d + 1)).1.f4.length c5) (ownR x (d + 1)).1.f4 → Kd.M (k30o w0) W (w.heap.size + 3) ok (ownR x (d + 1)).1 [.int .i64 x.f0.f0, .bool x.f0.f1, .int .i64 x.f0.f2, .slice a3 x.f1.length e3, .slice A5 (ownR x (d + 1)).1.f4.length c5]) := fun A5 c5 => Lib.hid (fun W ok h => by obtain ⟨q0, q1, q2, q3⟩ := HTG.out; have hh := k30o_mkM w0 W (w.heap.size + 3) ok (ownR x (d + 1)).1 (A3 := a3) (c3 := e3) (by rw [q3]; exact HLx.out.l3) (by rw [q3]; exact HLx.out.g3) h; rw [q0, q1, q2, q3] at hh; exact hh)
            go_wp2_with (first | (go_at_call 9; rw [HD1.out]; refine (HX.out w0 _ (d + 1) a3 e3 a4 e4 HLx.out HBw.out (by have := HDD.out; omega)).mono ?_; rintro e w5 ⟨A5, c5, rfl, ho, hb⟩; have HV5 := Lib.hid (blk_below HV.out hb); have HO5 := Lib.hid (blk_below HO.out hb); have HZ5 := Lib.hid (blk_below HZ.out hb); have HR5 := Lib.hid (Kd.R_below HR.out hb); have HS5 := Lib.hid (Kd.R_lower (Kd.R_mono (Kd.R_bound ho) (fun k hk e => by have h1 := Kd.R_lt HR.out k e.symm; have h2 := hk.2.1; omega)) (blk_lt HO.out) : Kd.R (k30o w0) 30 w5 (w.heap.size + 3) (fun k => some k ≠ (Value.slice A6 ks.length c6).ownBlock) (.slice A5 (ownR x (d + 1)).1.f4.length c5) (ownR x (d + 1)).1.f4); have HB5 := Lib.hid (below_then HB.out HB.out.size hb); have HSZ5 := Lib.hid (blk_lt HO5.out); have oc4 : ∀ o, (w5.alloc o).cell? ⟨w.heap.size + 1 + 1, 4, none⟩ = some (.slice A6 ks.length c6) := fun o => (blk_cell (blk_below HO5.out (below_alloc (Below.refl _ _) o)) 4).trans rfl; have HR5b := Lib.hid (show Kd.R (k30o w0) 30 (w5.alloc (.cells #[.int .i64 x.f0.f0, .bool x.f0.f1, .int .i64 x.f0.f2, .slice a3 x.f1.length e3, .slice A5 (ownR x (d + 1)).1.f4.length c5] 30)) (w.heap.size + 3) (fun _ => True) (.slice A6 ks.length c6) ks from Kd.R_below HR5.out (below_alloc (Below.refl _ _) _)); have HS1 := Lib.hid (show (w5.alloc (.cells #[.int .i64 x.f0.f0, .bool x.f0.f1, .int .i64 x.f0.f2, .slice a3 x.f1.length e3, .slice A5 (ownR x (d + 1)).1.f4.length c5] 30)).heap.size = w5.heap.size + 1 by simp); have HSZb := Lib.hid (show w.heap.size + 3 ≤ (w5.alloc (.cells #[.int .i64 x.f0.f0, .bool x.f0.f1, .int .i64 x.f0.f2, .slice a3 x.f1.length e3, .slice A5 (ownR x (d + 1)).1.f4.length c5] 30)).heap.size by have := HSZ5.out; simp; omega); have HM5 := Lib.hid ((MX A5 c5).out (w5.alloc (.cells #[.int .i64 x.f0.f0, .bool x.f0.f1, .int .i64 x.f0.f2, .slice a3 x.f1.length e3, .slice A5 (ownR x (d + 1)).1.f4.length c5] 30)) _ (Kd.R_below HS5.out (below_alloc (Below.refl _ _) _))); clear ho hb) | ((with_reducible refine gate_builtin (b := .append) (xs := #[.tmp 54, .tmp 56]) rfl ?_); at_builtin; refine Kd.R_append (k30o w0) (w0 := (w5.alloc (.cells #[.int .i64 x.f0.f0, .bool x.f0.f1, .int .i64 x.f0.f2, .slice a3 x.f1.length e3, .slice A5 (ownR x (d + 1)).1.f4.length c5] 30))) (w.heap.size + 3) rfl (.tmp 54) (.tmp 56) 28 30 (.agg #[.int .i64 0, .bool false, .int .i64 0, .slice none 0 0, .slice none 0 0]) 72 rfl Try.underlying28 info30 rfl (Nat.succ_pos 4) (by omega) (.slice A6 ks.length c6) ks (ownR x (d + 1)).1 [.int .i64 x.f0.f0, .bool x.f0.f1, .int .i64 x.f0.f2, .slice a3 x.f1.length e3, .slice A5 (ownR x (d + 1)).1.f4.length c5] (fun _ => True) (fun k => some k ≠ (Value.slice A6 ks.length c6).ownBlock) rfl ?ax HM5.out (fun k hk => ⟨trivial, hk⟩) (fun _ _ => trivial) HR5b.out (Below.refl _ _) HSZb.out HK72.out ?_; (case ax => show Value.slice (some ⟨w5.heap.size + 1, 0, none⟩) 1 1 = _; rw [HS1.out]); intro v57 w57 ho9 hb9 hg9 hat9; rw [← HK2.out] at ho9; (obtain ⟨A57, c57, hv57⟩ := Kd.R_slice ho9); subst hv57; have HR57 := Lib.hid ho9; have HB57 := Lib.hid ((below_alloc HB5.out (.cells #[.int .i64 x.f0.f0, .bool x.f0.f1, .int .i64 x.f0.f2, .slice a3 x.f1.length e3, .slice A5 (ownR x (d + 1)).1.f4.length c5] 30)).trans (Below.mono hb9 (by omega))); have HV57 := Lib.hid (blk_grown (blk_below HV5.out (below_alloc (Below.refl _ _) (.cells #[.int .i64 x.f0.f0, .bool x.f0.f1, .int .i64 x.f0.f2, .slice a3 x.f1.length e3, .slice A5 (ownR x (d + 1)).1.f4.length c5] 30))) hg9 (fun e => by have := Kd.R_base HR5.out _ e.symm; omega)); have HO57 := Lib.hid (blk_grown (blk_below HO5.out (below_alloc (Below.refl _ _) (.cells #[.int .i64 x.f0.f0, .bool x.f0.f1, .int .i64 x.f0.f2, .slice a3 x.f1.length e3, .slice A5 (ownR x (d + 1)).1.f4.length c5] 30))) hg9 (fun e => by have := Kd.R_base HR5.out _ e.symm; omega)); have HZ57 := Lib.hid (blk_grown (blk_below HZ5.out (below_alloc (Below.refl _ _) (.cells #[.int .i64 x.f0.f0, .bool x.f0.f1, .int .i64 x.f0.f2, .slice a3 x.f1.length e3, .slice A5 (ownR x (d + 1)).1.f4.length c5] 30))) hg9 (fun e => by have := Kd.R_base HR5.out _ e.symm; omega)); have po4 : w57.cell? ⟨w.heap.size + 1 + 1, 4, none⟩ = some (.slice A6 ks.length c6) := (blk_cell HO57.out 4).trans rfl; have pf4 : w57.frozen? ⟨w.heap.size + 1 + 1, 4, none⟩ = false := blk_frozen HO57.out 4; clear ho9 hb9 hg9 hat9))
            go_roundw
            case rel => exact ⟨i + 1, ks2, n + m, A57, c57, by omega, by rw [← HMM.out, hw1], by go_num, Lib.hid (by rw [← HLL.out, HST.out]), Lib.hid (by have := HBX.out; have := HNB.out; have := HDD.out; have := HKL2.out; have := HKS0.out; omega), HKL2, Lib.hid (R_up HR57.out (KeepBut.set_ (KeepBut.refl _ _ _) 4 _) (by omega)), Lib.hid (blk_far HV57.out (show w.heap.size ≠ w.heap.size + 1 + 1 by omega) _), Lib.hid (blk_far HZ57.out (by simp) _), Lib.hid (blk_put HO57.out 4 _ rfl), Lib.hid (Below.setCell HB57.out (by simp; omega) _)⟩
            case measure => simp [intOf]; omega
          · skip
            have HEND : Hid (ownR ⟨⟨t0, t1, t2⟩, b, k⟩ d = (⟨t0, t1, t2, b, ks⟩, n)) := Lib.hid (by simp only [ownR]; rw [if_neg HD60.out, HM0.out, ← HLL.out, ownL_stop (by omega)])
            have occ0 : wr.cell? ⟨w.heap.size + 1 + 1, 0, none⟩ = some (.int .i64 t0) := (blk_cell HO.out 0).trans rfl
            have occ1 : wr.cell? ⟨w.heap.size + 1 + 1, 1, none⟩ = some (.bool t1) := (blk_cell HO.out 1).trans rfl
            have occ2 : wr.cell? ⟨w.heap.size + 1 + 1, 2, none⟩ = some (.int .i64 t2) := (blk_cell HO.out 2).trans rfl
            have occ3 : wr.cell? ⟨w.heap.size + 1 + 1, 3, none⟩ = some (.slice A3 bn c3) := (blk_cell HO.out 3).trans rfl
            have occ4 : wr.cell? ⟨w.heap.size + 1 + 1, 4, none⟩ = some (.slice A6 ks.length c6) := (blk_cell HO.out 4).trans rfl
            have zcc0 : wr.cell? ⟨w.heap.size + 1, 0, none⟩ = some (.int .i64 0) := (blk_cell HZ.out 0).trans rfl
            have zcc1 : wr.cell? ⟨w.heap.size + 1, 1, none⟩ = some (.bool false) := (blk_cell HZ.out 1).trans rfl
            have zcc2 : wr.cell? ⟨w.heap.size + 1, 2, none⟩ = some (.int .i64 0) := (blk_cell HZ.out 2).trans rfl
            have zcc3 : wr.cell? ⟨w.heap.size + 1, 3, none⟩ = some (.slice none 0 0) := (blk_cell HZ.out 3).trans rfl
            have zcc4 : wr.cell? ⟨w.heap.size + 1, 4, none⟩ = some (.slice none 0 0) := (blk_cell HZ.out 4).trans rfl
            have zcf0 : wr.frozen? ⟨w.heap.size + 1, 0, none⟩ = false := blk_frozen HZ.out 0
            have zcf1 : wr.frozen? ⟨w.heap.size + 1, 1, none⟩ = false := blk_frozen HZ.out 1
            have zcf2 : wr.frozen? ⟨w.heap.size + 1, 2, none⟩ = false := blk_frozen HZ.out 2
            have zcf3 : wr.frozen? ⟨w.heap.size + 1, 3, none⟩ = false := blk_frozen HZ.out 3
            have zcf4 : wr.frozen? ⟨w.heap.size + 1, 4, none⟩ = false := blk_frozen HZ.out 4
            clear HLL HNB
            go_wp2_with fail
            obtain ⟨e0, e1, e2, e3, e4⟩ := set5v_cells HZ.out (.int .i64 t0) (.bool t1) (.int .i64 t2) (.slice A3 bn c3) (.slice A6 ks.length c6)
            refine bodyPost_ret (v := .tuple #[.agg #[.int .i64 t0, .bool t1, .int .i64 t2, .slice A3 bn c3, .slice A6 ks.length c6], .int .i64 n]) ?_ rfl ?_
            · simp only [set5v] at e0 e1 e2 e3 e4
              simp [results, Try.results9, go_sem, e0, e1, e2, e3, e4]
            · unfold OwnQ
              rw [HEND.out, ← HBL.out]
              exact ⟨A6, c6, rfl, Kd.R_lower (R_up HR.out (set5v_keep _ _ _ _ _) (by omega)) (by omega), set5v_below HB.out (by omega) _ _ _ _ _⟩
        · have hik : i = kn := by omega
          have HEND : Hid (ownR ⟨⟨t0, t1, t2⟩, b, k⟩ d = (⟨t0, t1, t2, b, ks⟩, n)) := Lib.hid (by simp only [ownR]; rw [if_neg HD60.out, HM0.out, ← HLL.out, List.drop_eq_nil_of_le (by have := HKE.out; omega), ownL])
          have occ0 : wr.cell? ⟨w.heap.size + 1 + 1, 0, none⟩ = some (.int .i64 t0) := (blk_cell HO.out 0).trans rfl
          have occ1 : wr.cell? ⟨w.heap.size + 1 + 1, 1, none⟩ = some (.bool t1) := (blk_cell HO.out 1).trans rfl
          have occ2 : wr.cell? ⟨w.heap.size + 1 + 1, 2, none⟩ = some (.int .i64 t2) := (blk_cell HO.out 2).trans rfl
          have occ3 : wr.cell? ⟨w.heap.size + 1 + 1, 3, none⟩ = some (.slice A3 bn c3) := (blk_cell HO.out 3).trans rfl
          have occ4 : wr.cell? ⟨w.heap.size + 1 + 1, 4, none⟩ = some (.slice A6 ks.length c6) := (blk_cell HO.out 4).trans rfl
          have zcc0 : wr.cell? ⟨w.heap.size + 1, 0, none⟩ = some (.int .i64 0) := (blk_cell HZ.out 0).trans rfl
          have zcc1 : wr.cell? ⟨w.heap.size + 1, 1, none⟩ = some (.bool false) := (blk_cell HZ.out 1).trans rfl
          have zcc2 : wr.cell? ⟨w.heap.size + 1, 2, none⟩ = some (.int .i64 0) := (blk_cell HZ.out 2).trans rfl
          have zcc3 : wr.cell? ⟨w.heap.size + 1, 3, none⟩ = some (.slice none 0 0) := (blk_cell HZ.out 3).trans rfl
          have zcc4 : wr.cell? ⟨w.heap.size + 1, 4, none⟩ = some (.slice none 0 0) := (blk_cell HZ.out 4).trans rfl
          have zcf0 : wr.frozen? ⟨w.heap.size + 1, 0, none⟩ = false := blk_frozen HZ.out 0
          have zcf1 : wr.frozen? ⟨w.heap.size + 1, 1, none⟩ = false := blk_frozen HZ.out 1
          have zcf2 : wr.frozen? ⟨w.heap.size + 1, 2, none⟩ = false := blk_frozen HZ.out 2
          have zcf3 : wr.frozen? ⟨w.heap.size + 1, 3, none⟩ = false := blk_frozen HZ.out 3
          have zcf4 : wr.frozen? ⟨w.heap.size + 1, 4, none⟩ = false := blk_frozen HZ.out 4
          clear HLL HNB
          go_wp2_with fail
          obtain ⟨e0, e1, e2, e3, e4⟩ := set5v_cells HZ.out (.int .i64 t0) (.bool t1) (.int .i64 t2) (.slice A3 bn c3) (.slice A6 ks.length c6)
          refine bodyPost_ret (v := .tuple #[.agg #[.int .i64 t0, .bool t1, .int .i64 t2, .slice A3 bn c3, .slice A6 ks.length c6], .int .i64 n]) ?_ rfl ?_
          · simp only [set5v] at e0 e1 e2 e3 e4
            simp [results, Try.results9, go_sem, e0, e1, e2, e3, e4]
          · unfold OwnQ
            rw [HEND.out, ← HBL.out]
            exact ⟨A6, c6, rfl, Kd.R_lower (R_up HR.out (set5v_keep _ _ _ _ _) (by omega)) (by omega), set5v_below HB.out (by omega) _ _ _ _ _⟩
    · have hb4 : (30000 : Int) < (bn : Int) := by omega
      have HB30 : Hid True := Lib.hid trivial
      have HM0 : Hid ((1 : Int) + min (b.length : Int) 30000 = 30001) := Lib.hid (by rw [HBL.out]; omega)
      go_enter Try.func9, Try.ntmps9
      go_wp2_with fail
      clear hb3 hb4
      go_loopw [7, 8] (fun v7 v8 wr => ∃ (i : Nat) (ks : List S30) (n : Int) (A6 : Option Addr) (c6 : Nat), i ≤ kn ∧ v7 = .int .i64 n ∧ v8 = .int .i64 i ∧ Hid (ownL (k.drop i) d ks n = ownL k d [] (30001)) ∧ Hid (1 ≤ n ∧ n ≤ (62 - (d : Int)) * 1100000 ∧ (ks.length : Int) ≤ n) ∧ Hid (ks.length = i) ∧ Hid (Kd.R (k30o w0) 30 wr (w.heap.size + 3) (fun _ => True) (.slice A6 ks.length c6) ks) ∧ Hid (wr.heap[w.heap.size]? = some (.cells #[.int .i64 t0, .bool t1, .int .i64 t2, .slice A3 bn c3, .slice A4 kn c4] 27 (0, 0))) ∧ Hid (wr.heap[w.heap.size + 1]? = some (.cells #[.int .i64 0, .bool false, .int .i64 0, .slice none 0 0, .slice none 0 0] 30 (0, 0))) ∧ Hid (wr.heap[w.heap.size + 1 + 1]? = some (.cells #[.int .i64 t0, .bool t1, .int .i64 t2, .slice A3 bn c3, .slice A6 ks.length c6] 30 (0, 0))) ∧ Hid (Below w.heap.size w wr)) (fun _ v8 _ => kn - (intOf v8).toNat)
      case atStart => exact ⟨0, [], _, none, 0, Nat.zero_le _, rfl, rfl, Lib.hid (by rw [List.drop_zero]), Lib.hid (by have := HD60.out; have := HB30.out; simp; omega), Lib.hid rfl, Lib.hid (Kd.R_nil _ _ _ _ _), HV3, HZ3, HO3, HB3⟩
      case round =>
        clear HV3 HZ3 HO3 HB3
        obtain ⟨i, ks, n, A6, c6, hi, rfl, rfl, HLL, HNB, HKS0, HR, HV, HZ, HO, HB⟩ := hrel
        have HKS : Hid (ks.length ≤ 1000000000) := Lib.hid (by have := HNB.out; have := HDD.out; omega)
        have tcc0 : wr.cell? ⟨w.heap.size, 0, none⟩ = some (.int .i64 t0) := (blk_cell HV.out 0).trans rfl
        have tcc1 : wr.cell? ⟨w.heap.size, 1, none⟩ = some (.bool t1) := (blk_cell HV.out 1).trans rfl
        have tcc2 : wr.cell? ⟨w.heap.size, 2, none⟩ = some (.int .i64 t2) := (blk_cell HV.out 2).trans rfl
        have tcc3 : wr.cell? ⟨w.heap.size, 3, none⟩ = some (.slice A3 bn c3) := (blk_cell HV.out 3).trans rfl
        have tcc4 : wr.cell? ⟨w.heap.size, 4, none⟩ = some (.slice A4 kn c4) := (blk_cell HV.out 4).trans rfl
        by_cases hlt : (i : Int) < (kn : Int)
        · by_cases hn : n < 1048576
          · skip
            have hlt2 : i < k.length := by have := HKE.out; omega
            obtain ⟨ad, a3, e3, a4, e4, rfl, hLx, h0, h1, h2, h3, h4⟩ := at_ HC.out i hlt2 HKE.out.symm
            replace h0 := pw_cell_below (HBW.out _ HB.out) h0
            replace h1 := pw_cell_below (HBW.out _ HB.out) h1
            replace h2 := pw_cell_below (HBW.out _ HB.out) h2
            replace h3 := pw_cell_below (HBW.out _ HB.out) h3
            replace h4 := pw_cell_below (HBW.out _ HB.out) h4
            have HLx := Lib.hid hLx
            have HX := Lib.hid (HX0.out k[i] (List.getElem_mem hlt2))
            have HST := Lib.hid (ownL_step (d := d) (ks := ks) hlt2 hn)
            have HBX := Lib.hid (own_bound k[i] (d + 1) (by have := HD60.out; omega))
            have HTG := Lib.hid (ownR_tag k[i] (d + 1))
            clear hLx
            generalize k[i] = x at h0 h1 h2 h3 h4 HLx HX HST HBX HTG
            have HD1 : Hid (((d : Int) + 1) = ((d + 1 : Nat) : Int)) := Lib.hid (by omega)
            have HBw := Lib.hid (HBW.out _ HB.out)
            obtain ⟨ks2, hks2⟩ : ∃ l, l = ks ++ [(ownR x (d + 1)).1] := ⟨_, rfl⟩
            have HK2 := Lib.hid hks2
            have HKL2 : Hid (ks2.length = i + 1) := Lib.hid (by rw [hks2]; simp [HKS0.out])
            rw [← hks2] at HST
            clear hks2
            skip
            obtain ⟨m, hm⟩ : ∃ m, m = (ownR x (d + 1)).2 := ⟨_, rfl⟩
            have HMM := Lib.hid hm
            rw [← hm] at HST HBX
            clear hm
            have hw1 : wrap64 (n + m) = n + m := by have := HBX.out; have := HNB.out; have := HDD.out; unfold wrap64; omega
            have HK72 : Hid ((ks.length + 1) * 72 ≤ 140737488355328) := Lib.hid (by have := HKS.out; omega)
            have MX : ∀ (A5 : Option Addr) (c5 : Nat), Hid (∀ (W : World) (ok : Nat → Prop), Kd.R (k30o w0) 30 W (w.heap.size + 3) ok (.slice A5 (ownR x (d + 1)).1.f4.length c5) (ownR x (d + 1)).1.f4 → Kd.M (k30o w0) W (w.heap.size + 3) ok (ownR x (d + 1)).1 [.int .i64 x.f0.f0, .bool x.f0.f1, .int .i64 x.f0.f2, .slice a3 x.f1.length e3, .slice A5 (ownR x (d + 1)).1.f4.length c5]) := fun A5 c5 => Lib.hid (fun W ok h => by obtain ⟨q0, q1, q2, q3⟩ := HTG.out; have hh := k30o_mkM w0 W (w.heap.size + 3) ok (ownR x (d + 1)).1 (A3 := a3) (c3 := e3) (by rw [q3]; exact HLx.out.l3) (by rw [q3]; exact HLx.out.g3) h; rw [q0, q1, q2, q3] at hh; exact hh)
            go_wp2_with (first | (go_at_call 9; rw [HD1.out]; refine (HX.out w0 _ (d + 1) a3 e3 a4 e4 HLx.out HBw.out (by have := HDD.out; omega)).mono ?_; rintro e w5 ⟨A5, c5, rfl, ho, hb⟩; have HV5 := Lib.hid (blk_below HV.out hb); have HO5 := Lib.hid (blk_below HO.out hb); have HZ5 := Lib.hid (blk_below HZ.out hb); have HR5 := Lib.hid (Kd.R_below HR.out hb); have HS5 := Lib.hid (Kd.R_lower (Kd.R_mono (Kd.R_bound ho) (fun k hk e => by have h1 := Kd.R_lt HR.out k e.symm; have h2 := hk.2.1; omega)) (blk_lt HO.out) : Kd.R (k30o w0) 30 w5 (w.heap.size + 3) (fun k => some k ≠ (Value.slice A6 ks.length c6).ownBlock) (.slice A5 (ownR x (d + 1)).1.f4.length c5) (ownR x (d + 1)).1.f4); have HB5 := Lib.hid (below_then HB.out HB.out.size hb); have HSZ5 := Lib.hid (blk_lt HO5.out); have oc4 : ∀ o, (w5.alloc o).cell? ⟨w.heap.size + 1 + 1, 4, none⟩ = some (.slice A6 ks.length c6) := fun o => (blk_cell (blk_below HO5.out (below_alloc (Below.refl _ _) o)) 4).trans rfl; have HR5b := Lib.hid (show Kd.R (k30o w0) 30 (w5.alloc (.cells #[.int .i64 x.f0.f0, .bool x.f0.f1, .int .i64 x.f0.f2, .slice a3 x.f1.length e3, .slice A5 (ownR x (d + 1)).1.f4.length c5] 30)) (w.heap.size + 3) (fun _ => True) (.slice A6 ks.length c6) ks from Kd.R_below HR5.out (below_alloc (Below.refl _ _) _)); have HS1 := Lib.hid (show (w5.alloc (.cells #[.int .i64 x.f0.f0, .bool x.f0.f1, .int .i64 x.f0.f2, .slice a3 x.f1.length e3, .slice A5 (ownR x (d + 1)).1.f4.length c5] 30)).heap.size = w5.heap.size + 1 by simp); have HSZb := Lib.hid (show w.heap.size + 3 ≤ (w5.alloc (.cells #[.int .i64 x.f0.f0, .bool x.f0.f1, .int .i64 x.f0.f2, .slice a3 x.f1.length e3, .slice A5 (ownR x (d + 1)).1.f4.length c5] 30)).heap.size by have := HSZ5.out; simp; omega); have HM5 := Lib.hid ((MX A5 c5).out (w5.alloc (.cells #[.int .i64 x.f0.f0, .bool x.f0.f1, .int .i64 x.f0.f2, .slice a3 x.f1.length e3, .slice A5 (ownR x (d + 1)).1.f4.length c5] 30)) _ (Kd.R_below HS5.out (below_alloc (Below.refl _ _) _))); clear ho hb) | ((with_reducible refine gate_builtin (b := .append) (xs := #[.tmp 54, .tmp 56]) rfl ?_); at_builtin; refine Kd.R_append (k30o w0) (w0 := (w5.alloc (.cells #[.int .i64 x.f0.f0, .bool x.f0.f1, .int .i64 x.f0.f2, .slice a3 x.f1.length e3, .slice A5 (ownR x (d + 1)).1.f4.length c5] 30))) (w.heap.size + 3) rfl (.tmp 54) (.tmp 56) 28 30 (.agg #[.int .i64 0, .bool false, .int .i64 0, .slice none 0 0, .slice none 0 0]) 72 rfl Try.underlying28 info30 rfl (Nat.succ_pos 4) (by omega) (.slice A6 ks.length c6) ks (ownR x (d + 1)).1 [.int .i64 x.f0.f0, .bool x.f0.f1, .int .i64 x.f0.f2, .slice a3 x.f1.length e3, .slice A5 (ownR x (d + 1)).1.f4.length c5] (fun _ => True) (fun k => some k ≠ (Value.slice A6 ks.length c6).ownBlock) rfl ?ax HM5.out (fun k hk => ⟨trivial, hk⟩) (fun _ _ => trivial) HR5b.out (Below.refl _ _) HSZb.out HK72.out ?_; (case ax => show Value.slice (some ⟨w5.heap.size + 1, 0, none⟩) 1 1 = _; rw [HS1.out]); intro v57 w57 ho9 hb9 hg9 hat9; rw [← HK2.out] at ho9; (obtain ⟨A57, c57, hv57⟩ := Kd.R_slice ho9); subst hv57; have HR57 := Lib.hid ho9; have HB57 := Lib.hid ((below_alloc HB5.out (.cells #[.int .i64 x.f0.f0, .bool x.f0.f1, .int .i64 x.f0.f2, .slice a3 x.f1.length e3, .slice A5 (ownR x (d + 1)).1.f4.length c5] 30)).trans (Below.mono hb9 (by omega))); have HV57 := Lib.hid (blk_grown (blk_below HV5.out (below_alloc (Below.refl _ _) (.cells #[.int .i64 x.f0.f0, .bool x.f0.f1, .int .i64 x.f0.f2, .slice a3 x.f1.length e3, .slice A5 (ownR x (d + 1)).1.f4.length c5] 30))) hg9 (fun e => by have := Kd.R_base HR5.out _ e.symm; omega)); have HO57 := Lib.hid (blk_grown (blk_below HO5.out (below_alloc (Below.refl _ _) (.cells #[.int .i64 x.f0.f0, .bool x.f0.f1, .int .i64 x.f0.f2, .slice a3 x.f1.length e3, .slice A5 (ownR x (d + 1)).1.f4.length c5] 30))) hg9 (fun e => by have := Kd.R_base HR5.out _ e.symm; omega)); have HZ57 := Lib.hid (blk_grown (blk_below HZ5.out (below_alloc (Below.refl _ _) (.cells #[.int .i64 x.f0.f0, .bool x.f0.f1, .int .i64 x.f0.f2, .slice a3 x.f1.length e3, .slice A5 (ownR x (d + 1)).1.f4.length c5] 30))) hg9 (fun e => by have := Kd.R_base HR5.out _ e.symm; omega)); have po4 : w57.cell? ⟨w.heap.size + 1 + 1, 4, none⟩ = some (.slice A6 ks.length c6) := (blk_cell HO57.out 4).trans rfl; have pf4 : w57.frozen? ⟨w.heap.size + 1 + 1, 4, none⟩ = false := blk_frozen HO57.out 4; clear ho9 hb9 hg9 hat9))
            go_roundw
            case rel => exact ⟨i + 1, ks2, n + m, A57, c57, by omega, by rw [← HMM.out, hw1], by go_num, Lib.hid (by rw [← HLL.out, HST.out]), Lib.hid (by have := HBX.out; have := HNB.out; have := HDD.out; have := HKL2.out; have := HKS0.out; omega), HKL2, Lib.hid (R_up HR57.out (KeepBut.set_ (KeepBut.refl _ _ _) 4 _) (by omega)), Lib.hid (blk_far HV57.out (show w.heap.size ≠ w.heap.size + 1 + 1 by omega) _), Lib.hid (blk_far HZ57.out (by simp) _), Lib.hid (blk_put HO57.out 4 _ rfl), Lib.hid (Below.setCell HB57.out (by simp; omega) _)⟩
            case measure => simp [intOf]; omega
          · skip
            have HEND : Hid (ownR ⟨⟨t0, t1, t2⟩, b, k⟩ d = (⟨t0, t1, t2, b, ks⟩, n)) := Lib.hid (by simp only [ownR]; rw [if_neg HD60.out, HM0.out, ← HLL.out, ownL_stop (by omega)])
            have occ0 : wr.cell? ⟨w.heap.size + 1 + 1, 0, none⟩ = some (.int .i64 t0) := (blk_cell HO.out 0).trans rfl
            have occ1 : wr.cell? ⟨w.heap.size + 1 + 1, 1, none⟩ = some (.bool t1) := (blk_cell HO.out 1).trans rfl
            have occ2 : wr.cell? ⟨w.heap.size + 1 + 1, 2, none⟩ = some (.int .i64 t2) := (blk_cell HO.out 2).trans rfl
            have occ3 : wr.cell? ⟨w.heap.size + 1 + 1, 3, none⟩ = some (.slice A3 bn c3) := (blk_cell HO.out 3).trans rfl
            have occ4 : wr.cell? ⟨w.heap.size + 1 + 1, 4, none⟩ = some (.slice A6 ks.length c6) := (blk_cell HO.out 4).trans rfl
            have zcc0 : wr.cell? ⟨w.heap.size + 1, 0, none⟩ = some (.int .i64 0) := (blk_cell HZ.out 0).trans rfl
            have zcc1 : wr.cell? ⟨w.heap.size + 1, 1, none⟩ = some (.bool false) := (blk_cell HZ.out 1).trans rfl
            have zcc2 : wr.cell? ⟨w.heap.size + 1, 2, none⟩ = some (.int .i64 0) := (blk_cell HZ.out 2).trans rfl
            have zcc3 : wr.cell? ⟨w.heap.size + 1, 3, none⟩ = some (.slice none 0 0) := (blk_cell HZ.out 3).trans rfl
            have zcc4 : wr.cell? ⟨w.heap.size + 1, 4, none⟩ = some (.slice none 0 0) := (blk_cell HZ.out 4).trans rfl
            have zcf0 : wr.frozen? ⟨w.heap.size + 1, 0, none⟩ = false := blk_frozen HZ.out 0
            have zcf1 : wr.frozen? ⟨w.heap.size + 1, 1, none⟩ = false := blk_frozen HZ.out 1
            have zcf2 : wr.frozen? ⟨w.heap.size + 1, 2, none⟩ = false := blk_frozen HZ.out 2
            have zcf3 : wr.frozen? ⟨w.heap.size + 1, 3, none⟩ = false := blk_frozen HZ.out 3
            have zcf4 : wr.frozen? ⟨w.heap.size + 1, 4, none⟩ = false := blk_frozen HZ.out 4
            clear HLL HNB
            go_wp2_with fail
            obtain ⟨e0, e1, e2, e3, e4⟩ := set5v_cells HZ.out (.int .i64 t0) (.bool t1) (.int .i64 t2) (.slice A3 bn c3) (.slice A6 ks.length c6)
            refine bodyPost_ret (v := .tuple #[.agg #[.int .i64 t0, .bool t1, .int .i64 t2, .slice A3 bn c3, .slice A6 ks.length c6], .int .i64 n]) ?_ rfl ?_
            · simp only [set5v] at e0 e1 e2 e3 e4
              simp [results, Try.results9, go_sem, e0, e1, e2, e3, e4]
            · unfold OwnQ
              rw [HEND.out, ← HBL.out]
              exact ⟨A6, c6, rfl, Kd.R_lower (R_up HR.out (set5v_keep _ _ _ _ _) (by omega)) (by omega), set5v_below HB.out (by omega) _ _ _ _ _⟩
        · have hik : i = kn := by omega
          have HEND : Hid (ownR ⟨⟨t0, t1, t2⟩, b, k⟩ d = (⟨t0, t1, t2, b, ks⟩, n)) := Lib.hid (by simp only [ownR]; rw [if_neg HD60.out, HM0.out, ← HLL.out, List.drop_eq_nil_of_le (by have := HKE.out; omega), ownL])
          have occ0 : wr.cell? ⟨w.heap.size + 1 + 1, 0, none⟩ = some (.int .i64 t0) := (blk_cell HO.out 0).trans rfl
          have occ1 : wr.cell? ⟨w.heap.size + 1 + 1, 1, none⟩ = some (.bool t1) := (blk_cell HO.out 1).trans rfl
          have occ2 : wr.cell? ⟨w.heap.size + 1 + 1, 2, none⟩ = some (.int .i64 t2) := (blk_cell HO.out 2).trans rfl
          have occ3 : wr.cell? ⟨w.heap.size + 1 + 1, 3, none⟩ = some (.slice A3 bn c3) := (blk_cell HO.out 3).trans rfl
          have occ4 : wr.cell? ⟨w.heap.size + 1 + 1, 4, none⟩ = some (.slice A6 ks.length c6) := (blk_cell HO.out 4).trans rfl
          have zcc0 : wr.cell? ⟨w.heap.size + 1, 0, none⟩ = some (.int .i64 0) := (blk_cell HZ.out 0).trans rfl
          have zcc1 : wr.cell? ⟨w.heap.size + 1, 1, none⟩ = some (.bool false) := (blk_cell HZ.out 1).trans rfl
          have zcc2 : wr.cell? ⟨w.heap.size + 1, 2, none⟩ = some (.int .i64 0) := (blk_cell HZ.out 2).trans rfl
          have zcc3 : wr.cell? ⟨w.heap.size + 1, 3, none⟩ = some (.slice none 0 0) := (blk_cell HZ.out 3).trans rfl
          have zcc4 : wr.cell? ⟨w.heap.size + 1, 4, none⟩ = some (.slice none 0 0) := (blk_cell HZ.out 4).trans rfl
          have zcf0 : wr.frozen? ⟨w.heap.size + 1, 0, none⟩ = false := blk_frozen HZ.out 0
          have zcf1 : wr.frozen? ⟨w.heap.size + 1, 1, none⟩ = false := blk_frozen HZ.out 1
          have zcf2 : wr.frozen? ⟨w.heap.size + 1, 2, none⟩ = false := blk_frozen HZ.out 2
          have zcf3 : wr.frozen? ⟨w.heap.size + 1, 3, none⟩ = false := blk_frozen HZ.out 3
          have zcf4 : wr.frozen? ⟨w.heap.size + 1, 4, none⟩ = false := blk_frozen HZ.out 4
          clear HLL HNB
          go_wp2_with fail
          obtain ⟨e0, e1, e2, e3, e4⟩ := set5v_cells HZ.out (.int .i64 t0) (.bool t1) (.int .i64 t2) (.slice A3 bn c3) (.slice A6 ks.length c6)
          refine bodyPost_ret (v := .tuple #[.agg #[.int .i64 t0, .bool t1, .int .i64 t2, .slice A3 bn c3, .slice A6 ks.length c6], .int .i64 n]) ?_ rfl ?_
          · simp only [set5v] at e0 e1 e2 e3 e4
            simp [results, Try.results9, go_sem, e0, e1, e2, e3, e4]
          · unfold OwnQ
            rw [HEND.out, ← HBL.out]
            exact ⟨A6, c6, rfl, Kd.R_lower (R_up HR.out (set5v_keep _ _ _ _ _) (by omega)) (by omega), set5v_below HB.out (by omega) _ _ _ _ _⟩
end Go.Proofs.Ytkhghgmonjebnaa.B
