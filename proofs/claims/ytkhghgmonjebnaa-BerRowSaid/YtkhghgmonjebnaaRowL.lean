/- Consecutive elements are parsed back one after the other, and an element that contains them is parsed as containing them: the walk. Condition: what lies in a memory. -/
import Derived.Test.YtkhghgmonjebnaaBackX
import Derived.Test.YtkhghgmonjebnaaGrow
namespace Go.Proofs.Ytkhghgmonjebnaa.B
open Go.RowKit Go.Proofs.YtkhghgmonjebnaaW.PrintWords Go.Proofs.YtkhghgmonjebnaaW.PrintLast Go.Proofs.YtkhghgmonjebnaaW.PrintMore
open Go.Proofs.Ytkhghgmonjebnaa.H Go.Proofs.Ytkhghgmonjebnaa.K
set_option linter.unusedVariables false
set_option linter.unusedSimpArgs false

/-- Elements that lie in an elder world: rows of their beginnings. -/
def oldE (w0 : World) : Kd S27 where
  sz := 5
  E := []
  K := fun _ x cs => ∃ A3 c3 A4 c4, cs = [.int .i64 x.f0.f0, .bool x.f0.f1, .int .i64 x.f0.f2, .slice A3 x.f1.length c3, .slice A4 x.f2.length c4] ∧ Lies w0 x A3 c3 A4 c4
  M := fun _ _ _ x cs => ∃ A3 c3 A4 c4, cs = [.int .i64 x.f0.f0, .bool x.f0.f1, .int .i64 x.f0.f2, .slice A3 x.f1.length c3, .slice A4 x.f2.length c4] ∧ Lies w0 x A3 c3 A4 c4
  K_len := by
    rintro w x cs ⟨A3, c3, A4, c4, rfl, _⟩
    rfl
  K_one := by
    rintro w x cs ⟨A3, c3, A4, c4, rfl, _⟩ u hu
    simp only [List.mem_cons, List.not_mem_nil, or_false] at hu
    rcases hu with rfl | rfl | rfl | rfl | rfl <;> rfl
  K_below := fun _ h => h
  K_of_M := fun h => h
  M_mono := fun _ h => h
  M_bound := fun h => h
  M_move := fun _ h => h
  M_lower := fun _ h => h
theorem oldE_C {w0 w : World} {A : Option Addr} {n : Nat} {xs : List S27} (h : Kd.C (oldE w0) w A n xs) (hb : Below w0.heap.size w0 w) : Kd.C k27 w A n xs :=
  ⟨h.1, h.2.1, fun hn => by
    obtain ⟨ad, e, hc⟩ := h.2.2 hn
    refine ⟨ad, e, fun j p hj => ?_⟩
    obtain ⟨c, hs, ⟨A3, c3, A4, c4, hcs, hL⟩, hcell⟩ := hc j p hj
    subst hcs
    have hL2 := hL.below hb
    exact ⟨_, rfl, k27_mk w p hL2.l3 hL2.g3 hL2.l4 hL2.g4, hcell⟩⟩
theorem grow5 {w0 w w' : World} {b1 b2 : Nat} {v3 v4 : Value} {xs : List Int} {ys : List S27} (h3 : Kd.R (Kd.int .u8) 5 w b1 (fun _ => True) v3 xs) (h4 : Kd.R (oldE w0) 27 w b2 (fun _ => True) v4 ys) (hg : w.grownBy w' v3.ownBlock) : Kd.R (oldE w0) 27 w' b2 (fun _ => True) v4 ys :=
  Kd.R_mono (Kd.R_grown (Kd.R_mono (ok' := fun k => some k ≠ v3.ownBlock) (Kd.R_bound h4) (fun k hk => by
    obtain ⟨_, _, _, q, hq, cells, hc⟩ := hk
    have : q = 27 := by simpa [oldE] using hq
    subst this
    exact Kd.R_ne h3 hc (by decide))) hg (fun _ h => h)) (fun _ _ => trivial)
theorem grow27 {w0 w w' : World} {b1 b2 : Nat} {v3 v4 : Value} {xs : List Int} {ys : List S27} (h3 : Kd.R (Kd.int .u8) 5 w b1 (fun _ => True) v3 xs) (h4 : Kd.R (oldE w0) 27 w b2 (fun _ => True) v4 ys) (hg : w.grownBy w' v4.ownBlock) : Kd.R (Kd.int .u8) 5 w' b1 (fun _ => True) v3 xs :=
  Kd.R_mono (Kd.R_grown (Kd.R_mono (ok' := fun k => some k ≠ v4.ownBlock) (Kd.R_bound h3) (fun k hk => by
    obtain ⟨_, _, _, q, hq, cells, hc⟩ := hk
    have : q = 5 := by simpa [Kd.int, Kd.scalar] using hq
    subst this
    exact Kd.R_ne h4 hc (by decide))) hg (fun _ h => h)) (fun _ _ => trivial)
theorem encL_app : ∀ a b : List S27, encL (a ++ b) = encL a ++ encL b
  | [], b => rfl
  | x :: a, b => by rw [List.cons_append, encL, encL, encL_app a b, List.append_assoc]
/-- Elements that were put. -/
def KsOK (ks : List S27) : Prop := ∀ x ∈ ks, rightE x = true ∧ deepE x ≤ 24 ∧ (encE x).length ≤ 16384 ∧ fitE x ∧ thinE x
theorem KsOK.app {ks : List S27} (h : KsOK ks) {x : S27} (hx : rightE x = true ∧ deepE x ≤ 24 ∧ (encE x).length ≤ 16384 ∧ fitE x ∧ thinE x) : KsOK (ks ++ [x]) := by
  intro y hy
  rcases List.mem_append.1 hy with hy | hy
  · exact h y hy
  · obtain rfl := List.mem_singleton.1 hy
    exact hx
theorem KsOK.len : ∀ {ks : List S27}, KsOK ks → (encL ks).length ≤ 16384 * ks.length
  | [], _ => by simp [encL]
  | x :: ks, h => by
    have h1 := (h x (by simp)).2.2.1
    have h2 := KsOK.len (ks := ks) (fun y hy => h y (by simp [hy]))
    simp only [encL, List.length_append, List.length_cons]
    omega
theorem KsOK.okb : ∀ {ks : List S27}, KsOK ks → okb (encL ks) = true
  | [], _ => rfl
  | x :: ks, h => by
    have h1 := h x (by simp)
    have h2 := KsOK.okb (ks := ks) (fun y hy => h y (by simp [hy]))
    simp only [encL]
    exact okb_app (enc_okb x h1.2.2.2.1 (by omega)) h2
abbrev boxE (ks : List S27) : S27 := ⟨⟨0, true, 16⟩, [], ks⟩
theorem KsOK.box {ks : List S27} (h : KsOK ks) (hl : ks.length ≤ 8) : rightE (boxE ks) = true ∧ fitE (boxE ks) ∧ thinE (boxE ks) := by
  have h1 : right 0 16 = true := by decide
  have h2 : rightL ks = true := by rw [rightL_all, List.all_eq_true]; exact fun x hx => (h x hx).1
  refine ⟨by simp [rightE, h1, h2], ?_, ?_⟩
  · simp only [fitE]
    exact ⟨rfl, by simp, by omega, (fitL_iff ks).2 fun x hx => (h x hx).2.2.2.1⟩
  · simp only [thinE]
    exact ⟨by simp, (thinL_iff ks).2 fun x hx => (h x hx).2.2.2.2⟩
theorem putR_err {x : S27} (hr : rightE x = true) : putR x = ([], 15) ∨ putR x = ([], 3) ∨ (deepE x ≤ 24 ∧ (encE x).length ≤ 16384 ∧ putR x = (encE x, 0)) := by
  rw [putR_eq, if_neg (by rw [hr]; simp)]
  split
  · exact .inl rfl
  · split
    · exact .inr (.inl rfl)
    · exact .inr (.inr ⟨by omega, by omega, rfl⟩)
theorem same_at (x y : S27) (hf : fitE x) (hg : fitE y) (A3 : Option Addr) (c3 : Nat) (A4 : Option Addr) (c4 : Nat) (B3 : Option Addr) (d3 : Nat) (B4 : Option Addr) (d4 : Nat) (w : World) (hL : Lies w x A3 c3 A4 c4) (hM : Lies w y B3 d3 B4 d4) :
    Calls Try.prog 12 #[ev x A3 c3 A4 c4, ev y B3 d3 B4 d4] w fun e w' => e = .returned (.bool (sameE x y)) ∧ Below w.heap.size w w' := same_walk x y hf hg A3 c3 A4 c4 B3 d3 B4 d4 w hL hM
theorem kids_of_trod {H : Type} {enc : TypeId × Value → H} {W : World} {a : Option Addr} {len cap fuel : Nat} {x : DataW H × List MemPlace} (hf : DataW.trod enc Try.prog W 0 (fun _ => true) true fuel 25 (Value.slice a len cap).cells.toList = some x) :
    ∃ l : List S27, len = l.length ∧ l.length ≤ cap ∧ Kd.C k27 W a l.length l ∧ fitL l ∧ l.length ≤ 9223372036854775807 := by
  rcases DataW.trod_slice Try.underlying25 hf with ⟨hcs, _⟩ | ⟨a, len, cap, elems, rest, n, hn, hcs, _, _, hl, hm, hel, he, _, _⟩
  · simp [Value.cells] at hcs
    obtain ⟨rfl, rfl, rfl⟩ := hcs
    exact ⟨[], rfl, Nat.le_refl _, Kd.C_nil _ _, trivial, by simp⟩
  · simp [Value.cells] at hcs
    obtain ⟨rfl, rfl, rfl⟩ := hcs
    have hmx : cap ≤ 9223372036854775807 := hm
    have each : ∀ i : Nat, ∃ e : S27, i < len → (∃ c, k27.K W e c ∧ c.length = 5 ∧ ∀ j u, c[j]? = some u → W.cell? (a.add (i * 5 + j)) = some u) ∧ fitE e := by
      intro i
      by_cases hi : i < len
      · have h1 := he i hi
        rw [kc27, List.getElem?_eq_getElem (by omega)] at h1
        obtain ⟨cs', h2, h3⟩ := Option.bind_eq_some_iff.1 h1
        obtain ⟨_, hlen, hcell⟩ := World.cells?_some h2
        obtain ⟨e, B3, d3, B4, d4, rfl, hL, hF⟩ := elem_of_trod n h3
        refine ⟨e, fun _ => ⟨⟨_, k27_mk W e hL.l3 hL.g3 hL.l4 hL.g4, rfl, fun j u hu => ?_⟩, hF⟩⟩
        obtain ⟨hj, hu2⟩ := List.getElem?_eq_some_iff.1 hu
        have hj5 : j < 5 := hj
        have := hcell j hj5
        rw [Go.Addr.add_add, hu] at this
        exact this
      · exact ⟨z27, fun h => absurd h hi⟩
    obtain ⟨f, hf2⟩ := Classical.axiomOfChoice each
    have hlen : ((List.range len).map f).length = len := by simp
    refine ⟨(List.range len).map f, by simp, by simpa using hl, ?_, ?_, by simp; omega⟩
    · show ReadsRow (k27.K W) k27.sz W (some a) ((List.range len).map f).length ((List.range len).map f)
      refine ⟨rfl, by rw [hlen]; omega, fun _ => ⟨a, rfl, fun j p hj => ?_⟩⟩
      obtain ⟨hj1, hj2⟩ := List.getElem?_eq_some_iff.1 hj
      rw [hlen] at hj1
      rw [List.getElem_map, List.getElem_range] at hj2
      obtain ⟨⟨c, hK, hc5, hcell⟩, _⟩ := hf2 j hj1
      subst hj2
      exact ⟨c, hc5, hK, fun i u hu => hcell i u hu⟩
    · rw [fitL_iff]
      intro y hy
      obtain ⟨i, hi, rfl⟩ := List.mem_map.1 hy
      exact (hf2 i (List.mem_range.1 hi)).2

set_option maxRecDepth 100000 in
set_option maxHeartbeats 40000000 in
theorem row_walk (A0 : Option Addr) (c0 : Nat) (l : List S27) (w : World) (hC : Kd.C k27 w A0 l.length l) (hf : fitL l) (hl : l.length ≤ 9223372036854775807) :
    Calls Try.prog 8 #[.slice A0 l.length c0] w fun e w' => e = .returned (.bool true) ∧ Below w.heap.size w w' := by
  have HC := Lib.hid hC
  have HF := Lib.hid ((fitL_iff l).1 hf)
  clear hC hf
  generalize hln : l.length = ln at HC hl ⊢
  have HLN := Lib.hid hln
  clear hln
  go_enter Try.func8, Try.ntmps8
  go_wp2_with fail
  go_loopw [3, 4, 5] (fun v3 v4 v5 wr => ∃ (i : Nat) (ks : List S27) (A4 : Option Addr) (c4 : Nat), i ≤ ln ∧ i ≤ 8 ∧ v5 = .int .i64 i ∧ v4 = .slice A4 ks.length c4 ∧ Hid (Kd.R (Kd.int .u8) 5 wr w.heap.size (fun _ => True) v3 (encL ks)) ∧ Hid (Kd.R (oldE w) 27 wr w.heap.size (fun _ => True) (.slice A4 ks.length c4) ks) ∧ Hid (KsOK ks) ∧ Hid (ks.length ≤ 8) ∧ Hid (ks.length ≤ i) ∧ Hid (Below w.heap.size w wr)) (fun _ _ v5 _ => 8 - (intOf v5).toNat)
  case atStart => exact ⟨0, [], none, 0, Nat.zero_le _, by omega, rfl, rfl, Lib.hid (Kd.R_nil _ _ _ _ _), Lib.hid (Kd.R_nil _ _ _ _ _), Lib.hid (fun x hx => by cases hx), Lib.hid (by simp), Lib.hid (by simp), Lib.hid (Below.refl _ _)⟩
  case round =>
    obtain ⟨i, ks, A4, c4, hi, hi8, rfl, rfl, H3, H4, HK, HK8, HKI, HB⟩ := hrel
    by_cases hlt : (i : Int) < (ln : Int)
    · by_cases hlt8 : (i : Int) < 8
      · have hli : i < l.length := by have := HLN.out; omega
        obtain ⟨ad, a3, e3, a4, e4, rfl, hLx, g0, g1, g2, g3, g4⟩ := at_ HC.out i hli HLN.out.symm
        have h0 := pw_cell_below HB.out g0
        have h1 := pw_cell_below HB.out g1
        have h2 := pw_cell_below HB.out g2
        have h3 := pw_cell_below HB.out g3
        have h4 := pw_cell_below HB.out g4
        have HLx := Lib.hid hLx
        have HFx := Lib.hid (HF.out l[i] (List.getElem_mem hli))
        clear hLx
        generalize l[i] = x at g0 g1 g2 g3 g4 h0 h1 h2 h3 h4 HLx HFx
        have HOWN : Hid (∀ W, Below w.heap.size w W → Calls Try.prog 9 #[ev x a3 e3 a4 e4, .int .i64 0] W fun e w' => OwnQ w W x 0 a3 e3 e w') := Lib.hid (fun W hW => own_walk x HFx.out w W 0 a3 e3 a4 e4 HLx.out hW (by omega))
        by_cases hn : (3000 : Int) ≤ (ownR x 0).2
        · go_wp2_with (go_at_call 9; refine (HOWN.out wr HB.out).mono ?_; unfold OwnQ; rintro e w1 ⟨B4, d4, rfl, _, hb1⟩; have HBx := Lib.hid hb1; have H31 := Lib.hid (Kd.R_below H3.out hb1); have H41 := Lib.hid (Kd.R_below H4.out hb1); have HB1 := Lib.hid (below_then HB.out HB.out.size hb1); have p0 : ∀ o, (w1.alloc o).cell? (ad.add (i * 5)) = some (.int .i64 x.f0.f0) := fun o => pw_cell_below (below_alloc (Below.refl _ _) o) (pw_cell_below HBx.out h0); have p1 : ∀ o, (w1.alloc o).cell? ⟨(ad.add (i * 5)).block, (ad.add (i * 5)).off + 1, none⟩ = some (.bool x.f0.f1) := fun o => pw_cell_below (below_alloc (Below.refl _ _) o) (pw_cell_below HBx.out h1); have p2 : ∀ o, (w1.alloc o).cell? ⟨(ad.add (i * 5)).block, (ad.add (i * 5)).off + 2, none⟩ = some (.int .i64 x.f0.f2) := fun o => pw_cell_below (below_alloc (Below.refl _ _) o) (pw_cell_below HBx.out h2); have p3 : ∀ o, (w1.alloc o).cell? ⟨(ad.add (i * 5)).block, (ad.add (i * 5)).off + 3, none⟩ = some (.slice a3 x.f1.length e3) := fun o => pw_cell_below (below_alloc (Below.refl _ _) o) (pw_cell_below HBx.out h3); have p4 : ∀ o, (w1.alloc o).cell? ⟨(ad.add (i * 5)).block, (ad.add (i * 5)).off + 4, none⟩ = some (.slice a4 x.f2.length e4) := fun o => pw_cell_below (below_alloc (Below.refl _ _) o) (pw_cell_below HBx.out h4); clear hb1)
          go_ret
          exact ⟨rfl, below_alloc HB1.out _⟩
        · obtain ⟨hth, _⟩ := own_thin x 0 (by omega) (by omega)
          have hnb : decide ((3000 : Int) ≤ (ownR x 0).2) = false := decide_eq_false hn
          have HPUT : Hid (∀ W, Below w.heap.size w W → Calls Try.prog 10 #[ev x a3 e3 a4 e4] W fun e w' => PutQ W x e w') := Lib.hid (fun W hW => put_calls x HFx.out hth a3 e3 a4 e4 W (HLx.out.below hW))
          rcases putR_cases x with ⟨e0, he0, hpr⟩ | ⟨q1, q2, q3, hpr⟩
          · have he1 : (e0 != 0) = true := by simpa using he0
            clear hn he0 hth
            go_wp2_with (first | (go_at_call 9; refine (HOWN.out wr HB.out).mono ?_; unfold OwnQ; rintro e w1 ⟨B4, d4, rfl, _, hb1⟩; have HBx := Lib.hid hb1; have H31 := Lib.hid (Kd.R_below H3.out hb1); have H41 := Lib.hid (Kd.R_below H4.out hb1); have HB1 := Lib.hid (below_then HB.out HB.out.size hb1); have p0 : ∀ o, (w1.alloc o).cell? (ad.add (i * 5)) = some (.int .i64 x.f0.f0) := fun o => pw_cell_below (below_alloc (Below.refl _ _) o) (pw_cell_below HBx.out h0); have p1 : ∀ o, (w1.alloc o).cell? ⟨(ad.add (i * 5)).block, (ad.add (i * 5)).off + 1, none⟩ = some (.bool x.f0.f1) := fun o => pw_cell_below (below_alloc (Below.refl _ _) o) (pw_cell_below HBx.out h1); have p2 : ∀ o, (w1.alloc o).cell? ⟨(ad.add (i * 5)).block, (ad.add (i * 5)).off + 2, none⟩ = some (.int .i64 x.f0.f2) := fun o => pw_cell_below (below_alloc (Below.refl _ _) o) (pw_cell_below HBx.out h2); have p3 : ∀ o, (w1.alloc o).cell? ⟨(ad.add (i * 5)).block, (ad.add (i * 5)).off + 3, none⟩ = some (.slice a3 x.f1.length e3) := fun o => pw_cell_below (below_alloc (Below.refl _ _) o) (pw_cell_below HBx.out h3); have p4 : ∀ o, (w1.alloc o).cell? ⟨(ad.add (i * 5)).block, (ad.add (i * 5)).off + 4, none⟩ = some (.slice a4 x.f2.length e4) := fun o => pw_cell_below (below_alloc (Below.refl _ _) o) (pw_cell_below HBx.out h4); clear hb1) | (go_at_call 10; with_reducible refine (HPUT.out _ (below_alloc HB1.out _)).mono ?_; unfold PutQ; rw [hpr]; rintro e w2 ⟨v8, rfl, h8, hb2⟩; (obtain ⟨A8, c8, hv8, hl8, hC8⟩ := Kd.R_reads h8); subst hv8; have hbb := below_then (below_alloc (Below.refl _ _) _) (by simp) hb2; have H32 := Lib.hid (Kd.R_below H31.out hbb); have H42 := Lib.hid (Kd.R_below H41.out hbb); have HB2 := Lib.hid (below_then HB1.out HB1.out.size hbb); have HBx2 := Lib.hid (below_then HBx.out HBx.out.size hbb); have HC8 := Lib.hid hC8; skip; clear h8 hb2 hbb hl8 hC8))
            go_roundw
            case rel => exact ⟨i + 1, ks, A4, c4, by omega, by omega, by go_num, rfl, H32, H42, HK, HK8, Lib.hid (by have := HKI.out; omega), HB2⟩
            case measure => simp [intOf]; omega
          · obtain ⟨ks2, hks2⟩ : ∃ l, l = ks ++ [x] := ⟨_, rfl⟩
            have HK2 := Lib.hid hks2
            have HSZ1 : Hid (((encL ks).length + (encE x).length) * 1 ≤ 140737488355328) := Lib.hid (by have := HK.out.len; have := HK8.out; omega)
            have HSZ2 : Hid ((ks.length + 1) * 72 ≤ 140737488355328) := Lib.hid (by have := HK8.out; omega)
            have HKO : Hid (KsOK ks2) := Lib.hid (by rw [hks2]; exact HK.out.app ⟨q1, q2, q3, HFx.out, hth⟩)
            have HEN : Hid (encL ks2 = encL ks ++ encE x) := Lib.hid (by rw [hks2, encL_app]; simp [encL])
            have HKL : Hid (ks2.length = ks.length + 1) := Lib.hid (by rw [hks2]; simp)
            clear hn hth hks2 q1 q2 q3
            go_wp2_with (first | (go_at_call 9; refine (HOWN.out wr HB.out).mono ?_; unfold OwnQ; rintro e w1 ⟨B4, d4, rfl, _, hb1⟩; have HBx := Lib.hid hb1; have H31 := Lib.hid (Kd.R_below H3.out hb1); have H41 := Lib.hid (Kd.R_below H4.out hb1); have HB1 := Lib.hid (below_then HB.out HB.out.size hb1); have p0 : ∀ o, (w1.alloc o).cell? (ad.add (i * 5)) = some (.int .i64 x.f0.f0) := fun o => pw_cell_below (below_alloc (Below.refl _ _) o) (pw_cell_below HBx.out h0); have p1 : ∀ o, (w1.alloc o).cell? ⟨(ad.add (i * 5)).block, (ad.add (i * 5)).off + 1, none⟩ = some (.bool x.f0.f1) := fun o => pw_cell_below (below_alloc (Below.refl _ _) o) (pw_cell_below HBx.out h1); have p2 : ∀ o, (w1.alloc o).cell? ⟨(ad.add (i * 5)).block, (ad.add (i * 5)).off + 2, none⟩ = some (.int .i64 x.f0.f2) := fun o => pw_cell_below (below_alloc (Below.refl _ _) o) (pw_cell_below HBx.out h2); have p3 : ∀ o, (w1.alloc o).cell? ⟨(ad.add (i * 5)).block, (ad.add (i * 5)).off + 3, none⟩ = some (.slice a3 x.f1.length e3) := fun o => pw_cell_below (below_alloc (Below.refl _ _) o) (pw_cell_below HBx.out h3); have p4 : ∀ o, (w1.alloc o).cell? ⟨(ad.add (i * 5)).block, (ad.add (i * 5)).off + 4, none⟩ = some (.slice a4 x.f2.length e4) := fun o => pw_cell_below (below_alloc (Below.refl _ _) o) (pw_cell_below HBx.out h4); clear hb1) | (go_at_call 10; with_reducible refine (HPUT.out _ (below_alloc HB1.out _)).mono ?_; unfold PutQ; rw [hpr]; rintro e w2 ⟨v8, rfl, h8, hb2⟩; (obtain ⟨A8, c8, hv8, hl8, hC8⟩ := Kd.R_reads h8); subst hv8; have hbb := below_then (below_alloc (Below.refl _ _) _) (by simp) hb2; have H32 := Lib.hid (Kd.R_below H31.out hbb); have H42 := Lib.hid (Kd.R_below H41.out hbb); have HB2 := Lib.hid (below_then HB1.out HB1.out.size hbb); have HBx2 := Lib.hid (below_then HBx.out HBx.out.size hbb); have HC8 := Lib.hid hC8; skip; clear h8 hb2 hbb hl8 hC8) | ((with_reducible refine gate_builtin (b := .append) (xs := #[.tmp 50, .tmp 51]) rfl ?_); at_builtin; refine Kd.R_append_rows (Kd.int .u8) (w0 := w2) w.heap.size rfl (.tmp 50) (.tmp 51) 24 5 (.int .u8 0) 1 rfl Try.underlying24 info5 rfl (by decide) (by omega) _ (encL ks) (encE x) A8 (encE x).length c8 (fun _ => True) (fun _ => False) rfl rfl H32.out HC8.out (fun _ _ h => h) (fun _ h => h.elim) (fun _ _ => trivial) (Below.refl _ _) HB2.out.size HSZ1.out ?_; intro v52 w52 ho hb hg hat; have H353 := Lib.hid ho; have H453 := Lib.hid (grow5 H32.out H42.out hg); have HB53 := Lib.hid (HB2.out.trans (Below.mono hb (Nat.le_refl _))); have HBx3 : Hid (Below w.heap.size w w52) := HB53; have r0 : w52.cell? (ad.add (i * 5)) = some (.int .i64 x.f0.f0) := pw_cell_below HBx3.out g0; have r1 : w52.cell? ⟨(ad.add (i * 5)).block, (ad.add (i * 5)).off + 1, none⟩ = some (.bool x.f0.f1) := pw_cell_below HBx3.out g1; have r2 : w52.cell? ⟨(ad.add (i * 5)).block, (ad.add (i * 5)).off + 2, none⟩ = some (.int .i64 x.f0.f2) := pw_cell_below HBx3.out g2; have r3 : w52.cell? ⟨(ad.add (i * 5)).block, (ad.add (i * 5)).off + 3, none⟩ = some (.slice a3 x.f1.length e3) := pw_cell_below HBx3.out g3; have r4 : w52.cell? ⟨(ad.add (i * 5)).block, (ad.add (i * 5)).off + 4, none⟩ = some (.slice a4 x.f2.length e4) := pw_cell_below HBx3.out g4; clear ho hb hg hat) | ((with_reducible refine gate_builtin (b := .append) (xs := #[.tmp 53, .tmp 58]) rfl ?_); at_builtin; refine Kd.R_append (oldE w) (w0 := w52) w.heap.size rfl (.tmp 53) (.tmp 58) 25 27 (.agg #[.int .i64 0, .bool false, .int .i64 0, .slice none 0 0, .slice none 0 0]) 72 rfl Try.underlying25 info27 rfl (Nat.succ_pos 4) (by omega) (.slice A4 ks.length c4) ks x [.int .i64 x.f0.f0, .bool x.f0.f1, .int .i64 x.f0.f2, .slice a3 x.f1.length e3, .slice a4 x.f2.length e4] (fun _ => True) (fun _ => False) rfl rfl ⟨a3, e3, a4, e4, rfl, HLx.out⟩ (fun _ h => h.elim) (fun _ _ => trivial) H453.out (Below.refl _ _) HB53.out.size HSZ2.out ?_; intro v59 w59 ho hb hg hat; rw [← HK2.out] at ho; (obtain ⟨A59, c59, hv59⟩ := Kd.R_slice ho); subst hv59; have H459 := Lib.hid ho; have H359 := Lib.hid (grow27 H353.out H453.out hg); have HB59 := Lib.hid (HB53.out.trans (Below.mono hb (Nat.le_refl _))); clear ho hb hg hat))
            go_roundw
            case rel => exact ⟨i + 1, ks2, A59, c59, by omega, by omega, by go_num, rfl, Lib.hid (by rw [HEN.out]; exact H359.out), H459, HKO, Lib.hid (by have := HKL.out; have := HKI.out; omega), Lib.hid (by have := HKL.out; have := HKI.out; omega), HB59⟩
            case measure => simp [intOf]; omega
      · skip
        obtain ⟨wz, rfl⟩ : ∃ w', w' = wr := ⟨wr, rfl⟩
        obtain ⟨A7, c7, hv7, hl7, hC7⟩ := Kd.R_reads H3.out
        subst hv7
        obtain ⟨A4', c4', hv4, _, hC4⟩ := Kd.R_reads H4.out
        injection hv4 with ha4 _ hc4
        have HKCL : Hid (ks.length ≤ c4) := Lib.hid (by obtain ⟨B9, d9, e9, l9, _⟩ := Kd.R_reads H4.out; injection e9 with _ _ z9; omega)
        subst ha4 hc4
        have HKC : Hid (Kd.C k27 wz A4 ks.length ks) := Lib.hid (oldE_C hC4 HB.out)
        have HC7 := Lib.hid hC7
        have HL7 := Lib.hid hl7
        have HLA : Hid ((encL ks).length ≤ 200000) := Lib.hid (by have := HK.out.len; have := HK8.out; omega)
        clear hC4 hl7 hC7 H3 H4 HKI HC HF
        generalize hkn : ks.length = kn at HKC HK8 ⊢
        have HKN := Lib.hid hkn
        have hk8 : kn ≤ 8 := HK8.out
        clear hkn hi
        go_wp2_with fail
        clear hlt hlt8
        go_loopw [10, 11] (fun v10 v11 wr => ∃ (j : Nat) (rest : List Int) (A10 : Option Addr) (c10 : Nat), j ≤ kn ∧ v11 = .int .i64 j ∧ v10 = .slice A10 rest.length c10 ∧ Hid (Kd.C (Kd.int .u8) wz A10 rest.length rest) ∧ Hid (rest.length ≤ c10) ∧ Hid (rest = encL (ks.drop j)) ∧ Hid (rest.length ≤ 200000) ∧ Hid (Below wz.heap.size wz wr)) (fun _ v11 _ => kn - (intOf v11).toNat)
        case atStart => exact ⟨0, encL ks, A7, c7, Nat.zero_le _, rfl, rfl, HC7, HL7, Lib.hid (by rw [List.drop_zero]), HLA, Lib.hid (Below.refl _ _)⟩
        case round =>
          obtain ⟨j, rest, A10, c10, hj, rfl, rfl, HCR, HLR, HRE, HR2, HBQ⟩ := hrel
          by_cases hjk : (j : Int) < (kn : Int)
          · skip
            have hjl : j < ks.length := by have := HKN.out; omega
            obtain ⟨ad, a3, e3, a4, e4, rfl, hLx, g0, g1, g2, g3, g4⟩ := at_ HKC.out j hjl HKN.out.symm
            obtain ⟨q1, q2, q3, q4, q5⟩ := HK.out ks[j] (List.getElem_mem hjl)
            have HLx := Lib.hid hLx
            have hre : rest = encE ks[j] ++ encL (ks.drop (j + 1)) := by rw [HRE.out, List.drop_eq_getElem_cons hjl, encL]
            clear hLx
            generalize ks[j] = x at g0 g1 g2 g3 g4 HLx q1 q2 q3 q4 q5 hre
            have HPB : Hid (parseF rest = .ok (x, ((encE x).length : Int))) := Lib.hid (by rw [hre]; exact parse_back q1 q3 q2)
            have HOKR : Hid (okb rest = true) := Lib.hid (by rw [HRE.out]; exact KsOK.okb (fun y hy => HK.out y (List.mem_of_mem_drop hy)))
            have HLL : Hid ((rest.length : Int) < 1000000000) := Lib.hid (by have := HR2.out; omega)
            have HFX := Lib.hid q4
            have hrl : (encE x).length ≤ rest.length := by rw [hre, List.length_append]; omega
            obtain ⟨i5, hi5, _, hsz5, _⟩ := info_parts info5
            obtain ⟨A9, hcut9, hA9, hcA9⟩ := print_drop_of (P := Try.prog) (Value.int .u8) 0 24 5 .i64 Try.underlying24 hi5 hsz5 A10 c10 rest ((encE x).length : Int) (by omega) (by omega) HLR.out
            have hdr : rest.drop ((encE x).length : Int).toNat = encL (ks.drop (j + 1)) := by rw [Int.toNat_natCast, hre, List.drop_left]
            have HC9 : Hid (Kd.C (Kd.int .u8) wz A9 (rest.drop ((encE x).length : Int).toNat).length (rest.drop ((encE x).length : Int).toNat)) := Lib.hid (Kd.C_of_reads (h1 := fun _ => rfl) (hA9 wz (Kd.reads_of_C HCR.out)))
            have HCA9 := Lib.hid hcA9
            have HLD : Hid ((rest.drop ((encE x).length : Int).toNat).length ≤ 200000) := Lib.hid (by rw [List.length_drop]; have := HR2.out; omega)
            have HDR := Lib.hid hdr
            clear hA9 hi5 hsz5 hcA9 hdr hrl hre q1 q2 q3 q4 q5
            generalize rest.drop ((encE x).length : Int).toNat = rest9 at hcut9 HC9 HCA9 HLD HDR
            generalize c10 - ((encE x).length : Int).toNat = c9 at hcut9 HCA9
            go_upto_region 18 with (go_at_call 17; with_reducible refine (parse_calls rest A10 c10 _ (Kd.C_below HCR.out HBQ.out) HLR.out HOKR.out HLL.out).mono ?_; unfold ParseQ; rw [HPB.out]; rintro e w1 ⟨hb1, E3, f3, E4, f4, rfl, h3, h4⟩; have HM1 := Lib.hid (lies_R h3 h4); have HB1 := Lib.hid (below_then HBQ.out HBQ.out.size hb1); clear hb1 h3 h4)
            have hal9 : Below w1.heap.size w1 (w1.alloc (.cells #[.int .i64 x.f0.f0, .bool x.f0.f1, .int .i64 x.f0.f2, .slice E3 x.f1.length f3, .slice E4 x.f2.length f4] 27)) := below_alloc (Below.refl _ _) _
            have hX2 : (w1.alloc (.cells #[.int .i64 x.f0.f0, .bool x.f0.f1, .int .i64 x.f0.f2, .slice E3 x.f1.length f3, .slice E4 x.f2.length f4] 27)).heap[w1.heap.size]? = some (.cells #[.int .i64 x.f0.f0, .bool x.f0.f1, .int .i64 x.f0.f2, .slice E3 x.f1.length f3, .slice E4 x.f2.length f4] 27 (0, 0)) := blk_new w1 _
            have hM2 := HM1.out.below hal9
            have hB2 := below_then HB1.out HB1.out.size hal9
            clear hal9 HM1 HB1
            generalize w1.alloc (.cells #[.int .i64 x.f0.f0, .bool x.f0.f1, .int .i64 x.f0.f2, .slice E3 x.f1.length f3, .slice E4 x.f2.length f4] 27) = w9 at hX2 hM2 hB2 ⊢
            generalize w1.heap.size = xb at hX2 ⊢
            have hX := blk_below hX2 (below_drew (Below.refl _ _))
            have hM := hM2.below (below_drew (Below.refl _ _))
            have hB := below_drew hB2
            clear hX2 hM2 hB2
            have r0 := pw_cell_below hB g0
            have r1 := pw_cell_below hB g1
            have r2 := pw_cell_below hB g2
            have r3 := pw_cell_below hB g3
            have r4 := pw_cell_below hB g4
            refine start_ (n := 11) (S := fun w' => (w'.heap[xb]? = some (.cells #[.int .i64 x.f0.f0, .bool x.f0.f1, .int .i64 x.f0.f2, .slice E3 x.f1.length f3, .slice E4 x.f2.length f4] 27 (0, 0))) ∧ (Lies w' x E3 f3 E4 f4) ∧ (Below wz.heap.size wz w') ∧ (w'.cell? (ad.add (j * 5)) = some (.int .i64 x.f0.f0)) ∧ (w'.cell? ⟨(ad.add (j * 5)).block, (ad.add (j * 5)).off + 1, none⟩ = some (.bool x.f0.f1)) ∧ (w'.cell? ⟨(ad.add (j * 5)).block, (ad.add (j * 5)).off + 2, none⟩ = some (.int .i64 x.f0.f2)) ∧ (w'.cell? ⟨(ad.add (j * 5)).block, (ad.add (j * 5)).off + 3, none⟩ = some (.slice a3 x.f1.length e3)) ∧ (w'.cell? ⟨(ad.add (j * 5)).block, (ad.add (j * 5)).off + 4, none⟩ = some (.slice a4 x.f2.length e4))) (ds := []) #[false, false, false, false, false, false, false, false, false, false, false] (by kernel_rfl) rfl rfl ⟨hX, hM, hB, r0, r1, r2, r3, r4⟩ (fun hHeld => ?_)
            refine pure_ (i := 0) (N := some 73) (v := ?_) (a' := ?_) #[true, false, false, false, false, false, false, false, false, false, false] rfl rfl (by kernel_rfl) (fun _ _ _ h => h) (Or.inl ⟨by rfl, ?_⟩) ?_ ?_
            rotate_left
            · intro w'
              go_simp
              with_reducible rfl
            rotate_left
            · simp only [Act.put, List.setIfInBounds_toArray, List.set_cons_zero, List.set_cons_succ, i64_w, i32_w]
              rfl
            refine pure_ (i := 1) (N := some 74) (v := ?_) (a' := ?_) #[true, true, false, false, false, false, false, false, false, false, false] rfl rfl (by kernel_rfl) (fun _ _ _ h => h) (Or.inl ⟨by rfl, ?_⟩) ?_ ?_
            rotate_left
            · intro w'
              go_simp
              with_reducible rfl
            rotate_left
            · simp only [Act.put, List.setIfInBounds_toArray, List.set_cons_zero, List.set_cons_succ, i64_w, i32_w]
              rfl
            refine pure_ (i := 2) (N := some 75) (v := ?_) (a' := ?_) #[true, true, true, false, false, false, false, false, false, false, false] rfl rfl (by kernel_rfl) (fun _ _ _ h => h) (Or.inl ⟨by rfl, ?_⟩) ?_ ?_
            rotate_left
            · intro w'
              go_simp
              with_reducible rfl
            rotate_left
            · simp only [Act.put, List.setIfInBounds_toArray, List.set_cons_zero, List.set_cons_succ, i64_w, i32_w]
              rfl
            refine pure_ (i := 4) (N := some 77) (v := ?_) (a' := ?_) #[true, true, true, false, true, false, false, false, false, false, false] rfl rfl (by kernel_rfl) (fun _ _ _ h => h) (Or.inl ⟨by rfl, ?_⟩) ?_ ?_
            rotate_left
            · intro w'
              go_simp
              with_reducible rfl
            rotate_left
            · simp only [Act.put, List.setIfInBounds_toArray, List.set_cons_zero, List.set_cons_succ, i64_w, i32_w]
              rfl
            refine pure_ (i := 5) (N := some 78) (v := ?_) (a' := ?_) #[true, true, true, false, true, true, false, false, false, false, false] rfl rfl (by kernel_rfl) (fun _ _ _ h => h) (Or.inl ⟨by rfl, ?_⟩) ?_ ?_
            rotate_left
            · intro w'
              go_simp
              with_reducible rfl
            rotate_left
            · simp only [Act.put, List.setIfInBounds_toArray, List.set_cons_zero, List.set_cons_succ, i64_w, i32_w]
              rfl
            refine pure_ (i := 6) (N := some 79) (v := ?_) (a' := ?_) #[true, true, true, false, true, true, true, false, false, false, false] rfl rfl (by kernel_rfl) (fun _ _ _ h => h) (Or.inl ⟨by rfl, ?_⟩) ?_ ?_
            rotate_left
            · intro w'
              go_simp
              with_reducible rfl
            rotate_left
            · simp only [Act.put, List.setIfInBounds_toArray, List.set_cons_zero, List.set_cons_succ, i64_w, i32_w]
              rfl
            refine take_ (i := 3) (N := some 76) (v := ?_) (a' := ?_) #[true, true, true, true, true, true, true, false, false, false, false] rfl rfl (by kernel_rfl) (fun _ _ _ h => h) (Or.inl ⟨by rfl, ?_⟩) hHeld ?_ ?_
            rotate_left
            · rintro w' ⟨hX, hM, hB, r0, r1, r2, r3, r4⟩
              have x0 : w'.cell? ⟨xb, 0, none⟩ = some (.int .i64 x.f0.f0) := (blk_cell hX 0).trans rfl
              have x1 : w'.cell? ⟨xb, 1, none⟩ = some (.bool x.f0.f1) := (blk_cell hX 1).trans rfl
              have x2 : w'.cell? ⟨xb, 2, none⟩ = some (.int .i64 x.f0.f2) := (blk_cell hX 2).trans rfl
              have x3 : w'.cell? ⟨xb, 3, none⟩ = some (.slice E3 x.f1.length f3) := (blk_cell hX 3).trans rfl
              have x4 : w'.cell? ⟨xb, 4, none⟩ = some (.slice E4 x.f2.length f4) := (blk_cell hX 4).trans rfl
              go_simp
              with_reducible rfl
            rotate_left
            · simp only [Act.put, List.setIfInBounds_toArray, List.set_cons_zero, List.set_cons_succ, i64_w, i32_w]
              rfl
            refine take_ (i := 7) (N := some 80) (v := ?_) (a' := ?_) #[true, true, true, true, true, true, true, true, false, false, false] rfl rfl (by kernel_rfl) (fun _ _ _ h => h) (Or.inl ⟨by rfl, ?_⟩) hHeld ?_ ?_
            rotate_left
            · rintro w' ⟨hX, hM, hB, r0, r1, r2, r3, r4⟩
              go_simp
              with_reducible rfl
            rotate_left
            · simp only [Act.put, List.setIfInBounds_toArray, List.set_cons_zero, List.set_cons_succ, i64_w, i32_w]
              rfl
            refine one_ (i := 8) (N := some 81) #[true, true, true, true, true, true, true, true, true, false, false] rfl rfl (by kernel_rfl) (by decide) (fun K hK => ?_)
            obtain ⟨hX, hM, hB, r0, r1, r2, r3, r4⟩ := hHeld
            refine goes_ Try.func12 (by kernel_rfl) rfl #[.agg #[.int .i64 x.f0.f0, .bool x.f0.f1, .int .i64 x.f0.f2, .slice E3 x.f1.length f3, .slice E4 x.f2.length f4], .agg #[.int .i64 x.f0.f0, .bool x.f0.f1, .int .i64 x.f0.f2, .slice a3 x.f1.length e3, .slice a4 x.f2.length e4]] (by rfl) rfl rfl (by simp only [List.map_toArray, List.map_cons, List.map_nil]; rfl) ?_
            with_reducible refine (same_at x x HFX.out HFX.out E3 f3 E4 f4 a3 e3 a4 e4 _ hM (HLx.out.below hB)).mono ?_
            rintro e w5 ⟨he5, hb⟩
            rw [same_refl] at he5
            subst he5
            refine ⟨_, rfl, ?_⟩
            refine hK.out _ _ ⟨(blk_below hX hb), (hM.below hb), (below_then hB hB.size hb), (pw_cell_below hb r0), (pw_cell_below hb r1), (pw_cell_below hb r2), (pw_cell_below hb r3), (pw_cell_below hb r4)⟩ (fun hHeld => ?_)
            clear hK K
            refine norm_ (a' := ?_) ?_ ?_
            rotate_left
            · show Act.put _ (some 81) _ = _
              simp only [Act.put, List.setIfInBounds_toArray, List.set_cons_zero, List.set_cons_succ, i64_w, i32_w]
              rfl
            refine pure_ (i := 9) (N := some 82) (v := ?_) (a' := ?_) #[true, true, true, true, true, true, true, true, true, true, false] rfl rfl (by kernel_rfl) (fun _ _ _ h => h) (Or.inl ⟨by rfl, ?_⟩) ?_ ?_
            rotate_left
            · intro w'
              go_simp
              with_reducible rfl
            rotate_left
            · simp only [Act.put, List.setIfInBounds_toArray, List.set_cons_zero, List.set_cons_succ, i64_w, i32_w]
              rfl
            refine pure_ (i := 10) (N := some 83) (v := ?_) (a' := ?_) #[true, true, true, true, true, true, true, true, true, true, true] rfl rfl (by kernel_rfl) (fun _ _ _ h => h) (Or.inl ⟨by rfl, ?_⟩) ?_ ?_
            rotate_left
            · intro w'
              go_simp
              with_reducible rfl
            rotate_left
            · simp only [Act.put, List.setIfInBounds_toArray, List.set_cons_zero, List.set_cons_succ, i64_w, i32_w]
              rfl
            refine done_ (by kernel_rfl) ?_
            obtain ⟨hX, hM, hB, r0, r1, r2, r3, r4⟩ := hHeld
            go_wp2_with fail
            go_roundw
            case rel => exact ⟨j + 1, rest9, A9, c9, by omega, by go_num, rfl, HC9, HCA9, HDR, HLD, Lib.hid hB⟩
            case measure => simp [intOf]; omega
          · skip
            obtain rfl : j = kn := by omega
            have hr0 : rest = [] := by rw [HRE.out, List.drop_eq_nil_of_le (by have := HKN.out; omega), encL]
            subst hr0
            obtain ⟨b1, b2, b3⟩ := HK.out.box (by have := HKN.out; omega)
            have HPX : Hid (∀ W, Below wz.heap.size wz W → Calls Try.prog 10 #[.agg #[.int .i64 0, .bool true, .int .i64 16, .slice none 0 0, .slice A4 j c4]] W fun e w' => PutQ W (boxE ks) e w') := Lib.hid (fun W hW => by have h := put_calls (boxE ks) b2 b3 none 0 A4 c4 W ⟨Nat.le_refl _, Kd.C_nil _ _, by have := HKCL.out; have := HKN.out; simpa [this] using HKCL.out, by have h := Kd.C_below HKC.out hW; rw [← HKN.out] at h; exact h⟩; rw [show ev (boxE ks) none 0 A4 c4 = .agg #[.int .i64 0, .bool true, .int .i64 16, .slice none 0 0, .slice A4 j c4] from by rw [← HKN.out]; rfl] at h; exact h)
            have HFB := Lib.hid b2
            rcases putR_err b1 with hpr | hpr | ⟨b4, b5, hpr⟩
            · clear b1 b2 b3
              go_wp2_with (go_at_call 10; with_reducible refine (HPX.out _ (below_alloc HBQ.out _)).mono ?_; unfold PutQ; rw [hpr]; rintro e w2 ⟨v16, rfl, h16, hb2⟩; (obtain ⟨A16, c16, hv16, hl16, hC16⟩ := Kd.R_reads h16); subst hv16; have HC16 := Lib.hid hC16; have HL16 := Lib.hid hl16; have HX2 := Lib.hid (blk_below (blk_new wr (.cells #[.int .i64 0, .bool true, .int .i64 16, .slice none 0 0, .slice A4 j c4] 27)) hb2); have HB2 := Lib.hid (below_then (below_alloc HBQ.out _) (by simp; have := HBQ.out.size; omega) hb2 : Below wz.heap.size wz w2); clear h16 hb2 hl16 hC16)
              go_ret
              exact ⟨rfl, below_then HB.out HB.out.size HB2.out⟩
            · clear b1 b2 b3
              go_wp2_with (go_at_call 10; with_reducible refine (HPX.out _ (below_alloc HBQ.out _)).mono ?_; unfold PutQ; rw [hpr]; rintro e w2 ⟨v16, rfl, h16, hb2⟩; (obtain ⟨A16, c16, hv16, hl16, hC16⟩ := Kd.R_reads h16); subst hv16; have HC16 := Lib.hid hC16; have HL16 := Lib.hid hl16; have HX2 := Lib.hid (blk_below (blk_new wr (.cells #[.int .i64 0, .bool true, .int .i64 16, .slice none 0 0, .slice A4 j c4] 27)) hb2); have HB2 := Lib.hid (below_then (below_alloc HBQ.out _) (by simp; have := HBQ.out.size; omega) hb2 : Below wz.heap.size wz w2); clear h16 hb2 hl16 hC16)
              go_ret
              exact ⟨rfl, below_then HB.out HB.out.size HB2.out⟩
            · obtain ⟨be, hbe⟩ : ∃ l, l = encE (boxE ks) := ⟨_, rfl⟩
              rw [← hbe] at hpr b5
              have HOKB : Hid (okb be = true) := Lib.hid (by rw [hbe]; exact enc_okb _ b2 (by rw [← hbe]; omega))
              have HLB : Hid ((be.length : Int) < 1000000000) := Lib.hid (by omega)
              have HPB : Hid (parseF be = .ok (boxE ks, (be.length : Int))) := Lib.hid (by have h := parse_back (x := boxE ks) (behind := []) b1 (by rw [← hbe]; omega) b4; rw [List.append_nil, ← hbe] at h; exact h)
              have hge : decide (((encL ks).length : Int) + 2 ≤ (be.length : Int)) = true := decide_eq_true (by rw [hbe, encE_eq, List.length_append]; have := head_pos ⟨0, true, 16⟩ ([] ++ encL ks).length (by decide); simp only [List.nil_append] at this ⊢; omega)
              have hw2 : wrap64 (((encL ks).length : Int) + 2) = ((encL ks).length : Int) + 2 := by have := HLA.out; unfold wrap64; omega
              have HSM : Hid (∀ (E3 : Option Addr) (f3 : Nat) (E4 : Option Addr) (f4 : Nat) (W : World), Below wz.heap.size wz W → Lies W (boxE ks) E3 f3 E4 f4 → Calls Try.prog 12 #[.agg #[.int .i64 0, .bool true, .int .i64 16, .slice none 0 0, .slice A4 j c4], ev (boxE ks) E3 f3 E4 f4] W fun e w' => e = .returned (.bool true) ∧ Below W.heap.size W w') := Lib.hid (fun E3 f3 E4 f4 W hW hM => by have h := same_walk (boxE ks) (boxE ks) b2 b2 none 0 A4 c4 E3 f3 E4 f4 W ⟨Nat.le_refl _, Kd.C_nil _ _, by have := HKCL.out; have := HKN.out; simpa [this] using HKCL.out, by have h := Kd.C_below HKC.out hW; rw [← HKN.out] at h; exact h⟩ hM; rw [same_refl, show ev (boxE ks) none 0 A4 c4 = .agg #[.int .i64 0, .bool true, .int .i64 16, .slice none 0 0, .slice A4 j c4] from by rw [← HKN.out]; rfl] at h; exact h)
              clear hbe b1 b2 b3 b4 b5
              go_wp2_with (first | (go_at_call 10; with_reducible refine (HPX.out _ (below_alloc HBQ.out _)).mono ?_; unfold PutQ; rw [hpr]; rintro e w2 ⟨v16, rfl, h16, hb2⟩; (obtain ⟨A16, c16, hv16, hl16, hC16⟩ := Kd.R_reads h16); subst hv16; have HC16 := Lib.hid hC16; have HL16 := Lib.hid hl16; have HX2 := Lib.hid (blk_below (blk_new wr (.cells #[.int .i64 0, .bool true, .int .i64 16, .slice none 0 0, .slice A4 j c4] 27)) hb2); have HB2 := Lib.hid (below_then (below_alloc HBQ.out _) (by simp; have := HBQ.out.size; omega) hb2 : Below wz.heap.size wz w2); clear h16 hb2 hl16 hC16) | (go_at_call 17; with_reducible refine (parse_calls be A16 c16 _ HC16.out HL16.out HOKB.out HLB.out).mono ?_; unfold ParseQ; rw [HPB.out]; rintro e w3 ⟨hb3, E3, f3, E4, f4, rfl, h3, h4⟩; have HM3 := Lib.hid (lies_R h3 h4); have HX3 := Lib.hid (blk_below HX2.out hb3); have HB3 := Lib.hid (below_then HB2.out HB2.out.size hb3); have y0 : ∀ o, (w3.alloc o).cell? ⟨wr.heap.size, 0, none⟩ = some (.int .i64 0) := fun o => (blk_cell (blk_below HX3.out (below_alloc (Below.refl _ _) o)) 0).trans rfl; have y1 : ∀ o, (w3.alloc o).cell? ⟨wr.heap.size, 1, none⟩ = some (.bool true) := fun o => (blk_cell (blk_below HX3.out (below_alloc (Below.refl _ _) o)) 1).trans rfl; have y2 : ∀ o, (w3.alloc o).cell? ⟨wr.heap.size, 2, none⟩ = some (.int .i64 16) := fun o => (blk_cell (blk_below HX3.out (below_alloc (Below.refl _ _) o)) 2).trans rfl; have y3 : ∀ o, (w3.alloc o).cell? ⟨wr.heap.size, 3, none⟩ = some (.slice none 0 0) := fun o => (blk_cell (blk_below HX3.out (below_alloc (Below.refl _ _) o)) 3).trans rfl; have y4 : ∀ o, (w3.alloc o).cell? ⟨wr.heap.size, 4, none⟩ = some (.slice A4 j c4) := fun o => (blk_cell (blk_below HX3.out (below_alloc (Below.refl _ _) o)) 4).trans rfl; clear hb3 h3 h4) | (go_at_call 12; refine (HSM.out E3 f3 E4 f4 _ (below_alloc HB3.out _) (HM3.out.below (below_alloc (Below.refl _ _) _))).mono ?_; rintro e w4 ⟨rfl, hb4⟩; have HB4 := Lib.hid (below_then (below_alloc HB3.out _) (by simp; have := HB3.out.size; omega) hb4 : Below wz.heap.size wz w4); clear hb4))
              go_ret
              exact ⟨rfl, below_then HB.out HB.out.size HB4.out⟩
    · skip
      obtain ⟨wz, rfl⟩ : ∃ w', w' = wr := ⟨wr, rfl⟩
      obtain ⟨A7, c7, hv7, hl7, hC7⟩ := Kd.R_reads H3.out
      subst hv7
      obtain ⟨A4', c4', hv4, _, hC4⟩ := Kd.R_reads H4.out
      injection hv4 with ha4 _ hc4
      have HKCL : Hid (ks.length ≤ c4) := Lib.hid (by obtain ⟨B9, d9, e9, l9, _⟩ := Kd.R_reads H4.out; injection e9 with _ _ z9; omega)
      subst ha4 hc4
      have HKC : Hid (Kd.C k27 wz A4 ks.length ks) := Lib.hid (oldE_C hC4 HB.out)
      have HC7 := Lib.hid hC7
      have HL7 := Lib.hid hl7
      have HLA : Hid ((encL ks).length ≤ 200000) := Lib.hid (by have := HK.out.len; have := HK8.out; omega)
      clear hC4 hl7 hC7 H3 H4 HKI HC HF
      generalize hkn : ks.length = kn at HKC HK8 ⊢
      have HKN := Lib.hid hkn
      have hk8 : kn ≤ 8 := HK8.out
      clear hkn hi
      go_wp2_with fail
      clear hlt 
      go_loopw [10, 11] (fun v10 v11 wr => ∃ (j : Nat) (rest : List Int) (A10 : Option Addr) (c10 : Nat), j ≤ kn ∧ v11 = .int .i64 j ∧ v10 = .slice A10 rest.length c10 ∧ Hid (Kd.C (Kd.int .u8) wz A10 rest.length rest) ∧ Hid (rest.length ≤ c10) ∧ Hid (rest = encL (ks.drop j)) ∧ Hid (rest.length ≤ 200000) ∧ Hid (Below wz.heap.size wz wr)) (fun _ v11 _ => kn - (intOf v11).toNat)
      case atStart => exact ⟨0, encL ks, A7, c7, Nat.zero_le _, rfl, rfl, HC7, HL7, Lib.hid (by rw [List.drop_zero]), HLA, Lib.hid (Below.refl _ _)⟩
      case round =>
        obtain ⟨j, rest, A10, c10, hj, rfl, rfl, HCR, HLR, HRE, HR2, HBQ⟩ := hrel
        by_cases hjk : (j : Int) < (kn : Int)
        · skip
          have hjl : j < ks.length := by have := HKN.out; omega
          obtain ⟨ad, a3, e3, a4, e4, rfl, hLx, g0, g1, g2, g3, g4⟩ := at_ HKC.out j hjl HKN.out.symm
          obtain ⟨q1, q2, q3, q4, q5⟩ := HK.out ks[j] (List.getElem_mem hjl)
          have HLx := Lib.hid hLx
          have hre : rest = encE ks[j] ++ encL (ks.drop (j + 1)) := by rw [HRE.out, List.drop_eq_getElem_cons hjl, encL]
          clear hLx
          generalize ks[j] = x at g0 g1 g2 g3 g4 HLx q1 q2 q3 q4 q5 hre
          have HPB : Hid (parseF rest = .ok (x, ((encE x).length : Int))) := Lib.hid (by rw [hre]; exact parse_back q1 q3 q2)
          have HOKR : Hid (okb rest = true) := Lib.hid (by rw [HRE.out]; exact KsOK.okb (fun y hy => HK.out y (List.mem_of_mem_drop hy)))
          have HLL : Hid ((rest.length : Int) < 1000000000) := Lib.hid (by have := HR2.out; omega)
          have HFX := Lib.hid q4
          have hrl : (encE x).length ≤ rest.length := by rw [hre, List.length_append]; omega
          obtain ⟨i5, hi5, _, hsz5, _⟩ := info_parts info5
          obtain ⟨A9, hcut9, hA9, hcA9⟩ := print_drop_of (P := Try.prog) (Value.int .u8) 0 24 5 .i64 Try.underlying24 hi5 hsz5 A10 c10 rest ((encE x).length : Int) (by omega) (by omega) HLR.out
          have hdr : rest.drop ((encE x).length : Int).toNat = encL (ks.drop (j + 1)) := by rw [Int.toNat_natCast, hre, List.drop_left]
          have HC9 : Hid (Kd.C (Kd.int .u8) wz A9 (rest.drop ((encE x).length : Int).toNat).length (rest.drop ((encE x).length : Int).toNat)) := Lib.hid (Kd.C_of_reads (h1 := fun _ => rfl) (hA9 wz (Kd.reads_of_C HCR.out)))
          have HCA9 := Lib.hid hcA9
          have HLD : Hid ((rest.drop ((encE x).length : Int).toNat).length ≤ 200000) := Lib.hid (by rw [List.length_drop]; have := HR2.out; omega)
          have HDR := Lib.hid hdr
          clear hA9 hi5 hsz5 hcA9 hdr hrl hre q1 q2 q3 q4 q5
          generalize rest.drop ((encE x).length : Int).toNat = rest9 at hcut9 HC9 HCA9 HLD HDR
          generalize c10 - ((encE x).length : Int).toNat = c9 at hcut9 HCA9
          go_upto_region 18 with (go_at_call 17; with_reducible refine (parse_calls rest A10 c10 _ (Kd.C_below HCR.out HBQ.out) HLR.out HOKR.out HLL.out).mono ?_; unfold ParseQ; rw [HPB.out]; rintro e w1 ⟨hb1, E3, f3, E4, f4, rfl, h3, h4⟩; have HM1 := Lib.hid (lies_R h3 h4); have HB1 := Lib.hid (below_then HBQ.out HBQ.out.size hb1); clear hb1 h3 h4)
          have hal9 : Below w1.heap.size w1 (w1.alloc (.cells #[.int .i64 x.f0.f0, .bool x.f0.f1, .int .i64 x.f0.f2, .slice E3 x.f1.length f3, .slice E4 x.f2.length f4] 27)) := below_alloc (Below.refl _ _) _
          have hX2 : (w1.alloc (.cells #[.int .i64 x.f0.f0, .bool x.f0.f1, .int .i64 x.f0.f2, .slice E3 x.f1.length f3, .slice E4 x.f2.length f4] 27)).heap[w1.heap.size]? = some (.cells #[.int .i64 x.f0.f0, .bool x.f0.f1, .int .i64 x.f0.f2, .slice E3 x.f1.length f3, .slice E4 x.f2.length f4] 27 (0, 0)) := blk_new w1 _
          have hM2 := HM1.out.below hal9
          have hB2 := below_then HB1.out HB1.out.size hal9
          clear hal9 HM1 HB1
          generalize w1.alloc (.cells #[.int .i64 x.f0.f0, .bool x.f0.f1, .int .i64 x.f0.f2, .slice E3 x.f1.length f3, .slice E4 x.f2.length f4] 27) = w9 at hX2 hM2 hB2 ⊢
          generalize w1.heap.size = xb at hX2 ⊢
          have hX := blk_below hX2 (below_drew (Below.refl _ _))
          have hM := hM2.below (below_drew (Below.refl _ _))
          have hB := below_drew hB2
          clear hX2 hM2 hB2
          have r0 := pw_cell_below hB g0
          have r1 := pw_cell_below hB g1
          have r2 := pw_cell_below hB g2
          have r3 := pw_cell_below hB g3
          have r4 := pw_cell_below hB g4
          refine start_ (n := 11) (S := fun w' => (w'.heap[xb]? = some (.cells #[.int .i64 x.f0.f0, .bool x.f0.f1, .int .i64 x.f0.f2, .slice E3 x.f1.length f3, .slice E4 x.f2.length f4] 27 (0, 0))) ∧ (Lies w' x E3 f3 E4 f4) ∧ (Below wz.heap.size wz w') ∧ (w'.cell? (ad.add (j * 5)) = some (.int .i64 x.f0.f0)) ∧ (w'.cell? ⟨(ad.add (j * 5)).block, (ad.add (j * 5)).off + 1, none⟩ = some (.bool x.f0.f1)) ∧ (w'.cell? ⟨(ad.add (j * 5)).block, (ad.add (j * 5)).off + 2, none⟩ = some (.int .i64 x.f0.f2)) ∧ (w'.cell? ⟨(ad.add (j * 5)).block, (ad.add (j * 5)).off + 3, none⟩ = some (.slice a3 x.f1.length e3)) ∧ (w'.cell? ⟨(ad.add (j * 5)).block, (ad.add (j * 5)).off + 4, none⟩ = some (.slice a4 x.f2.length e4))) (ds := []) #[false, false, false, false, false, false, false, false, false, false, false] (by kernel_rfl) rfl rfl ⟨hX, hM, hB, r0, r1, r2, r3, r4⟩ (fun hHeld => ?_)
          refine pure_ (i := 0) (N := some 73) (v := ?_) (a' := ?_) #[true, false, false, false, false, false, false, false, false, false, false] rfl rfl (by kernel_rfl) (fun _ _ _ h => h) (Or.inl ⟨by rfl, ?_⟩) ?_ ?_
          rotate_left
          · intro w'
            go_simp
            with_reducible rfl
          rotate_left
          · simp only [Act.put, List.setIfInBounds_toArray, List.set_cons_zero, List.set_cons_succ, i64_w, i32_w]
            rfl
          refine pure_ (i := 1) (N := some 74) (v := ?_) (a' := ?_) #[true, true, false, false, false, false, false, false, false, false, false] rfl rfl (by kernel_rfl) (fun _ _ _ h => h) (Or.inl ⟨by rfl, ?_⟩) ?_ ?_
          rotate_left
          · intro w'
            go_simp
            with_reducible rfl
          rotate_left
          · simp only [Act.put, List.setIfInBounds_toArray, List.set_cons_zero, List.set_cons_succ, i64_w, i32_w]
            rfl
          refine pure_ (i := 2) (N := some 75) (v := ?_) (a' := ?_) #[true, true, true, false, false, false, false, false, false, false, false] rfl rfl (by kernel_rfl) (fun _ _ _ h => h) (Or.inl ⟨by rfl, ?_⟩) ?_ ?_
          rotate_left
          · intro w'
            go_simp
            with_reducible rfl
          rotate_left
          · simp only [Act.put, List.setIfInBounds_toArray, List.set_cons_zero, List.set_cons_succ, i64_w, i32_w]
            rfl
          refine pure_ (i := 4) (N := some 77) (v := ?_) (a' := ?_) #[true, true, true, false, true, false, false, false, false, false, false] rfl rfl (by kernel_rfl) (fun _ _ _ h => h) (Or.inl ⟨by rfl, ?_⟩) ?_ ?_
          rotate_left
          · intro w'
            go_simp
            with_reducible rfl
          rotate_left
          · simp only [Act.put, List.setIfInBounds_toArray, List.set_cons_zero, List.set_cons_succ, i64_w, i32_w]
            rfl
          refine pure_ (i := 5) (N := some 78) (v := ?_) (a' := ?_) #[true, true, true, false, true, true, false, false, false, false, false] rfl rfl (by kernel_rfl) (fun _ _ _ h => h) (Or.inl ⟨by rfl, ?_⟩) ?_ ?_
          rotate_left
          · intro w'
            go_simp
            with_reducible rfl
          rotate_left
          · simp only [Act.put, List.setIfInBounds_toArray, List.set_cons_zero, List.set_cons_succ, i64_w, i32_w]
            rfl
          refine pure_ (i := 6) (N := some 79) (v := ?_) (a' := ?_) #[true, true, true, false, true, true, true, false, false, false, false] rfl rfl (by kernel_rfl) (fun _ _ _ h => h) (Or.inl ⟨by rfl, ?_⟩) ?_ ?_
          rotate_left
          · intro w'
            go_simp
            with_reducible rfl
          rotate_left
          · simp only [Act.put, List.setIfInBounds_toArray, List.set_cons_zero, List.set_cons_succ, i64_w, i32_w]
            rfl
          refine take_ (i := 3) (N := some 76) (v := ?_) (a' := ?_) #[true, true, true, true, true, true, true, false, false, false, false] rfl rfl (by kernel_rfl) (fun _ _ _ h => h) (Or.inl ⟨by rfl, ?_⟩) hHeld ?_ ?_
          rotate_left
          · rintro w' ⟨hX, hM, hB, r0, r1, r2, r3, r4⟩
            have x0 : w'.cell? ⟨xb, 0, none⟩ = some (.int .i64 x.f0.f0) := (blk_cell hX 0).trans rfl
            have x1 : w'.cell? ⟨xb, 1, none⟩ = some (.bool x.f0.f1) := (blk_cell hX 1).trans rfl
            have x2 : w'.cell? ⟨xb, 2, none⟩ = some (.int .i64 x.f0.f2) := (blk_cell hX 2).trans rfl
            have x3 : w'.cell? ⟨xb, 3, none⟩ = some (.slice E3 x.f1.length f3) := (blk_cell hX 3).trans rfl
            have x4 : w'.cell? ⟨xb, 4, none⟩ = some (.slice E4 x.f2.length f4) := (blk_cell hX 4).trans rfl
            go_simp
            with_reducible rfl
          rotate_left
          · simp only [Act.put, List.setIfInBounds_toArray, List.set_cons_zero, List.set_cons_succ, i64_w, i32_w]
            rfl
          refine take_ (i := 7) (N := some 80) (v := ?_) (a' := ?_) #[true, true, true, true, true, true, true, true, false, false, false] rfl rfl (by kernel_rfl) (fun _ _ _ h => h) (Or.inl ⟨by rfl, ?_⟩) hHeld ?_ ?_
          rotate_left
          · rintro w' ⟨hX, hM, hB, r0, r1, r2, r3, r4⟩
            go_simp
            with_reducible rfl
          rotate_left
          · simp only [Act.put, List.setIfInBounds_toArray, List.set_cons_zero, List.set_cons_succ, i64_w, i32_w]
            rfl
          refine one_ (i := 8) (N := some 81) #[true, true, true, true, true, true, true, true, true, false, false] rfl rfl (by kernel_rfl) (by decide) (fun K hK => ?_)
          obtain ⟨hX, hM, hB, r0, r1, r2, r3, r4⟩ := hHeld
          refine goes_ Try.func12 (by kernel_rfl) rfl #[.agg #[.int .i64 x.f0.f0, .bool x.f0.f1, .int .i64 x.f0.f2, .slice E3 x.f1.length f3, .slice E4 x.f2.length f4], .agg #[.int .i64 x.f0.f0, .bool x.f0.f1, .int .i64 x.f0.f2, .slice a3 x.f1.length e3, .slice a4 x.f2.length e4]] (by rfl) rfl rfl (by simp only [List.map_toArray, List.map_cons, List.map_nil]; rfl) ?_
          with_reducible refine (same_at x x HFX.out HFX.out E3 f3 E4 f4 a3 e3 a4 e4 _ hM (HLx.out.below hB)).mono ?_
          rintro e w5 ⟨he5, hb⟩
          rw [same_refl] at he5
          subst he5
          refine ⟨_, rfl, ?_⟩
          refine hK.out _ _ ⟨(blk_below hX hb), (hM.below hb), (below_then hB hB.size hb), (pw_cell_below hb r0), (pw_cell_below hb r1), (pw_cell_below hb r2), (pw_cell_below hb r3), (pw_cell_below hb r4)⟩ (fun hHeld => ?_)
          clear hK K
          refine norm_ (a' := ?_) ?_ ?_
          rotate_left
          · show Act.put _ (some 81) _ = _
            simp only [Act.put, List.setIfInBounds_toArray, List.set_cons_zero, List.set_cons_succ, i64_w, i32_w]
            rfl
          refine pure_ (i := 9) (N := some 82) (v := ?_) (a' := ?_) #[true, true, true, true, true, true, true, true, true, true, false] rfl rfl (by kernel_rfl) (fun _ _ _ h => h) (Or.inl ⟨by rfl, ?_⟩) ?_ ?_
          rotate_left
          · intro w'
            go_simp
            with_reducible rfl
          rotate_left
          · simp only [Act.put, List.setIfInBounds_toArray, List.set_cons_zero, List.set_cons_succ, i64_w, i32_w]
            rfl
          refine pure_ (i := 10) (N := some 83) (v := ?_) (a' := ?_) #[true, true, true, true, true, true, true, true, true, true, true] rfl rfl (by kernel_rfl) (fun _ _ _ h => h) (Or.inl ⟨by rfl, ?_⟩) ?_ ?_
          rotate_left
          · intro w'
            go_simp
            with_reducible rfl
          rotate_left
          · simp only [Act.put, List.setIfInBounds_toArray, List.set_cons_zero, List.set_cons_succ, i64_w, i32_w]
            rfl
          refine done_ (by kernel_rfl) ?_
          obtain ⟨hX, hM, hB, r0, r1, r2, r3, r4⟩ := hHeld
          go_wp2_with fail
          go_roundw
          case rel => exact ⟨j + 1, rest9, A9, c9, by omega, by go_num, rfl, HC9, HCA9, HDR, HLD, Lib.hid hB⟩
          case measure => simp [intOf]; omega
        · skip
          obtain rfl : j = kn := by omega
          have hr0 : rest = [] := by rw [HRE.out, List.drop_eq_nil_of_le (by have := HKN.out; omega), encL]
          subst hr0
          obtain ⟨b1, b2, b3⟩ := HK.out.box (by have := HKN.out; omega)
          have HPX : Hid (∀ W, Below wz.heap.size wz W → Calls Try.prog 10 #[.agg #[.int .i64 0, .bool true, .int .i64 16, .slice none 0 0, .slice A4 j c4]] W fun e w' => PutQ W (boxE ks) e w') := Lib.hid (fun W hW => by have h := put_calls (boxE ks) b2 b3 none 0 A4 c4 W ⟨Nat.le_refl _, Kd.C_nil _ _, by have := HKCL.out; have := HKN.out; simpa [this] using HKCL.out, by have h := Kd.C_below HKC.out hW; rw [← HKN.out] at h; exact h⟩; rw [show ev (boxE ks) none 0 A4 c4 = .agg #[.int .i64 0, .bool true, .int .i64 16, .slice none 0 0, .slice A4 j c4] from by rw [← HKN.out]; rfl] at h; exact h)
          have HFB := Lib.hid b2
          rcases putR_err b1 with hpr | hpr | ⟨b4, b5, hpr⟩
          · clear b1 b2 b3
            go_wp2_with (go_at_call 10; with_reducible refine (HPX.out _ (below_alloc HBQ.out _)).mono ?_; unfold PutQ; rw [hpr]; rintro e w2 ⟨v16, rfl, h16, hb2⟩; (obtain ⟨A16, c16, hv16, hl16, hC16⟩ := Kd.R_reads h16); subst hv16; have HC16 := Lib.hid hC16; have HL16 := Lib.hid hl16; have HX2 := Lib.hid (blk_below (blk_new wr (.cells #[.int .i64 0, .bool true, .int .i64 16, .slice none 0 0, .slice A4 j c4] 27)) hb2); have HB2 := Lib.hid (below_then (below_alloc HBQ.out _) (by simp; have := HBQ.out.size; omega) hb2 : Below wz.heap.size wz w2); clear h16 hb2 hl16 hC16)
            go_ret
            exact ⟨rfl, below_then HB.out HB.out.size HB2.out⟩
          · clear b1 b2 b3
            go_wp2_with (go_at_call 10; with_reducible refine (HPX.out _ (below_alloc HBQ.out _)).mono ?_; unfold PutQ; rw [hpr]; rintro e w2 ⟨v16, rfl, h16, hb2⟩; (obtain ⟨A16, c16, hv16, hl16, hC16⟩ := Kd.R_reads h16); subst hv16; have HC16 := Lib.hid hC16; have HL16 := Lib.hid hl16; have HX2 := Lib.hid (blk_below (blk_new wr (.cells #[.int .i64 0, .bool true, .int .i64 16, .slice none 0 0, .slice A4 j c4] 27)) hb2); have HB2 := Lib.hid (below_then (below_alloc HBQ.out _) (by simp; have := HBQ.out.size; omega) hb2 : Below wz.heap.size wz w2); clear h16 hb2 hl16 hC16)
            go_ret
            exact ⟨rfl, below_then HB.out HB.out.size HB2.out⟩
          · obtain ⟨be, hbe⟩ : ∃ l, l = encE (boxE ks) := ⟨_, rfl⟩
            rw [← hbe] at hpr b5
            have HOKB : Hid (okb be = true) := Lib.hid (by rw [hbe]; exact enc_okb _ b2 (by rw [← hbe]; omega))
            have HLB : Hid ((be.length : Int) < 1000000000) := Lib.hid (by omega)
            have HPB : Hid (parseF be = .ok (boxE ks, (be.length : Int))) := Lib.hid (by have h := parse_back (x := boxE ks) (behind := []) b1 (by rw [← hbe]; omega) b4; rw [List.append_nil, ← hbe] at h; exact h)
            have hge : decide (((encL ks).length : Int) + 2 ≤ (be.length : Int)) = true := decide_eq_true (by rw [hbe, encE_eq, List.length_append]; have := head_pos ⟨0, true, 16⟩ ([] ++ encL ks).length (by decide); simp only [List.nil_append] at this ⊢; omega)
            have hw2 : wrap64 (((encL ks).length : Int) + 2) = ((encL ks).length : Int) + 2 := by have := HLA.out; unfold wrap64; omega
            have HSM : Hid (∀ (E3 : Option Addr) (f3 : Nat) (E4 : Option Addr) (f4 : Nat) (W : World), Below wz.heap.size wz W → Lies W (boxE ks) E3 f3 E4 f4 → Calls Try.prog 12 #[.agg #[.int .i64 0, .bool true, .int .i64 16, .slice none 0 0, .slice A4 j c4], ev (boxE ks) E3 f3 E4 f4] W fun e w' => e = .returned (.bool true) ∧ Below W.heap.size W w') := Lib.hid (fun E3 f3 E4 f4 W hW hM => by have h := same_walk (boxE ks) (boxE ks) b2 b2 none 0 A4 c4 E3 f3 E4 f4 W ⟨Nat.le_refl _, Kd.C_nil _ _, by have := HKCL.out; have := HKN.out; simpa [this] using HKCL.out, by have h := Kd.C_below HKC.out hW; rw [← HKN.out] at h; exact h⟩ hM; rw [same_refl, show ev (boxE ks) none 0 A4 c4 = .agg #[.int .i64 0, .bool true, .int .i64 16, .slice none 0 0, .slice A4 j c4] from by rw [← HKN.out]; rfl] at h; exact h)
            clear hbe b1 b2 b3 b4 b5
            go_wp2_with (first | (go_at_call 10; with_reducible refine (HPX.out _ (below_alloc HBQ.out _)).mono ?_; unfold PutQ; rw [hpr]; rintro e w2 ⟨v16, rfl, h16, hb2⟩; (obtain ⟨A16, c16, hv16, hl16, hC16⟩ := Kd.R_reads h16); subst hv16; have HC16 := Lib.hid hC16; have HL16 := Lib.hid hl16; have HX2 := Lib.hid (blk_below (blk_new wr (.cells #[.int .i64 0, .bool true, .int .i64 16, .slice none 0 0, .slice A4 j c4] 27)) hb2); have HB2 := Lib.hid (below_then (below_alloc HBQ.out _) (by simp; have := HBQ.out.size; omega) hb2 : Below wz.heap.size wz w2); clear h16 hb2 hl16 hC16) | (go_at_call 17; with_reducible refine (parse_calls be A16 c16 _ HC16.out HL16.out HOKB.out HLB.out).mono ?_; unfold ParseQ; rw [HPB.out]; rintro e w3 ⟨hb3, E3, f3, E4, f4, rfl, h3, h4⟩; have HM3 := Lib.hid (lies_R h3 h4); have HX3 := Lib.hid (blk_below HX2.out hb3); have HB3 := Lib.hid (below_then HB2.out HB2.out.size hb3); have y0 : ∀ o, (w3.alloc o).cell? ⟨wr.heap.size, 0, none⟩ = some (.int .i64 0) := fun o => (blk_cell (blk_below HX3.out (below_alloc (Below.refl _ _) o)) 0).trans rfl; have y1 : ∀ o, (w3.alloc o).cell? ⟨wr.heap.size, 1, none⟩ = some (.bool true) := fun o => (blk_cell (blk_below HX3.out (below_alloc (Below.refl _ _) o)) 1).trans rfl; have y2 : ∀ o, (w3.alloc o).cell? ⟨wr.heap.size, 2, none⟩ = some (.int .i64 16) := fun o => (blk_cell (blk_below HX3.out (below_alloc (Below.refl _ _) o)) 2).trans rfl; have y3 : ∀ o, (w3.alloc o).cell? ⟨wr.heap.size, 3, none⟩ = some (.slice none 0 0) := fun o => (blk_cell (blk_below HX3.out (below_alloc (Below.refl _ _) o)) 3).trans rfl; have y4 : ∀ o, (w3.alloc o).cell? ⟨wr.heap.size, 4, none⟩ = some (.slice A4 j c4) := fun o => (blk_cell (blk_below HX3.out (below_alloc (Below.refl _ _) o)) 4).trans rfl; clear hb3 h3 h4) | (go_at_call 12; refine (HSM.out E3 f3 E4 f4 _ (below_alloc HB3.out _) (HM3.out.below (below_alloc (Below.refl _ _) _))).mono ?_; rintro e w4 ⟨rfl, hb4⟩; have HB4 := Lib.hid (below_then (below_alloc HB3.out _) (by simp; have := HB3.out.size; omega) hb4 : Below wz.heap.size wz w4); clear hb4))
            go_ret
            exact ⟨rfl, below_then HB.out HB.out.size HB4.out⟩
end Go.Proofs.Ytkhghgmonjebnaa.B
