/- What the reference's Next and Count compute: the same. Plain Lean over the printed functions. -/
import Derived.Test.YtmlihcknkgfhaaaDoorCnt
import Derived.Test.YtmlihcknkgfhaaaDoorPFoldx3
namespace Go.Proofs.YtmlihcknkgfhaaaDoor.M
open Go.RowKit Go.Proofs.YtmlihcknkgfhaaaDoor.PFold Go.Proofs.YtmlihcknkgfhaaaDoorW.PrintWords Go.Proofs.YtmlihcknkgfhaaaDoorW.PrintLast Go.Proofs.YtmlihcknkgfhaaaDoorW.PrintMore
set_option linter.unusedVariables false
set_option linter.unusedSimpArgs false
namespace R
section
variable {l : Bs} {n least acc i : Nat} {c : UInt8} {k : Nat}
theorem l0_con (h : l[i]? = some c) (hi : i < n) (hc : con c = true) (ha : acc < 1000000) (hn : n ≤ 4) :
    peerageref05_Next.l0 (k + 1) (mk l) (acc : Int) (n : Int) (least : Int) (i : Int) = peerageref05_Next.l0 k (mk l) ((acc * 64 + (c.toNat - 128) : Nat) : Int) (n : Int) (least : Int) ((i + 1 : Nat) : Int) := by
  have hl := (List.getElem?_eq_some_iff.1 h).1
  have := con_iff.1 hc
  simp only [peerageref05_Next.l0]
  rw [if_pos (by omega), if_pos (by omega), if_pos (by rw [mk_size]; omega), bt_mk h, w64 (n := (c.toNat : Int)) (by omega) (by omega), if_neg (by omega), if_neg (by omega), w64 (n := (acc : Int) * 64) (by omega) (by omega), w64 (n := (acc : Int) * 64 + (c.toNat : Int)) (by omega) (by omega), w64 (n := (acc : Int) * 64 + (c.toNat : Int) - 128) (by omega) (by omega), w64 (n := (i : Int) + 1) (by omega) (by omega)]
  rw [show (acc : Int) * 64 + (c.toNat : Int) - 128 = ((acc * 64 + (c.toNat - 128) : Nat) : Int) by omega]
  rfl
theorem l0_bad (h : l[i]? = some c) (hi : i < n) (hc : con c = false) :
    peerageref05_Next.l0 (k + 1) (mk l) (acc : Int) (n : Int) (least : Int) (i : Int) = some (0, 0) := by
  have hl := (List.getElem?_eq_some_iff.1 h).1
  have hb := c.toNat_lt
  have : ¬ (128 ≤ c.toNat ∧ c.toNat < 192) := fun e => by rw [con_iff.2 e] at hc; cases hc
  simp only [peerageref05_Next.l0]
  rw [if_pos (by omega), if_pos (by omega), if_pos (by rw [mk_size]; omega), bt_mk h, w64 (n := (c.toNat : Int)) (by omega) (by omega)]
  by_cases e : (c.toNat : Int) < 128
  · rw [if_pos e]
  · rw [if_neg e, if_pos (by omega)]
theorem l0_end (hi : ¬ i < n) :
    peerageref05_Next.l0 (k + 1) (mk l) (acc : Int) (n : Int) (least : Int) (i : Int) = some (if least ≤ acc ∧ valid acc = true then ((acc : Int), (n : Int)) else (0, 0)) := by
  simp only [peerageref05_Next.l0]
  rw [if_neg (by omega)]
  by_cases h1 : acc < least
  · rw [if_pos (by omega), if_neg (by omega)]
  · rw [if_neg (by omega)]
    by_cases h3 : 55296 ≤ acc
    · rw [if_pos (by omega)]
      by_cases h4 : acc ≤ 57343
      · rw [if_pos (by omega), if_neg (by rw [valid_iff]; omega)]
      · rw [if_neg (by omega)]
        by_cases h2 : 1114111 < acc
        · rw [if_pos (by omega), if_neg (by rw [valid_iff]; omega)]
        · rw [if_neg (by omega), if_pos (by rw [valid_iff]; omega), w32 (by omega) (by omega)]
    · rw [if_neg (by omega), if_neg (by omega), if_pos (by rw [valid_iff]; omega), w32 (by omega) (by omega)]
end
theorem next_f (l : Bs) : Ev (fun k => peerageref05_Next.f k (mk l)) (nx l) := by
  unfold peerageref05_Next.f
  cases l with
  | nil => exact Ev.congr (f := fun _ => some (0, 0)) (fun k => if_pos (by rw [mk_size]; rfl)) (Ev.now _)
  | cons a r =>
    have ha := a.toNat_lt
    have hs : 0 < ((mk (a :: r)).size : Int) := by rw [mk_size]; simp <;> omega
    have hs0 : ¬ ((mk (a :: r)).size : Int) = 0 := by omega
    have hbt : bt (mk (a :: r)) 0 = (a.toNat : Int) := bt_head _ _
    have hwb : wrap64 (a.toNat : Int) = (a.toNat : Int) := w64 (by omega) (by omega)
    by_cases h1 : a.toNat < 128
    · refine Ev.congr (f := fun _ => some (nx (a :: r))) (fun k => ?_) (Ev.now _)
      rw [if_neg hs0, if_pos hs, hbt, hwb, if_pos (by omega), w32 (by omega) (by omega)]
      unfold nx
      rw [dec1_cons, if_pos h1]
      simp only
      rw [enc1 h1]
      rfl
    have go0 : ∀ {b : Bool} {q : Int × Int}, b = decide (194 ≤ a.toNat ∧ a.toNat < 224) → Ev (fun k => peerageref05_Next.j0 k (mk (a :: r)) (a.toNat : Int) b) q →
        Ev (fun k => if ((mk (a :: r)).size : Int) = 0 then (some (0, 0)) else (if 0 < ((mk (a :: r)).size : Int) then (if (wrap64 (bt (mk (a :: r)) 0)) < 128 then (some (wrap32 (wrap64 (bt (mk (a :: r)) 0)), 1)) else (if (wrap64 (bt (mk (a :: r)) 0)) ≥ 194 then (peerageref05_Next.j0 k (mk (a :: r)) (wrap64 (bt (mk (a :: r)) 0)) (decide ((wrap64 (bt (mk (a :: r)) 0)) < 224))) else (peerageref05_Next.j0 k (mk (a :: r)) (wrap64 (bt (mk (a :: r)) 0)) false))) else (none))) q := by
      intro b q hb h
      refine Ev.congr (fun k => ?_) h
      rw [if_neg hs0, if_pos hs, hbt, hwb, if_neg (by omega)]
      by_cases e : (a.toNat : Int) ≥ 194
      · rw [if_pos e, hb, show decide ((a.toNat : Int) < 224) = decide (194 ≤ a.toNat ∧ a.toNat < 224) by rw [Bool.eq_iff_iff, decide_eq_true_eq, decide_eq_true_eq]; omega]
      · rw [if_neg e, hb, show decide (194 ≤ a.toNat ∧ a.toNat < 224) = false by rw [decide_eq_false_iff_not]; omega]
    have fail : ∀ (h : a.toNat < 194 ∨ 245 ≤ a.toNat), Ev (fun k => peerageref05_Next.j0 k (mk (a :: r)) (a.toNat : Int) false) (0, 0) := by
      intro h
      by_cases e : (a.toNat : Int) ≥ 224
      · refine Ev.step (f := fun k => peerageref05_Next.j1 k (mk (a :: r)) (a.toNat : Int) false) (fun k => ?_) (Ev.step (f := fun _ => some (0, 0)) (fun k => ?_) (Ev.now _))
        · simp only [peerageref05_Next.j0]
          rw [if_neg (by decide), if_pos e, decide_eq_false (by omega)]
        · simp only [peerageref05_Next.j1]
          rw [if_neg (by decide), if_pos (by omega), if_neg (by omega)]
      · refine Ev.step (f := fun k => peerageref05_Next.j1 k (mk (a :: r)) (a.toNat : Int) false) (fun k => ?_) (Ev.step (f := fun _ => some (0, 0)) (fun k => ?_) (Ev.now _))
        · simp only [peerageref05_Next.j0]
          rw [if_neg (by decide), if_neg e]
        · simp only [peerageref05_Next.j1]
          rw [if_neg (by decide), if_neg (by omega)]
    have short : ∀ (n bits least : Nat), (a :: r).length < n → nx (a :: r) = (0, 0) → Ev (fun k => peerageref05_Next.j2 k (mk (a :: r)) (bits : Int) (n : Int) (least : Int)) (nx (a :: r)) := by
      intro n bits least h hx
      rw [hx]
      refine Ev.step (f := fun _ => some _) (fun k => ?_) (Ev.now _)
      simp only [peerageref05_Next.j2]
      rw [if_pos (by rw [mk_size]; omega)]
    have long : ∀ (n bits least : Nat) (q : Int × Int), ¬ (a :: r).length < n → Ev (fun k => peerageref05_Next.l0 k (mk (a :: r)) (bits : Int) (n : Int) (least : Int) ((1 : Nat) : Int)) q → Ev (fun k => peerageref05_Next.j2 k (mk (a :: r)) (bits : Int) (n : Int) (least : Int)) q := by
      intro n bits least q h hq
      refine Ev.step (fun k => ?_) hq
      simp only [peerageref05_Next.j2]
      rw [if_neg (by rw [mk_size]; omega)]
      rfl
    have none_ : a.toNat < 194 ∨ 245 ≤ a.toNat → nx (a :: r) = (0, 0) := by
      intro h
      unfold nx
      rw [dec1_cons, if_neg h1]
      by_cases e1 : a.toNat < 192
      · rw [if_pos e1]
      rw [if_neg e1]
      by_cases e2 : a.toNat < 224
      · rw [if_pos e2]
        cases r with
        | nil => rfl
        | cons b r =>
          rw [d2, if_neg]
          intro q
          have := con_iff.1 q.1
          omega
      · rw [if_neg e2, if_neg (by omega)]
        by_cases e3 : a.toNat < 248
        · rw [if_pos e3]
          match r with
          | [] => rfl
          | [_] => rfl
          | [_, _] => rfl
          | b :: c :: d :: r =>
            rw [d4, if_neg]
            intro q
            have h1 := valid_iff.1 q.2.2
            unfold n4 at h1
            omega
        · rw [if_neg e3]
    by_cases h0 : a.toNat < 194 ∨ 245 ≤ a.toNat
    · rw [none_ h0]
      exact go0 (b := false) (by symm; rw [decide_eq_false_iff_not]; omega) (fail h0)
    have lead2 : a.toNat < 224 → Ev (fun k => peerageref05_Next.j2 k (mk (a :: r)) ((a.toNat - 192 : Nat) : Int) ((2 : Nat) : Int) ((128 : Nat) : Int)) (nx (a :: r)) → _ := fun h q => go0 (q := nx (a :: r)) (b := true) (by symm; rw [decide_eq_true_eq]; omega) (by
      refine Ev.step (fun k => ?_) q
      simp only [peerageref05_Next.j0]
      rw [if_pos trivial, w64 (by omega) (by omega), show (a.toNat : Int) - 192 = ((a.toNat - 192 : Nat) : Int) by omega]
      rfl)
    have lead3 : 224 ≤ a.toNat → a.toNat < 240 → Ev (fun k => peerageref05_Next.j2 k (mk (a :: r)) ((a.toNat - 224 : Nat) : Int) ((3 : Nat) : Int) ((2048 : Nat) : Int)) (nx (a :: r)) → _ := fun g h q => go0 (q := nx (a :: r)) (b := false) (by symm; rw [decide_eq_false_iff_not]; omega) (by
      refine Ev.step (f := fun k => peerageref05_Next.j1 k (mk (a :: r)) (a.toNat : Int) true) (fun k => ?_) (Ev.step (fun k => ?_) q)
      · simp only [peerageref05_Next.j0]
        rw [if_neg (by decide), if_pos (by omega), decide_eq_true (by omega)]
      · simp only [peerageref05_Next.j1]
        rw [if_pos trivial, w64 (by omega) (by omega), show (a.toNat : Int) - 224 = ((a.toNat - 224 : Nat) : Int) by omega]
        rfl)
    have lead4 : 240 ≤ a.toNat → a.toNat < 245 → Ev (fun k => peerageref05_Next.j2 k (mk (a :: r)) ((a.toNat - 240 : Nat) : Int) ((4 : Nat) : Int) ((65536 : Nat) : Int)) (nx (a :: r)) → _ := fun g h q => go0 (q := nx (a :: r)) (b := false) (by symm; rw [decide_eq_false_iff_not]; omega) (by
      refine Ev.step (f := fun k => peerageref05_Next.j1 k (mk (a :: r)) (a.toNat : Int) false) (fun k => ?_) (Ev.step (fun k => ?_) q)
      · simp only [peerageref05_Next.j0]
        rw [if_neg (by decide), if_pos (by omega), decide_eq_false (by omega)]
      · simp only [peerageref05_Next.j1]
        rw [if_neg (by decide), if_pos (by omega), if_pos (by omega), w64 (by omega) (by omega), show (a.toNat : Int) - 240 = ((a.toNat - 240 : Nat) : Int) by omega]
        rfl)
    by_cases h2 : a.toNat < 224
    · refine lead2 h2 ?_
      have hx : nx (a :: r) = match d2 a.toNat r with
          | some (c, r) => ((c : Int), ((enc c).length : Int))
          | none => (0, 0) := by
        unfold nx
        rw [dec1_cons, if_neg h1, if_neg (by omega), if_pos h2]
        cases d2 a.toNat r <;> rfl
      match r, hx with
      | [], hx => exact short 2 _ _ (by simp) (by rw [hx]; rfl)
      | b :: r, hx =>
        rw [hx]
        refine long 2 _ _ _ (by simp) ?_
        cases hb : con b
        · refine Ev.step (f := fun _ => some _) (fun k => ?_) (Ev.now _)
          rw [l0_bad (c := b) rfl (by omega) hb, d2, if_neg (by simp [hb])]
        · have hb2 := con_iff.1 hb
          refine Ev.step (fun k => l0_con (c := b) rfl (by omega) hb (by omega) (by omega)) (Ev.step (f := fun _ => some _) (fun k => ?_) (Ev.now _))
          rw [l0_end (by omega), d2]
          by_cases h3 : 128 ≤ (a.toNat - 192) * 64 + (b.toNat - 128)
          · rw [if_pos ⟨h3, valid_iff.2 (by omega)⟩, if_pos ⟨hb, h3⟩]
            simp only
            rw [enc2 h3 (by omega)]
          · rw [if_neg (fun q => h3 q.1), if_neg (fun q => h3 q.2)]
    by_cases h3 : a.toNat < 240
    · refine lead3 (by omega) h3 ?_
      have hx : nx (a :: r) = match d3 a.toNat r with
          | some (c, r) => ((c : Int), ((enc c).length : Int))
          | none => (0, 0) := by
        unfold nx
        rw [dec1_cons, if_neg h1, if_neg (by omega), if_neg h2, if_pos h3]
        cases d3 a.toNat r <;> rfl
      match r, hx with
      | [], hx => exact short 3 _ _ (by simp) (by rw [hx]; rfl)
      | [_], hx => exact short 3 _ _ (by simp) (by rw [hx]; rfl)
      | b :: c :: r, hx =>
        rw [hx]
        refine long 3 _ _ _ (by simp) ?_
        cases hb : con b
        · refine Ev.step (f := fun _ => some _) (fun k => ?_) (Ev.now _)
          rw [l0_bad (c := b) rfl (by omega) hb, d3, if_neg (by simp [hb])]
        · have hb2 := con_iff.1 hb
          refine Ev.step (fun k => l0_con (c := b) rfl (by omega) hb (by omega) (by omega)) ?_
          cases hc : con c
          · refine Ev.step (f := fun _ => some _) (fun k => ?_) (Ev.now _)
            rw [l0_bad (c := c) rfl (by omega) hc, d3, if_neg (by simp [hc])]
          · have hc2 := con_iff.1 hc
            refine Ev.step (fun k => l0_con (c := c) rfl (by omega) hc (by omega) (by omega)) (Ev.step (f := fun _ => some _) (fun k => ?_) (Ev.now _))
            rw [l0_end (by omega), d3]
            have en : ((a.toNat - 224) * 64 + (b.toNat - 128)) * 64 + (c.toNat - 128) = n3 a.toNat b.toNat c.toNat := rfl
            rw [en]
            have hm : n3 a.toNat b.toNat c.toNat < 65536 := by unfold n3; omega
            by_cases h4 : 2048 ≤ n3 a.toNat b.toNat c.toNat ∧ valid (n3 a.toNat b.toNat c.toNat) = true
            · rw [if_pos h4, if_pos ⟨⟨hb, hc⟩, h4⟩]
              simp only
              rw [enc3 h4.1 hm]
            · rw [if_neg h4, if_neg (fun q => h4 q.2)]
    · refine lead4 (by omega) (by omega) ?_
      have hx : nx (a :: r) = match d4 a.toNat r with
          | some (c, r) => ((c : Int), ((enc c).length : Int))
          | none => (0, 0) := by
        unfold nx
        rw [dec1_cons, if_neg h1, if_neg (by omega), if_neg h2, if_neg h3, if_pos (by omega)]
        cases d4 a.toNat r <;> rfl
      match r, hx with
      | [], hx => exact short 4 _ _ (by simp) (by rw [hx]; rfl)
      | [_], hx => exact short 4 _ _ (by simp) (by rw [hx]; rfl)
      | [_, _], hx => exact short 4 _ _ (by simp) (by rw [hx]; rfl)
      | b :: c :: d :: r, hx =>
        rw [hx]
        refine long 4 _ _ _ (by simp) ?_
        cases hb : con b
        · refine Ev.step (f := fun _ => some _) (fun k => ?_) (Ev.now _)
          rw [l0_bad (c := b) rfl (by omega) hb, d4, if_neg (by simp [hb])]
        · have hb2 := con_iff.1 hb
          refine Ev.step (fun k => l0_con (c := b) rfl (by omega) hb (by omega) (by omega)) ?_
          cases hc : con c
          · refine Ev.step (f := fun _ => some _) (fun k => ?_) (Ev.now _)
            rw [l0_bad (c := c) rfl (by omega) hc, d4, if_neg (by simp [hc])]
          · have hc2 := con_iff.1 hc
            refine Ev.step (fun k => l0_con (c := c) rfl (by omega) hc (by omega) (by omega)) ?_
            cases hd : con d
            · refine Ev.step (f := fun _ => some _) (fun k => ?_) (Ev.now _)
              rw [l0_bad (c := d) rfl (by omega) hd, d4, if_neg (by simp [hd])]
            · have hd2 := con_iff.1 hd
              refine Ev.step (fun k => l0_con (c := d) rfl (by omega) hd (by omega) (by omega)) (Ev.step (f := fun _ => some _) (fun k => ?_) (Ev.now _))
              rw [l0_end (by omega), d4]
              have en : (((a.toNat - 240) * 64 + (b.toNat - 128)) * 64 + (c.toNat - 128)) * 64 + (d.toNat - 128) = n4 a.toNat b.toNat c.toNat d.toNat := rfl
              rw [en]
              by_cases h4 : 65536 ≤ n4 a.toNat b.toNat c.toNat d.toNat ∧ valid (n4 a.toNat b.toNat c.toNat d.toNat) = true
              · rw [if_pos h4, if_pos ⟨⟨hb, hc, hd⟩, h4⟩]
                simp only
                rw [enc4 h4.1]
              · rw [if_neg h4, if_neg (fun q => h4 q.2)]
theorem count_l0 : ∀ (n : Nat) (l : Bs) (j : Nat), l.length < n → l.length + j ≤ 4000000000 → Ev (fun k => peerageref05_Count.l0 k (mk l) (j : Int)) (match chars n l with
    | some cs => ((cs.length + j : Nat) : Int)
    | none => -1)
  | 0, l, j, h, _ => by omega
  | n + 1, l, j, h, hj => by
    rw [chars]
    by_cases e : l = []
    · rw [if_pos e]
      refine Ev.step (f := fun _ => some _) (fun k => ?_) (Ev.now _)
      simp only [peerageref05_Count.l0]
      rw [mk_size, if_neg (by rw [e]; simp)]
      simp
    · rw [if_neg e]
      refine Ev.step (f := fun k => (peerageref05_Next.f k (mk l)).bind fun bt104 => (if bt104.2 = 0 then (some (-1)) else (if 0 ≤ bt104.2 then (if bt104.2 ≤ ((mk l).size : Int) then (peerageref05_Count.l0 k ((mk l).extract (bt104.2 : Int).toNat (mk l).size) (wrap64 ((j : Int) + 1))) else (none)) else (none)))) (fun k => ?_) (Ev.bind (next_f l) ?_)
      · simp only [peerageref05_Count.l0]
        rw [if_pos (by rw [mk_size]; have := List.length_pos_iff.2 e; omega)]
      · unfold nx
        cases hd : dec1 l with
        | none =>
          simp only [if_true]
          exact Ev.now _
        | some p =>
          obtain ⟨c, r⟩ := p
          obtain ⟨hv, hl⟩ := dec1_some hd
          have hp := enc_pos c
          have hlen : l.length = (enc c).length + r.length := by rw [hl, List.length_append]
          simp only
          have ih := count_l0 n r (j + 1) (by omega) (by omega)
          have e2 : (mk l).extract (((enc c).length : Int)).toNat (mk l).size = mk r := by
            rw [mk_extract, mk_size, hl]
            simp
          have e3 : (match (chars n r).map (c :: ·) with
              | some cs => ((cs.length + j : Nat) : Int)
              | none => -1) = (match chars n r with
              | some cs => ((cs.length + (j + 1) : Nat) : Int)
              | none => -1) := by
            cases chars n r with
            | none => rfl
            | some cs =>
              simp only [Option.map_some, List.length_cons]
              congr 1
              omega
          rw [e3]
          refine Ev.congr (fun k => ?_) ih
          rw [if_neg (by omega), if_pos (by omega), if_pos (by rw [mk_size]; omega), e2, w64 (by omega) (by omega)]
          rfl
theorem count_f (l : Bs) (hl : l.length ≤ 4000000000) : Ev (fun k => peerageref05_Count.f k (mk l)) (cnt l) := by
  have h := count_l0 (l.length + 1) l 0 (by omega) (by omega)
  unfold cnt right
  refine Ev.congr (fun k => ?_) (show Ev (fun k => peerageref05_Count.l0 k (mk l) ((0 : Nat) : Int)) _ from by
    have e : (match chars (l.length + 1) l with
        | some cs => ((cs.length + 0 : Nat) : Int)
        | none => -1) = (match chars (l.length + 1) l with
        | some cs => (cs.length : Int)
        | none => -1) := by cases chars (l.length + 1) l <;> rfl
    rw [e] at h
    exact h)
  rfl
end R
end Go.Proofs.YtmlihcknkgfhaaaDoor.M
