/- What the reference's Filter computes: the same. Plain Lean over the printed functions. -/
import Derived.Test.YtmhjplbloeamiaaRNx
import Derived.Test.YtmhjplbloeamiaaPRefx2
import Derived.Test.YtmhjplbloeamiaaUnf
namespace Go.Proofs.Ytmhjplbloeamiaa.H
open Go.RowKit Go.Proofs.Ytmhjplbloeamiaa.M Go.Proofs.Ytmhjplbloeamiaa.PEsc Go.Proofs.Ytmhjplbloeamiaa.PRef Go.Proofs.YtmhjplbloeamiaaW.PrintWords Go.Proofs.YtmhjplbloeamiaaW.PrintLast Go.Proofs.YtmhjplbloeamiaaW.PrintMore
set_option linter.unusedVariables false
set_option linter.unusedSimpArgs false
theorem ref_among_l0 (c : UInt8) : ∀ (s p : Bs), p.length + s.length ≤ 1000 → Ev (fun k => peerageref10_among.l0 k (mk (p ++ s)) (c.toNat : Int) (p.length : Int)) (s.contains c)
  | [], p, h => by
    refine Ev.step (f := fun _ => some false) (fun k => ?_) (Ev.now _)
    simp only [peerageref10_among.l0]
    rw [mk_size, List.append_nil, if_neg (by omega)]
  | b :: s, p, h => by
    simp only [List.length_cons] at h
    have hat : (p ++ b :: s)[p.length]? = some b := by rw [List.getElem?_append_right (Nat.le_refl _)]; simp
    have hbt := bt_mk hat
    have g0 : (p.length : Int) < ((mk (p ++ b :: s)).size : Int) := by rw [mk_size]; simp; omega
    have g1 : (0 : Int) ≤ (p.length : Int) := by omega
    have hw : wrap64 ((p.length : Int) + 1) = ((p ++ [b]).length : Int) := by rw [w64 (by omega) (by omega), List.length_append, List.length_singleton]; omega
    by_cases e : b = c
    · subst e
      rw [show (b :: s).contains b = true by simp]
      refine Ev.step (f := fun _ => some true) (fun k => ?_) (Ev.now _)
      simp only [peerageref10_among.l0]
      rw [if_pos g0, if_pos g1, hbt, if_pos rfl]
    · have ih := ref_among_l0 c s (p ++ [b]) (by simp; omega)
      rw [List.append_assoc, List.singleton_append] at ih
      have hc : (b :: s).contains c = s.contains c := by
        rw [List.contains_cons]
        rw [show (c == b) = false by rw [beq_eq_false_iff_ne]; exact fun q => e q.symm]
        simp
      rw [hc]
      refine Ev.step (f := fun k => peerageref10_among.l0 k (mk (p ++ b :: s)) (c.toNat : Int) ((p ++ [b]).length : Int)) (fun k => ?_) ih
      simp only [peerageref10_among.l0]
      have hne : ¬ (b.toNat : Int) = (c.toNat : Int) := fun q => e (UInt8.toNat_inj.1 (by omega))
      rw [if_pos g0, if_pos g1, hbt, if_neg hne, hw]
theorem ref_among (l : Bs) (c : UInt8) (h : l.length ≤ 1000) : Ev (fun k => peerageref10_among.f k (mk l) (c.toNat : Int)) (l.contains c) := ref_among_l0 c l [] (by simpa using h)
theorem special_all : ∀ n : Fin 256, ([42, 40, 41, 92] : Bs).contains (UInt8.ofNat n.val) = (amg [42, 40, 41] (UInt8.ofNat n.val) || decide (n.val = 92)) := by decide +kernel
theorem special_eq (c : UInt8) : ([42, 40, 41, 92] : Bs).contains c = (amg [42, 40, 41] c || decide (c.toNat = 92)) := by
  have := special_all ⟨c.toNat, c.toNat_lt⟩
  simpa using this
theorem brackets_all : ∀ n : Fin 256, ([42, 40, 41] : Bs).contains (UInt8.ofNat n.val) = amg [42, 40, 41] (UInt8.ofNat n.val) := by decide +kernel
theorem brackets_eq (c : UInt8) : ([42, 40, 41] : Bs).contains c = amg [42, 40, 41] c := by
  have := brackets_all ⟨c.toNat, c.toNat_lt⟩
  simpa using this
theorem two_ref (c : UInt8) : peerageref10_two.f (c.toNat : Int) = some (mk (two2 c)) := by
  have := c.toNat_lt
  unfold peerageref10_two.f
  rw [if_pos ⟨by omega, by omega⟩]
  simp
theorem fil_l0 (r : Bool) : ∀ (s p acc : Bs), p.length + s.length ≤ 1000 → acc.length + 3 * s.length ≤ 100000 →
    Ev (fun k => peerageref10_Filter.l0 k (mk (p ++ s)) r (mk acc) (p.length : Int)) (mk (acc ++ s.flatMap (gf r)))
  | [], p, acc, h, h2 => by
    refine Ev.step (f := fun _ => some _) (fun k => ?_) (Ev.now _)
    simp only [peerageref10_Filter.l0]
    rw [mk_size, List.append_nil, if_neg (by omega)]
    simp
  | c :: s, p, acc, h, h2 => by
    simp only [List.length_cons] at h h2
    have hat : (p ++ c :: s)[p.length]? = some c := by rw [List.getElem?_append_right (Nat.le_refl _)]; simp
    have hbt := bt_mk hat
    have hsz : (mk (p ++ c :: s)).size = p.length + s.length + 1 := by rw [mk_size]; simp; omega
    have g0 : (p.length : Int) < ((p.length + s.length + 1 : Nat) : Int) := by omega
    have g1 : (0 : Int) ≤ (p.length : Int) := by omega
    have hw : wrap64 ((p.length : Int) + 1) = ((p ++ [c]).length : Int) := by rw [w64 (by omega) (by omega), List.length_append, List.length_singleton]; omega
    have hl1 : (p ++ [c]).length = p.length + 1 := by simp
    have g2 : (p.length : Int) ≤ ((p ++ [c]).length : Int) := by rw [hl1]; omega
    have g3 : ((p ++ [c]).length : Int) ≤ ((p.length + s.length + 1 : Nat) : Int) := by rw [hl1]; omega
    have hex : (mk (p ++ c :: s)).extract p.length (p ++ [c]).length = mk [c] := by
      rw [mk_extract, hl1]
      congr 1
      rw [List.drop_append, List.drop_eq_nil_of_le (Nat.le_refl _), Nat.sub_self, Nat.add_sub_cancel_left]
      rfl
    have z1 : (mk acc).size + 1 ≤ 9223372036854775807 := by rw [mk_size]; omega
    have z2 : (mk acc ++ (⟨#[92]⟩ : ByteArray)).size + (mk (two2 c)).size ≤ 9223372036854775807 := by
      show (mk acc ++ mk [92]).size + _ ≤ _
      rw [mk_append, mk_size, mk_size, two_len]; simp; omega
    have z3 : (mk acc).size + (mk [c]).size ≤ 9223372036854775807 := by rw [mk_size, mk_size]; simp; omega
    have ha1 : (mk acc ++ (⟨#[92]⟩ : ByteArray)) ++ mk (two2 c) = mk (acc ++ 92 :: two2 c) := by
      show (mk acc ++ mk [92]) ++ _ = _
      rw [mk_append, mk_append, List.append_assoc]
      rfl
    have ha2 : mk acc ++ mk [c] = mk (acc ++ [c]) := mk_append _ _
    have ih : ∀ ch : Bs, ch.length ≤ 3 → gf r c = ch → Ev (fun k => peerageref10_Filter.l0 k (mk (p ++ c :: s)) r (mk (acc ++ ch)) ((p ++ [c]).length : Int)) (mk (acc ++ (c :: s).flatMap (gf r))) := by
      intro ch hc e
      have := fil_l0 r s (p ++ [c]) (acc ++ ch) (by rw [hl1]; omega) (by rw [List.length_append]; omega)
      rw [List.append_assoc, List.singleton_append, List.append_assoc] at this
      rw [List.flatMap_cons, e]
      exact this
    have iesc : p17 r c = true → Ev (fun k => peerageref10_Filter.l0 k (mk (p ++ c :: s)) r (mk (acc ++ 92 :: two2 c)) ((p ++ [c]).length : Int)) (mk (acc ++ (c :: s).flatMap (gf r))) := fun e => ih _ (by simp [two_len]) (by unfold gf; rw [if_pos e])
    have ione : p17 r c = false → Ev (fun k => peerageref10_Filter.l0 k (mk (p ++ c :: s)) r (mk (acc ++ [c])) ((p ++ [c]).length : Int)) (mk (acc ++ (c :: s).flatMap (gf r))) := fun e => ih _ (by simp) (by unfold gf; rw [e]; rfl)
    have hc := c.toNat_lt
    have hstep : ∃ F : Nat → Bool → Option ByteArray, (∀ k, peerageref10_Filter.l0 (k + 1) (mk (p ++ c :: s)) r (mk acc) (p.length : Int) = (peerageref10_among.f k (mk [42, 40, 41, 92]) (c.toNat : Int)).bind (F k)) ∧ Ev (fun k => F k (([42, 40, 41, 92] : Bs).contains c)) (mk (acc ++ (c :: s).flatMap (gf r))) := by
      refine ⟨?F, ?h1, ?h2⟩
      case h1 =>
        intro k
        simp only [peerageref10_Filter.l0]
        rw [hsz, if_pos g0, if_pos g1, hbt]
        rfl
      case h2 =>
        rw [special_eq]
        by_cases b1 : (amg [42, 40, 41] c || decide (c.toNat = 92)) = true
        · have := iesc (by unfold p17; rw [b1]; rfl)
          refine Ev.congr (fun k => ?_) this
          rw [if_pos b1, if_pos z1, two_ref, Option.bind_some, if_pos z2, ha1, hw]
        · rw [Bool.not_eq_true] at b1
          by_cases b2 : c.toNat = 0
          · have := iesc (by unfold p17; rw [b1, decide_eq_true b2]; rfl)
            refine Ev.congr (fun k => ?_) this
            rw [b1, if_neg (by decide), if_pos (by omega), if_pos z1, two_ref, Option.bind_some, if_pos z2, ha1, hw]
          · by_cases b3 : 127 < c.toNat
            · cases r with
              | false =>
                have := iesc (by unfold p17; rw [b1, decide_eq_false b2, decide_eq_true b3]; rfl)
                refine Ev.congr (fun k => ?_) this
                rw [b1, if_neg (by decide), if_neg (by omega), if_pos (by omega), if_neg (by decide), if_pos z1, two_ref, Option.bind_some, if_pos z2, ha1, hw]
              | true =>
                have := ione (by unfold p17; rw [b1, decide_eq_false b2, decide_eq_true b3]; rfl)
                refine Ev.congr (fun k => ?_) this
                rw [b1, if_neg (by decide), if_neg (by omega), if_pos (by omega), if_pos rfl, hw, if_pos g2, if_pos g3, Int.toNat_natCast, Int.toNat_natCast, hex, if_pos z3, ha2]
            · have := ione (by unfold p17; rw [b1, decide_eq_false b2, decide_eq_false b3]; rfl)
              refine Ev.congr (fun k => ?_) this
              rw [b1, if_neg (by decide), if_neg (by omega), if_neg (by omega), hw, if_pos g2, if_pos g3, Int.toNat_natCast, Int.toNat_natCast, hex, if_pos z3, ha2]
    obtain ⟨F, hF, hE⟩ := hstep
    exact Ev.step hF (Ev.bind (ref_among [42, 40, 41, 92] c (by simp)) hE)
theorem cnt_right (l : Bs) : decide (cnt l ≥ 0) = (right l).isSome := by
  unfold cnt
  cases right l with
  | none => rfl
  | some cs => simp
theorem ref_fil (l : Bs) (h : l.length ≤ 600) : Ev (fun k => peerageref10_Filter.f k (mk l)) (mk (fils l)) := by
  unfold peerageref10_Filter.f
  refine Ev.bind (R.count_f l (by omega)) ?_
  rw [cnt_right, fils_flat]
  exact fil_l0 (right l).isSome l [] [] (by simp; omega) (by simp; omega)
end Go.Proofs.Ytmhjplbloeamiaa.H
