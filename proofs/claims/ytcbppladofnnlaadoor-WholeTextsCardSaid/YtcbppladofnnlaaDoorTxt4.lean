/- What the reference's Compare computes. Plain Lean over the printed functions. -/
import Derived.Test.YtcbppladofnnlaaDoorTxt3
namespace Go.Proofs.YtcbppladofnnlaaDoor.M
open Go.RowKit Go.Proofs.YtcbppladofnnlaaDoor.H Go.Proofs.YtcbppladofnnlaaDoor.LA Go.Proofs.YtcbppladofnnlaaDoor.LWholeTexts Go.Proofs.YtcbppladofnnlaaDoorW.PrintWords Go.Proofs.YtcbppladofnnlaaDoorW.PrintLast Go.Proofs.YtcbppladofnnlaaDoorW.PrintMore
set_option linter.unusedVariables false
set_option linter.unusedSimpArgs false
def tv (l : Bs) : Bs := if l = [] then [48] else l
theorem tv_facts {l : Bs} (h : isd l = true) (hz : nz l = true) : isd (tv l) = true ∧ tv l ≠ [] ∧ val (tv l) = val l ∧ (nz (tv l) = true ∨ tv l = [48]) := by
  unfold tv
  by_cases e : l = []
  · rw [if_pos e, e]
    exact ⟨rfl, by simp, rfl, .inr rfl⟩
  · rw [if_neg e]
    exact ⟨h, e, rfl, .inl hz⟩
theorem lt_key {l m : Bs} (hl : isd l = true) (hm : isd m = true) (l0 : l ≠ []) (m0 : m ≠ []) (zl : nz l = true ∨ l = [48]) (zm : nz m = true ∨ m = [48]) :
    (if (l.length : Int) < (m.length : Int) then true else if (l.length : Int) = (m.length : Int) then Op.bytesLess l m else false) = decide (val l < val m) := by
  have l1 : 0 < l.length := List.length_pos_iff.2 l0
  have m1 : 0 < m.length := List.length_pos_iff.2 m0
  rcases Nat.lt_trichotomy l.length m.length with h | h | h
  · rw [if_pos (by omega)]
    have : nz m = true := by
      rcases zm with z | z
      · exact z
      · have h2 : m.length = 1 := by rw [z]; rfl
        omega
    rw [decide_eq_true (val_long hl hm this h)]
  · rw [if_neg (by omega), if_pos (by omega)]
    exact (val_lex hl hm h).1
  · rw [if_neg (by omega), if_neg (by omega)]
    have : nz l = true := by
      rcases zl with z | z
      · exact z
      · have h2 : l.length = 1 := by rw [z]; rfl
        omega
    have := val_long hm hl this h
    rw [decide_eq_false (by omega)]
theorem plain_eq {a : Bs} (h : ok a = true) : plain a = if (szd a).1 then 45 :: tv (szd a).2 else tv (szd a).2 := by
  obtain ⟨_, _, h3⟩ := szd_facts h
  unfold plain tv
  rw [if_pos h]
  cases hp : (szd a).1
  · simp
  · have := h3 hp
    simp [this]
theorem tv_head {l : Bs} (h : isd (tv l) = true) (h0 : tv l ≠ []) : (bt (mk (tv l)) 0 == 45) = false ∧ 0 < (tv l).length := by
  cases e : tv l with
  | nil => exact absurd e h0
  | cons c r =>
    rw [e, isd_cons] at h
    rw [bt_head, beq_eq_false_iff_ne]
    exact ⟨by omega, by simp⟩
theorem bl45 (l m : Bs) : Op.bytesLess (45 :: l) (45 :: m) = Op.bytesLess l m := by
  rw [Op.bytesLess]
  simp
theorem rcompare_f (a b : Bs) (ha : a.length ≤ 4000000000) (hb : b.length ≤ 4000000000) : Ev (fun k => peerageref02_Compare.f k (mk a) (mk b)) (cmp a b) := by
  unfold peerageref02_Compare.f
  refine Ev.bind (rplain_f a ha) (Ev.bind (rplain_f b hb) (Ev.congr (f := fun _ => some (cmp a b)) (fun k => ?_) (Ev.now _)))
  simp only [mk_toList, mk_size]
  by_cases he : plain a = plain b
  · rw [if_pos he, cmp_eq, (cmpO_zero _ _).2 ((plain_iff a b).1 he)]
  · rw [if_neg he]
    have pn : ∀ x, ok x = false → plain x = [] := fun x h => by unfold plain; rw [if_neg (by simp [h])]
    have pk : ∀ x, ok x = true → plain x ≠ [] := fun x h => by
      obtain ⟨h1, h2, _⟩ := szd_facts h
      have := (tv_facts h1 h2).2.1
      rw [plain_eq h]
      split
      · simp
      · exact this
    cases oa : ok a
    · cases ob : ok b
      · exact absurd ((pn a oa).trans (pn b ob).symm) he
      · rw [if_pos (pn a oa)]
        unfold cmp
        rw [oa, ob]
        rfl
    · rw [if_neg (pk a oa)]
      cases ob : ok b
      · rw [if_pos (pn b ob)]
        unfold cmp
        rw [oa, ob]
        rfl
      · rw [if_neg (pk b ob), cmp_eq]
        have na : num a = some (if (szd a).1 then -(val (szd a).2 : Int) else (val (szd a).2 : Int)) := by unfold num; rw [if_pos oa]
        have nb : num b = some (if (szd b).1 then -(val (szd b).2 : Int) else (val (szd b).2 : Int)) := by unfold num; rw [if_pos ob]
        have hne : num a = num b → False := fun e => he ((plain_iff a b).2 e)
        rw [na, nb, Option.some.injEq] at hne
        rw [na, nb]
        rw [plain_eq oa, plain_eq ob]
        obtain ⟨a1, a2, a3⟩ := szd_facts oa
        obtain ⟨b1, b2, b3⟩ := szd_facts ob
        obtain ⟨ta1, ta2, ta3, ta4⟩ := tv_facts a1 a2
        obtain ⟨tb1, tb2, tb3, tb4⟩ := tv_facts b1 b2
        obtain ⟨ha1, ha2⟩ := tv_head ta1 ta2
        obtain ⟨hb1, hb2⟩ := tv_head tb1 tb2
        have key := lt_key ta1 tb1 ta2 tb2 ta4 tb4
        rw [ta3, tb3] at key
        have va : (szd a).1 = true → 0 < val (szd a).2 := fun h => val_pos a1 a2 (a3 h)
        have vb : (szd b).1 = true → 0 < val (szd b).2 := fun h => val_pos b1 b2 (b3 h)
        have h45 : ∀ r : Bs, (bt (mk (45 :: r)) 0 == 45) = true := fun r => by rw [bt_head]; rfl
        have hi45 : ∀ r : Bs, bt (mk (45 :: r)) 0 = 45 := fun r => by rw [bt_head]; rfl
        have hia : ¬ bt (mk (tv (szd a).2)) 0 = 45 := by simpa using ha1
        generalize val (szd a).2 = x at *
        generalize val (szd b).2 = y at *
        generalize tv (szd a).2 = u at *
        generalize tv (szd b).2 = v at *
        generalize (szd a).1 = p at *
        generalize (szd b).1 = q at *
        have fin : ∀ (less below : Bool), less = decide (x < y) → (if (less != below) = true then some (-1) else some (1 : Int)) = some (if below = true then cmpI (-(x : Int)) (-(y : Int)) else cmpI x y) → True := fun _ _ _ _ => trivial
        cases p <;> cases q
        · simp only [Bool.false_eq_true, if_false]
          rw [if_pos (by omega), if_pos (by omega), ha1, hb1, if_neg (by simp)]
          simp only [Bool.false_eq_true, if_false] at hne
          simp only [cmpO, cmpI]
          by_cases h1 : (u.length : Int) < (v.length : Int)
          · rw [if_pos h1] at key ⊢
            have := of_decide_eq_true key.symm
            rw [if_pos (by simp), if_pos (by omega)]
          · rw [if_neg h1] at key ⊢
            by_cases h2 : (u.length : Int) = (v.length : Int)
            · rw [if_pos h2] at key ⊢
              rw [key]
              by_cases h3 : x < y
              · rw [if_pos (by simp [h3]), if_pos (by omega)]
              · rw [if_neg (by simp [h3]), if_neg (by omega), if_neg (by omega)]
            · rw [if_neg h2] at key ⊢
              have := of_decide_eq_false key.symm
              rw [if_neg (by simp), if_neg (by omega), if_neg (by omega)]
        · simp only [Bool.false_eq_true, if_false, if_true]
          have := vb rfl
          rw [if_pos (by omega), if_pos (by simp <;> omega), ha1, h45, if_pos (by simp), if_neg hia]
          simp only [cmpO, cmpI]
          rw [if_neg (by omega), if_neg (by omega)]
        · simp only [Bool.false_eq_true, if_false, if_true]
          have := va rfl
          rw [if_pos (by simp <;> omega), if_pos (by omega), hb1, h45, if_pos (by simp), if_pos (hi45 _)]
          simp only [cmpO, cmpI]
          rw [if_pos (by omega)]
        · simp only [if_true]
          rw [if_pos (by simp <;> omega), if_pos (by simp <;> omega), h45, h45, if_neg (by simp), bl45]
          have hne2 : x ≠ y := fun e => hne (by rw [e])
          clear hne
          simp only [cmpO, cmpI, List.length_cons]
          by_cases h1 : (u.length : Int) < (v.length : Int)
          · rw [if_pos h1] at key
            have := of_decide_eq_true key.symm
            rw [if_pos (by omega), if_neg (by simp), if_neg (by omega), if_neg (by omega)]
          · rw [if_neg h1] at key
            rw [if_neg (by omega)]
            by_cases h2 : (u.length : Int) = (v.length : Int)
            · rw [if_pos h2] at key
              rw [if_pos (by omega), key]
              by_cases h3 : x < y
              · rw [if_neg (by simp [h3]), if_neg (by omega), if_neg (by omega)]
              · rw [if_pos (by simp [h3]), if_pos (by omega)]
            · rw [if_neg h2] at key
              have := of_decide_eq_false key.symm
              rw [if_neg (by omega), if_pos (by simp), if_pos (by omega)]
end Go.Proofs.YtcbppladofnnlaaDoor.M
