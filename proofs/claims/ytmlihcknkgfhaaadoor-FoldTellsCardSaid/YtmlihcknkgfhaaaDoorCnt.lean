/- What Count and Right compute; a text that is characters alone. Plain Lean over the printed functions. -/
import Derived.Test.YtmlihcknkgfhaaaDoorNxt
namespace Go.Proofs.YtmlihcknkgfhaaaDoor.M
open Go.RowKit Go.Proofs.YtmlihcknkgfhaaaDoor.PFold Go.Proofs.YtmlihcknkgfhaaaDoorW.PrintWords Go.Proofs.YtmlihcknkgfhaaaDoorW.PrintLast Go.Proofs.YtmlihcknkgfhaaaDoorW.PrintMore
set_option linter.unusedVariables false
set_option linter.unusedSimpArgs false
/-- The characters of a text, if it is characters alone (with fuel). -/
def chars : Nat → Bs → Option (List Nat)
  | 0, _ => none
  | n + 1, l => if l = [] then some [] else match dec1 l with
    | some (c, r) => (chars n r).map (c :: ·)
    | none => none
def right (l : Bs) : Option (List Nat) := chars (l.length + 1) l
theorem chars_some : ∀ (n : Nat) (l : Bs) (cs : List Nat), chars n l = some cs → vs cs = true ∧ l = E cs
  | 0, _, _, h => by cases h
  | n + 1, l, cs, h => by
    rw [chars] at h
    split at h
    · rename_i e
      cases h
      exact ⟨rfl, e⟩
    · cases hd : dec1 l with
      | none => rw [hd] at h; cases h
      | some p =>
        obtain ⟨c, r⟩ := p
        rw [hd] at h
        obtain ⟨cs2, h2, rfl⟩ := Option.map_eq_some_iff.1 h
        obtain ⟨h3, h4⟩ := dec1_some hd
        obtain ⟨h5, h6⟩ := chars_some n r cs2 h2
        exact ⟨vs_cons.2 ⟨h3, h5⟩, by rw [h4, h6]; rfl⟩
theorem chars_E : ∀ (cs : List Nat) (n : Nat), vs cs = true → (E cs).length < n → chars n (E cs) = some cs
  | [], n, _, h => by
    obtain ⟨n, rfl⟩ : ∃ m, n = m + 1 := ⟨n - 1, by omega⟩
    rw [chars, if_pos (show E [] = [] from rfl)]
  | c :: cs, n, hv, h => by
    obtain ⟨n, rfl⟩ : ∃ m, n = m + 1 := ⟨n - 1, by omega⟩
    rw [vs_cons] at hv
    have hp := enc_pos c
    rw [E, List.length_append] at h
    rw [chars, E, if_neg (by intro e; have := congrArg List.length e; rw [List.length_append, List.length_nil] at this; omega), dec1_enc hv.1]
    simp only
    rw [chars_E cs n hv.2 (by omega)]
    rfl
theorem right_E {cs : List Nat} (h : vs cs = true) : right (E cs) = some cs := chars_E cs _ h (by omega)
theorem right_some {l : Bs} {cs : List Nat} (h : right l = some cs) : vs cs = true ∧ l = E cs := chars_some _ _ _ h
theorem E_len (cs : List Nat) : cs.length ≤ (E cs).length := by
  induction cs with
  | nil => simp [E]
  | cons c cs ih =>
    have := enc_pos c
    rw [E, List.length_append, List.length_cons]
    omega
def cnt (l : Bs) : Int := match right l with
  | some cs => (cs.length : Int)
  | none => -1
theorem drop_enc (c : Nat) (r : Bs) : (enc c ++ r).drop (enc c).length = r := by simp
theorem count_l0 : ∀ (n : Nat) (l : Bs) (j : Nat), l.length < n → l.length + j ≤ 4000000000 → Ev (fun k => fold_Count.l0 k (mk l) (j : Int)) (match chars n l with
    | some cs => ((cs.length + j : Nat) : Int)
    | none => -1)
  | 0, l, j, h, _ => by omega
  | n + 1, l, j, h, hj => by
    rw [chars]
    by_cases e : l = []
    · rw [if_pos e]
      refine Ev.step (f := fun _ => some _) (fun k => ?_) (Ev.now _)
      simp only [fold_Count.l0]
      rw [mk_toList, if_pos e]
      simp
    · rw [if_neg e]
      refine Ev.step (f := fun k => (fold_Next.f k (mk l)).bind fun bt104 => (if bt104.2 = 0 then (some (-1)) else (if 0 ≤ bt104.2 then (if bt104.2 ≤ ((mk l).size : Int) then (fold_Count.l0 k ((mk l).extract (bt104.2 : Int).toNat (mk l).size) (wrap64 ((j : Int) + 1))) else (none)) else (none)))) (fun k => ?_) (Ev.bind (next_f l) ?_)
      · simp only [fold_Count.l0]
        rw [mk_toList, if_neg e]
      · unfold nx
        cases hd : dec1 l with
        | none =>
          simp only [if_true]
          exact Ev.now _
        | some p =>
          obtain ⟨c, r⟩ := p
          obtain ⟨hv, hl⟩ := dec1_some hd
          have hp := enc_pos c
          have hlen : l.length = (enc c).length + r.length := by rw [hl, List.length_append]
          simp only
          have ih := count_l0 n r (j + 1) (by omega) (by omega)
          have e2 : (mk l).extract (((enc c).length : Int)).toNat (mk l).size = mk r := by
            rw [mk_extract, mk_size, hl]
            simp
          have e3 : (match (chars n r).map (c :: ·) with
              | some cs => ((cs.length + j : Nat) : Int)
              | none => -1) = (match chars n r with
              | some cs => ((cs.length + (j + 1) : Nat) : Int)
              | none => -1) := by
            cases chars n r with
            | none => rfl
            | some cs =>
              simp only [Option.map_some, List.length_cons]
              congr 1
              omega
          rw [e3]
          refine Ev.congr (fun k => ?_) ih
          rw [if_neg (by omega), if_pos (by omega), if_pos (by rw [mk_size]; omega), e2, w64 (by omega) (by omega)]
          rfl
theorem count_f (l : Bs) (hl : l.length ≤ 4000000000) : Ev (fun k => fold_Count.f k (mk l)) (cnt l) := by
  have h := count_l0 (l.length + 1) l 0 (by omega) (by omega)
  unfold cnt right
  refine Ev.congr (fun k => ?_) (show Ev (fun k => fold_Count.l0 k (mk l) ((0 : Nat) : Int)) _ from by
    have e : (match chars (l.length + 1) l with
        | some cs => ((cs.length + 0 : Nat) : Int)
        | none => -1) = (match chars (l.length + 1) l with
        | some cs => (cs.length : Int)
        | none => -1) := by cases chars (l.length + 1) l <;> rfl
    rw [e] at h
    exact h)
  rfl
theorem right_f (l : Bs) (hl : l.length ≤ 4000000000) : Ev (fun k => fold_Right.f k (mk l)) (right l).isSome := by
  unfold fold_Right.f
  refine Ev.bind (count_f l hl) ?_
  have e : decide (cnt l ≥ 0) = (right l).isSome := by
    unfold cnt
    cases right l with
    | none => rfl
    | some cs => simp
  rw [e]
  exact Ev.now _
theorem kind_f (c : Nat) : fold_kind.f (c : Int) = some (kind c : Int) := by
  unfold fold_kind.f kind
  by_cases h : (9 ≤ c ∧ c ≤ 13) ∨ c = 32 ∨ c = 133 ∨ c = 160
  · rw [if_pos h]
    by_cases h1 : (c : Int) = 9
    · rw [if_pos h1]; rfl
    by_cases h2 : (c : Int) = 10
    · rw [if_neg h1, if_pos h2]; rfl
    by_cases h3 : (c : Int) = 11
    · rw [if_neg h1, if_neg h2, if_pos h3]; rfl
    by_cases h4 : (c : Int) = 12
    · rw [if_neg h1, if_neg h2, if_neg h3, if_pos h4]; rfl
    by_cases h5 : (c : Int) = 13
    · rw [if_neg h1, if_neg h2, if_neg h3, if_neg h4, if_pos h5]; rfl
    by_cases h6 : (c : Int) = 32
    · rw [if_neg h1, if_neg h2, if_neg h3, if_neg h4, if_neg h5, if_pos h6]; rfl
    by_cases h7 : (c : Int) = 133
    · rw [if_neg h1, if_neg h2, if_neg h3, if_neg h4, if_neg h5, if_neg h6, if_pos h7]; rfl
    · rw [if_neg h1, if_neg h2, if_neg h3, if_neg h4, if_neg h5, if_neg h6, if_neg h7, if_pos (by omega)]; rfl
  · rw [if_neg h, if_neg (by omega), if_neg (by omega), if_neg (by omega), if_neg (by omega), if_neg (by omega), if_neg (by omega), if_neg (by omega), if_neg (by omega)]
    by_cases h1 : c < 32 ∨ c = 127 ∨ c = 173 ∨ c = 8203
    · rw [if_pos h1]
      by_cases g1 : (c : Int) = 127
      · rw [if_pos g1]; rfl
      by_cases g2 : (c : Int) = 173
      · rw [if_neg g1, if_pos g2]; rfl
      by_cases g3 : (c : Int) = 8203
      · rw [if_neg g1, if_neg g2, if_pos g3]; rfl
      · rw [if_neg g1, if_neg g2, if_neg g3, if_pos (by omega)]; rfl
    · rw [if_neg h1, if_neg (by omega), if_neg (by omega), if_neg (by omega), if_neg (by omega)]; rfl
end Go.Proofs.YtmlihcknkgfhaaaDoor.M
