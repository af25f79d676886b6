/- What the reference's prepared computes: the same. Plain Lean over the printed functions. -/
import Derived.Test.YtmlihcknkgfhaaaDoorRNx
import Derived.Test.YtmlihcknkgfhaaaDoorAns
namespace Go.Proofs.YtmlihcknkgfhaaaDoor.H
open Go.RowKit Go.Proofs.YtmlihcknkgfhaaaDoor.M Go.Proofs.YtmlihcknkgfhaaaDoor.PFold Go.Proofs.YtmlihcknkgfhaaaDoorW.PrintWords Go.Proofs.YtmlihcknkgfhaaaDoorW.PrintLast Go.Proofs.YtmlihcknkgfhaaaDoorW.PrintMore
set_option linter.unusedVariables false
set_option linter.unusedSimpArgs false
theorem rblank_f (c : Nat) : peerageref05_blank.f (c : Int) = some (decide (kind c = 0)) := by
  unfold peerageref05_blank.f
  have e : ((c : Int) == 160) = decide (c = 160) := by rw [Bool.eq_iff_iff, beq_iff_eq, decide_eq_true_eq]; omega
  rw [e]
  have k : (kind c = 0) ↔ ((9 ≤ c ∧ c ≤ 13) ∨ c = 32 ∨ c = 133 ∨ c = 160) := by
    unfold kind
    split
    · rename_i h; simp [h]
    · rename_i h; split <;> simp [h]
  by_cases h1 : 9 ≤ c
  · rw [if_pos (by omega)]
    by_cases h2 : c ≤ 13
    · rw [if_pos (by omega), decide_eq_true (k.2 (by omega))]
    · rw [if_neg (by omega)]
      by_cases h3 : c = 32
      · rw [if_pos (by omega), decide_eq_true (k.2 (by omega))]
      · rw [if_neg (by omega)]
        by_cases h4 : c = 133
        · rw [if_pos (by omega), decide_eq_true (k.2 (by omega))]
        · rw [if_neg (by omega)]
          congr 1
          rw [Bool.eq_iff_iff, decide_eq_true_eq, decide_eq_true_eq, k]
          omega
  · rw [if_neg (by omega), if_neg (by omega), if_neg (by omega)]
    congr 1
    rw [Bool.eq_iff_iff, decide_eq_true_eq, decide_eq_true_eq, k]
    omega
theorem rnothing_f (c : Nat) : peerageref05_nothing.f (c : Int) = some (decide (kind c = 1)) := by
  unfold peerageref05_nothing.f
  have e : ((c : Int) == 8203) = decide (c = 8203) := by rw [Bool.eq_iff_iff, beq_iff_eq, decide_eq_true_eq]; omega
  rw [e, rblank_f, Option.bind_some]
  have k : (kind c = 1) ↔ (¬ kind c = 0 ∧ (c < 32 ∨ c = 127 ∨ c = 173 ∨ c = 8203)) := by
    unfold kind
    split
    · simp
    · split
      · rename_i h; simp [h]
      · rename_i h; simp [h]
  have k0 : (kind c = 0) ↔ ((9 ≤ c ∧ c ≤ 13) ∨ c = 32 ∨ c = 133 ∨ c = 160) := by
    unfold kind
    split
    · rename_i h; simp [h]
    · rename_i h; split <;> simp [h]
  by_cases h1 : c < 32
  · rw [if_pos (by omega)]
    by_cases h2 : kind c = 0
    · rw [decide_eq_true h2, if_pos rfl, if_neg (by omega), if_neg (by omega)]
      congr 1
      rw [Bool.eq_iff_iff, decide_eq_true_eq, decide_eq_true_eq, k]
      omega
    · rw [decide_eq_false h2, if_neg (by decide), decide_eq_true (k.2 ⟨h2, .inl h1⟩)]
  · rw [if_neg (by omega)]
    by_cases h3 : c = 127
    · rw [if_pos (by omega), decide_eq_true (k.2 (by rw [k0]; omega))]
    · rw [if_neg (by omega)]
      by_cases h4 : c = 173
      · rw [if_pos (by omega), decide_eq_true (k.2 (by rw [k0]; omega))]
      · rw [if_neg (by omega)]
        congr 1
        rw [Bool.eq_iff_iff, decide_eq_true_eq, decide_eq_true_eq, k, k0]
        omega
theorem rsmall_all : ∀ n : Fin 256, peerageref05_small.f 3 (mk (enc n.val)) (n.val : Int) = some (mk (enc (sm n.val))) := by decide +kernel
theorem rsmall_f (c : Nat) : Ev (fun k => peerageref05_small.f k (mk (enc c)) (c : Int)) (mk (enc (sm c))) := by
  by_cases h : c < 256
  · exact Ev.of (fun k => peerageref05_small.mono _ _ k) (k := 3) (rsmall_all ⟨c, h⟩)
  · have e : sm c = c := by
      unfold sm
      rw [if_neg]
      rw [big_iff]
      omega
    rw [e]
    refine Ev.step (f := fun _ => some (mk (enc c))) (fun k => ?_) (Ev.now _)
    unfold peerageref05_small.f
    rw [if_pos (by omega), decide_eq_false (by omega)]
    simp only [peerageref05_small.j0]
    rw [if_neg (by decide), if_pos (by omega), if_neg (by omega)]
theorem gapE (out : List Nat) : mk (E out) ++ (⟨#[32]⟩ : ByteArray) = mk (E (out ++ [32])) := by
  show mk (E out) ++ mk [32] = _
  rw [mk_append, E_append]
  rfl
theorem addE (out : List Nat) (x : Nat) : mk (E out) ++ mk (enc x) = mk (E (out ++ [x])) := by
  rw [mk_append, E_one]
theorem E_up (out : List Nat) : (E out).length ≤ 4 * out.length := by
  induction out with
  | nil => simp [E]
  | cons c l ih => have := enc_le c; simp only [E, List.length_append, List.length_cons]; omega
section
variable (e t : Bool)
/-- The character's own text goes behind what there is. -/
theorem put_ev (c : Nat) (cs out : List Nat) {R : ByteArray} (hb : out.length ≤ 1000000)
    (ih : Ev (fun k => peerageref05_prepared.l0 k (mk (E cs)) e t (mk (E (out ++ [if t then sm c else c]))) false false) R) :
    Ev (fun k => if t = true then ((peerageref05_small.f k (mk (enc c)) (c : Int)).bind fun t122 => (if (mk (E out)).size + t122.size ≤ 9223372036854775807 then (peerageref05_prepared.l0 k (mk (E cs)) e t (mk (E out) ++ t122) false false) else (none))) else (if (mk (E out)).size + (mk (enc c)).size ≤ 9223372036854775807 then (peerageref05_prepared.l0 k (mk (E cs)) e t (mk (E out) ++ mk (enc c)) false false) else (none))) R := by
  have h1 : (mk (E out)).size + (mk (enc c)).size ≤ 9223372036854775807 := by
    have := E_up out; have := enc_le c
    rw [mk_size, mk_size]; omega
  have h2 : (mk (E out)).size + (mk (enc (sm c))).size ≤ 9223372036854775807 := by
    have := E_up out; have := enc_le (sm c)
    rw [mk_size, mk_size]; omega
  cases t with
  | true =>
    refine Ev.congr (fun k => if_pos rfl) (Ev.bind (rsmall_f c) ?_)
    refine Ev.congr (fun k => ?_) ih
    rw [if_pos h2, addE]
    rfl
  | false =>
    refine Ev.congr (fun k => ?_) ih
    rw [if_neg (by decide), if_pos h1, addE]
    rfl
theorem rprep_l0 : ∀ (cs out : List Nat) (due first : Bool), vs cs = true → out.length + 2 * cs.length ≤ 900000 →
    Ev (fun k => peerageref05_prepared.l0 k (mk (E cs)) e t (mk (E out)) due first) (mk (E (out ++ go e t cs due (!first))))
  | [], out, due, first, _, hb => by
    refine Ev.step (f := fun _ => some _) (fun k => ?_) (Ev.now _)
    have hz : ¬ (((mk (E [])).size : Nat) : Int) > 0 := by rw [mk_size]; decide
    have h1 : (mk (E out)).size + 1 ≤ 9223372036854775807 := by have := E_up out; rw [mk_size]; omega
    simp only [peerageref05_prepared.l0]
    rw [if_neg hz, go]
    cases due <;> cases e
    · rw [if_neg (by decide)]; simp
    · rw [if_neg (by decide)]; simp
    · rw [if_pos rfl, if_neg (by decide)]; simp
    · rw [if_pos rfl, if_pos rfl, if_pos h1, gapE]; rfl
  | c :: cs, out, due, first, hv, hb => by
    obtain ⟨hc, hcs⟩ := vs_cons.1 hv
    simp only [List.length_cons] at hb
    have hlen : (E (c :: cs)).length = (enc c).length + (E cs).length := by rw [E, List.length_append]
    have hpos := enc_pos c
    have hnx := R.next_f (E (c :: cs))
    rw [show E (c :: cs) = enc c ++ E cs from rfl, nx_enc hc, ← show E (c :: cs) = enc c ++ E cs from rfl] at hnx
    have hz : (((mk (E (c :: cs))).size : Nat) : Int) > 0 := by rw [mk_size]; omega
    have g1 : (0 : Int) ≤ (((enc c).length : Nat) : Int) := by omega
    have g2 : (((enc c).length : Nat) : Int) ≤ (((mk (E (c :: cs))).size : Nat) : Int) := by rw [mk_size]; omega
    have e1 : (mk (E (c :: cs))).extract (((enc c).length : Nat) : Int).toNat (mk (E (c :: cs))).size = mk (E cs) := by rw [Int.toNat_natCast]; exact cut_rest rfl rfl
    have e2 : (mk (E (c :: cs))).extract 0 (((enc c).length : Nat) : Int).toNat = mk (enc c) := by rw [Int.toNat_natCast]; exact cut_own (cs := cs) rfl rfl
    have hstep : ∃ F : Nat → Int × Int → Option ByteArray, (∀ k, peerageref05_prepared.l0 (k + 1) (mk (E (c :: cs))) e t (mk (E out)) due first = (peerageref05_Next.f k (mk (E (c :: cs)))).bind (F k)) ∧
        Ev (fun k => F k ((c : Int), (((enc c).length : Nat) : Int))) (mk (E (out ++ go e t (c :: cs) due (!first)))) := by
      refine ⟨?F, ?h1, ?h2⟩
      case h1 =>
        intro k
        simp only [peerageref05_prepared.l0]
        rw [if_pos hz]
      case h2 =>
        have hgap : (mk (E out)).size + 1 ≤ 9223372036854775807 := by have := E_up out; rw [mk_size]; omega
        simp only [if_pos g1, if_pos g2, rnothing_f, Option.bind_some, e1, e2]
        rcases kind_cases c with hk | hk | hk
        · have ih := rprep_l0 cs out true first hcs (by omega)
          rw [go_blank hk]
          refine Ev.congr (fun k => ?_) ih
          rw [rblank_f, decide_eq_false (by omega), if_neg (by decide), Option.bind_some, decide_eq_true hk, if_pos rfl]
        · have ih := rprep_l0 cs out due first hcs (by omega)
          rw [go_not hk]
          refine Ev.congr (fun k => ?_) ih
          rw [decide_eq_true hk, if_pos rfl]
        · rw [go_other hk]
          have ihA := rprep_l0 cs ((out ++ [32]) ++ [if t then sm c else c]) false false hcs (by simp; omega)
          have ihB := rprep_l0 cs (out ++ [if t then sm c else c]) false false hcs (by simp; omega)
          have pA := put_ev e t c cs (out ++ [32]) (by simp; omega) ihA
          have pB := put_ev e t c cs out (by omega) ihB
          rw [← gapE] at pA
          have n1 : decide (kind c = 1) = false := decide_eq_false (by omega)
          have n0 : decide (kind c = 0) = false := decide_eq_false (by omega)
          have rA : (out ++ [32]) ++ [if t then sm c else c] ++ go e t cs false (!false) = out ++ ([32] ++ (if t then sm c else c) :: go e t cs false true) := by simp
          have rB : out ++ [if t then sm c else c] ++ go e t cs false (!false) = out ++ ([] ++ (if t then sm c else c) :: go e t cs false true) := by simp
          rw [rA] at pA
          rw [rB] at pB
          cases due <;> cases first <;> cases e
          · refine Ev.congr (fun k => ?_) pB
            rw [n1, if_neg (by decide), rblank_f, Option.bind_some, n0, if_neg (by decide), if_neg (by decide)]
          · refine Ev.congr (fun k => ?_) pB
            rw [n1, if_neg (by decide), rblank_f, Option.bind_some, n0, if_neg (by decide), if_neg (by decide)]
          · refine Ev.congr (fun k => ?_) pB
            rw [n1, if_neg (by decide), rblank_f, Option.bind_some, n0, if_neg (by decide), if_neg (by decide)]
          · refine Ev.congr (fun k => ?_) pB
            rw [n1, if_neg (by decide), rblank_f, Option.bind_some, n0, if_neg (by decide), if_neg (by decide)]
          · refine Ev.congr (fun k => ?_) pA
            rw [n1, if_neg (by decide), rblank_f, Option.bind_some, n0, if_neg (by decide), if_pos rfl, if_neg (by decide), if_pos hgap]
          · refine Ev.congr (fun k => ?_) pA
            rw [n1, if_neg (by decide), rblank_f, Option.bind_some, n0, if_neg (by decide), if_pos rfl, if_neg (by decide), if_pos hgap]
          · refine Ev.congr (fun k => ?_) pB
            rw [n1, if_neg (by decide), rblank_f, Option.bind_some, n0, if_neg (by decide), if_pos rfl, if_pos rfl, if_neg (by decide)]
          · refine Ev.congr (fun k => ?_) pA
            rw [n1, if_neg (by decide), rblank_f, Option.bind_some, n0, if_neg (by decide), if_pos rfl, if_pos rfl, if_pos rfl, if_pos hgap]
    obtain ⟨F, hF, hE⟩ := hstep
    exact Ev.step hF (Ev.bind hnx hE)
end
theorem rprepared_f (l : Bs) (e t : Bool) (hl : l.length ≤ 100000) : Ev (fun k => peerageref05_prepared.f k (mk l) e t) (mk (prepared l e t)) := by
  refine Ev.bind (R.count_f l (by omega)) ?_
  unfold prepared cnt
  cases hr : right l with
  | none =>
    refine Ev.congr (fun k => ?_) (Ev.now (mk l))
    simp only
    rw [if_pos (by decide)]
  | some cs =>
    obtain ⟨hv, rfl⟩ := right_some hr
    have hcl := E_len cs
    have := rprep_l0 e t cs [] false true hv (by simp; omega)
    refine Ev.congr (fun k => ?_) this
    simp only
    rw [if_neg (by omega)]
    rfl
end Go.Proofs.YtmlihcknkgfhaaaDoor.H
