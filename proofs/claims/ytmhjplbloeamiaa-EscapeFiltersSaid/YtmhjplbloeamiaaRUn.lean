/- What Unfilter computes, the program's and the reference's: the same. Plain Lean over the printed functions. -/
import Derived.Test.YtmhjplbloeamiaaRFil
import Derived.Test.YtmhjplbloeamiaaPEscx3
namespace Go.Proofs.Ytmhjplbloeamiaa.H
open Go.RowKit Go.Proofs.Ytmhjplbloeamiaa.M Go.Proofs.Ytmhjplbloeamiaa.PEsc Go.Proofs.YtmhjplbloeamiaaW.PrintWords Go.Proofs.YtmhjplbloeamiaaW.PrintLast Go.Proofs.YtmhjplbloeamiaaW.PrintMore
set_option linter.unusedVariables false
set_option linter.unusedSimpArgs false
def hexn (n : Nat) : Option Nat := if 48 ≤ n ∧ n ≤ 57 then some (n - 48) else if 97 ≤ n ∧ n ≤ 102 then some (n - 87) else if 65 ≤ n ∧ n ≤ 70 then some (n - 55) else none
def hexv (c : UInt8) : Option Nat := hexn c.toNat
theorem hexv_lt {c : UInt8} {v : Nat} (h : hexv c = some v) : v < 16 := by
  unfold hexv hexn at h
  split at h
  · have := Option.some.inj h; omega
  split at h
  · have := Option.some.inj h; omega
  split at h
  · have := Option.some.inj h; omega
  · cases h
theorem digit_all : ∀ n : Fin 256, escape_digit.f (n.val : Int) = some (match hexn n.val with | some v => ((v : Int), true) | none => (255, false)) := by decide +kernel
theorem digit_f (c : UInt8) : escape_digit.f (c.toNat : Int) = some (match hexv c with | some v => ((v : Int), true) | none => (255, false)) := digit_all ⟨c.toNat, c.toNat_lt⟩
theorem ref_digit_all : ∀ n : Fin 256, peerageref10_digit.f 30 (n.val : Int) = some (match hexn n.val with | some v => (v : Int) | none => -1) := by decide +kernel
theorem ref_digit (c : UInt8) : Ev (fun k => peerageref10_digit.f k (c.toNat : Int)) (match hexv c with | some v => (v : Int) | none => -1) :=
  Ev.of (fun k => peerageref10_digit.mono _ k) (k := 30) (ref_digit_all ⟨c.toNat, c.toNat_lt⟩)
theorem or_all : ∀ x y : Fin 16, Go.bits .or .u8 (((x.val : Int) * 16) % 256) (y.val : Int) = ((x.val * 16 + y.val : Nat) : Int) := by decide +kernel
theorem or_eq {x y : Nat} (hx : x < 16) (hy : y < 16) : Go.bits .or .u8 (((x : Int) * 16) % 256) (y : Int) = ((x * 16 + y : Nat) : Int) := or_all ⟨x, hx⟩ ⟨y, hy⟩
def pair (a b : UInt8) : Option UInt8 := match hexv a, hexv b with
  | some x, some y => some (b8 (x * 16 + y))
  | _, _ => none
def pairB (a b : UInt8) : ByteArray × Bool := match pair a b with
  | some v => (mk [v], true)
  | none => (⟨#[]⟩, false)
theorem one_num (n : Nat) : strOfNums [(n : Int)] = mk [b8 n] := rfl
theorem bt_0 (a b : UInt8) : bt (mk [a, b]) 0 = (a.toNat : Int) := bt_head _ _
theorem bt_1 (a b : UInt8) : bt (mk [a, b]) 1 = (b.toNat : Int) := bt_mk (i := 1) rfl
theorem sz2 (a b : UInt8) : ((mk [a, b]).size : Int) = 2 := rfl
theorem w1 : wrap64 (0 + 1) = 1 := by rw [w64 (by decide) (by decide)]; rfl
theorem w2 : wrap64 (0 + 2) = 2 := by rw [w64 (by decide) (by decide)]; rfl
theorem w3 : wrap64 (2 + 1) = 3 := by rw [w64 (by decide) (by decide)]; rfl
theorem unhex_pair (a b : UInt8) : Ev (fun k => escape_Unhex.f k (mk [a, b])) (pairB a b) := by
  refine Ev.congr (f := fun k => escape_Unhex.l0 k (mk [a, b]) [] 0) (fun k => ?_) ?_
  · unfold escape_Unhex.f
    rw [sz2, if_pos (by decide)]
  unfold pairB pair
  cases ha : hexv a with
  | none =>
    refine Ev.step (f := fun _ => some _) (fun k => ?_) (Ev.now _)
    simp only [escape_Unhex.l0]
    rw [sz2, if_pos (by decide), if_pos (by decide), bt_0, digit_f, ha, Option.bind_some, w1, if_pos (by decide), if_pos (by decide), bt_1, digit_f, Option.bind_some, if_neg (by decide)]
  | some x =>
    cases hb : hexv b with
    | none =>
      refine Ev.step (f := fun _ => some _) (fun k => ?_) (Ev.now _)
      simp only [escape_Unhex.l0]
      rw [sz2, if_pos (by decide), if_pos (by decide), bt_0, digit_f, ha, Option.bind_some, w1, if_pos (by decide), if_pos (by decide), bt_1, digit_f, hb, Option.bind_some, if_pos rfl, if_neg (by decide)]
    | some y =>
      refine Ev.step (f := fun k => escape_Unhex.l0 k (mk [a, b]) [((x * 16 + y : Nat) : Int)] 2) (fun k => ?_) (Ev.step (f := fun _ => some _) (fun k => ?_) (Ev.now _))
      · simp only [escape_Unhex.l0]
        rw [sz2, if_pos (by decide), if_pos (by decide), bt_0, digit_f, ha, Option.bind_some, w1, if_pos (by decide), if_pos (by decide), bt_1, digit_f, hb, Option.bind_some, if_pos rfl, if_pos rfl, if_pos (by decide), or_eq (hexv_lt ha) (hexv_lt hb), w2]
        rfl
      · simp only [escape_Unhex.l0]
        rw [sz2, if_neg (by decide), one_num]
theorem ref_unhex_pair (a b : UInt8) : Ev (fun k => peerageref10_Unhex.f k (mk [a, b])) (pairB a b) := by
  refine Ev.congr (f := fun k => peerageref10_Unhex.l0 k (mk [a, b]) [] 0) (fun k => ?_) ?_
  · unfold peerageref10_Unhex.f
    rw [sz2, if_neg (by decide)]
  have hstep : ∃ F : Nat → Int → Int → Option (ByteArray × Bool), (∀ k, peerageref10_Unhex.l0 (k + 1) (mk [a, b]) [] 0 = (peerageref10_digit.f k (a.toNat : Int)).bind fun u => (peerageref10_digit.f k (b.toNat : Int)).bind fun v => F k u v) ∧ ∀ x y : Int, ∀ q, Ev (fun k => if x < 0 then (some ((⟨#[]⟩ : ByteArray), false)) else (if y < 0 then (some ((⟨#[]⟩ : ByteArray), false)) else (peerageref10_Unhex.l0 k (mk [a, b]) [(wrap64 ((wrap64 (x * 16)) + y)) % 256] 2))) q → Ev (fun k => F k x y) q := by
    refine ⟨?F, ?h1, ?h2⟩
    case h1 =>
      intro k
      simp only [peerageref10_Unhex.l0]
      rw [sz2, w1, if_pos (by decide), if_pos (by decide), if_pos (by decide), bt_0]
      simp only [if_pos (show (0 : Int) ≤ 1 by decide), bt_1]
      rfl
    case h2 =>
      intro x y q h
      refine Ev.congr (fun k => ?_) h
      simp only [List.length_nil, if_pos (show 0 < 140737488355328 by decide), List.nil_append, w2]
  obtain ⟨F, hF, hG⟩ := hstep
  refine Ev.step hF (Ev.bind (ref_digit a) (Ev.bind (ref_digit b) (hG _ _ _ ?_)))
  unfold pairB pair
  cases ha : hexv a with
  | none =>
    simp only
    exact Ev.congr (fun k => if_pos (by decide)) (Ev.now _)
  | some x =>
    cases hb : hexv b with
    | none =>
      simp only
      exact Ev.congr (fun k => by rw [if_neg (by omega), if_pos (by decide)]) (Ev.now _)
    | some y =>
      have hx := hexv_lt ha
      have hy := hexv_lt hb
      have e : (wrap64 ((wrap64 ((x : Int) * 16)) + (y : Int))) % 256 = ((x * 16 + y : Nat) : Int) := by
        rw [w64 (n := (x : Int) * 16) (by omega) (by omega), w64 (by omega) (by omega)]
        omega
      simp only [e]
      refine Ev.step (f := fun _ => some (mk [b8 (x * 16 + y)], true)) (fun k => ?_) (Ev.now _)
      rw [if_neg (by omega), if_neg (by omega)]
      simp only [peerageref10_Unhex.l0]
      rw [sz2, w3, if_neg (by decide), one_num]
/-- What stands behind a backslash, and the rest. -/
def hex2 : Bs → Option (UInt8 × Bs)
  | a :: b :: r => (pair a b).map fun v => (v, r)
  | _ => none
theorem hex2_cons (a b : UInt8) (r : Bs) : hex2 (a :: b :: r) = (pair a b).map fun v => (v, r) := rfl
/-- What Unfilter computes (with fuel). -/
def unf : Nat → Bs → Bs → Bs × Bool
  | 0, _, acc => (acc, true)
  | n + 1, [], acc => (acc, true)
  | n + 1, c :: r, acc => if (amg [42, 40, 41] c || decide (c.toNat = 0)) = true then ([], false) else if c.toNat = 92 then (match hex2 r with
    | some (v, t) => unf n t (acc ++ [v])
    | none => ([], false)) else unf n r (acc ++ [c])
def asB (q : Bs × Bool) : ByteArray × Bool := (mk q.1, q.2)
theorem sign_f (r : Bs) (hr : r.length ≤ 1000) : Ev (fun k => escape_sign.f k (mk r) (⟨#[]⟩ : ByteArray)) (match hex2 r with | some (v, _) => ((v.toNat : Int), 2) | none => (0, 0)) := by
  have hj : Ev (fun k => escape_sign.j0 k (mk r) false) (match hex2 r with | some (v, _) => ((v.toNat : Int), 2) | none => (0, 0)) := by
    match r, hr with
    | [], _ =>
      refine Ev.step (f := fun _ => some _) (fun k => ?_) (Ev.now _)
      simp only [escape_sign.j0]
      rw [if_neg (by decide), if_pos (by decide)]
      rfl
    | [a], _ =>
      refine Ev.step (f := fun _ => some _) (fun k => ?_) (Ev.now _)
      simp only [escape_sign.j0]
      rw [if_neg (by decide), if_pos (by rw [mk_size]; simp)]
      rfl
    | a :: b :: t, hr =>
      have hz : (mk (a :: b :: t)).size = t.length + 2 := by rw [mk_size]; rfl
      have g1 : ¬ ((t.length + 2 : Nat) : Int) < 2 := by omega
      have g2 : (2 : Int) ≤ ((t.length + 2 : Nat) : Int) := by omega
      have hx : (mk (a :: b :: t)).extract 0 2 = mk [a, b] := by rw [mk_extract]; rfl
      refine Ev.step (f := fun k => (escape_Unhex.f k (mk [a, b])).bind fun bt123 => (if bt123.2 = true then (if 0 < (bt123.1.size : Int) then (some (bt bt123.1 0, 2)) else (none)) else (some (0, 0)))) (fun k => ?_) (Ev.bind (unhex_pair a b) ?_)
      · simp only [escape_sign.j0]
        rw [if_neg (by decide), hz, if_neg g1, if_pos (by decide : 0 ≤ 2), if_pos g2, hx]
      · unfold pairB
        rw [hex2_cons]
        cases pair a b with
        | none =>
          simp only [Bool.false_eq_true, if_false, Option.map_none]
          exact Ev.now _
        | some v =>
          have : bt (mk [v]) 0 = (v.toNat : Int) := bt_head _ _
          have hz1 : ((mk [v]).size : Int) = 1 := rfl
          simp only [if_true, hz1, this, Option.map_some, if_pos (show (0 : Int) < 1 by decide)]
          exact Ev.now _
  refine Ev.congr (fun k => ?_) hj
  unfold escape_sign.f
  cases r with
  | nil => rw [mk_toList, if_pos rfl]
  | cons a t =>
    rw [mk_toList, if_neg (by simp), if_pos (by rw [mk_size]; simp <;> omega), bt_head, among_f, Option.bind_some]
    rfl
theorem hex2_some {r t : Bs} {v : UInt8} (h : hex2 r = some (v, t)) : ∃ a b, r = a :: b :: t ∧ pair a b = some v := by
  match r, h with
  | a :: b :: r, h =>
    rw [hex2_cons] at h
    cases hp : pair a b with
    | none => rw [hp] at h; cases h
    | some w =>
      rw [hp] at h
      obtain ⟨rfl, rfl⟩ := Prod.mk.inj (Option.some.inj h)
      exact ⟨a, b, rfl, hp⟩
section
variable {p s acc : Bs} {c : UInt8}
theorem at_mid : (p ++ c :: s)[p.length]? = some c := by rw [List.getElem?_append_right (Nat.le_refl _)]; simp
theorem sz_mid : (mk (p ++ c :: s)).size = p.length + s.length + 1 := by rw [mk_size]; simp; omega
theorem rest_mid : (mk (p ++ c :: s)).extract (p.length + 1) (p.length + s.length + 1) = mk s := by
  rw [mk_extract]
  congr 1
  rw [List.drop_append, List.drop_eq_nil_of_le (by omega), List.nil_append, show p.length + 1 - p.length = 1 by omega, List.drop_one, List.tail_cons]
  exact List.take_of_length_le (by omega)
theorem nums8_one : nums8 acc ++ [(c.toNat : Int)] = nums8 (acc ++ [c]) := by unfold nums8; rw [List.map_append]; rfl
end
theorem esc_unf : ∀ (n : Nat) (s p acc : Bs), s.length < n → p.length + s.length ≤ 1000 → acc.length + s.length ≤ 1000 →
    Ev (fun k => escape_Unfilter.l0 k (mk (p ++ s)) (nums8 acc) (p.length : Int)) (asB (unf n s acc))
  | 0, s, p, acc, h, _, _ => by omega
  | n + 1, [], p, acc, _, h1, h2 => by
    refine Ev.step (f := fun _ => some _) (fun k => ?_) (Ev.now _)
    simp only [escape_Unfilter.l0]
    rw [mk_size, List.append_nil, if_neg (by omega), strOf_nums8]
    rfl
  | n + 1, c :: s, p, acc, h0, h1, h2 => by
    simp only [List.length_cons] at h0 h1 h2
    have hbt := bt_mk (at_mid (p := p) (s := s) (c := c))
    have g0 : (p.length : Int) < ((p.length + s.length + 1 : Nat) : Int) := by omega
    have g1 : (0 : Int) ≤ (p.length : Int) := by omega
    have g3 : (nums8 acc).length < 140737488355328 := by unfold nums8; rw [List.length_map]; omega
    have hw : wrap64 ((p.length : Int) + 1) = ((p.length + 1 : Nat) : Int) := by rw [w64 (by omega) (by omega)]; omega
    have hw2 : wrap64 (wrap64 ((p.length : Int) + 2) + 1) = ((p.length + 3 : Nat) : Int) := by rw [w64 (n := (p.length : Int) + 2) (by omega) (by omega), w64 (by omega) (by omega)]; omega
    have g4 : (0 : Int) ≤ ((p.length + 1 : Nat) : Int) := by omega
    have g5 : ((p.length + 1 : Nat) : Int) ≤ ((p.length + s.length + 1 : Nat) : Int) := by omega
    have hz4 : ((c.toNat : Int) == 0) = decide (c.toNat = 0) := by rw [Bool.eq_iff_iff, beq_iff_eq, decide_eq_true_eq]; omega
    have hj : Ev (fun k => escape_Unfilter.j1 k (mk (p ++ c :: s)) (nums8 acc) (p.length : Int) (c.toNat : Int) (amg [42, 40, 41] c || decide (c.toNat = 0))) (asB (unf (n + 1) (c :: s) acc)) := by
      rw [unf]
      by_cases b1 : (amg [42, 40, 41] c || decide (c.toNat = 0)) = true
      · rw [if_pos b1]
        refine Ev.step (f := fun _ => some _) (fun k => ?_) (Ev.now _)
        simp only [escape_Unfilter.j1]
        rw [if_pos b1]
        rfl
      · rw [if_neg b1]
        by_cases b2 : c.toNat = 92
        · rw [if_pos b2]
          have b3 : (c.toNat : Int) = 92 := by omega
          refine Ev.step (f := fun k => (escape_sign.f k (mk s) (⟨#[]⟩ : ByteArray)).bind fun bt126 => (if bt126.2 = 0 then (some ((⟨#[]⟩ : ByteArray), false)) else (if (nums8 acc).length < 140737488355328 then (escape_Unfilter.l0 k (mk (p ++ c :: s)) (nums8 acc ++ [bt126.1]) (wrap64 ((wrap64 ((p.length : Int) + bt126.2)) + 1))) else (none)))) (fun k => ?_) (Ev.bind (sign_f s (by omega)) ?_)
          · simp only [escape_Unfilter.j1]
            rw [if_neg b1, if_pos b3, hw, if_pos g4, sz_mid, if_pos g5, Int.toNat_natCast, rest_mid]
          · cases hh : hex2 s with
            | none =>
              simp only [if_true]
              exact Ev.now _
            | some q =>
              obtain ⟨v, t⟩ := q
              obtain ⟨a, b, rfl, hp⟩ := hex2_some hh
              simp only [List.length_cons] at h0 h1 h2
              have ih := esc_unf n t (p ++ [c, a, b]) (acc ++ [v]) (by omega) (by simp; omega) (by simp; omega)
              rw [List.append_assoc, show (p ++ [c, a, b]).length = p.length + 3 by simp] at ih
              refine Ev.congr (fun k => ?_) ih
              simp only
              rw [if_neg (by decide), if_pos g3, nums8_one, hw2]
              rfl
        · rw [if_neg b2]
          have b3 : ¬ (c.toNat : Int) = 92 := by omega
          have ih := esc_unf n s (p ++ [c]) (acc ++ [c]) (by omega) (by simp; omega) (by simp; omega)
          rw [List.append_assoc, List.singleton_append, show (p ++ [c]).length = p.length + 1 by simp] at ih
          refine Ev.step (fun k => ?_) ih
          simp only [escape_Unfilter.j1]
          rw [if_neg b1, if_neg b3, if_pos g3, nums8_one, hw]
    refine Ev.step (fun k => ?_) hj
    simp only [escape_Unfilter.l0]
    rw [sz_mid, if_pos g0, if_pos g1, hbt, among_f, Option.bind_some, hz4]
    show (if amg [42, 40, 41] c = true then _ else _) = _
    cases amg [42, 40, 41] c <;> rfl
theorem ref_short {p s : Bs} {acc : List Int} {c : UInt8} (hs : s.length < 2) (hc : c.toNat = 92) (hp : p.length ≤ 1000) (k : Nat) :
    peerageref10_Unfilter.j1 (k + 1) (mk (p ++ c :: s)) acc (p.length : Int) false = some ((⟨#[]⟩ : ByteArray), false) := by
  have hbt := bt_mk (at_mid (p := p) (s := s) (c := c))
  have b3 : (c.toNat : Int) = 92 := by omega
  have g0 : (p.length : Int) < ((p.length + s.length + 1 : Nat) : Int) := by omega
  have g1 : (0 : Int) ≤ (p.length : Int) := by omega
  have g2 : ((p.length + 2 : Nat) : Int) ≥ ((p.length + s.length + 1 : Nat) : Int) := by omega
  have hw2 : wrap64 ((p.length : Int) + 2) = ((p.length + 2 : Nat) : Int) := by rw [w64 (by omega) (by omega)]; omega
  simp only [peerageref10_Unfilter.j1]
  rw [if_neg (by decide), if_pos g1, sz_mid, if_pos g0, hbt, if_pos b3, hw2, if_pos g2]
theorem wraps {n : Nat} (h : n ≤ 1000) : wrap64 ((n : Int) + 1) = ((n + 1 : Nat) : Int) ∧ wrap64 ((n : Int) + 2) = ((n + 2 : Nat) : Int) ∧ wrap64 ((n : Int) + 3) = ((n + 3 : Nat) : Int) ∧ wrap64 (((n + 2 : Nat) : Int) + 1) = ((n + 3 : Nat) : Int) := by
  refine ⟨?_, ?_, ?_, ?_⟩ <;> (rw [w64 (by omega) (by omega)]; omega)
theorem ref_long (n : Nat) (p acc : Bs) (c a b : UInt8) (t : Bs) (b2 : c.toNat = 92) (h0 : t.length + 2 < n) (h1 : p.length + (t.length + 2 + 1) ≤ 1000) (h2 : acc.length + (t.length + 2 + 1) ≤ 1000)
    (IH : ∀ acc : Bs, t.length < n → (p ++ [c, a, b]).length + t.length ≤ 1000 → acc.length + t.length ≤ 1000 → Ev (fun k => peerageref10_Unfilter.l0 k (mk ((p ++ [c, a, b]) ++ t)) (nums8 acc) ((p ++ [c, a, b]).length : Int)) (asB (unf n t acc))) :
    Ev (fun k => peerageref10_Unfilter.j1 k (mk (p ++ c :: a :: b :: t)) (nums8 acc) (p.length : Int) false) (asB (match hex2 (a :: b :: t) with
      | some (v, t) => unf n t (acc ++ [v])
      | none => ([], false))) := by
  have hbt := bt_mk (at_mid (p := p) (s := a :: b :: t) (c := c))
  have hz : (mk (p ++ c :: a :: b :: t)).size = p.length + t.length + 3 := by rw [sz_mid]; simp; omega
  have b3 : (c.toNat : Int) = 92 := by omega
  have g0 : (p.length : Int) < ((p.length + t.length + 3 : Nat) : Int) := by omega
  have g1 : (0 : Int) ≤ (p.length : Int) := by omega
  have g3 : (nums8 acc).length < 140737488355328 := by unfold nums8; rw [List.length_map]; omega
  have g4 : (0 : Int) ≤ ((p.length + 1 : Nat) : Int) := by omega
  have g6 : ((p.length + 1 : Nat) : Int) ≤ ((p.length + 3 : Nat) : Int) := by omega
  have g5 : ¬ ((p.length + 2 : Nat) : Int) ≥ ((p.length + t.length + 3 : Nat) : Int) := by omega
  have g7 : ((p.length + 3 : Nat) : Int) ≤ ((p.length + t.length + 3 : Nat) : Int) := by omega
  have hx : (mk (p ++ c :: a :: b :: t)).extract (p.length + 1) (p.length + 3) = mk [a, b] := by
    rw [mk_extract]
    congr 1
    rw [List.drop_append, List.drop_eq_nil_of_le (by omega), List.nil_append, show p.length + 1 - p.length = 1 by omega, List.drop_one, List.tail_cons, show p.length + 3 - (p.length + 1) = 2 by omega]
    rfl
  have e1 : t.length < n := by omega
  have e2 : (p ++ [c, a, b]).length + t.length ≤ 1000 := by simp; omega
  have e3 : ∀ v, (acc ++ [v]).length + t.length ≤ 1000 := by intro v; simp; omega
  have e4 : (p ++ [c, a, b]).length = p.length + 3 := by simp
  have e5 : (p ++ [c, a, b]) ++ t = p ++ c :: a :: b :: t := by simp
  rw [e4] at e2 IH
  rw [e5] at IH
  have HP : p.length ≤ 1000 := by omega
  refine Ev.step (f := fun k => (peerageref10_Unhex.f k (mk [a, b])).bind fun bt143 => (if bt143.2 = true then (if 0 < (bt143.1.size : Int) then (if (nums8 acc).length < 140737488355328 then (peerageref10_Unfilter.l0 k (mk (p ++ c :: a :: b :: t)) (nums8 acc ++ [bt bt143.1 0]) ((p.length + 3 : Nat) : Int)) else (none)) else (none)) else (some ((⟨#[]⟩ : ByteArray), false)))) (fun k => ?_) (Ev.bind (ref_unhex_pair a b) ?_)
  · obtain ⟨hw, hw2, hw3, hw4⟩ := wraps HP
    simp only [peerageref10_Unfilter.j1]
    rw [if_neg (by decide), if_pos g1, hz, if_pos g0, hbt, if_pos b3, hw2, if_neg g5, hw, if_pos g4, hw3, if_pos g6, if_pos g7, Int.toNat_natCast, Int.toNat_natCast, hx, hw4]
  · unfold pairB
    rw [hex2_cons]
    cases hp : pair a b with
    | none =>
      simp only [Bool.false_eq_true, if_false, Option.map_none]
      exact Ev.now _
    | some v =>
      have hb0 : bt (mk [v]) 0 = (v.toNat : Int) := bt_head _ _
      have hz1 : (0 : Int) < ((mk [v]).size : Int) := by rw [mk_size]; simp
      refine Ev.congr (fun k => ?_) (IH (acc ++ [v]) e1 e2 (e3 v))
      simp only
      rw [if_pos trivial, if_pos hz1, if_pos g3, hb0, nums8_one]
theorem ref_unf : ∀ (n : Nat) (s p acc : Bs), s.length < n → p.length + s.length ≤ 1000 → acc.length + s.length ≤ 1000 →
    Ev (fun k => peerageref10_Unfilter.l0 k (mk (p ++ s)) (nums8 acc) (p.length : Int)) (asB (unf n s acc))
  | 0, s, p, acc, h, _, _ => by omega
  | n + 1, [], p, acc, _, h1, h2 => by
    refine Ev.step (f := fun _ => some _) (fun k => ?_) (Ev.now _)
    simp only [peerageref10_Unfilter.l0]
    rw [mk_size, List.append_nil, if_neg (by omega), strOf_nums8]
    rfl
  | n + 1, c :: s, p, acc, h0, h1, h2 => by
    simp only [List.length_cons] at h0 h1 h2
    have hbt := bt_mk (at_mid (p := p) (s := s) (c := c))
    have g0 : (p.length : Int) < ((p.length + s.length + 1 : Nat) : Int) := by omega
    have g1 : (0 : Int) ≤ (p.length : Int) := by omega
    have g3 : (nums8 acc).length < 140737488355328 := by unfold nums8; rw [List.length_map]; omega
    have hz4 : ((c.toNat : Int) == 0) = decide (c.toNat = 0) := by rw [Bool.eq_iff_iff, beq_iff_eq, decide_eq_true_eq]; omega
    have hj : Ev (fun k => peerageref10_Unfilter.j1 k (mk (p ++ c :: s)) (nums8 acc) (p.length : Int) (amg [42, 40, 41] c || decide (c.toNat = 0))) (asB (unf (n + 1) (c :: s) acc)) := by
      rw [unf]
      by_cases b1 : (amg [42, 40, 41] c || decide (c.toNat = 0)) = true
      · rw [if_pos b1]
        refine Ev.step (f := fun _ => some _) (fun k => ?_) (Ev.now _)
        simp only [peerageref10_Unfilter.j1]
        rw [if_pos b1]
        rfl
      · rw [if_neg b1]
        by_cases b2 : c.toNat = 92
        · rw [if_pos b2]
          have b3 : (c.toNat : Int) = 92 := by omega
          have b1f : (amg [42, 40, 41] c || decide (c.toNat = 0)) = false := by simpa using b1
          rw [b1f]
          by_cases hs2 : s.length < 2
          · have hh : hex2 s = none := by
              match s, hs2 with
              | [], _ => rfl
              | [_], _ => rfl
            rw [hh]
            exact Ev.step (f := fun _ => some _) (fun k => ref_short hs2 b2 (by omega) k) (Ev.now _)
          obtain ⟨a, b, t, rfl⟩ : ∃ a b t, s = a :: b :: t := by
            match s, hs2 with
            | [], h => exact absurd (by simp) h
            | [_], h => exact absurd (by simp) h
            | a :: b :: t, _ => exact ⟨a, b, t, rfl⟩
          exact ref_long n p acc c a b t b2 (by simpa using h0) (by simpa using h1) (by simpa using h2) (ref_unf n t (p ++ [c, a, b]))
        · rw [if_neg b2]
          have b3 : ¬ (c.toNat : Int) = 92 := by omega
          have ih := ref_unf n s (p ++ [c]) (acc ++ [c]) (by omega) (by simp; omega) (by simp; omega)
          rw [List.append_assoc, List.singleton_append, show (p ++ [c]).length = p.length + 1 by simp] at ih
          have hw : wrap64 ((p.length : Int) + 1) = ((p.length + 1 : Nat) : Int) := by rw [w64 (by omega) (by omega)]; omega
          refine Ev.step (fun k => ?_) ih
          simp only [peerageref10_Unfilter.j1]
          rw [if_neg b1, if_pos g1, sz_mid, if_pos g0, hbt, if_neg b3, if_pos g3, nums8_one, hw]
    have hstep : ∃ F : Nat → Bool → Option (ByteArray × Bool), (∀ k, peerageref10_Unfilter.l0 (k + 1) (mk (p ++ c :: s)) (nums8 acc) (p.length : Int) = (peerageref10_among.f k (mk [42, 40, 41]) (c.toNat : Int)).bind (F k)) ∧ Ev (fun k => F k (([42, 40, 41] : Bs).contains c)) (asB (unf (n + 1) (c :: s) acc)) := by
      refine ⟨?F, ?h1, ?h2⟩
      case h1 =>
        intro k
        simp only [peerageref10_Unfilter.l0]
        rw [sz_mid, if_pos g0, if_pos g1, hbt]
        rfl
      case h2 =>
        rw [brackets_eq]
        refine Ev.congr (fun k => ?_) hj
        rw [hz4]
        cases amg [42, 40, 41] c <;> rfl
    obtain ⟨F, hF, hE⟩ := hstep
    exact Ev.step hF (Ev.bind (ref_among [42, 40, 41] c (by simp)) hE)
end Go.Proofs.Ytmhjplbloeamiaa.H
