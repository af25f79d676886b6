/- What Read tells of a text that Put wrote, alone and with blanks around it. Plain Lean over the printed functions. -/
import Derived.Test.YtmhjplbloeamiaaDoorRl
namespace Go.Proofs.YtmhjplbloeamiaaDoor.H
open Go.RowKit Go.Proofs.YtmhjplbloeamiaaDoor.M Go.Proofs.YtmhjplbloeamiaaDoor.PEsc Go.Proofs.YtmhjplbloeamiaaDoorW.PrintWords Go.Proofs.YtmhjplbloeamiaaDoorW.PrintLast Go.Proofs.YtmhjplbloeamiaaDoorW.PrintMore
set_option linter.unusedVariables false
set_option linter.unusedSimpArgs false
theorem end_done (P : Bs) : Ev (fun k => escape_end.l0 k (mk P) (P.length : Int)) (P.length : Int) := by
  refine Ev.step (f := fun _ => some (P.length : Int)) (fun k => ?_) (Ev.now _)
  simp only [escape_end.l0]
  rw [mk_size, if_neg (by omega)]
theorem end_sep {P : Bs} {j : Nat} (h : P[j]? = some 44) : Ev (fun k => escape_end.l0 k (mk P) (j : Int)) (j : Int) := by
  have hlt := (List.getElem?_eq_some_iff.1 h).1
  have g0 : (j : Int) < (P.length : Int) := by omega
  have g1 : (0 : Int) ≤ (j : Int) := by omega
  refine Ev.step (f := fun _ => some (j : Int)) (fun k => ?_) (Ev.now _)
  simp only [escape_end.l0]
  rw [bt_mk h, mk_size, if_pos g0, if_pos g1, among_f, among_f]
  show (some (amg [34, 60, 62, 61] 44)).bind _ = _
  rw [show amg [34, 60, 62, 61] 44 = false by decide +kernel, Option.bind_some, if_neg (by decide)]
  show (some (amg [34, 43, 44, 59, 60, 62, 61] 44)).bind _ = _
  rw [show amg [34, 43, 44, 59, 60, 62, 61] 44 = true by decide +kernel, Option.bind_some, if_pos rfl]
theorem calm32 : calm 32 = true := by decide +kernel
section
variable (g : Nat → UInt8 → Bs) (l : Bs)
theorem end_plain {last : Int} (hg : ∀ i c, Piece i last c (g i c)) (n : Nat) (hz : (pre g l n).length ≤ 4000000) : Ev (fun k => escape_end.f k (mk (pre g l n))) ((pre g l n).length : Int) := by
  have := end_pieces g l [] [] n last ((pre g l n).length : Int) hg (by simpa using hz) (by simpa using end_done (pre g l n)) n 0 (by omega)
  show Ev (fun k => escape_end.l0 k (mk (pre g l n)) 0) _
  simpa [pre] using this
theorem end_around {last : Int} (hg : ∀ i c, Piece i last c (g i c)) (n : Nat) (hz : (pre g l n).length ≤ 3000000) :
    Ev (fun k => escape_end.f k (mk ([32, 32] ++ (pre g l n ++ [32, 44, 114, 101, 115, 116])))) (((pre g l n).length + 3 : Nat) : Int) := by
  have hz2 : ([32, 32] ++ (pre g l n ++ [32, 44, 114, 101, 115, 116])).length ≤ 4000000 := by simp; omega
  have h44 : ([32, 32] ++ (pre g l n ++ [32, 44, 114, 101, 115, 116]))[(pre g l n).length + 3]? = some 44 := by
    rw [List.getElem?_append_right (by simp), List.getElem?_append_right (by simp <;> omega)]
    rw [show (pre g l n).length + 3 - ([32, 32] : Bs).length - (pre g l n).length = 1 by simp <;> omega]
    rfl
  have h32 : ([32, 32] ++ (pre g l n ++ [32, 44, 114, 101, 115, 116]))[(pre g l n).length + 2]? = some 32 := by
    rw [List.getElem?_append_right (by simp), List.getElem?_append_right (by simp)]
    rw [show (pre g l n).length + 2 - ([32, 32] : Bs).length - (pre g l n).length = 0 by simp]
    rfl
  have e3 := end_calm h32 calm32 hz2 (end_sep h44)
  have := end_pieces g l [32, 32] [32, 44, 114, 101, 115, 116] n last _ hg hz2 (by
    have e : ([32, 32] : Bs).length + (pre g l n).length = (pre g l n).length + 2 := by simp; omega
    rw [e]; exact e3) n 0 (by omega)
  refine end_calm (j := 0) (by simp) calm32 hz2 (end_calm (j := 1) (by simp) calm32 hz2 ?_)
  exact this
/-- The loop, from the piece i on. -/
theorem read_pieces {last : Int} (n5 : Int) (Y : Bs) (n : Nat) (hn : n = l.length) (hlast : last = (n : Int) - 1) (hg : ∀ i c, Piece i last c (g i c)) (hz : (pre g l n ++ Y).length ≤ 3000000) (hl : n ≤ 1000000)
    (he : Ev (fun k => escape_Read.l0 k n5 (mk (pre g l n ++ Y)) (nums8 l) (n : Int) ((pre g l n).length : Int)) (mk l, n5, true)) :
    ∀ q i, i + q = n → ∀ K : Nat, (i = n → K = n) → Ev (fun k => escape_Read.l0 k n5 (mk (pre g l n ++ Y)) (nums8 (l.take i)) (K : Int) ((pre g l i).length : Int)) (mk l, n5, true)
  | 0, i, h, K, hK => by
    obtain rfl : i = n := by omega
    rw [hK rfl, List.take_of_length_le (by omega)]
    exact he
  | q + 1, i, h, K, hK => by
    have ih := read_pieces n5 Y n hn hlast hg hz hl he q (i + 1) (by omega)
    obtain ⟨rest, hr⟩ := pre_split g l (i + 1) n (by omega)
    have hil : i < l.length := by omega
    have hle : (pre g l (i + 1)).length = (pre g l i).length + (g i (l.getD i 0)).length := by rw [pre, List.length_append]
    have hto : l.take (i + 1) = l.take i ++ [l.getD i 0] := by
      rw [List.take_add_one, List.getD_eq_getElem?_getD, List.getElem?_eq_getElem hil]; rfl
    have hta : (l.take i).length = i := by rw [List.length_take]; omega
    have hsp : pre g l n ++ Y = pre g l i ++ (g i (l.getD i 0) ++ (rest ++ Y)) := by rw [hr, pre, List.append_assoc, List.append_assoc]
    have hlen : (pre g l n ++ Y).length = (pre g l i).length + ((g i (l.getD i 0)).length + (rest ++ Y).length) := by rw [hsp]; simp only [List.length_append]
    rw [hto, hle] at ih
    rw [hsp] at ih ⊢
    rw [hlen] at hz
    have hp := hg i (l.getD i 0)
    generalize l.getD i 0 = c at *
    generalize rest ++ Y = V at *
    generalize pre g l i = U at *
    generalize l.take i = acc at *
    rcases hp with ⟨e, ha⟩ | e | ⟨e, hc, h32, _⟩
    · rw [e] at ih hz ⊢
      refine read_sign n5 U [c] V acc c K _ (sign_own c V ha (by simp at hz; omega)) (by simp) (by simp at hz ⊢; omega) (by omega) ?_
      have := ih (acc.length + 1) (by omega)
      simpa [Nat.add_assoc] using this
    · rw [e] at ih hz ⊢
      refine read_sign n5 U (two2 c) V acc c K _ (sign_digits c V (by simp at hz; omega)) (by simp [two_len]) (by simp [two_len] at hz ⊢; omega) (by omega) ?_
      have := ih (acc.length + 1) (by omega)
      simpa [Nat.add_assoc, two_len] using this
    · rw [e] at ih hz ⊢
      refine read_plain n5 U V acc c K _ (calm_is hc).2.2 (by simp at hz; omega) (by omega) ?_
      have := ih (if c.toNat = 32 then K else acc.length + 1) (by
        intro hi
        split
        · rename_i h3
          have := (h32 h3).2
          omega
        · omega)
      simpa using this
end
/-- A text that begins with no blank and no number sign. -/
def Lead (P : Bs) : Prop := P = [] ∨ ∃ c rest, P = c :: rest ∧ c ≠ 32 ∧ c ≠ 35
theorem lead_pre {g : Nat → UInt8 → Bs} {l : Bs} {last : Int} (hg : ∀ i c, Piece i last c (g i c)) : l = [] ∨ ∃ c rest, pre g l l.length = c :: rest ∧ c ≠ 32 ∧ c ≠ 35 := by
  cases l with
  | nil => exact .inl rfl
  | cons a t =>
    refine .inr ?_
    obtain ⟨rest, hr⟩ := pre_split g (a :: t) 1 (a :: t).length (by simp)
    rw [hr, pre, pre, List.nil_append]
    rcases hg 0 ((a :: t).getD 0 0) with ⟨e, ha⟩ | e | ⟨e, hc, h32, h35⟩
    · rw [e]; exact ⟨92, _, rfl, by decide, by decide⟩
    · rw [e]; exact ⟨92, _, rfl, by decide, by decide⟩
    · rw [e]
      refine ⟨_, rest, rfl, ?_, ?_⟩
      · intro h; exact (h32 (by rw [h]; rfl)).1 rfl
      · intro h; exact h35 (by rw [h]; rfl) rfl
theorem lead_app {P Y : Bs} (h : ∃ c rest, P = c :: rest ∧ c ≠ 32 ∧ c ≠ 35) : Lead (P ++ Y) := by
  obtain ⟨c, rest, rfl, h1, h2⟩ := h
  exact .inr ⟨c, rest ++ Y, rfl, h1, h2⟩
theorem trim_lead {P : Bs} (h : Lead P) : Lib.trimLeftB P 32 = P ∧ Lib.trimLeftB (32 :: 32 :: P) 32 = P := by
  have e : Lib.trimLeftB P 32 = P := by
    rcases h with rfl | ⟨c, rest, rfl, h1, h2⟩
    · rfl
    · unfold Lib.trimLeftB
      rw [List.dropWhile_cons_of_neg (by simpa using h1)]
  refine ⟨e, ?_⟩
  show Lib.trimLeftB P 32 = P
  exact e
theorem cut_lead {P : Bs} (h : Lead P) : strings_CutPrefix.f (mk P) (⟨#[35]⟩ : ByteArray) = some (mk P, false) := by
  have hp : stringslite_HasPrefix.f (mk P) (⟨#[35]⟩ : ByteArray) = some false := by
    have e1 : ((⟨#[35]⟩ : ByteArray).size : Int) = 1 := rfl
    unfold stringslite_HasPrefix.f
    rw [e1]
    rcases h with rfl | ⟨c, rest, rfl, h1, h2⟩
    · rw [if_neg (by rw [mk_size]; decide)]
    · have hz : (mk (c :: rest)).size = rest.length + 1 := by rw [mk_size]; rfl
      have g1 : ((rest.length + 1 : Nat) : Int) ≥ 1 := by omega
      have g2 : (1 : Int) ≤ ((rest.length + 1 : Nat) : Int) := by omega
      rw [hz, if_pos g1, if_pos (by decide), if_pos g2]
      have hx : (mk (c :: rest)).extract 0 (1 : Int).toNat = mk [c] := by rw [mk_extract]; rfl
      have e2 : (⟨#[35]⟩ : ByteArray).toList = [35] := mk_toList [35]
      rw [hx, mk_toList, e2]
      congr 1
      simpa using h2
  unfold strings_CutPrefix.f stringslite_CutPrefix.f
  rw [hp, Option.bind_some, if_neg (by decide), Option.bind_some]
theorem read_core {s T P : Bs} {e : Nat} {r : ByteArray} (he : Ev (fun k => escape_end.f k (mk s)) (e : Int)) (h1 : e ≤ s.length) (hT : s.take e = T) (hP : Lib.trimLeftB T 32 = P) (hL : Lead P)
    (hl : Ev (fun k => escape_Read.l0 k (e : Int) (mk P) [] 0 0) (r, (e : Int), true)) : Ev (fun k => escape_Read.f k (mk s)) (r, (e : Int), true) := by
  have g1 : ¬ (e : Int) < 0 := by omega
  have g2 : (0 : Int) ≤ (e : Int) := by omega
  have g3 : (e : Int) ≤ (s.length : Int) := by omega
  have hx : (mk s).extract 0 e = mk T := by rw [mk_extract, ← hT]; rfl
  have ht : strings_TrimLeft.f (mk T) (⟨#[32]⟩ : ByteArray) = some (mk P) := by
    unfold strings_TrimLeft.f
    rw [if_pos rfl]
    show some (mk (Lib.trimLeftB T 32)) = _
    rw [hP]
  refine Ev.bind he ?_
  refine Ev.congr (fun k => ?_) hl
  rw [if_neg g1, if_pos g2, mk_size, if_pos g3, Int.toNat_natCast, hx, ht, Option.bind_some, cut_lead hL, Option.bind_some, if_neg Bool.false_ne_true]
theorem read_end (n5 : Int) (Q l E : Bs) (hl : l.length ≤ 1000000) : Ev (fun k => escape_Read.l0 k n5 (mk Q) (nums8 (l ++ E)) (l.length : Int) (Q.length : Int)) (mk l, n5, true) := by
  have g1 : (0 : Int) ≤ (l.length : Int) := by omega
  have g2 : (l.length : Int) ≤ ((nums8 (l ++ E)).length : Int) := by rw [nums8_len, List.length_append]; omega
  have e : (nums8 (l ++ E)).take l.length = nums8 l := by unfold nums8; rw [← List.map_take, List.take_left]
  refine Ev.step (f := fun _ => some (mk l, n5, true)) (fun k => ?_) (Ev.now _)
  simp only [escape_Read.l0]
  rw [mk_size, if_neg (by omega), if_pos g1, if_pos g2, Int.toNat_natCast, e, strOf_nums8]
theorem puts_len (l : Bs) : (puts l).length ≤ 3 * l.length := pre_len (fun i c => by unfold gput; (repeat' split) <;> simp [two_len]) _
theorem read_alone (l : Bs) (hl : l.length ≤ 600) : Ev (fun k => escape_Read.f k (mk (puts l))) (mk l, ((puts l).length : Int), true) := by
  have hp := puts_len l
  have hg := put_piece (right l).isSome ((l.length : Int) - 1)
  have hL : Lead (puts l) := by
    rcases lead_pre (l := l) hg with h | h
    · subst h; exact .inl rfl
    · exact .inr h
  have he := end_plain _ l hg l.length (by show (puts l).length ≤ _; omega)
  refine read_core (e := (puts l).length) he (Nat.le_refl _) (List.take_of_length_le (Nat.le_refl _)) (trim_lead hL).1 hL ?_
  have := read_pieces (gput (right l).isSome ((l.length : Int) - 1)) l ((puts l).length : Int) [] l.length rfl rfl hg (by rw [List.append_nil]; show (puts l).length ≤ _; omega) (by omega) (by
    rw [List.append_nil]
    have := read_end ((puts l).length : Int) (puts l) l [] (by omega)
    rw [List.append_nil] at this
    exact this) l.length 0 (by omega) 0 (fun h => h)
  rw [List.append_nil] at this
  exact this
theorem read_around (l : Bs) (hl : l.length ≤ 600) : Ev (fun k => escape_Read.f k (mk ([32, 32] ++ (puts l ++ [32, 44, 114, 101, 115, 116])))) (mk l, (((puts l).length + 3 : Nat) : Int), true) := by
  have hp := puts_len l
  have hg := put_piece (right l).isSome ((l.length : Int) - 1)
  have he := end_around _ l hg l.length (by show (puts l).length ≤ _; omega)
  have hlen : ([32, 32] ++ (puts l ++ [32, 44, 114, 101, 115, 116])).length = (puts l).length + 8 := by simp <;> omega
  have hT : ([32, 32] ++ (puts l ++ [32, 44, 114, 101, 115, 116])).take ((puts l).length + 3) = 32 :: 32 :: (puts l ++ [32]) := by
    show 32 :: 32 :: ((puts l ++ [32, 44, 114, 101, 115, 116]).take ((puts l).length + 1)) = _
    rw [List.take_append, List.take_of_length_le (by omega), show (puts l).length + 1 - (puts l).length = 1 by omega]
    rfl
  rcases lead_pre (l := l) hg with h | h
  · subst h
    refine read_core (e := (puts []).length + 3) he (by omega) hT (P := []) (by rfl) (.inl rfl) ?_
    exact read_end _ [] [] [] (by omega)
  · have hL : Lead (puts l ++ [32]) := lead_app h
    refine read_core (e := (puts l).length + 3) he (by omega) hT (trim_lead hL).2 hL ?_
    have := read_pieces (gput (right l).isSome ((l.length : Int) - 1)) l (((puts l).length + 3 : Nat) : Int) [32] l.length rfl rfl hg (by rw [List.length_append]; show (puts l).length + 1 ≤ _; omega) (by omega) (by
      refine read_plain _ (puts l) [] l 32 l.length _ (by decide) (by simp; omega) (by omega) ?_
      have := read_end (((puts l).length + 3 : Nat) : Int) (puts l ++ [32]) l [32] (by omega)
      rw [List.length_append] at this
      exact this) l.length 0 (by omega) 0 (fun h => h)
    exact this
end Go.Proofs.YtmhjplbloeamiaaDoor.H
