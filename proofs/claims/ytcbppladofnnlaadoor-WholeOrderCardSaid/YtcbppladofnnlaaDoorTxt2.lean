/- What Digits and ReadDigits compute, and the reference's, on lists of bytes. Plain Lean over the printed functions. -/
import Derived.Test.YtcbppladofnnlaaDoorTxt
namespace Go.Proofs.YtcbppladofnnlaaDoor.M
open Go.RowKit Go.Proofs.YtcbppladofnnlaaDoor.H Go.Proofs.YtcbppladofnnlaaDoor.LA Go.Proofs.YtcbppladofnnlaaDoor.LWholeTexts Go.Proofs.YtcbppladofnnlaaDoorW.PrintWords Go.Proofs.YtcbppladofnnlaaDoorW.PrintLast Go.Proofs.YtcbppladofnnlaaDoorW.PrintMore
set_option linter.unusedVariables false
set_option linter.unusedSimpArgs false
def sg (n : Bool) (m : Nat) : Int := if n then -(m : Int) else (m : Int)
theorem sg_tmod (n : Bool) (m : Nat) : Int.tmod (sg n m) 10 = sg n (m % 10) := by
  cases n
  · rfl
  · show Int.tmod (-(m : Int)) 10 = -((m % 10 : Nat) : Int)
    rw [Int.neg_tmod]
    rfl
theorem sg_tdiv (n : Bool) (m : Nat) : Int.tdiv (sg n m) 10 = sg n (m / 10) := by
  cases n
  · rfl
  · show Int.tdiv (-(m : Int)) 10 = -((m / 10 : Nat) : Int)
    rw [Int.neg_tdiv]
    rfl
theorem sg_mx {n : Bool} {d : Nat} (h : d < 10) : mx (sg n d) (wrap64 (-(sg n d))) = (d : Int) := by
  have hw : wrap64 (-(sg n d)) = -(sg n d) := w64 (by cases n <;> simp [sg] <;> omega) (by cases n <;> simp [sg] <;> omega)
  rw [hw]
  unfold mx sg
  cases n <;> simp <;> omega
theorem sg_zero {n : Bool} {m : Nat} : sg n m = 0 ↔ m = 0 := by cases n <;> simp [sg]
theorem sg_wrap {n : Bool} {m : Nat} (h : m ≤ 9223372036854775807) : wrap64 (sg n m) = sg n m := w64 (by cases n <;> simp [sg] <;> omega) (by cases n <;> simp [sg] <;> omega)
def rdec (n : Nat) : List Int := if n < 10 then [48 + (n : Int)] else (48 + ((n % 10 : Nat) : Int)) :: rdec (n / 10)
termination_by n
decreasing_by omega
theorem rdec_dec (n : Nat) : (rdec n).reverse.map (fun x => UInt8.ofNat x.toNat) = dec n := by
  induction n using Nat.strongRecOn with
  | ind n ih =>
    rw [rdec, dec]
    split
    · simp only [List.reverse_singleton, List.map_cons, List.map_nil]
      rfl
    · rename_i h
      rw [List.reverse_cons, List.map_append, ih _ (by omega)]
      rfl
theorem rdec_len (n : Nat) : (rdec n).length = (dec n).length := by
  rw [← rdec_dec n]
  simp
theorem rd_at (a b : List Int) (x : Int) : rd (a ++ x :: b) (a.length : Int) = x := by
  unfold rd
  simp [List.getD_eq_getElem?_getD]
theorem set_at (a b : List Int) (x y : Int) : (a ++ x :: b).set a.length y = a ++ y :: b := by
  rw [List.set_append_right _ _ (Nat.le_refl _), Nat.sub_self]
  rfl
theorem rev_loop : ∀ (n : Nat) (m a b : List Int), m.length = n → a.length = b.length → a.length + m.length + b.length ≤ 1000 →
    Ev (fun k => whole_Digits.l1 k (a ++ (m ++ b)) (a.length : Int) ((a.length : Int) + m.length - 1)) (strOfNums (a ++ (m.reverse ++ b))) := by
  intro n
  induction n using Nat.strongRecOn with
  | ind n ih =>
    intro m a b hm hab hl
    by_cases h2 : m.length < 2
    · refine Ev.step (f := fun _ => some _) (fun k => ?_) (Ev.now _)
      simp only [whole_Digits.l1]
      rw [if_neg (by omega)]
      have : m.reverse = m := by
        match m, h2 with
        | [], _ => rfl
        | [x], _ => rfl
      rw [this]
    · obtain ⟨x, t, rfl⟩ : ∃ x t, m = x :: t := by
        cases m with
        | nil => simp at h2
        | cons x t => exact ⟨x, t, rfl⟩
      rcases List.eq_nil_or_concat t with rfl | ⟨u, y, rfl⟩
      · simp at h2
      · rw [List.concat_eq_append] at *
        simp only [List.length_cons, List.length_append, List.length_nil] at *
        have hL : (a ++ x :: u).length = a.length + u.length + 1 := by simp; omega
        have e1 : a ++ ((x :: (u ++ [y])) ++ b) = a ++ x :: (u ++ y :: b) := by simp
        have hi : rd (a ++ x :: (u ++ y :: b)) (a.length : Int) = x := rd_at _ _ _
        have hj : rd (a ++ x :: (u ++ y :: b)) (((a ++ x :: u).length : Nat) : Int) = y := by
          have : a ++ x :: (u ++ y :: b) = (a ++ x :: u) ++ y :: b := by simp
          rw [this]
          exact rd_at _ _ _
        have ej : (a.length : Int) + ((u.length + (0 + 1) + 1 : Nat) : Int) - 1 = (((a ++ x :: u).length : Nat) : Int) := by
          simp
          omega
        have es : ((a ++ x :: (u ++ y :: b)).set a.length y).set (a ++ x :: u).length x = (a ++ [y]) ++ (u ++ (x :: b)) := by
          rw [set_at]
          have e3 : a ++ y :: (u ++ y :: b) = (a ++ y :: u) ++ y :: b := by simp
          have e4 : (a ++ x :: u).length = (a ++ y :: u).length := by simp
          rw [e3, e4, set_at]
          simp
        refine Ev.step (fun k => ?_) (show Ev (fun k => whole_Digits.l1 k ((a ++ [y]) ++ (u ++ (x :: b))) ((a ++ [y]).length : Int) (((a ++ [y]).length : Int) + u.length - 1)) _ from ?_)
        · simp only [whole_Digits.l1]
          rw [e1, ej, if_pos (by simp; omega), if_pos (by omega), if_pos (by simp; omega), if_pos (by omega), if_pos (by simp; omega), hi, hj]
          simp only [Int.toNat_natCast]
          rw [es, hL, w64 (by omega) (by omega), w64 (by omega) (by omega)]
          congr 1
          · simp
          · simp
            omega
        · have := ih u.length (by omega) u (a ++ [y]) (x :: b) rfl (by simp; omega) (by simp; omega)
          have e5 : a ++ ((x :: (u ++ [y])).reverse ++ b) = (a ++ [y]) ++ (u.reverse ++ (x :: b)) := by simp
          rw [e5]
          exact this
theorem j1_f (m : List Int) (h : m.length ≤ 1000) : Ev (fun k => whole_Digits.j1 k m) (strOfNums m.reverse) := by
  refine Ev.step (fun k => ?_) (rev_loop m.length m [] [] rfl rfl (by simp; omega) |> fun h => by simpa using h)
  simp only [whole_Digits.j1]
  rw [w64 (by omega) (by omega)]
theorem dg_loop (x0 : Int) (n : Bool) (m : Nat) : ∀ (b : List Int), m ≤ 9223372036854775808 → b.length + (rdec m).length ≤ 100 →
    Ev (fun k => whole_Digits.l0 k x0 b (sg n m)) (strOfNums ((b ++ (rdec m ++ if x0 < 0 then [45] else [])).reverse)) := by
  induction m using Nat.strongRecOn with
  | ind m ih =>
    intro b hm hb
    have hd : m % 10 < 10 := Nat.mod_lt _ (by omega)
    have h48 : (wrap64 (48 + (mx (Int.tmod (sg n m) 10) (wrap64 (-(Int.tmod (sg n m) 10)))))) % 256 = 48 + ((m % 10 : Nat) : Int) := by
      rw [sg_tmod, sg_mx hd, w64 (by omega) (by omega)]
      omega
    have hw : wrap64 (Int.tdiv (sg n m) 10) = sg n (m / 10) := by rw [sg_tdiv, sg_wrap (by omega)]
    by_cases h10 : m < 10
    · have hz : sg n (m / 10) = 0 := sg_zero.2 (by omega)
      have er : rdec m = [48 + (m : Int)] := by rw [rdec, if_pos h10]
      have em : m % 10 = m := Nat.mod_eq_of_lt h10
      rw [er] at hb ⊢
      rw [em] at h48
      simp only [List.length_cons, List.length_nil] at hb
      by_cases hx : x0 < 0
      · refine Ev.step (fun k => ?_) (j1_f (b ++ [48 + (m : Int)] ++ [45]) (by simp; omega) |> fun h => (show Ev (fun k => whole_Digits.j1 k (b ++ [48 + (m : Int)] ++ [45])) _ from by rw [if_pos hx, show b ++ ([48 + (m : Int)] ++ [45]) = b ++ [48 + (m : Int)] ++ [45] by simp]; exact h))
        simp only [whole_Digits.l0]
        rw [if_pos (by omega), h48]
        simp only [Option.bind_some]
        rw [hw, if_pos hz, if_pos hx, if_pos (by simp; omega)]
        rfl
      · refine Ev.step (fun k => ?_) (j1_f (b ++ [48 + (m : Int)]) (by simp; omega) |> fun h => (show Ev (fun k => whole_Digits.j1 k (b ++ [48 + (m : Int)])) _ from by rw [if_neg hx, List.append_nil]; exact h))
        simp only [whole_Digits.l0]
        rw [if_pos (by omega), h48]
        simp only [Option.bind_some]
        rw [hw, if_pos hz, if_neg hx]
    · have hz : ¬ sg n (m / 10) = 0 := fun e => by have := sg_zero.1 e; omega
      have er : rdec m = (48 + ((m % 10 : Nat) : Int)) :: rdec (m / 10) := by rw [rdec, if_neg h10]
      rw [er] at hb ⊢
      simp only [List.length_cons] at hb
      have := ih (m / 10) (by omega) (b ++ [48 + ((m % 10 : Nat) : Int)]) (by omega) (by simp; omega)
      refine Ev.step (fun k => ?_) (show Ev (fun k => whole_Digits.l0 k x0 (b ++ [48 + ((m % 10 : Nat) : Int)]) (sg n (m / 10))) _ from by
        rw [show b ++ ((48 + ((m % 10 : Nat) : Int)) :: rdec (m / 10) ++ if x0 < 0 then [45] else []) = b ++ [48 + ((m % 10 : Nat) : Int)] ++ (rdec (m / 10) ++ if x0 < 0 then [45] else []) by simp]
        exact this)
      simp only [whole_Digits.l0]
      rw [if_pos (by omega), h48]
      simp only [Option.bind_some]
      rw [hw, if_neg hz]
theorem dec_le {m : Nat} (h : m ≤ 9223372036854775808) : (dec m).length ≤ 19 := dec_len 18 m (by omega)
theorem digits_f (x : Int) (h0 : -9223372036854775808 ≤ x) (h1 : x ≤ 9223372036854775807) : Ev (fun k => whole_Digits.f k x) (mk (text x)) := by
  have hx : x = sg (decide (x < 0)) x.natAbs := by
    unfold sg
    by_cases h : x < 0 <;> simp [h] <;> omega
  have := dg_loop x (decide (x < 0)) x.natAbs [] (by omega) (by rw [rdec_len]; have := dec_le (m := x.natAbs) (by omega); simp; omega)
  rw [← hx] at this
  have e : strOfNums (([] ++ (rdec x.natAbs ++ if x < 0 then [45] else [])).reverse) = mk (text x) := by
    unfold strOfNums mk text
    by_cases h : x < 0
    · rw [if_pos h, if_pos h]
      simp only [List.nil_append, List.reverse_append, List.map_append, rdec_dec]
      rfl
    · rw [if_neg h, if_neg h]
      simp only [List.nil_append, List.append_nil, rdec_dec]
  rw [e] at this
  exact this

/-- What ReadDigits answers. -/
def rdg (l : Bs) : Int × Bool := if (isd l && !l.isEmpty && decide (l.length ≤ 18) && !(decide (1 < l.length) && l.head? == some 48)) = true then ((val l : Int), true) else (0, false)
theorem val_take {l : Bs} {i : Nat} {c : UInt8} (h : l[i]? = some c) : val (l.take (i + 1)) = val (l.take i) * 10 + dv c := by
  rw [List.take_add_one, h]
  exact val_snoc _ _
theorem isd_take {l : Bs} (h : isd l = true) (i : Nat) : isd (l.take i) = true := by
  rw [← List.take_append_drop i l, isd_append] at h
  exact h.1
theorem isd_get {l : Bs} (h : isd l = true) {i : Nat} {c : UInt8} (hc : l[i]? = some c) : 48 ≤ c.toNat ∧ c.toNat ≤ 57 := by
  unfold isd at h
  rw [List.all_eq_true] at h
  have := h c (List.mem_of_getElem? hc)
  exact isb_iff.1 this
theorem p18 (i : Nat) (h : i ≤ 17) : 10 ^ i ≤ 100000000000000000 := Nat.le_trans (Nat.pow_le_pow_right (by omega) h) (by decide)
theorem val_bound {l : Bs} (h : isd l = true) {i : Nat} (hi : i ≤ 17) : val (l.take i) < 100000000000000000 := by
  have h1 := val_lt (isd_take h i)
  have h2 : (l.take i).length ≤ i := List.length_take_le _ _
  have h3 := p18 _ (Nat.le_trans h2 hi)
  omega
theorem rl_loop (l : Bs) (hd : isd l = true) (hl : l.length ≤ 18) : ∀ (d i : Nat), i + d = l.length → Ev (fun k => whole_ReadDigits.l0 k (mk l) (val (l.take i) : Int) (l.length : Int) (i : Int)) ((val l : Int), true)
  | 0, i, h => by
    refine Ev.step (f := fun _ => some _) (fun k => ?_) (Ev.now _)
    simp only [whole_ReadDigits.l0]
    rw [if_neg (by omega), List.take_of_length_le (by omega)]
  | d + 1, i, h => by
    obtain ⟨c, hc⟩ := get_of (l := l) (i := i) (by omega)
    obtain ⟨c0, c1⟩ := isd_get hd hc
    have hb := val_bound hd (i := i) (by omega)
    refine Ev.step (fun k => ?_) (rl_loop l hd hl d (i + 1) (by omega))
    simp only [whole_ReadDigits.l0]
    rw [if_pos (by omega), if_pos (by omega), if_pos (by rw [mk_size]; omega), bt_mk hc, val_take hc]
    have e : wrap64 (wrap64 ((val (l.take i) : Int) * 10) + ((c.toNat : Int) - 48) % 256) = ((val (l.take i) * 10 + dv c : Nat) : Int) := by
      unfold dv
      rw [w64 (n := (val (l.take i) : Int) * 10) (by omega) (by omega), w64 (by omega) (by omega)]
      omega
    rw [e, w64 (by omega) (by omega)]
    rfl
theorem readDigits_f (l : Bs) (hl : l.length ≤ 4000000000) : Ev (fun k => whole_ReadDigits.f k (mk l)) (rdg l) := by
  unfold whole_ReadDigits.f
  refine Ev.bind (pd_f l hl) ?_
  have none_ : ∀ b : Bool, b = true → rdg l = (0, false) → Ev (fun k => whole_ReadDigits.j0 k (mk l) b) (rdg l) := by
    intro b hb hr
    rw [hr]
    refine Ev.step (f := fun _ => some _) (fun k => ?_) (Ev.now _)
    simp only [whole_ReadDigits.j0]
    rw [if_pos hb]
  have yes_ : ∀ b : Bool, b = false → isd l = true → l.length ≤ 18 → rdg l = ((val l : Int), true) → Ev (fun k => whole_ReadDigits.j0 k (mk l) b) (rdg l) := by
    intro b hb hd h18 hr
    rw [hr]
    refine Ev.step (fun k => ?_) (rl_loop l hd h18 l.length 0 (by omega))
    simp only [whole_ReadDigits.j0]
    rw [if_neg (by simp [hb]), mk_size]
    rfl
  cases hp : (isd l && !l.isEmpty)
  · simp only [Bool.false_eq_true, if_false]
    refine none_ true rfl ?_
    unfold rdg
    rw [hp]
    rfl
  · simp only [if_true]
    have hd : isd l = true := by simp only [Bool.and_eq_true] at hp; exact hp.1
    by_cases h18 : 18 < l.length
    · refine Ev.congr (fun k => ?_) (none_ true rfl (by unfold rdg; rw [hp, decide_eq_false (by omega)]; rfl))
      rw [if_pos (by rw [mk_size]; omega)]
    · by_cases h1 : 1 < l.length
      · obtain ⟨c, hc⟩ := get_of (l := l) (i := 0) (by omega)
        have hh : l.head? = some c := by rw [List.head?_eq_getElem?]; exact hc
        have e48 : bt (⟨#[48]⟩ : ByteArray) 0 = 48 := rfl
        have hb : (bt (mk l) 0 == bt (⟨#[48]⟩ : ByteArray) 0) = (c == 48) := by
          rw [e48, show (0 : Int) = ((0 : Nat) : Int) from rfl, bt_mk hc, Bool.eq_iff_iff, beq_iff_eq, beq_iff_eq]
          exact ⟨fun e => UInt8.toNat_inj.1 (by exact_mod_cast e), fun e => by rw [e]; rfl⟩
        refine Ev.congr (f := fun k => whole_ReadDigits.j0 k (mk l) (c == 48)) (fun k => ?_) ?_
        · rw [if_neg (by rw [mk_size]; omega), if_pos (by rw [mk_size]; omega), if_pos (by rw [mk_size]; omega), if_pos (by omega), hb]
        · cases hz : (c == 48)
          · exact yes_ _ rfl hd (by omega) (by unfold rdg; rw [hp, hh, decide_eq_true (by omega : l.length ≤ 18)]; have : (some c == some 48) = false := by simpa using hz
                                               rw [this]; simp)
          · exact none_ _ rfl (by unfold rdg; rw [hp, hh, decide_eq_true (by omega : l.length ≤ 18), decide_eq_true h1]; have : (some c == some 48) = true := by simpa using hz
                                  rw [this]; rfl)
      · refine Ev.congr (fun k => ?_) (yes_ false rfl hd (by omega) (by unfold rdg; rw [hp, decide_eq_true (by omega : l.length ≤ 18), decide_eq_false h1]; rfl))
        rw [if_neg (by rw [mk_size]; omega), if_neg (by rw [mk_size]; omega)]
end Go.Proofs.YtcbppladofnnlaaDoor.M
