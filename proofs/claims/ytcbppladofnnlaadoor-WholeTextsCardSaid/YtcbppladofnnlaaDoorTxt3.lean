/- What the reference's functions compute, on lists of bytes. Plain Lean over the printed functions. -/
import Derived.Test.YtcbppladofnnlaaDoorTxt2
namespace Go.Proofs.YtcbppladofnnlaaDoor.M
open Go.RowKit Go.Proofs.YtcbppladofnnlaaDoor.H Go.Proofs.YtcbppladofnnlaaDoor.LA Go.Proofs.YtcbppladofnnlaaDoor.LWholeTexts Go.Proofs.YtcbppladofnnlaaDoorW.PrintWords Go.Proofs.YtcbppladofnnlaaDoorW.PrintLast Go.Proofs.YtcbppladofnnlaaDoorW.PrintMore
set_option linter.unusedVariables false
set_option linter.unusedSimpArgs false
theorem digit_f (c : UInt8) : peerageref02_digit.f (c.toNat : Int) = some (isb c) := by
  unfold peerageref02_digit.f isb
  by_cases h : 48 ≤ c.toNat
  · rw [if_pos (by omega), decide_eq_true h, Bool.true_and]
    congr 1
    simp
    omega
  · rw [if_neg (by omega), decide_eq_false h, Bool.false_and]
theorem rrl_loop (l : Bs) (hl : l.length ≤ 18) : ∀ (d i : Nat), i + d = l.length → isd (l.take i) = true → Ev (fun k => peerageref02_ReadDigits.l0 k (mk l) (val (l.take i) : Int) (i : Int)) (if isd (l.drop i) = true then ((val l : Int), true) else (0, false))
  | 0, i, h, hd => by
    refine Ev.step (f := fun _ => some _) (fun k => ?_) (Ev.now _)
    simp only [peerageref02_ReadDigits.l0]
    rw [if_neg (by rw [mk_size]; omega), List.take_of_length_le (by omega), List.drop_eq_nil_of_le (by omega)]
    rfl
  | d + 1, i, h, hd => by
    obtain ⟨c, hc⟩ := get_of (l := l) (i := i) (by omega)
    rw [drop_at hc]
    cases hb : isb c
    · have e : isd (c :: l.drop (i + 1)) = false := by simp [isd, hb]
      rw [e]
      refine Ev.step (f := fun _ => some _) (fun k => ?_) (Ev.now _)
      simp only [peerageref02_ReadDigits.l0]
      rw [if_pos (by rw [mk_size]; omega), if_pos (by omega), bt_mk hc, digit_f, hb]
      rfl
    · have e : isd (c :: l.drop (i + 1)) = isd (l.drop (i + 1)) := by simp [isd, hb]
      have hd2 : isd (l.take (i + 1)) = true := by
        rw [List.take_add_one, hc, isd_append]
        exact ⟨hd, by simp [isd, hb]⟩
      obtain ⟨c0, c1⟩ := isb_iff.1 hb
      have hv : val (l.take i) < 100000000000000000 := by
        have h1 := val_lt hd
        have h2 : (l.take i).length ≤ i := List.length_take_le _ _
        have h3 := p18 _ (Nat.le_trans h2 (by omega))
        omega
      rw [e]
      refine Ev.step (fun k => ?_) (rrl_loop l hl d (i + 1) (by omega) hd2)
      simp only [peerageref02_ReadDigits.l0]
      rw [if_pos (by rw [mk_size]; omega), if_pos (by omega), bt_mk hc, digit_f, hb, val_take hc]
      simp only [Option.bind_some, if_true]
      have e2 : wrap64 (wrap64 (wrap64 ((val (l.take i) : Int) * 10) + wrap64 (c.toNat : Int)) - 48) = ((val (l.take i) * 10 + dv c : Nat) : Int) := by
        unfold dv
        rw [w64 (n := (val (l.take i) : Int) * 10) (by omega) (by omega), w64 (n := (c.toNat : Int)) (by omega) (by omega), w64 (n := (val (l.take i) : Int) * 10 + (c.toNat : Int)) (by omega) (by omega), w64 (by omega) (by omega)]
        omega
      rw [e2, w64 (by omega) (by omega)]
      rfl
theorem rreadDigits_f (l : Bs) : Ev (fun k => peerageref02_ReadDigits.f k (mk l)) (rdg l) := by
  unfold peerageref02_ReadDigits.f
  have none_ : ∀ b : Bool, b = true → rdg l = (0, false) → Ev (fun k => peerageref02_ReadDigits.j0 k (mk l) b) (rdg l) := by
    intro b hb hr
    rw [hr]
    refine Ev.step (f := fun _ => some _) (fun k => ?_) (Ev.now _)
    simp only [peerageref02_ReadDigits.j0]
    rw [if_pos hb]
  have yes_ : ∀ b : Bool, b = false → l.length ≤ 18 → rdg l = (if isd l = true then ((val l : Int), true) else (0, false)) → Ev (fun k => peerageref02_ReadDigits.j0 k (mk l) b) (rdg l) := by
    intro b hb h18 hr
    rw [hr]
    refine Ev.step (fun k => ?_) (rrl_loop l h18 l.length 0 (by omega) rfl)
    simp only [peerageref02_ReadDigits.j0]
    rw [if_neg (by simp [hb])]
    rfl
  by_cases h0 : l.length < 1
  · refine Ev.congr (fun k => ?_) (none_ true rfl ?_)
    · rw [if_pos (by rw [mk_size]; omega)]
    · have : l = [] := List.eq_nil_of_length_eq_zero (by omega)
      subst this
      rfl
  by_cases h18 : 18 < l.length
  · refine Ev.congr (fun k => ?_) (none_ true rfl (by unfold rdg; rw [decide_eq_false (by omega : ¬ l.length ≤ 18)]; simp))
    rw [if_neg (by rw [mk_size]; omega), if_pos (by rw [mk_size]; omega)]
  obtain ⟨c, hc⟩ := get_of (l := l) (i := 0) (by omega)
  have hh : l.head? = some c := by rw [List.head?_eq_getElem?]; exact hc
  have hne : l.isEmpty = false := by cases l with
    | nil => simp at h0
    | cons => rfl
  have hb : bt (mk l) 0 = (c.toNat : Int) := bt_mk (i := 0) hc
  have hdef : ∀ b : Bool, (decide (1 < l.length) && l.head? == some 48) = b → rdg l = if b = true then (0, false) else (if isd l = true then ((val l : Int), true) else (0, false)) := by
    intro b hb
    unfold rdg
    rw [hb, hne, decide_eq_true (by omega : l.length ≤ 18)]
    cases b <;> cases isd l <;> rfl
  by_cases hz : c = 48
  · have hbz : (decide (1 < l.length) && l.head? == some 48) = decide (1 < l.length) := by rw [hh, hz]; simp
    refine Ev.congr (f := fun k => peerageref02_ReadDigits.j0 k (mk l) (decide (1 < l.length))) (fun k => ?_) ?_
    · rw [if_neg (by rw [mk_size]; omega), if_neg (by rw [mk_size]; omega), if_pos (by rw [mk_size]; omega), hb, if_pos (by rw [hz]; rfl), mk_size]
      congr 1
      simp
      omega
    · cases h1 : decide (1 < l.length)
      · exact yes_ _ rfl (by omega) (by rw [hdef _ hbz, h1]; rfl)
      · exact none_ _ rfl (by rw [hdef _ hbz, h1]; rfl)
  · have hbz : (decide (1 < l.length) && l.head? == some 48) = false := by
      rw [hh]
      have : (some c == some 48) = false := by simpa using hz
      rw [this, Bool.and_false]
    refine Ev.congr (fun k => ?_) (yes_ false rfl (by omega) (by rw [hdef _ hbz]; rfl))
    rw [if_neg (by rw [mk_size]; omega), if_neg (by rw [mk_size]; omega), if_pos (by rw [mk_size]; omega), hb, if_neg (fun e => hz (UInt8.toNat_inj.1 (by exact_mod_cast e)))]
theorem one_digit {m : Nat} (h : m < 10) : (⟨#[48, 49, 50, 51, 52, 53, 54, 55, 56, 57]⟩ : ByteArray).extract (m : Int).toNat ((m : Int) + 1).toNat = mk (dec m) := by
  have : m = 0 ∨ m = 1 ∨ m = 2 ∨ m = 3 ∨ m = 4 ∨ m = 5 ∨ m = 6 ∨ m = 7 ∨ m = 8 ∨ m = 9 := by omega
  rw [dec, if_pos h]
  rcases this with rfl | rfl | rfl | rfl | rfl | rfl | rfl | rfl | rfl | rfl <;> rfl
theorem rdigits_one {m : Nat} (h : m < 10) : Ev (fun k => peerageref02_Digits.f k (m : Int)) (mk (dec m)) := by
  refine Ev.step (fun k => ?_) (show Ev (fun k => peerageref02_Digits.j0 k (m : Int) true) _ from Ev.step (f := fun _ => some (mk (dec m))) (fun k => ?_) (Ev.now _))
  · simp only [peerageref02_Digits.f]
    rw [if_pos (by omega), decide_eq_true (by omega)]
  · simp only [peerageref02_Digits.j0]
    rw [w64 (by omega) (by omega), if_pos trivial, if_pos (by omega), if_pos (by omega), if_pos (by omega), one_digit h]
theorem rdigits_pos (m : Nat) (hm : m ≤ 9223372036854775807) : Ev (fun k => peerageref02_Digits.f k (m : Int)) (mk (dec m)) := by
  induction m using Nat.strongRecOn with
  | ind m ih =>
    by_cases h : m < 10
    · exact rdigits_one h
    · have e : mk (dec m) = mk (dec (m / 10)) ++ mk (dec (m % 10)) := by
        rw [mk_append, dec, if_neg h]
        conv => rhs; rw [show dec (m % 10) = [UInt8.ofNat (48 + m % 10)] from by rw [dec, if_pos (Nat.mod_lt _ (by omega))]]
      have hd := dec_le (m := m / 10) (by omega)
      have hd2 := dec_le (m := m % 10) (by omega)
      refine Ev.step (fun k => ?_) (show Ev (fun k => peerageref02_Digits.j0 k (m : Int) false) _ from Ev.step (fun k => ?_) (show Ev (fun k => (peerageref02_Digits.f k ((m / 10 : Nat) : Int)).bind fun t121 => ((peerageref02_Digits.f k ((m % 10 : Nat) : Int)).bind fun t122 => (if t121.size + t122.size ≤ 9223372036854775807 then (some (t121 ++ t122)) else (none)))) _ from ?_))
      · simp only [peerageref02_Digits.f]
        rw [if_pos (by omega), decide_eq_false (by omega)]
      · simp only [peerageref02_Digits.j0]
        rw [if_neg (by simp), if_pos (by omega), show Int.tdiv (m : Int) 10 = ((m / 10 : Nat) : Int) from rfl, show Int.tmod (m : Int) 10 = ((m % 10 : Nat) : Int) from rfl, w64 (by omega) (by omega)]
      · rw [e]
        refine Ev.bind (ih _ (by omega) (by omega)) (Ev.bind (rdigits_one (Nat.mod_lt _ (by omega))) (Ev.congr (fun k => ?_) (Ev.now _)))
        rw [if_pos (by rw [mk_size, mk_size]; omega)]
theorem rdigits_neg (m : Nat) (h0 : m ≠ 0) (hm : m ≤ 9223372036854775808) : Ev (fun k => peerageref02_Digits.f k (-(m : Int))) (mk (45 :: dec m)) := by
  induction m using Nat.strongRecOn with
  | ind m ih =>
    by_cases h : m < 10
    · have hd := dec_le (m := m) (by omega)
      refine Ev.step (fun k => ?_) (show Ev (fun k => peerageref02_Digits.j0 k (-(m : Int)) false) _ from Ev.step (fun k => ?_) (show Ev (fun k => (peerageref02_Digits.f k (m : Int)).bind fun t123 => (if 1 + t123.size ≤ 9223372036854775807 then (some ((⟨#[45]⟩ : ByteArray) ++ t123)) else (none))) _ from ?_))
      · simp only [peerageref02_Digits.f]
        rw [if_neg (by omega)]
      · simp only [peerageref02_Digits.j0]
        rw [if_neg (by simp), if_neg (by omega), if_pos (by omega), Int.neg_neg, w64 (by omega) (by omega)]
      · refine Ev.bind (rdigits_one h) (Ev.congr (fun k => ?_) (Ev.now _))
        rw [if_pos (by rw [mk_size]; omega)]
        exact congrArg some (mk_append [45] _)
    · have e : mk (45 :: dec m) = mk (45 :: dec (m / 10)) ++ mk (dec (m % 10)) := by
        rw [mk_append, dec, if_neg h]
        conv => rhs; rw [show dec (m % 10) = [UInt8.ofNat (48 + m % 10)] from by rw [dec, if_pos (Nat.mod_lt _ (by omega))]]
        rfl
      have hd := dec_le (m := m / 10) (by omega)
      have hd2 := dec_le (m := m % 10) (by omega)
      have e1 : Int.tdiv (-(m : Int)) 10 = -((m / 10 : Nat) : Int) := by rw [Int.neg_tdiv]; rfl
      have e2 : Int.tmod (-(m : Int)) 10 = -((m % 10 : Nat) : Int) := by rw [Int.neg_tmod]; rfl
      refine Ev.step (fun k => ?_) (show Ev (fun k => peerageref02_Digits.j0 k (-(m : Int)) false) _ from Ev.step (fun k => ?_) (show Ev (fun k => (peerageref02_Digits.f k (-((m / 10 : Nat) : Int))).bind fun t121 => ((peerageref02_Digits.f k ((m % 10 : Nat) : Int)).bind fun t122 => (if t121.size + t122.size ≤ 9223372036854775807 then (some (t121 ++ t122)) else (none)))) _ from ?_))
      · simp only [peerageref02_Digits.f]
        rw [if_neg (by omega)]
      · simp only [peerageref02_Digits.j0]
        rw [if_neg (by simp), if_neg (by omega), if_neg (by omega), e1, e2, Int.neg_neg, w64 (by omega) (by omega), w64 (by omega) (by omega)]
      · rw [e]
        refine Ev.bind (ih _ (by omega) (by omega) (by omega)) (Ev.bind (rdigits_one (Nat.mod_lt _ (by omega))) (Ev.congr (fun k => ?_) (Ev.now _)))
        rw [if_pos (by rw [mk_size, mk_size]; simp only [List.length_cons]; omega)]
theorem rdigits_f (x : Int) (h0 : -9223372036854775808 ≤ x) (h1 : x ≤ 9223372036854775807) : Ev (fun k => peerageref02_Digits.f k x) (mk (text x)) := by
  unfold text
  by_cases h : x < 0
  · rw [if_pos h]
    have := rdigits_neg x.natAbs (by omega) (by omega)
    rw [show -((x.natAbs : Nat) : Int) = x by omega] at this
    exact this
  · rw [if_neg h]
    have := rdigits_pos x.natAbs (by omega)
    rw [show ((x.natAbs : Nat) : Int) = x by omega] at this
    exact this
theorem rv_loop (l : Bs) (hl : l.length ≤ 4000000000) : ∀ (d i : Nat), i + d = l.length → Ev (fun k => peerageref02_Valid.l0 k (mk l) (i : Int)) (isd (l.drop i) && !l.isEmpty)
  | 0, i, h => by
    refine Ev.step (f := fun _ => some _) (fun k => ?_) (Ev.now _)
    simp only [peerageref02_Valid.l0]
    rw [if_neg (by rw [mk_size]; omega), mk_size, List.drop_eq_nil_of_le (by omega)]
    cases l <;> simp [isd]
  | d + 1, i, h => by
    obtain ⟨c, hc⟩ := get_of (l := l) (i := i) (by omega)
    rw [drop_at hc]
    have ne : l.isEmpty = false := by cases l with
      | nil => simp at h
      | cons => rfl
    cases hb : isb c
    · have e : (isd (c :: l.drop (i + 1)) && !l.isEmpty) = false := by simp [isd, hb]
      rw [e]
      refine Ev.step (f := fun _ => some _) (fun k => ?_) (Ev.now _)
      simp only [peerageref02_Valid.l0]
      rw [if_pos (by rw [mk_size]; omega), if_pos (by omega), bt_mk hc, digit_f, hb]
      rfl
    · have e : isd (c :: l.drop (i + 1)) = isd (l.drop (i + 1)) := by simp [isd, hb]
      rw [e]
      refine Ev.step (fun k => ?_) (rv_loop l hl d (i + 1) (by omega))
      simp only [peerageref02_Valid.l0]
      rw [if_pos (by rw [mk_size]; omega), if_pos (by omega), bt_mk hc, digit_f, hb]
      simp only [Option.bind_some, if_true]
      rw [w64 (by omega) (by omega)]
      rfl
theorem rvalid_f (l : Bs) (hl : l.length ≤ 4000000000) : Ev (fun k => peerageref02_Valid.f k (mk l)) (ok l) := by
  unfold peerageref02_Valid.f
  have j1_ : ∀ m : Bs, m.length ≤ 4000000000 → Ev (fun k => peerageref02_Valid.j1 k (mk m)) (isd m && !m.isEmpty) := by
    intro m hm
    refine Ev.step (fun k => ?_) (rv_loop m hm m.length 0 (by omega))
    simp only [peerageref02_Valid.j1]
    rfl
  cases l with
  | nil =>
    refine Ev.congr (f := fun k => peerageref02_Valid.j0 k (mk []) false) (fun k => ?_) (Ev.step (fun k => ?_) (j1_ [] (by simp)))
    · rw [if_neg (by rw [mk_size]; simp)]
    · simp only [peerageref02_Valid.j0]
      rfl
  | cons c l =>
    have hs : 0 < ((mk (c :: l)).size : Int) := by rw [mk_size]; simp <;> omega
    by_cases h : c = 45
    · have e : ok (c :: l) = (isd l && !l.isEmpty) := by
        unfold ok body neg
        rw [h]
        simp
      rw [e]
      refine Ev.congr (f := fun k => peerageref02_Valid.j0 k (mk (c :: l)) true) (fun k => ?_) (Ev.step (fun k => ?_) (j1_ l (by simp at hl; omega)))
      · rw [if_pos hs, if_pos hs, bt_head]
        congr 1
        rw [h]
        rfl
      · simp only [peerageref02_Valid.j0]
        rw [if_pos trivial, if_pos (by omega), mk_extract, mk_size]
        simp
    · have e : ok (c :: l) = (isd (c :: l) && !(c :: l).isEmpty) := by
        unfold ok body neg
        have : (some c == some 45) = false := by simpa using h
        rw [List.head?_cons, this]
        rfl
      rw [e]
      refine Ev.congr (f := fun k => peerageref02_Valid.j0 k (mk (c :: l)) false) (fun k => ?_) (Ev.step (fun k => ?_) (j1_ (c :: l) hl))
      · rw [if_pos hs, if_pos hs, bt_head]
        congr 1
        rw [beq_eq_false_iff_ne]
        exact fun e => h (UInt8.toNat_inj.1 (by exact_mod_cast e))
      · simp only [peerageref02_Valid.j0]
        rfl
theorem rp_loop (sign : Bs) (hs : sign.length ≤ 1) : ∀ (l : Bs), l ≠ [] → l.length ≤ 4000000000 → Ev (fun k => peerageref02_Plain.l0 k (mk l) (mk sign)) (mk (if strip l = [] then [48] else sign ++ strip l))
  | [], h, _ => absurd rfl h
  | [c], _, _ => by
    refine Ev.step (f := fun _ => some _) (fun k => ?_) (Ev.now _)
    simp only [peerageref02_Plain.l0]
    rw [if_neg (by rw [mk_size]; simp), mk_toList]
    by_cases h : c = 48
    · subst h
      rw [if_pos rfl]
      rfl
    · have e : strip [c] = [c] := by unfold strip; rw [List.dropWhile_cons, if_neg (by simpa using h)]
      rw [e, if_neg (by simpa using h), if_pos (by rw [mk_size, mk_size]; simp; omega), if_neg (by simp), mk_append]
  | c :: d :: l, _, hl => by
    have h1 : 1 < ((mk (c :: d :: l)).size : Int) := by rw [mk_size]; simp <;> omega
    by_cases h : c = 48
    · have e : strip (c :: d :: l) = strip (d :: l) := by
        unfold strip
        rw [List.dropWhile_cons, if_pos (by simpa using h)]
      rw [e]
      refine Ev.step (fun k => ?_) (rp_loop sign hs (d :: l) (by simp) (by simp at hl ⊢; omega))
      simp only [peerageref02_Plain.l0]
      rw [if_pos h1, if_pos (by omega), bt_head, if_pos (by rw [h]; rfl), if_pos (by omega), mk_extract, mk_size]
      simp
    · have e : strip (c :: d :: l) = c :: d :: l := by unfold strip; rw [List.dropWhile_cons, if_neg (by simpa using h)]
      refine Ev.step (f := fun _ => some _) (fun k => ?_) (Ev.now _)
      simp only [peerageref02_Plain.l0]
      rw [if_pos h1, if_pos (by omega), bt_head, if_neg (fun e => h (UInt8.toNat_inj.1 (by exact_mod_cast e))), mk_toList, e, if_neg (by simp), if_pos (by rw [mk_size, mk_size]; omega), if_neg (by simp), mk_append]
theorem rplain_f (l : Bs) (hl : l.length ≤ 4000000000) : Ev (fun k => peerageref02_Plain.f k (mk l)) (mk (plain l)) := by
  unfold peerageref02_Plain.f
  refine Ev.bind (rvalid_f l hl) ?_
  unfold plain
  cases h : ok l
  · exact Ev.now _
  · simp only [if_true]
    have hbn : body l ≠ [] := by
      unfold ok at h
      intro e
      rw [e] at h
      simp at h
    have j0_ : ∀ (m sign : Bs), m ≠ [] → m.length ≤ 4000000000 → sign.length ≤ 1 → Ev (fun k => peerageref02_Plain.j0 k (mk m) (mk sign)) (mk (if strip m = [] then [48] else sign ++ strip m)) := by
      intro m sign h1 h2 h3
      refine Ev.step (fun k => ?_) (rp_loop sign h3 m h1 h2)
      simp only [peerageref02_Plain.j0]
    have hz : (szd l).2 = strip (body l) ∧ (strip (body l) ≠ [] → (szd l).1 = neg l) := by
      unfold szd
      rw [if_pos h]
      refine ⟨rfl, fun hn => ?_⟩
      cases hs : strip (body l) with
      | nil => exact absurd hs hn
      | cons => simp
    cases l with
    | nil => exact absurd rfl hbn
    | cons c l =>
      have hs : 0 < ((mk (c :: l)).size : Int) := by rw [mk_size]; simp <;> omega
      have fin : ∀ (m sign : Bs), body (c :: l) = m → (if neg (c :: l) = true then [45] else []) = sign → (if strip m = [] then [48] else sign ++ strip m) = (if (szd (c :: l)).2 = [] then [48] else if (szd (c :: l)).1 = true then 45 :: (szd (c :: l)).2 else (szd (c :: l)).2) := by
        intro m sign hm hsg
        rw [hz.1, hm]
        by_cases hn : strip m = []
        · rw [if_pos hn, if_pos hn]
        · rw [if_neg hn, if_neg hn, hz.2 (by rw [hm]; exact hn), ← hsg]
          cases neg (c :: l) <;> rfl
      by_cases h45 : c = 45
      · have hn : neg (c :: l) = true := by unfold neg; rw [h45]; rfl
        have hb : body (c :: l) = l := by unfold body; rw [hn]; rfl
        rw [← fin l [45] hb (by rw [hn]; rfl)]
        rw [hb] at hbn
        refine Ev.congr (fun k => ?_) (j0_ l [45] hbn (by simp at hl; omega) (by simp))
        rw [if_pos hs, bt_head, if_pos (by rw [h45]; rfl), if_pos (by omega), mk_extract, mk_size]
        simp
        rfl
      · have hn : neg (c :: l) = false := by
          unfold neg
          rw [List.head?_cons]
          simpa using h45
        have hb : body (c :: l) = c :: l := by unfold body; rw [hn]; rfl
        rw [← fin (c :: l) [] hb (by rw [hn]; rfl)]
        refine Ev.congr (fun k => ?_) (j0_ (c :: l) [] (by simp) hl (by simp))
        rw [if_pos hs, bt_head, if_neg (fun e => h45 (UInt8.toNat_inj.1 (by exact_mod_cast e)))]
        rfl
end Go.Proofs.YtcbppladofnnlaaDoor.M
