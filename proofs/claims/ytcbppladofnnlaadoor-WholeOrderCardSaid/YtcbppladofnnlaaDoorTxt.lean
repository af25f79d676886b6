/- What the functions of whole and of the reference compute, on lists of bytes. Plain Lean over the printed functions. -/
import Derived.Test.YtcbppladofnnlaaDoorLWholeTextsx2
import Derived.Test.YtcbppladofnnlaaDoorDec
import Derived.Lib.TrimByte
namespace Go.Proofs.YtcbppladofnnlaaDoor.M
open Go.RowKit Go.Proofs.YtcbppladofnnlaaDoor.H Go.Proofs.YtcbppladofnnlaaDoor.LA Go.Proofs.YtcbppladofnnlaaDoor.LWholeTexts Go.Proofs.YtcbppladofnnlaaDoorW.PrintWords Go.Proofs.YtcbppladofnnlaaDoorW.PrintLast Go.Proofs.YtcbppladofnnlaaDoorW.PrintMore
set_option linter.unusedVariables false
set_option linter.unusedSimpArgs false
def mk (l : Bs) : ByteArray := ⟨l.toArray⟩
theorem mk_data (s : ByteArray) : mk s.data.toList = s := by
  obtain ⟨⟨l⟩⟩ := s
  rfl
theorem mk_toList (l : Bs) : (mk l).toList = l := by rw [ByteArray.toList_eq]; rfl
theorem mk_size (l : Bs) : (mk l).size = l.length := Lib.size_mk l
theorem mk_extract (l : Bs) (a b : Nat) : (mk l).extract a b = mk ((l.drop a).take (b - a)) := Lib.extract_mk l a b
theorem mk_append (l m : Bs) : mk l ++ mk m = mk (l ++ m) := by
  apply ByteArray.ext
  simp [mk]
theorem bt_mk {l : Bs} {i : Nat} {c : UInt8} (h : l[i]? = some c) : bt (mk l) (i : Int) = (c.toNat : Int) := by
  have hi : i < l.length := (List.getElem?_eq_some_iff.1 h).1
  unfold bt
  have hs : (i : Int).toNat < (mk l).size := by rw [mk_size]; simpa using hi
  rw [dif_pos hs]
  have := Lib.getElem_mk l (i : Int).toNat hs
  simp only [Int.toNat_natCast] at this ⊢
  rw [h] at this
  rw [Option.some.inj this]
  rfl
theorem bt_head (c : UInt8) (l : Bs) : bt (mk (c :: l)) 0 = (c.toNat : Int) := bt_mk (i := 0) rfl
theorem w64 {n : Int} (h0 : -9223372036854775808 ≤ n) (h1 : n ≤ 9223372036854775807) : wrap64 n = n := by unfold wrap64; omega
theorem drop_at {l : Bs} {i : Nat} {c : UInt8} (h : l[i]? = some c) : l.drop i = c :: l.drop (i + 1) := by
  obtain ⟨hi, e⟩ := List.getElem?_eq_some_iff.1 h
  rw [List.drop_eq_getElem_cons hi, e]
theorem get_of {l : Bs} {i : Nat} (h : i < l.length) : ∃ c, l[i]? = some c := ⟨l[i], List.getElem?_eq_getElem h⟩
theorem toNat_lt (c : UInt8) : c.toNat < 256 := c.toNat_lt
theorem bne_nil (l : Bs) : ((mk l).toList != ([] : List UInt8)) = !l.isEmpty := by rw [mk_toList, ne_nil_f]

theorem pd_loop (l : Bs) (hl : l.length ≤ 4000000000) : ∀ (d i : Nat), i + d = l.length → Ev (fun k => whole_plainDigits.l0 k (mk l) (l.length : Int) (i : Int)) (isd (l.drop i) && !l.isEmpty)
  | 0, i, h => by
    refine Ev.step (f := fun _ => some (isd (l.drop i) && !l.isEmpty)) (fun k => ?_) (Ev.now _)
    simp only [whole_plainDigits.l0]
    rw [if_neg (by omega), bne_nil, List.drop_eq_nil_of_le (by omega)]
    rfl
  | d + 1, i, h => by
    obtain ⟨c, hc⟩ := get_of (l := l) (i := i) (by omega)
    rw [drop_at hc]
    have ne : l.isEmpty = false := by cases l with
      | nil => simp at h
      | cons => rfl
    by_cases h1 : c.toNat < 48
    · refine Ev.step (f := fun _ => some _) (fun k => ?_) (Ev.now _)
      simp only [whole_plainDigits.l0]
      rw [if_pos (by omega), if_pos (by omega), if_pos (by rw [mk_size]; omega), bt_mk hc, if_pos (by omega)]
      simp [isd, isb]
      omega
    by_cases h2 : 57 < c.toNat
    · refine Ev.step (f := fun _ => some _) (fun k => ?_) (Ev.now _)
      simp only [whole_plainDigits.l0]
      rw [if_pos (by omega), if_pos (by omega), if_pos (by rw [mk_size]; omega), bt_mk hc, if_neg (by omega), if_pos (by omega)]
      simp [isd, isb]
      omega
    refine Ev.step (fun k => ?_) (show Ev (fun k => whole_plainDigits.l0 k (mk l) (l.length : Int) ((i + 1 : Nat) : Int)) _ from ?_)
    · simp only [whole_plainDigits.l0]
      rw [if_pos (by omega), if_pos (by omega), if_pos (by rw [mk_size]; omega), bt_mk hc, if_neg (by omega), if_neg (by omega), w64 (by omega) (by omega)]
      rfl
    · have hb : isd (c :: l.drop (i + 1)) = isd (l.drop (i + 1)) := by
        simp [isd, isb]
        omega
      rw [hb]
      exact pd_loop l hl d (i + 1) (by omega)
theorem pd_f (l : Bs) (hl : l.length ≤ 4000000000) : Ev (fun k => whole_plainDigits.f k (mk l)) (isd l && !l.isEmpty) := by
  have := pd_loop l hl l.length 0 (by omega)
  refine Ev.congr (fun k => ?_) this
  unfold whole_plainDigits.f
  rw [mk_size]
  rfl
theorem cut_f (l : Bs) : strings_CutPrefix.f (mk l) (⟨#[45]⟩ : ByteArray) = some (mk (body l), neg l) := by
  unfold strings_CutPrefix.f stringslite_CutPrefix.f stringslite_HasPrefix.f
  have e1 : ((⟨#[45]⟩ : ByteArray).size : Int) = 1 := rfl
  have e2 : (⟨#[45]⟩ : ByteArray).toList = [45] := by rw [ByteArray.toList_eq]
  rw [e1, e2, mk_size]
  cases l with
  | nil =>
    rw [if_neg (by simp)]
    simp [body, neg]
  | cons c l =>
    rw [if_pos (by simp <;> omega), if_pos (by omega), if_pos (by simp <;> omega)]
    simp only [Option.bind_some]
    rw [mk_extract, mk_toList]
    have e3 : ([c] == ([45] : List UInt8)) = neg (c :: l) := by
      unfold neg
      rw [Bool.eq_iff_iff]
      simp
    simp only [List.drop_zero, Int.toNat_one, Nat.sub_zero, List.take_succ_cons, List.take_zero]
    rw [e3]
    cases hn : neg (c :: l)
    · simp [body, hn]
    · rw [if_pos rfl, if_pos (by omega), if_pos (by simp; omega)]
      simp [body, hn, mk_extract]
theorem tl_loop : ∀ (l : Bs), Ev (fun k => strings_trimLeftByte.l0 k (mk l) 48) (mk (strip l))
  | [] => by
    refine Ev.step (f := fun _ => some _) (fun k => ?_) (Ev.now _)
    simp only [strings_trimLeftByte.l0]
    rw [if_neg (by rw [mk_size]; simp)]
    rfl
  | c :: l => by
    have hs : 0 < ((mk (c :: l)).size : Int) := by rw [mk_size]; simp <;> omega
    by_cases h : c = 48
    · refine Ev.step (fun k => ?_) (show Ev (fun k => strings_trimLeftByte.l0 k (mk l) 48) _ from ?_)
      · simp only [strings_trimLeftByte.l0]
        rw [if_pos hs, if_pos hs, bt_head, if_pos (by rw [h]; rfl), if_pos (by omega), mk_extract, mk_size]
        simp
      · have e : strip (c :: l) = strip l := by
          unfold strip
          rw [List.dropWhile_cons, if_pos (by simpa using h)]
        rw [e]
        exact tl_loop l
    · refine Ev.step (f := fun _ => some _) (fun k => ?_) (Ev.now _)
      simp only [strings_trimLeftByte.l0]
      rw [if_pos hs, if_pos hs, bt_head, if_neg (fun e => h (UInt8.toNat_inj.1 (by exact_mod_cast e)))]
      unfold strip
      rw [List.dropWhile_cons, if_neg (by simpa using h)]
theorem tl_f (l : Bs) : Ev (fun k => strings_TrimLeft.f k (mk l) (⟨#[48]⟩ : ByteArray)) (mk (strip l)) := by
  refine Ev.congr (fun k => ?_) (tl_loop l)
  unfold strings_TrimLeft.f strings_trimLeftByte.f
  rw [if_pos rfl]
theorem body_le (l : Bs) : (body l).length ≤ l.length := by
  unfold body
  split
  · simp
  · exact Nat.le_refl _
theorem sized_f (l : Bs) (hl : l.length ≤ 4000000000) : Ev (fun k => whole_sized.f k (mk l)) ((szd l).1, ((szd l).2.length : Int), mk (szd l).2, ok l) := by
  unfold whole_sized.f
  refine Ev.congr (f := fun k => (whole_plainDigits.f k (mk (body l))).bind fun t117 => (if t117 = true then ((strings_TrimLeft.f k (mk (body l)) (⟨#[48]⟩ : ByteArray)).bind fun t118 => (if neg l = true then (some ((t118.toList != ([] : List UInt8)), (t118.size : Int), t118, true)) else (some (false, (t118.size : Int), t118, true)))) else (some (false, 0, (⟨#[]⟩ : ByteArray), false)))) (fun k => by rw [cut_f]; rfl) ?_
  refine Ev.bind (pd_f (body l) (by have := body_le l; omega)) ?_
  have hok : (isd (body l) && !(body l).isEmpty) = ok l := rfl
  rw [hok]
  cases h : ok l
  · simp only [Bool.false_eq_true, if_false]
    unfold szd
    rw [if_neg (by simp [h])]
    exact Ev.now _
  · simp only [if_true]
    refine Ev.bind (tl_f (body l)) ?_
    rw [bne_nil, mk_size]
    unfold szd
    rw [if_pos h]
    cases neg l
    · simp only [Bool.false_eq_true, if_false, Bool.false_and]
      exact Ev.now _
    · simp only [if_true, Bool.true_and]
      exact Ev.now _
theorem order_f (b : Bool) : whole_order.f b = some (ord b) := by
  unfold whole_order.f ord
  cases b <;> rfl
theorem mk_inj {l m : Bs} (h : mk l = mk m) : l = m := by rw [← mk_toList l, ← mk_toList m, h]
theorem compare_f (a b : Bs) (ha : a.length ≤ 4000000000) (hb : b.length ≤ 4000000000) : Ev (fun k => whole_Compare.f k (mk a) (mk b)) (cmp a b) := by
  unfold whole_Compare.f
  refine Ev.bind (sized_f a ha) (Ev.bind (sized_f b hb) ?_)
  refine Ev.congr (f := fun _ => some (cmp a b)) (fun k => ?_) (Ev.now _)
  simp only [order_f, Option.bind_some, mk_toList]
  unfold cmp
  generalize szd a = x
  generalize szd b = y
  obtain ⟨p, l⟩ := x
  obtain ⟨q, m⟩ := y
  simp only
  by_cases h1 : ok a = ok b
  · rw [if_neg (show ¬ ((ok a != ok b) = true) by simp [h1]), if_neg (show ¬ (ok a ≠ ok b) by simp [h1])]
    by_cases h2 : (p, l) = (q, m)
    · rw [if_pos h2]
      injection h2 with e1 e2
      subst e1 e2
      simp
    · rw [if_neg h2]
      have h3 : ¬ ((p == q && ((l.length : Int) == (m.length : Int) && l == m)) = true) := by
        intro h
        simp only [Bool.and_eq_true, beq_iff_eq] at h
        exact h2 (by rw [h.1, h.2.2])
      rw [if_neg h3]
      by_cases h4 : p = q
      · rw [if_neg (show ¬ ((p != q) = true) by simp [h4]), if_neg (show ¬ (p ≠ q) by simp [h4])]
        by_cases h5 : l.length = m.length
        · rw [if_pos (by omega), if_neg (by simp [h5])]
        · rw [if_neg (by omega), if_pos h5]
          congr 4
          simp
      · rw [if_pos (show (p != q) = true by simpa using h4), if_pos h4]
  · rw [if_pos (show (ok a != ok b) = true by simpa using h1), if_pos h1]
theorem szd_le (l : Bs) : (szd l).2.length ≤ l.length := by
  unfold szd
  split
  · have := body_le l
    have h2 : (strip (body l)).length ≤ (body l).length := (List.dropWhile_sublist _).length_le
    simp only
    omega
  · simp
theorem plain_f (l : Bs) (hl : l.length ≤ 4000000000) : Ev (fun k => whole_Plain.f k (mk l)) (mk (plain l)) := by
  unfold whole_Plain.f
  refine Ev.bind (sized_f l hl) ?_
  refine Ev.congr (f := fun _ => some (mk (plain l))) (fun k => ?_) (Ev.now _)
  unfold plain
  have hs := szd_le l
  cases h : ok l
  · rfl
  · simp only [if_true]
    by_cases h2 : (szd l).2 = []
    · rw [if_pos h2, if_pos (by rw [h2]; rfl)]
      rfl
    · have h3 : ¬ (((szd l).2.length : Int) = 0) := by
        intro e
        exact h2 (List.eq_nil_of_length_eq_zero (by omega))
      rw [if_neg h2, if_neg h3]
      cases (szd l).1
      · rfl
      · simp only [if_true]
        rw [if_pos (by rw [mk_size]; omega)]
        exact congrArg some (mk_append [45] _)
theorem valid_f (l : Bs) (hl : l.length ≤ 4000000000) : Ev (fun k => whole_Valid.f k (mk l)) (ok l) := by
  unfold whole_Valid.f
  exact Ev.bind (sized_f l hl) (Ev.now _)
end Go.Proofs.YtcbppladofnnlaaDoor.M
