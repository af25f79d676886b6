/- A number's digits and those of its negation differ by a hyphen; zeros ahead change neither Plain nor Compare. Conditions: those of the statement. -/
import Derived.Test.YtcbppladofnnlaaDoorTxt2
import Derived.Test.YtcbppladofnnlaaDoorLWholeSignsx3
namespace Go.Proofs.YtcbppladofnnlaaDoor.Pure
set_option linter.unusedVariables false
set_option linter.unusedSimpArgs false
open Go.RowKit Go.Proofs.YtcbppladofnnlaaDoor.M Go.Proofs.YtcbppladofnnlaaDoor.LA Go.Proofs.YtcbppladofnnlaaDoor.LWholeTexts Go.Proofs.YtcbppladofnnlaaDoor.LWholeSigns Go.Proofs.YtcbppladofnnlaaDoorW.PrintWords Go.Proofs.YtcbppladofnnlaaDoorW.PrintLast
theorem and7 (x : Int) : 0 ≤ Go.bits .and .i64 x 7 ∧ Go.bits .and .i64 x 7 ≤ 7 := by
  unfold Go.bits
  have h : ((BitVec.ofInt (IntKind.bits .i64) x &&& BitVec.ofInt (IntKind.bits .i64) 7).toNat) ≤ 7 := by
    rw [BitVec.toNat_and]
    exact Nat.le_trans Nat.and_le_right (by decide)
  show 0 ≤ IntKind.i64.wrap (((BitVec.ofInt (IntKind.bits .i64) x &&& BitVec.ofInt (IntKind.bits .i64) 7).toNat : Nat) : Int) ∧ IntKind.i64.wrap (((BitVec.ofInt (IntKind.bits .i64) x &&& BitVec.ofInt (IntKind.bits .i64) 7).toNat : Nat) : Int) ≤ 7
  generalize (BitVec.ofInt (IntKind.bits .i64) x &&& BitVec.ofInt (IntKind.bits .i64) 7).toNat = n at h
  rw [i64_w, w64 (by omega) (by omega)]
  omega
/-- One zero more. -/
def zero1 (l : Bs) : Bs := if neg l then 45 :: 48 :: l.tail else 48 :: l
theorem zero1_facts (l : Bs) (h : ok l = true) : ok (zero1 l) = true ∧ szd (zero1 l) = szd l ∧ (zero1 l).length = l.length + 1 := by
  have hb : body (zero1 l) = 48 :: body l := by
    unfold zero1 body
    cases hn : neg l
    · have : neg (48 :: l) = false := rfl
      simp only [Bool.false_eq_true, if_false, this]
    · have : neg (45 :: 48 :: l.tail) = true := rfl
      simp only [if_true, this, List.tail_cons]
  have hn : neg (zero1 l) = neg l := by
    unfold zero1
    cases hn : neg l <;> rfl
  have hs : strip (body (zero1 l)) = strip (body l) := by
    rw [hb]
    unfold strip
    rw [List.dropWhile_cons, if_pos (by rfl)]
  have hok : ok (zero1 l) = true := by
    unfold ok at *
    rw [hb]
    simp only [Bool.and_eq_true] at h ⊢
    exact ⟨by rw [isd_cons]; exact ⟨by decide, h.1⟩, rfl⟩
  refine ⟨hok, ?_, ?_⟩
  · unfold szd
    rw [if_pos h, if_pos hok, hn, hs]
  · unfold zero1
    cases l with
    | nil => rfl
    | cons c l => cases neg (c :: l) <;> simp
theorem zeros_loop (l : Bs) (x2 : Int) (n : Nat) (hx : Go.bits .and .i64 x2 7 = (n : Int)) (hn : n ≤ 7) (hl : l.length ≤ 300) (hok : ok l = true) : ∀ (d i : Nat) (m : Bs), i + d = n → ok m = true → szd m = szd l → m.length ≤ 300 + i →
    Ev (fun k => peeragelaw02_WholeSigns.l0 k (mk l) x2 (mk m) (i : Int)) true
  | 0, i, m, h, hm, hs, hlm => by
    have hp : plain m = plain l := by unfold plain; rw [hm, hok, hs]
    have hc : cmp m l = 0 := by unfold cmp; rw [hm, hok, hs]; simp
    refine Ev.step (fun k => ?_) (show Ev (fun k => (whole_Plain.f k (mk m)).bind fun t147 => ((whole_Plain.f k (mk l)).bind fun t148 => (if t147.toList = t148.toList then ((whole_Compare.f k (mk m) (mk l)).bind fun t149 => (if t149 = 0 then ((whole_Valid.f k (mk m)).bind fun t150 => (some t150)) else (some false))) else (some false)))) true from ?_)
    · simp only [peeragelaw02_WholeSigns.l0]
      rw [if_neg (by rw [hx]; omega)]
    · refine Ev.bind (plain_f m (by omega)) (Ev.bind (plain_f l (by omega)) ?_)
      rw [hp]
      simp only [if_true]
      refine Ev.bind (compare_f m l (by omega) (by omega)) ?_
      rw [hc]
      simp only [if_true]
      refine Ev.bind (valid_f m (by omega)) ?_
      rw [hm]
      exact Ev.now _
  | d + 1, i, m, h, hm, hs, hlm => by
    obtain ⟨z1, z2, z3⟩ := zero1_facts m hm
    refine Ev.step (fun k => ?_) (zeros_loop l x2 n hx hn hl hok d (i + 1) (zero1 m) (by omega) z1 (by rw [z2, hs]) (by omega))
    simp only [peeragelaw02_WholeSigns.l0]
    cases m with
    | nil => cases hm
    | cons c m =>
      have h0 : 0 < ((mk (c :: m)).size : Int) := by rw [mk_size]; simp <;> omega
      rw [if_pos (by rw [hx]; omega), if_pos h0, bt_head]
      simp only [List.length_cons] at hlm
      by_cases hc : c = 45
      · have e : zero1 (c :: m) = [45, 48] ++ m := by
          unfold zero1
          have : neg (c :: m) = true := by rw [hc]; rfl
          rw [this]
          rfl
        have e2 : (mk (c :: m)).extract 1 (mk (c :: m)).size = mk m := by rw [mk_extract, mk_size]; simp
        rw [if_pos (by rw [hc]; rfl), if_pos (by omega), e2, if_pos (by rw [mk_size]; omega), e, w64 (by omega) (by omega), ← mk_append]
        rfl
      · have e : zero1 (c :: m) = [48] ++ (c :: m) := by
          unfold zero1
          have : neg (c :: m) = false := by
            unfold neg
            rw [List.head?_cons]
            simpa using hc
          rw [this]
          rfl
        rw [if_neg (fun e => hc (UInt8.toNat_inj.1 (by exact_mod_cast e))), if_pos (by rw [mk_size, List.length_cons]; omega), e, w64 (by omega) (by omega), ← mk_append]
        rfl
theorem cmp_zero {l : Bs} (h : ok l = false) : cmp l [48] = -1 := by
  unfold cmp
  have : ok [48] = true := rfl
  rw [h, this]
  rfl
theorem tail_f (l : Bs) (x2 : Int) (hl : l.length ≤ 300) : Ev (fun k => (whole_Digits.f k 0).bind fun t163 => (if t163.toList = ([48] : List UInt8) then ((whole_Valid.f k (mk l)).bind fun t164 => (if t164 = true then (peeragelaw02_WholeSigns.l0 k (mk l) x2 (mk l) 0) else ((whole_Plain.f k (mk l)).bind fun t165 => (if t165.toList = ([] : List UInt8) then ((whole_Compare.f k (mk l) (⟨#[48]⟩ : ByteArray)).bind fun t166 => (some (t166 == (-1)))) else (some false))))) else (some false))) true := by
  have t0 : text 0 = [48] := by unfold text; rw [if_neg (by omega)]; exact dec_zero
  refine Ev.bind (digits_f 0 (by omega) (by omega)) ?_
  rw [mk_toList, t0]
  simp only [if_true]
  refine Ev.bind (valid_f l (by omega)) ?_
  cases h : ok l
  · simp only [Bool.false_eq_true, if_false]
    refine Ev.bind (plain_f l (by omega)) ?_
    have hp : plain l = [] := by unfold plain; rw [h]; rfl
    rw [mk_toList, hp]
    simp only [if_true]
    refine Ev.bind (show Ev (fun k => whole_Compare.f k (mk l) (⟨#[48]⟩ : ByteArray)) (cmp l [48]) from compare_f l [48] (by omega) (by simp)) ?_
    rw [cmp_zero h]
    exact Ev.now _
  · simp only [if_true]
    obtain ⟨a0, a7⟩ := and7 x2
    obtain ⟨n, hn⟩ := Int.eq_ofNat_of_zero_le a0
    exact zeros_loop l x2 n hn (by omega) hl h n 0 l (by omega) h rfl (by omega)
theorem WholeSigns : peeragelaw02_WholeSigns.Pure := by
  intro x s x2 hx hs hx2
  have hx0 : -9223372036854775808 ≤ x ∧ x ≤ 9223372036854775807 := by
    simp [Lit.wf, IntKind.min, IntKind.max, IntKind.signed, IntKind.bits] at hx
    omega
  refine Ev.rounds (g := fun k => peeragelaw02_WholeSigns.f k x s x2) ?_
  have key : ∀ l : Bs, l.length ≤ 300 → Ev (fun k => if x > 0 then ((whole_Digits.f k (wrap64 (-x))).bind fun t157 => ((whole_Digits.f k x).bind fun t158 => (if 1 + t158.size ≤ 9223372036854775807 then (if t157.toList = ((⟨#[45]⟩ : ByteArray) ++ t158).toList then ((whole_Digits.f k 0).bind fun t159 => (if t159.toList = ([48] : List UInt8) then ((whole_Valid.f k (mk l)).bind fun t160 => (if t160 = true then (peeragelaw02_WholeSigns.l0 k (mk l) x2 (mk l) 0) else ((whole_Plain.f k (mk l)).bind fun t161 => (if t161.toList = ([] : List UInt8) then ((whole_Compare.f k (mk l) (⟨#[48]⟩ : ByteArray)).bind fun t162 => (some (t162 == (-1)))) else (some false))))) else (some false))) else (some false)) else (none)))) else ((whole_Digits.f k 0).bind fun t163 => (if t163.toList = ([48] : List UInt8) then ((whole_Valid.f k (mk l)).bind fun t164 => (if t164 = true then (peeragelaw02_WholeSigns.l0 k (mk l) x2 (mk l) 0) else ((whole_Plain.f k (mk l)).bind fun t165 => (if t165.toList = ([] : List UInt8) then ((whole_Compare.f k (mk l) (⟨#[48]⟩ : ByteArray)).bind fun t166 => (some (t166 == (-1)))) else (some false))))) else (some false)))) true := by
    intro l hl
    by_cases h : x > 0
    · simp only [h, if_true]
      rw [w64 (by omega) (by omega)]
      refine Ev.bind (digits_f (-x) (by omega) (by omega)) (Ev.bind (digits_f x (by omega) (by omega)) ?_)
      have e : text (-x) = 45 :: text x := by
        unfold text
        rw [if_pos (by omega), if_neg (by omega), Int.natAbs_neg]
      have hlen : (text x).length ≤ 19 := by
        unfold text
        rw [if_neg (by omega)]
        exact dec_le (by omega)
      have e2 : (⟨#[45]⟩ : ByteArray) ++ mk (text x) = mk (45 :: text x) := mk_append [45] _
      refine Ev.congr (fun k => ?_) (tail_f l x2 hl)
      rw [if_pos (by rw [mk_size]; omega), e2, e, if_pos rfl]
    · simp only [h, if_false]
      exact tail_f l x2 hl
  unfold peeragelaw02_WholeSigns.f
  by_cases h : (s.size : Int) > 300
  · have e : s.extract 0 300 = mk (s.data.toList.take 300) := by
      conv => lhs; rw [← M.mk_data s]
      rw [mk_extract]
      simp
    refine Ev.congr (fun k => ?_) (key (s.data.toList.take 300) (by simp; omega))
    rw [if_pos h, if_pos (by omega), if_pos (by omega), e]
  · refine Ev.congr (fun k => ?_) (key s.data.toList (by rw [data_length]; omega))
    rw [if_neg h, M.mk_data]
end Go.Proofs.YtcbppladofnnlaaDoor.Pure
