/- Decimal digits as bytes: their value, their order, the texts of numbers. Plain Lean, no program. -/
import Derived.Lib.Strings
namespace Go.Proofs.YtcbppladofnnlaaDoor.M
set_option linter.unusedVariables false
set_option linter.unusedSimpArgs false
abbrev Bs := List UInt8
def isb (c : UInt8) : Bool := decide (48 ≤ c.toNat) && decide (c.toNat ≤ 57)
def isd (l : Bs) : Bool := l.all isb
def dv (c : UInt8) : Nat := c.toNat - 48
def val : Bs → Nat
  | [] => 0
  | c :: l => dv c * 10 ^ l.length + val l
theorem isb_iff {c : UInt8} : isb c = true ↔ 48 ≤ c.toNat ∧ c.toNat ≤ 57 := by simp [isb]
theorem isd_cons {c : UInt8} {l : Bs} : isd (c :: l) = true ↔ (48 ≤ c.toNat ∧ c.toNat ≤ 57) ∧ isd l = true := by simp [isd, isb]
theorem isd_append {a b : Bs} : isd (a ++ b) = true ↔ isd a = true ∧ isd b = true := by simp [isd, List.all_append]
theorem dv_lt {c : UInt8} (h : 48 ≤ c.toNat ∧ c.toNat ≤ 57) : dv c < 10 := by unfold dv; omega
theorem val_lt : ∀ {l : Bs}, isd l = true → val l < 10 ^ l.length
  | [], _ => by simp [val]
  | c :: l, h => by
    rw [isd_cons] at h
    have h1 := val_lt h.2
    have h2 := dv_lt h.1
    rw [val, List.length_cons, Nat.pow_succ]
    have : (dv c + 1) * 10 ^ l.length ≤ 10 * 10 ^ l.length := Nat.mul_le_mul_right _ (by omega)
    rw [Nat.add_mul] at this
    omega
theorem val_append (a b : Bs) : val (a ++ b) = val a * 10 ^ b.length + val b := by
  induction a with
  | nil => simp [val]
  | cons c a ih =>
    rw [List.cons_append, val, ih, val, List.length_append, Nat.add_mul, Nat.mul_assoc, ← Nat.pow_add]
    omega
theorem val_snoc (a : Bs) (c : UInt8) : val (a ++ [c]) = val a * 10 + dv c := by
  rw [val_append]
  simp [val]
/-- No zero ahead. -/
def nz : Bs → Bool
  | [] => true
  | c :: _ => c != 48
theorem val_ge {c : UInt8} {l : Bs} (h : isd (c :: l) = true) (hz : nz (c :: l) = true) : 10 ^ l.length ≤ val (c :: l) := by
  rw [isd_cons] at h
  have : 1 ≤ dv c := by
    have h1 : c ≠ 48 := by simpa [nz] using hz
    have h2 : c.toNat ≠ 48 := fun e => h1 (UInt8.toNat_inj.1 (by simpa using e))
    unfold dv
    omega
  rw [val]
  have := Nat.mul_le_mul_right (10 ^ l.length) this
  omega
theorem val_long {l m : Bs} (hl : isd l = true) (hm : isd m = true) (zm : nz m = true) (h : l.length < m.length) : val l < val m := by
  cases m with
  | nil => simp at h
  | cons c m =>
    have h1 := val_lt hl
    have h2 := val_ge hm zm
    have h3 : 10 ^ l.length ≤ 10 ^ m.length := Nat.pow_le_pow_right (by omega) (by simp at h; omega)
    omega
/-- Digits of one length: the order of the bytes is that of the numbers. -/
theorem val_lex : ∀ {l m : Bs}, isd l = true → isd m = true → l.length = m.length → (Op.bytesLess l m = decide (val l < val m)) ∧ (val l = val m → l = m)
  | [], [], _, _, _ => by simp [Op.bytesLess, val]
  | [], _ :: _, _, _, h => by simp at h
  | _ :: _, [], _, _, h => by simp at h
  | c :: l, d :: m, hl, hm, h => by
    rw [isd_cons] at hl hm
    have hlen : l.length = m.length := by simpa using h
    obtain ⟨i1, i2⟩ := val_lex hl.2 hm.2 hlen
    have b1 := val_lt hl.2
    have b2 := val_lt hm.2
    rw [val, val, hlen]
    rw [hlen] at b1
    have hP : 0 < 10 ^ m.length := Nat.pow_pos (by omega)
    generalize 10 ^ m.length = P at *
    have hlt : ∀ {x y : Nat} {u v : Nat}, x < y → u < P → x * P + u < y * P + v := by
      intro x y u v hxy hu
      have : (x + 1) * P ≤ y * P := Nat.mul_le_mul_right _ (by omega)
      rw [Nat.add_mul] at this
      omega
    rw [Op.bytesLess]
    rcases Nat.lt_trichotomy c.toNat d.toNat with hc | hc | hc
    · have e1 : (decide (c < d)) = true := by simpa [UInt8.lt_iff_toNat_lt] using hc
      have e2 : dv c < dv d := by unfold dv; omega
      have e3 := hlt (v := val m) e2 b1
      exact ⟨by rw [e1]; simp [e3], fun e => by omega⟩
    · have e : c = d := UInt8.toNat_inj.1 hc
      subst e
      have e1 : (decide (c < c)) = false := by simp [UInt8.lt_iff_toNat_lt]
      refine ⟨?_, fun e => ?_⟩
      · rw [e1, i1]
        simp
      · rw [i2 (by omega)]
    · have e1 : (decide (c < d)) = false := by simp [UInt8.lt_iff_toNat_lt]; omega
      have e4 : (c == d) = false := by
        rw [beq_eq_false_iff_ne]
        intro e
        subst e
        omega
      have e2 : dv d < dv c := by unfold dv; omega
      have e3 := hlt (v := val l) e2 b2
      exact ⟨by rw [e1, e4]; simp; omega, fun e => by omega⟩

def dec (n : Nat) : Bs := if n < 10 then [UInt8.ofNat (48 + n)] else dec (n / 10) ++ [UInt8.ofNat (48 + n % 10)]
termination_by n
decreasing_by omega
theorem toNat_digit {k : Nat} (h : k < 10) : (UInt8.ofNat (48 + k)).toNat = 48 + k := by
  rw [UInt8.toNat_ofNat']
  omega
theorem dv_digit {k : Nat} (h : k < 10) : dv (UInt8.ofNat (48 + k)) = k := by
  unfold dv
  rw [toNat_digit h]
  omega
theorem dec_isd (n : Nat) : isd (dec n) = true := by
  induction n using Nat.strongRecOn with
  | ind n ih =>
    rw [dec]
    split
    · rename_i h
      rw [isd_cons, toNat_digit h]
      exact ⟨by omega, rfl⟩
    · rename_i h
      rw [isd_append, isd_cons, toNat_digit (Nat.mod_lt _ (by omega))]
      exact ⟨ih _ (by omega), by omega, rfl⟩
theorem dec_val (n : Nat) : val (dec n) = n := by
  induction n using Nat.strongRecOn with
  | ind n ih =>
    rw [dec]
    split
    · rename_i h
      rw [val, dv_digit h]
      simp [val]
    · rename_i h
      rw [val_snoc, ih _ (by omega), dv_digit (Nat.mod_lt _ (by omega))]
      omega
theorem dec_ne (n : Nat) : dec n ≠ [] := by
  rw [dec]
  split <;> simp
theorem nz_append {a b : Bs} (h : a ≠ []) : nz (a ++ b) = nz a := by
  cases a with
  | nil => exact absurd rfl h
  | cons c a => rfl
theorem dec_nz {n : Nat} (h0 : n ≠ 0) : nz (dec n) = true := by
  induction n using Nat.strongRecOn with
  | ind n ih =>
    rw [dec]
    split
    · rename_i h
      simp only [nz, bne_iff_ne]
      intro e
      have := congrArg UInt8.toNat e
      rw [toNat_digit h] at this
      simp at this
      omega
    · rename_i h
      rw [nz_append (dec_ne _)]
      exact ih _ (by omega) (by omega)
theorem dec_zero : dec 0 = [48] := by rw [dec]; rfl
theorem dec_len : ∀ (k n : Nat), n < 10 ^ (k + 1) → (dec n).length ≤ k + 1
  | 0, n, h => by
    rw [dec, if_pos (by simpa using h)]
    simp
  | k + 1, n, h => by
    rw [dec]
    split
    · simp
    · have := dec_len k (n / 10) (by rw [Nat.pow_succ] at h; omega)
      simp
      omega
theorem dec_long : ∀ (k n : Nat), 10 ^ k ≤ n → k < (dec n).length
  | 0, n, _ => List.length_pos_iff.2 (dec_ne n)
  | k + 1, n, h => by
    have h10 : 10 ≤ n := by
      have : 10 ^ 1 ≤ 10 ^ (k + 1) := Nat.pow_le_pow_right (by omega) (by omega)
      omega
    rw [dec, if_neg (by omega)]
    have := dec_long k (n / 10) (by rw [Nat.pow_succ] at h; omega)
    simp
    omega
theorem dec_head {n : Nat} (h0 : n ≠ 0) {c : UInt8} {l : Bs} (h : dec n = c :: l) : c ≠ 48 := by
  have := dec_nz h0
  rw [h] at this
  simpa [nz] using this

/-- A text as a number's. -/
def neg (l : Bs) : Bool := l.head? == some 45
def body (l : Bs) : Bs := if neg l then l.tail else l
def strip (l : Bs) : Bs := l.dropWhile (· == 48)
def ok (l : Bs) : Bool := isd (body l) && !(body l).isEmpty
def szd (l : Bs) : Bool × Bs := if ok l then (neg l && !(strip (body l)).isEmpty, strip (body l)) else (false, [])
def num (l : Bs) : Option Int := if ok l then some (if (szd l).1 then -(val (szd l).2 : Int) else (val (szd l).2 : Int)) else none
def plain (l : Bs) : Bs := if ok l then (if (szd l).2 = [] then [48] else if (szd l).1 then 45 :: (szd l).2 else (szd l).2) else []
def ord (b : Bool) : Int := if b then -1 else 1
def cmp (a b : Bs) : Int :=
  if ok a ≠ ok b then ord (ok b) else
  if szd a = szd b then 0 else
  if (szd a).1 ≠ (szd b).1 then ord (szd a).1 else
  if (szd a).2.length ≠ (szd b).2.length then ord (decide ((szd a).2.length < (szd b).2.length) != (szd a).1) else
  ord (Op.bytesLess (szd a).2 (szd b).2 != (szd a).1)
theorem isd_strip {l : Bs} (h : isd l = true) : isd (strip l) = true := by
  unfold isd at *
  rw [List.all_eq_true] at *
  intro c hc
  exact h c ((List.dropWhile_sublist _).subset hc)
theorem nz_strip : ∀ (l : Bs), nz (strip l) = true
  | [] => rfl
  | c :: l => by
    unfold strip
    rw [List.dropWhile_cons]
    split
    · exact nz_strip l
    · rename_i h
      simp only [nz, bne_iff_ne]
      intro e
      exact h (by simp [e])
theorem val_strip : ∀ (l : Bs), val (strip l) = val l
  | [] => rfl
  | c :: l => by
    unfold strip
    rw [List.dropWhile_cons]
    split
    · rename_i h
      have e : c = 48 := by simpa using h
      subst e
      have := val_strip l
      unfold strip at this
      rw [this, val]
      have : dv 48 = 0 := rfl
      rw [this]
      omega
    · rfl
theorem strip_nz {l : Bs} (h : nz l = true) : strip l = l := by
  cases l with
  | nil => rfl
  | cons c l =>
    have : c ≠ 48 := by simpa [nz] using h
    unfold strip
    rw [List.dropWhile_cons, if_neg (by simpa using this)]
theorem szd_facts {l : Bs} (h : ok l = true) : isd (szd l).2 = true ∧ nz (szd l).2 = true ∧ ((szd l).1 = true → (szd l).2 ≠ []) := by
  unfold szd
  rw [if_pos h]
  have hb : isd (body l) = true := by
    unfold ok at h
    simp only [Bool.and_eq_true] at h
    exact h.1
  refine ⟨isd_strip hb, nz_strip _, fun h1 => ?_⟩
  simp only [Bool.and_eq_true, Bool.not_eq_true', List.isEmpty_eq_false_iff] at h1
  exact h1.2
theorem val_pos {l : Bs} (h : isd l = true) (hz : nz l = true) (hn : l ≠ []) : 0 < val l := by
  cases l with
  | nil => exact absurd rfl hn
  | cons c l =>
    have := val_ge h hz
    have : 0 < 10 ^ l.length := Nat.pow_pos (by omega)
    omega
def cmpI (x y : Int) : Int := if x < y then -1 else if x = y then 0 else 1
def cmpO : Option Int → Option Int → Int
  | none, none => 0
  | none, some _ => -1
  | some _, none => 1
  | some x, some y => cmpI x y
theorem cmp_eq (a b : Bs) : cmp a b = cmpO (num a) (num b) := by
  unfold cmp num
  cases ha : ok a <;> cases hb : ok b
  · have e1 : szd a = (false, []) := by unfold szd; rw [if_neg (by simp [ha])]
    have e2 : szd b = (false, []) := by unfold szd; rw [if_neg (by simp [hb])]
    simp [e1, e2, cmpO]
  · simp [ord, cmpO]
  · simp [ord, cmpO]
  · obtain ⟨a1, a2, a3⟩ := szd_facts ha
    obtain ⟨b1, b2, b3⟩ := szd_facts hb
    rw [if_neg (by simp), if_pos rfl, if_pos rfl]
    simp only [cmpO]
    generalize hx : szd a = x at *
    generalize hy : szd b = y at *
    obtain ⟨p, l⟩ := x
    obtain ⟨q, m⟩ := y
    simp only at *
    have key : ∀ {l m : Bs}, isd l = true → nz l = true → isd m = true → nz m = true → l ≠ m → val l ≠ val m := by
      intro l m hl zl hm zm hne e
      rcases Nat.lt_trichotomy l.length m.length with h | h | h
      · have := val_long hl hm zm h; omega
      · exact hne ((val_lex hl hm h).2 e)
      · have := val_long hm hl zl h; omega
    by_cases he : (p, l) = (q, m)
    · rw [if_pos he]
      injection he with h1 h2
      subst h1 h2
      simp [cmpI]
    · rw [if_neg he]
      by_cases hp : p ≠ q
      · rw [if_pos hp]
        cases p <;> cases q
        · exact absurd rfl hp
        · have := val_pos b1 b2 (b3 rfl)
          simp only [Bool.false_eq_true, if_false, if_true, ord, cmpI]
          rw [if_neg (by omega), if_neg (by omega)]
        · have := val_pos a1 a2 (a3 rfl)
          simp only [Bool.false_eq_true, if_false, if_true, ord, cmpI]
          rw [if_pos (by omega)]
        · exact absurd rfl hp
      · rw [if_neg hp]
        have hpq : p = q := Decidable.not_not.1 hp
        subst hpq
        have hlm : l ≠ m := fun e => he (by rw [e])
        have hv := key a1 a2 b1 b2 hlm
        have h1 : (if l.length ≠ m.length then ord (decide (l.length < m.length) != p) else ord (Op.bytesLess l m != p)) = ord (decide (val l < val m) != p) := by
          by_cases hlen : l.length = m.length
          · rw [if_neg (by simpa using hlen), (val_lex a1 b1 hlen).1]
          · rw [if_pos hlen]
            have : decide (l.length < m.length) = decide (val l < val m) := by
              rcases Nat.lt_or_ge l.length m.length with h | h
              · have := val_long a1 b1 b2 h
                simp [h, this]
              · have := val_long b1 a1 a2 (by omega)
                rw [decide_eq_false (by omega), decide_eq_false (by omega)]
            rw [this]
        rw [h1]
        cases p
        · simp only [Bool.false_eq_true, if_false, cmpI, ord, Bool.bne_false]
          by_cases h : val l < val m
          · rw [if_pos (by simpa using h), if_pos (by omega)]
          · rw [if_neg (by simpa using h), if_neg (by omega), if_neg (by omega)]
        · simp only [if_true, cmpI, ord, Bool.bne_true]
          by_cases h : val l < val m
          · rw [if_neg (by simp [h]), if_neg (by omega), if_neg (by omega)]
          · rw [if_pos (by simp [h]), if_pos (by omega)]
theorem plain_iff (a b : Bs) : plain a = plain b ↔ num a = num b := by
  unfold plain num
  have ne : ∀ {x : Bs}, ok x = true → (if (szd x).2 = [] then [48] else if (szd x).1 then 45 :: (szd x).2 else (szd x).2) ≠ ([] : Bs) := by
    intro x hx
    split
    · simp
    · rename_i h
      split
      · simp
      · exact h
  cases ha : ok a <;> cases hb : ok b
  · simp
  · simp only [Bool.false_eq_true, if_false, if_true]
    exact ⟨fun h => absurd h.symm (ne hb), fun h => by cases h⟩
  · simp only [Bool.false_eq_true, if_false, if_true]
    exact ⟨fun h => absurd h (ne ha), fun h => by cases h⟩
  · obtain ⟨a1, a2, a3⟩ := szd_facts ha
    obtain ⟨b1, b2, b3⟩ := szd_facts hb
    simp only [if_true]
    rw [Option.some.injEq]
    have key : ∀ {l m : Bs}, isd l = true → nz l = true → isd m = true → nz m = true → val l = val m → l = m := by
      intro l m hl zl hm zm e
      rcases Nat.lt_trichotomy l.length m.length with h | h | h
      · have := val_long hl hm zm h; omega
      · exact (val_lex hl hm h).2 e
      · have := val_long hm hl zl h; omega
    have hd : ∀ {l : Bs}, isd l = true → ∀ (c : UInt8) (r : Bs), l = c :: r → c ≠ 45 := by
      intro l hl c r e e2
      subst e e2
      rw [isd_cons] at hl
      have : (45 : UInt8).toNat = 45 := rfl
      omega
    generalize hx : szd a = x at *
    generalize hy : szd b = y at *
    obtain ⟨p, l⟩ := x
    obtain ⟨q, m⟩ := y
    simp only at *
    constructor
    · intro h
      by_cases hl : l = []
      · subst hl
        rw [if_pos rfl] at h
        have hp : p = false := by
          cases p with
          | false => rfl
          | true => exact absurd rfl (a3 rfl)
        subst hp
        by_cases hm : m = []
        · subst hm
          have hq : q = false := by
            cases q with
            | false => rfl
            | true => exact absurd rfl (b3 rfl)
          subst hq
          rfl
        · rw [if_neg hm] at h
          cases q
          · rw [if_neg (by simp)] at h
            rw [← h] at b2
            simp [nz] at b2
          · rw [if_pos rfl] at h
            injection h with h1 h2
            exact absurd h1 (by decide)
      · rw [if_neg hl] at h
        by_cases hm : m = []
        · subst hm
          rw [if_pos rfl] at h
          cases p
          · rw [if_neg (by simp)] at h
            rw [h] at a2
            simp [nz] at a2
          · rw [if_pos rfl] at h
            injection h with h1 h2
            exact absurd h1 (by decide)
        · rw [if_neg hm] at h
          cases p <;> cases q
          · simp only [Bool.false_eq_true, if_false] at h
            rw [h]
          · simp only [Bool.false_eq_true, if_false, if_true] at h
            exact absurd rfl (hd a1 _ _ h)
          · simp only [Bool.false_eq_true, if_false, if_true] at h
            exact absurd rfl (hd b1 _ _ h.symm)
          · simp only [if_true] at h
            injection h with _ h
            rw [h]
    · intro h
      have hpq : p = q := by
        cases p <;> cases q
        · rfl
        · have := val_pos b1 b2 (b3 rfl)
          simp only [Bool.false_eq_true, if_false, if_true] at h
          omega
        · have := val_pos a1 a2 (a3 rfl)
          simp only [Bool.false_eq_true, if_false, if_true] at h
          omega
        · rfl
      subst hpq
      have : l = m := key a1 a2 b1 b2 (by cases p <;> simp at h <;> omega)
      rw [this]
/-- A number's text. -/
def text (n : Int) : Bs := if n < 0 then 45 :: dec n.natAbs else dec n.natAbs
theorem neg_dec (n : Nat) : neg (dec n) = false := by
  unfold neg
  have h := dec_isd n
  cases e : dec n with
  | nil => rfl
  | cons c l =>
    rw [e, isd_cons] at h
    rw [List.head?_cons, beq_eq_false_iff_ne]
    intro e2
    injection e2 with e2
    subst e2
    have : (45 : UInt8).toNat = 45 := rfl
    omega
theorem text_facts (n : Int) : ok (text n) = true ∧ szd (text n) = (decide (n < 0), if n = 0 then [] else dec n.natAbs) := by
  have hb : body (text n) = dec n.natAbs := by
    unfold body text
    split
    · rw [if_pos (by simp [neg])]
      rfl
    · rw [neg_dec]
      rfl
  have hn : neg (text n) = decide (n < 0) := by
    unfold text
    split
    · rename_i h; simp [neg, h]
    · rename_i h; rw [neg_dec]; simp [h]
  have hok : ok (text n) = true := by
    unfold ok
    rw [hb, dec_isd]
    simp [dec_ne]
  refine ⟨hok, ?_⟩
  unfold szd
  rw [if_pos hok, hb, hn]
  by_cases h0 : n = 0
  · subst h0
    rw [if_pos rfl]
    simp [dec_zero, strip]
  · rw [if_neg h0, strip_nz (dec_nz (by omega))]
    simp [dec_ne]
theorem num_text (n : Int) : num (text n) = some n := by
  obtain ⟨h1, h2⟩ := text_facts n
  unfold num
  rw [if_pos h1, h2]
  simp only
  by_cases h0 : n = 0
  · subst h0
    simp [val]
  · rw [if_neg h0, dec_val]
    by_cases h : n < 0
    · rw [if_pos (by simpa using h)]
      congr 1
      omega
    · rw [if_neg (by simpa using h)]
      congr 1
      omega
theorem plain_text (n : Int) : plain (text n) = text n := by
  obtain ⟨h1, h2⟩ := text_facts n
  unfold plain
  rw [if_pos h1, h2]
  simp only
  by_cases h0 : n = 0
  · subst h0
    simp [text, dec_zero]
  · rw [if_neg h0, if_neg (dec_ne _)]
    unfold text
    by_cases h : n < 0
    · rw [if_pos (by simpa using h), if_pos h]
    · rw [if_neg (by simpa using h), if_neg h]
theorem cmpO_anti (x y : Option Int) : cmpO x y = - cmpO y x := by
  cases x <;> cases y <;> simp only [cmpO, cmpI, Int.neg_neg] <;> try rfl
  rename_i a b
  rcases Int.lt_trichotomy a b with h | h | h
  · rw [if_pos h, if_neg (by omega), if_neg (by omega)]
  · subst h; simp
  · rw [if_neg (by omega), if_neg (by omega), if_pos h]; rfl
theorem cmpO_zero (x y : Option Int) : cmpO x y = 0 ↔ x = y := by
  cases x <;> cases y <;> simp [cmpO, cmpI]
  rename_i a b
  constructor
  · intro h
    split at h
    · cases h
    · split at h
      · assumption
      · cases h
  · intro h
    subst h
    simp
theorem cmpO_trans {x y z : Option Int} (h1 : cmpO x y ≤ 0) (h2 : cmpO y z ≤ 0) : cmpO x z ≤ 0 := by
  cases x <;> cases y <;> cases z <;> simp only [cmpO, cmpI] at * <;> try omega
end Go.Proofs.YtcbppladofnnlaaDoor.M
