/- Characters as bytes (UTF-8), their kinds, their small letters; folding on characters. Plain Lean, no program. -/
import Derived.Lib.Strings
namespace Go.Proofs.YtmlihcknkgfhaaaDoor.M
set_option linter.unusedVariables false
set_option linter.unusedSimpArgs false
abbrev Bs := List UInt8
def valid (c : Nat) : Bool := decide (c < 55296) || (decide (57344 ≤ c) && decide (c ≤ 1114111))
def b8 (n : Nat) : UInt8 := UInt8.ofNat n
theorem b8_nat {n : Nat} (h : n < 256) : (b8 n).toNat = n := by unfold b8; rw [UInt8.toNat_ofNat']; omega
theorem b8_of (c : UInt8) : b8 c.toNat = c := by unfold b8; exact UInt8.ofNat_toNat
def enc (c : Nat) : Bs :=
  if c < 128 then [b8 c] else
  if c < 2048 then [b8 (192 + c / 64), b8 (128 + c % 64)] else
  if c < 65536 then [b8 (224 + c / 4096), b8 (128 + c / 64 % 64), b8 (128 + c % 64)] else
  [b8 (240 + c / 262144), b8 (128 + c / 4096 % 64), b8 (128 + c / 64 % 64), b8 (128 + c % 64)]
def con (c : UInt8) : Bool := decide (128 ≤ c.toNat) && decide (c.toNat < 192)
def d2 (a : Nat) : Bs → Option (Nat × Bs)
  | b :: r => if con b = true ∧ 128 ≤ (a - 192) * 64 + (b.toNat - 128) then some ((a - 192) * 64 + (b.toNat - 128), r) else none
  | [] => none
def n3 (a b c : Nat) : Nat := ((a - 224) * 64 + (b - 128)) * 64 + (c - 128)
def d3 (a : Nat) : Bs → Option (Nat × Bs)
  | b :: c :: r => if (con b = true ∧ con c = true) ∧ 2048 ≤ n3 a b.toNat c.toNat ∧ valid (n3 a b.toNat c.toNat) = true then some (n3 a b.toNat c.toNat, r) else none
  | _ => none
def n4 (a b c d : Nat) : Nat := (((a - 240) * 64 + (b - 128)) * 64 + (c - 128)) * 64 + (d - 128)
def d4 (a : Nat) : Bs → Option (Nat × Bs)
  | b :: c :: d :: r => if (con b = true ∧ con c = true ∧ con d = true) ∧ 65536 ≤ n4 a b.toNat c.toNat d.toNat ∧ valid (n4 a b.toNat c.toNat d.toNat) = true then some (n4 a b.toNat c.toNat d.toNat, r) else none
  | _ => none
/-- The character that a text begins with, and the rest. -/
def dec1 : Bs → Option (Nat × Bs)
  | [] => none
  | a :: r => if a.toNat < 128 then some (a.toNat, r) else if a.toNat < 192 then none else if a.toNat < 224 then d2 a.toNat r else if a.toNat < 240 then d3 a.toNat r else if a.toNat < 248 then d4 a.toNat r else none
theorem dec1_cons (a : UInt8) (r : Bs) : dec1 (a :: r) = if a.toNat < 128 then some (a.toNat, r) else if a.toNat < 192 then none else if a.toNat < 224 then d2 a.toNat r else if a.toNat < 240 then d3 a.toNat r else if a.toNat < 248 then d4 a.toNat r else none := rfl
theorem valid_iff {c : Nat} : valid c = true ↔ c < 55296 ∨ (57344 ≤ c ∧ c ≤ 1114111) := by simp [valid]
theorem con_iff {c : UInt8} : con c = true ↔ 128 ≤ c.toNat ∧ c.toNat < 192 := by simp [con]
theorem b8_eq {c : UInt8} {n : Nat} (h : c.toNat = n) : c = b8 n := by rw [← h, b8_of]
theorem dec1_enc {c : Nat} (h : valid c = true) (r : Bs) : dec1 (enc c ++ r) = some (c, r) := by
  have hv := valid_iff.1 h
  unfold enc
  split
  · rename_i h1
    rw [List.singleton_append, dec1_cons, b8_nat (by omega), if_pos h1]
  split
  · rename_i h1 h2
    have e1 : (b8 (192 + c / 64)).toNat = 192 + c / 64 := b8_nat (by omega)
    have e2 : (b8 (128 + c % 64)).toNat = 128 + c % 64 := b8_nat (by omega)
    have e : (192 + c / 64 - 192) * 64 + (128 + c % 64 - 128) = c := by omega
    rw [List.cons_append, dec1_cons, e1, if_neg (by omega), if_neg (by omega), if_pos (by omega), List.singleton_append, d2, e2, e, if_pos ⟨con_iff.2 (by omega), by omega⟩]
  split
  · rename_i h1 h2 h3
    have e1 : (b8 (224 + c / 4096)).toNat = 224 + c / 4096 := b8_nat (by omega)
    have e2 : (b8 (128 + c / 64 % 64)).toNat = 128 + c / 64 % 64 := b8_nat (by omega)
    have e3 : (b8 (128 + c % 64)).toNat = 128 + c % 64 := b8_nat (by omega)
    have e : n3 (224 + c / 4096) (128 + c / 64 % 64) (128 + c % 64) = c := by unfold n3; omega
    rw [List.cons_append, dec1_cons, e1, if_neg (by omega), if_neg (by omega), if_neg (by omega), if_pos (by omega), List.cons_append, List.singleton_append, d3, e2, e3, e, if_pos ⟨⟨con_iff.2 (by omega), con_iff.2 (by omega)⟩, by omega, h⟩]
  · rename_i h1 h2 h3
    have e1 : (b8 (240 + c / 262144)).toNat = 240 + c / 262144 := b8_nat (by omega)
    have e0 : (b8 (128 + c / 4096 % 64)).toNat = 128 + c / 4096 % 64 := b8_nat (by omega)
    have e2 : (b8 (128 + c / 64 % 64)).toNat = 128 + c / 64 % 64 := b8_nat (by omega)
    have e3 : (b8 (128 + c % 64)).toNat = 128 + c % 64 := b8_nat (by omega)
    have e : n4 (240 + c / 262144) (128 + c / 4096 % 64) (128 + c / 64 % 64) (128 + c % 64) = c := by unfold n4; omega
    rw [List.cons_append, dec1_cons, e1, if_neg (by omega), if_neg (by omega), if_neg (by omega), if_neg (by omega), if_pos (by omega), List.cons_append, List.cons_append, List.singleton_append, d4, e0, e2, e3, e, if_pos ⟨⟨con_iff.2 (by omega), con_iff.2 (by omega), con_iff.2 (by omega)⟩, by omega, h⟩]
theorem dec1_some {l : Bs} {c : Nat} {r : Bs} (h : dec1 l = some (c, r)) : valid c = true ∧ l = enc c ++ r := by
  cases l with
  | nil => cases h
  | cons a t =>
    have ha := a.toNat_lt
    rw [dec1_cons] at h
    split at h
    · rename_i h1
      obtain ⟨rfl, rfl⟩ := Prod.mk.inj (Option.some.inj h)
      refine ⟨valid_iff.2 (by omega), ?_⟩
      unfold enc
      rw [if_pos h1, b8_of]
      rfl
    split at h
    · cases h
    split at h
    · rename_i h1 h2 h3
      cases t with
      | nil => cases h
      | cons b t =>
        rw [d2] at h
        split at h
        · rename_i hb
          have hb1 := con_iff.1 hb.1
          obtain ⟨e, rfl⟩ := Prod.mk.inj (Option.some.inj h)
          have hb2 := hb.2
          refine ⟨valid_iff.2 (by omega), ?_⟩
          unfold enc
          rw [if_neg (by omega), if_pos (by omega), ← b8_eq (c := a) (by omega), ← b8_eq (c := b) (by omega)]
          rfl
        · cases h
    split at h
    · rename_i h1 h2 h3 h4
      match t, h with
      | b :: c' :: t, h =>
        rw [d3] at h
        split at h
        · rename_i hb
          have hb1 := con_iff.1 hb.1.1
          have hb2 := con_iff.1 hb.1.2
          obtain ⟨e, rfl⟩ := Prod.mk.inj (Option.some.inj h)
          have h5 := hb.2
          rw [e] at h5
          refine ⟨h5.2, ?_⟩
          unfold n3 at e
          have hv := valid_iff.1 h5.2
          unfold enc
          rw [if_neg (by omega), if_neg (by omega), if_pos (by omega), ← b8_eq (c := a) (by omega), ← b8_eq (c := b) (by omega), ← b8_eq (c := c') (by omega)]
          rfl
        · cases h
    split at h
    · rename_i h1 h2 h3 h4 h5
      match t, h with
      | b :: c' :: d :: t, h =>
        rw [d4] at h
        split at h
        · rename_i hb
          have hb1 := con_iff.1 hb.1.1
          have hb2 := con_iff.1 hb.1.2.1
          have hb3 := con_iff.1 hb.1.2.2
          obtain ⟨e, rfl⟩ := Prod.mk.inj (Option.some.inj h)
          have h6 := hb.2
          rw [e] at h6
          refine ⟨h6.2, ?_⟩
          unfold n4 at e
          unfold enc
          rw [if_neg (by omega), if_neg (by omega), if_neg (by omega), ← b8_eq (c := a) (by omega), ← b8_eq (c := b) (by omega), ← b8_eq (c := c') (by omega), ← b8_eq (c := d) (by omega)]
          rfl
        · cases h
    · cases h
theorem enc_len (c : Nat) : (enc c).length = if c < 128 then 1 else if c < 2048 then 2 else if c < 65536 then 3 else 4 := by
  unfold enc
  by_cases h1 : c < 128
  · rw [if_pos h1, if_pos h1]; rfl
  · rw [if_neg h1, if_neg h1]
    by_cases h2 : c < 2048
    · rw [if_pos h2, if_pos h2]; rfl
    · rw [if_neg h2, if_neg h2]
      by_cases h3 : c < 65536
      · rw [if_pos h3, if_pos h3]; rfl
      · rw [if_neg h3, if_neg h3]; rfl
theorem enc_pos (c : Nat) : 0 < (enc c).length := by rw [enc_len]; (repeat' split) <;> omega
theorem enc_le (c : Nat) : (enc c).length ≤ 4 := by rw [enc_len]; (repeat' split) <;> omega
theorem enc_ne (c : Nat) : enc c ≠ [] := fun e => by have := enc_pos c; rw [e] at this; simp at this
/-- Characters, as a text. -/
def E : List Nat → Bs
  | [] => []
  | c :: l => enc c ++ E l
def vs (l : List Nat) : Bool := l.all valid
theorem vs_cons {c : Nat} {l : List Nat} : vs (c :: l) = true ↔ valid c = true ∧ vs l = true := by simp [vs]
theorem vs_append {a b : List Nat} : vs (a ++ b) = true ↔ vs a = true ∧ vs b = true := by simp [vs, List.all_append]
theorem E_append (a b : List Nat) : E (a ++ b) = E a ++ E b := by
  induction a with
  | nil => rfl
  | cons c a ih => simp [E, ih]
theorem E_inj : ∀ {a b : List Nat}, vs a = true → vs b = true → E a = E b → a = b
  | [], [], _, _, _ => rfl
  | [], c :: b, _, _, h => by
    have h1 := congrArg List.length h
    have h2 := enc_pos c
    simp only [E, List.length_append, List.length_nil] at h1
    omega
  | c :: a, [], _, _, h => by
    have h1 := congrArg List.length h
    have h2 := enc_pos c
    simp only [E, List.length_append, List.length_nil] at h1
    omega
  | c :: a, d :: b, ha, hb, h => by
    rw [vs_cons] at ha hb
    have h1 := dec1_enc ha.1 (E a)
    rw [show enc c ++ E a = enc d ++ E b from h, dec1_enc hb.1] at h1
    obtain ⟨e1, e2⟩ := Prod.mk.inj (Option.some.inj h1)
    rw [e1, E_inj ha.2 hb.2 e2.symm]
/-! ### Kinds and letters -/
def kind (c : Nat) : Nat := if (9 ≤ c ∧ c ≤ 13) ∨ c = 32 ∨ c = 133 ∨ c = 160 then 0 else if c < 32 ∨ c = 127 ∨ c = 173 ∨ c = 8203 then 1 else 2
def big (c : Nat) : Bool := (decide (65 ≤ c) && decide (c ≤ 90)) || (decide (192 ≤ c) && decide (c ≤ 222) && decide (c ≠ 215))
def sm (c : Nat) : Nat := if big c = true then c + 32 else c
theorem big_iff {c : Nat} : big c = true ↔ (65 ≤ c ∧ c ≤ 90) ∨ (192 ≤ c ∧ c ≤ 222 ∧ c ≠ 215) := by simp [big, and_assoc]
theorem sm_valid {c : Nat} (h : valid c = true) : valid (sm c) = true := by
  unfold sm
  split
  · rename_i hb
    have := big_iff.1 hb
    exact valid_iff.2 (by omega)
  · exact h
theorem sm_big {c : Nat} : big (sm c) = false := by
  cases h : big (sm c) with
  | false => rfl
  | true =>
    have h1 := big_iff.1 h
    unfold sm at h1
    split at h1
    · rename_i hb
      have := big_iff.1 hb
      omega
    · rename_i hb
      exact absurd (big_iff.2 h1) hb
theorem sm_sm (c : Nat) : sm (sm c) = sm c := by
  rw [show sm (sm c) = if big (sm c) = true then sm c + 32 else sm c from rfl, sm_big]
  rfl
theorem sm_kind {c : Nat} (h : kind c = 2) : kind (sm c) = 2 := by
  unfold sm
  split
  · rename_i hb
    have := big_iff.1 hb
    unfold kind
    rw [if_neg (by omega), if_neg (by omega)]
  · exact h
theorem sm_len {c : Nat} : (enc (sm c)).length = (enc c).length := by
  rw [enc_len, enc_len]
  unfold sm
  split
  · rename_i hb
    have := big_iff.1 hb
    (repeat' split) <;> omega
  · rfl
theorem kind_cases (c : Nat) : kind c = 0 ∨ kind c = 1 ∨ kind c = 2 := by unfold kind; (repeat' split) <;> simp
/-- Folding: ends, letters; a blank is due; something is there. -/
def go (ends letters : Bool) : List Nat → Bool → Bool → List Nat
  | [], due, _ => if due && ends then [32] else []
  | c :: l, due, ne =>
    if kind c = 1 then go ends letters l due ne else
    if kind c = 0 then go ends letters l true ne else
    (if due && (ends || ne) then [32] else []) ++ (if letters then sm c else c) :: go ends letters l false true
def prep (ends letters : Bool) (l : List Nat) : List Nat := go ends letters l false false
theorem go_valid (ends letters : Bool) : ∀ (l : List Nat) (due ne : Bool), vs l = true → vs (go ends letters l due ne) = true
  | [], due, ne, _ => by unfold go; split <;> rfl
  | c :: l, due, ne, h => by
    rw [vs_cons] at h
    unfold go
    split
    · exact go_valid ends letters l due ne h.2
    split
    · exact go_valid ends letters l true ne h.2
    · rw [vs_append]
      refine ⟨by split <;> rfl, ?_⟩
      rw [vs_cons]
      refine ⟨?_, go_valid ends letters l false true h.2⟩
      split
      · exact sm_valid h.1
      · exact h.1
theorem k32 : kind 32 = 0 := rfl
/-- A piece of a piece. -/
theorem piece_piece (t u : List Nat) : ∀ (b b' ne ne' : Bool), go true true (go true true t b' ne' ++ u) b ne = go true true (t ++ u) (b || b') ne := by
  induction t with
  | nil =>
    intro b b' ne ne'
    cases b'
    · simp [go]
    · simp [go, k32]
  | cons c t ih =>
    intro b b' ne ne'
    rcases kind_cases c with h | h | h
    · have e1 : ∀ (x y : Bool) (z : List Nat), go true true (c :: z) x y = go true true z true y := fun x y z => by simp [go, h]
      rw [e1, ih, List.cons_append, e1, Bool.or_true]
    · have e1 : ∀ (x y : Bool) (z : List Nat), go true true (c :: z) x y = go true true z x y := fun x y z => by simp [go, h]
      rw [e1, ih, List.cons_append, e1]
    · have e1 : ∀ (x y : Bool) (z : List Nat), go true true (c :: z) x y = (if x then [32] else []) ++ sm c :: go true true z false true := fun x y z => by simp [go, h]
      have e2 : ∀ (x y : Bool) (z : List Nat), go true true (sm c :: z) x y = (if x then [32] else []) ++ sm c :: go true true z false true := fun x y z => by simp [go, sm_kind h, sm_sm]
      have e3 : ∀ (x y : Bool) (z : List Nat), go true true (32 :: z) x y = go true true z true y := fun x y z => by simp [go, k32]
      rw [e1, List.cons_append, e1]
      cases b'
      · simp only [Bool.false_eq_true, if_false, List.nil_append, List.cons_append, Bool.or_false]
        rw [e2, ih]
        rfl
      · simp only [if_true, List.cons_append, List.nil_append, Bool.or_true]
        rw [e3, e2, ih]
        rfl
/-- What stands ahead: the rest may be a piece. -/
theorem piece_rest (t : List Nat) : ∀ (x : List Nat) (b ne : Bool), go true true (x ++ go true true t false false) b ne = go true true (x ++ t) b ne := by
  intro x
  induction x with
  | nil =>
    intro b ne
    have := piece_piece t [] b false ne false
    simpa using this
  | cons c x ih =>
    intro b ne
    simp only [List.cons_append, go]
    rw [ih, ih, ih]
theorem joins (s t : List Nat) : prep true true (s ++ t) = prep true true (prep true true s ++ prep true true t) := by
  unfold prep
  rw [piece_rest, piece_piece]
  rfl
end Go.Proofs.YtmlihcknkgfhaaaDoor.M
