/- What Read and ReadLen answer, as functions on lists of bytes; their contracts. Condition: the slice holds bytes. -/
import Derived.Test.YtkhghgmonjebnaaRead
import Derived.Test.YtkhghgmonjebnaaReadLen
namespace Go.Proofs.Ytkhghgmonjebnaa.H
open Go.RowKit Go.Proofs.YtkhghgmonjebnaaW.PrintWords Go.Proofs.YtkhghgmonjebnaaW.PrintLast Go.Proofs.YtkhghgmonjebnaaW.PrintMore
open Go.Proofs.Ytkhghgmonjebnaa.PBer
set_option linter.unusedVariables false
set_option linter.unusedSimpArgs false

/-- The rest of a long number: number so far, how many bytes so far. -/
def seven (acc : Int) (i : Nat) : List Int → Int × Int × Int
  | [] => if i ≥ 4 then (0, 0, 11) else (0, 0, 10)
  | c :: l => if i = 4 ∨ i = 0 ∧ (c = 128 ∨ c < 31) then (0, 0, 11) else if c < 128 then (acc * 128 + c % 128, (i : Int) + 1, 0) else seven (acc * 128 + c % 128) (i + 1) l

theorem byte_of {x : Int} {p : Int → Bool} (h : (List.range 256).all (fun n => p n) = true) (h0 : 0 ≤ x) (h1 : x ≤ 255) : p x = true := by
  obtain ⟨n, rfl⟩ := Int.eq_ofNat_of_zero_le h0
  exact List.all_eq_true.1 h n (List.mem_range.2 (by omega))
theorem and127 {x : Int} (h0 : 0 ≤ x) (h1 : x ≤ 255) : bits .and .u8 x 127 = x % 128 :=
  eq_of_beq (byte_of (p := fun x => bits .and .u8 x 127 == x % 128) (by decide +kernel) h0 h1)
theorem and128 {x : Int} (h0 : 0 ≤ x) (h1 : x ≤ 255) : bits .and .u8 x 128 = x / 128 * 128 :=
  eq_of_beq (byte_of (p := fun x => bits .and .u8 x 128 == x / 128 * 128) (by decide +kernel) h0 h1)
theorem and31 {x : Int} (h0 : 0 ≤ x) (h1 : x ≤ 255) : bits .and .u8 x 31 = x % 32 :=
  eq_of_beq (byte_of (p := fun x => bits .and .u8 x 31 == x % 32) (by decide +kernel) h0 h1)
theorem and32 {x : Int} (h0 : 0 ≤ x) (h1 : x ≤ 255) : (bits .and .u8 x 32 != 0) = (x / 32 % 2 == 1) :=
  eq_of_beq (byte_of (p := fun x => (bits .and .u8 x 32 != 0) == (x / 32 % 2 == 1)) (by decide +kernel) h0 h1)
theorem w64 {n : Int} (h0 : -9223372036854775808 ≤ n) (h1 : n ≤ 9223372036854775807) : wrap64 n = n := by unfold wrap64; omega
theorem rd_nat (l : List Int) (i : Nat) : rd l (i : Int) = l.getD i 0 := by simp [rd]
theorem drop_rd {l : List Int} {i : Nat} (h : i < l.length) : l.drop i = rd l (i : Int) :: l.drop (i + 1) := by
  rw [List.drop_eq_getElem_cons h, rd_nat, List.getD_eq_getElem?_getD, List.getElem?_eq_getElem h, Option.getD_some]

theorem number_l0 {L : List Int} (hL : okb L = true) (hm : (L.length : Int) < 1000000000) : ∀ (m i : Nat) (acc : Int), m + i = L.length → i ≤ 4 → 0 ≤ acc → acc < 128 ^ i →
    tag_number.l0 (2 * m + 1) L acc L L.length i = some (seven acc i (L.drop i)) := by
  intro m
  induction m with
  | zero =>
    intro i acc h hi h0 h1
    have e : L.drop i = [] := List.drop_eq_nil_of_le (by omega)
    rw [e, tag_number.l0, if_neg (by omega)]
    simp only [seven]
    split <;> split <;> first | rfl | omega
  | succ m ih =>
    intro i acc h hi h0 h1
    have hlt : i < L.length := by omega
    obtain ⟨hc0, hc1⟩ := okb_at hL (i : Int)
    rw [drop_rd hlt, show 2 * (m + 1) + 1 = (2 * m + 1 + 1) + 1 by omega, tag_number.l0, if_pos (by omega), if_pos (by omega), if_pos (by omega)]
    simp only [seven]
    have hp : (128 : Int) ^ i ≤ 128 ^ 4 := by
      rcases (by omega : i = 0 ∨ i = 1 ∨ i = 2 ∨ i = 3 ∨ i = 4) with rfl | rfl | rfl | rfl | rfl <;> decide
    have hp4 : (128 : Int) ^ 4 = 268435456 := by decide
    have hacc : acc < 268435456 := by omega
    generalize hch : rd L (i : Int) = c at *
    have step : ∀ b : Bool, (b = true ↔ (i = 4 ∨ i = 0 ∧ (c = 128 ∨ c < 31))) → tag_number.j1 (2 * m + 1 + 1) L acc i c L L.length i b =
        some (if i = 4 ∨ i = 0 ∧ (c = 128 ∨ c < 31) then (0, 0, 11) else if c < 128 then (acc * 128 + c % 128, (i : Int) + 1, 0) else seven (acc * 128 + c % 128) (i + 1) (L.drop (i + 1))) := by
      intro b hb
      rw [tag_number.j1]
      by_cases hbb : b = true
      · rw [if_pos hbb, if_pos (hb.1 hbb)]
      · rw [if_neg hbb, if_neg (fun hh => hbb (hb.2 hh))]
        have hi4 : i < 4 := by
          rcases Nat.lt_or_ge i 4 with h | h
          · exact h
          · exact absurd (hb.2 (Or.inl (by omega))) hbb
        have hor : bits .or .i64 (wrap64 (acc * 128)) (wrap64 (bits .and .u8 c 127)) = acc * 128 + c % 128 := by
          rw [and127 hc0 hc1, w64 (by omega) (by omega), w64 (by omega) (by omega)]
          exact or_add (n := 7) h0 (by omega) (by show c % 128 < 128; omega) (by show acc * 128 + _ < _; omega)
        rw [hor, and128 hc0 hc1]
        by_cases hc : c < 128
        · rw [if_pos (by omega), if_pos hc, w64 (by omega) (by omega)]
        · rw [if_neg (by omega), if_neg hc, w64 (by omega) (by omega)]
          refine ih (i + 1) _ (by omega) (by omega) (by omega) ?_
          rw [Int.pow_succ]
          omega
    by_cases h4 : (i : Int) = 4
    · rw [if_pos h4, step true (by simp; omega)]
    · rw [if_neg h4]
      by_cases hz : (i : Int) = 0
      · rw [if_pos hz]
        by_cases hc : c = 128
        · rw [if_pos hc, step true (by simp; omega)]
        · rw [if_neg hc, step _ (by simp; omega)]
      · rw [if_neg hz, step false (by simp; omega)]
theorem number_f {l : List Int} (h : okb l = true) (hm : (l.length : Int) < 1000000000) : tag_number.f (2 * l.length + 1) l = some (seven 0 0 l) := by
  unfold tag_number.f
  exact number_l0 h hm l.length 0 0 (by omega) (by omega) (by omega) (by decide)

theorem seven_end (l : List Int) : ∀ (acc : Int) (i : Nat), i ≤ 4 → okb l = true → (seven acc i l).2.2 = 0 ∨ (seven acc i l).2.2 = 10 ∨ (seven acc i l).2.2 = 11 := by
  induction l with
  | nil => intro acc i _ _; simp only [seven]; split <;> simp
  | cons c l ih =>
    intro acc i h hb
    simp only [seven]
    split
    · simp
    · split
      · simp
      · exact ih _ _ (by omega) (okb_sub hb fun x hx => by simp [hx])
theorem seven_used (l : List Int) : ∀ (acc : Int) (i : Nat), i ≤ 4 → 0 ≤ (seven acc i l).2.1 ∧ (seven acc i l).2.1 ≤ 4 := by
  induction l with
  | nil => intro acc i _; simp only [seven]; split <;> simp
  | cons c l ih =>
    intro acc i h
    simp only [seven]
    split
    · simp
    · split
      · simp; omega
      · exact ih _ _ (by omega)

/-- What Read answers. -/
def read5 (l : List Int) : Int × Bool × Int × Int × Int :=
  if l.length = 0 then (0, false, 0, 0, 10) else
  if rd l 0 % 32 < 31 then (rd l 0 / 64, rd l 0 / 32 % 2 == 1, rd l 0 % 32, 1, 0) else
  if (seven 0 0 (l.drop 1)).2.2 = 0 then (rd l 0 / 64, rd l 0 / 32 % 2 == 1, (seven 0 0 (l.drop 1)).1, 1 + (seven 0 0 (l.drop 1)).2.1, 0) else (0, false, 0, 0, (seven 0 0 (l.drop 1)).2.2)
def tag_Read.f (l : List Int) : Option (Int × Bool × Int × Int × Int) := if okb l = true ∧ (l.length : Int) < 1000000000 then some (read5 l) else none

set_option maxHeartbeats 2000000 in
theorem tag_Read.calls (A0 : Option Addr) (c0 : Nat) (l0 : List Int) (r1 : Int) (r2 : Bool) (r3 : Int) (r4 : Int) (r5 : Int) (w : World) (hr0 : Kd.C (Kd.int .u8) w A0 l0.length l0) (hc0 : l0.length ≤ c0) (h : tag_Read.f l0 = some (r1, r2, r3, r4, r5)) :
    Calls Try.prog 41 #[.slice A0 l0.length c0] w fun e w' => e = .returned (.tuple #[.agg #[.int .i64 r1, .bool r2, .int .i64 r3], .int .i64 r4, .int .i64 r5]) ∧ Below w.heap.size w w' := by
  unfold tag_Read.f at h
  split at h
  case isFalse => cases h
  rename_i hh
  have hb := hh.1
  have h := Option.some.inj h
  unfold read5 at h
  by_cases hl : l0.length = 0
  · rw [if_pos hl] at h
    injection h with a1 h; injection h with a2 h; injection h with a3 h; injection h with a4 a5
    subst a1 a2 a3 a4 a5
    rw [hl]
    exact Rd.read_empty A0 c0 w
  · rw [if_neg hl] at h
    obtain ⟨ad, e1, hx⟩ := Kd.at_int hr0 0 (by omega) (by omega)
    subst e1
    have hx : w.cell? ad = some (.int .u8 (rd l0 0)) := hx
    obtain ⟨hc1, hc2⟩ := okb_at hb 0
    have e32 := and32 hc1 hc2
    by_cases h31 : rd l0 0 % 32 < 31
    · rw [if_pos h31] at h
      injection h with a1 h; injection h with a2 h; injection h with a3 h; injection h with a4 a5
      subst a1 a2 a3 a4 a5
      rw [← e32]
      exact Rd.read_short ad l0.length c0 (rd l0 0) w (by omega) hx hc1 hc2 h31
    · rw [if_neg h31] at h
      have hn := number_f (l := l0.drop 1) (okb_drop hb 1) (by simp; omega)
      have hu := seven_used (l0.drop 1) 0 0 (by omega)
      have hH := Rd.read_long _ l0 ad c0 _ _ _ w (by omega) hc0 hr0 hc1 hc2 (by omega) hn hu.1 hu.2
      refine hH.mono ?_
      rintro e w' ⟨rfl, hbl⟩
      refine ⟨?_, hbl⟩
      rw [e32]
      split at h
      · rename_i h0
        injection h with a1 h; injection h with a2 h; injection h with a3 h; injection h with a4 a5
        rw [if_pos h0]
        subst a1 a2 a3 a4 a5
        rfl
      · rename_i h0
        injection h with a1 h; injection h with a2 h; injection h with a3 h; injection h with a4 a5
        rw [if_neg h0]
        subst a1 a2 a3 a4 a5
        rfl

/-- What ReadLen answers. -/
def len3 (l : List Int) : Int × Int × Int :=
  if l.length = 0 then (0, 0, 10) else
  if rd l 0 < 128 then (rd l 0, 1, 0) else
  if rd l 0 = 128 ∨ rd l 0 = 255 then (0, 0, 11) else
  if 132 < rd l 0 then (0, 0, 3) else
  if (l.length : Int) ≤ rd l 0 - 128 then (0, 0, 10) else
  if 2147483647 < big ((l.take (1 + (rd l 0 - 128)).toNat).drop 1) then (0, 0, 3) else (big ((l.take (1 + (rd l 0 - 128)).toNat).drop 1), 1 + (rd l 0 - 128), 0)
def tag_ReadLen.f (l : List Int) : Option (Int × Int × Int) := if okb l = true then some (len3 l) else none
set_option maxHeartbeats 2000000 in
theorem tag_ReadLen.calls (A0 : Option Addr) (c0 : Nat) (l0 : List Int) (r1 : Int) (r2 : Int) (r3 : Int) (w : World) (hr0 : Kd.C (Kd.int .u8) w A0 l0.length l0) (hc0 : l0.length ≤ c0) (h : tag_ReadLen.f l0 = some (r1, r2, r3)) :
    Calls Try.prog 42 #[.slice A0 l0.length c0] w fun e w' => e = .returned (.tuple #[.int .i64 r1, .int .i64 r2, .int .i64 r3]) ∧ Below w.heap.size w w' := by
  unfold tag_ReadLen.f at h
  split at h
  case isFalse => cases h
  rename_i hb
  have h := Option.some.inj h
  suffices hs : Calls Try.prog 42 #[.slice A0 l0.length c0] w fun e w' => e = .returned (three r1 r2 r3) ∧ w = w' by
    refine hs.mono ?_
    rintro e w' ⟨rfl, rfl⟩
    exact ⟨rfl, Below.refl _ _⟩
  unfold len3 at h
  by_cases hl : l0.length = 0
  · rw [if_pos hl] at h
    injection h with a1 h; injection h with a2 a3
    subst a1 a2 a3
    rw [hl]
    exact rl_empty A0 c0 w
  · rw [if_neg hl] at h
    obtain ⟨ad, e1, hx⟩ := Kd.at_int hr0 0 (by omega) (by omega)
    subst e1
    have hx : w.cell? ad = some (.int .u8 (rd l0 0)) := hx
    obtain ⟨hc1, hc2⟩ := okb_at hb 0
    by_cases h1 : rd l0 0 < 128
    · rw [if_pos h1] at h
      injection h with a1 h; injection h with a2 a3
      subst a1 a2 a3
      exact rl_short ad _ c0 _ w (by omega) hx hc1 h1
    rw [if_neg h1] at h
    by_cases h2 : rd l0 0 = 128 ∨ rd l0 0 = 255
    · rw [if_pos h2] at h
      injection h with a1 h; injection h with a2 a3
      subst a1 a2 a3
      exact rl_form ad _ c0 _ w (by omega) hx h2
    rw [if_neg h2] at h
    by_cases h3 : 132 < rd l0 0
    · rw [if_pos h3] at h
      injection h with a1 h; injection h with a2 a3
      subst a1 a2 a3
      exact rl_big ad _ c0 _ w (by omega) hx h3 (by omega)
    rw [if_neg h3] at h
    by_cases h4 : (l0.length : Int) ≤ rd l0 0 - 128
    · rw [if_pos h4] at h
      injection h with a1 h; injection h with a2 a3
      subst a1 a2 a3
      exact rl_end ad _ c0 _ w (by omega) hx (by omega) (by omega) h4
    rw [if_neg h4] at h
    have hH := rl_read ad c0 l0 _ (rd l0 0) w hr0 hc0 (okb_drop (okb_take hb (1 + (rd l0 0 - 128)).toNat) 1) hx (by omega) (by omega) (by omega) rfl (by rw [List.length_drop, List.length_take]; omega)
    refine hH.mono ?_
    rintro e w' ⟨rfl, hw⟩
    refine ⟨?_, hw⟩
    split at h
    · rename_i h0
      injection h with a1 h; injection h with a2 a3
      rw [if_pos h0]
      subst a1 a2 a3
      rfl
    · rename_i h0
      injection h with a1 h; injection h with a2 a3
      rw [if_neg h0]
      subst a1 a2 a3
      rfl
end Go.Proofs.Ytkhghgmonjebnaa.H
