/- What Put and PutLen answer, as functions on lists of bytes; their contracts. Condition: the slice holds bytes, not too many of them. -/
import Derived.Test.YtkhghgmonjebnaaPutLen
namespace Go.Proofs.Ytkhghgmonjebnaa.H
open Go.RowKit Go.Proofs.YtkhghgmonjebnaaW.PrintWords Go.Proofs.YtkhghgmonjebnaaW.PrintLast Go.Proofs.YtkhghgmonjebnaaW.PrintMore
set_option linter.unusedVariables false
set_option linter.unusedSimpArgs false

/-- How many groups behind the first. -/
def m7 (n : Int) : Nat := if n < 128 then 0 else if n < 16384 then 1 else if n < 2097152 then 2 else 3
def m8 (n : Int) : Nat := if n < 256 then 0 else if n < 65536 then 1 else if n < 16777216 then 2 else if n < 4294967296 then 3 else if n < 1099511627776 then 4 else if n < 281474976710656 then 5 else if n < 72057594037927936 then 6 else 7
theorem m7_most (n : Int) : m7 n ≤ 3 := by unfold m7; repeat' split <;> try omega
theorem m8_most (n : Int) : m8 n ≤ 7 := by unfold m8; repeat' split <;> try omega
theorem m7_top {n : Int} (h1 : n < 268435456) : n / 2 ^ (7 * m7 n) < 128 := by
  unfold m7
  repeat' split
  all_goals simp only [Nat.mul_zero, Nat.mul_one, Nat.reduceMul, Int.reducePow]; omega
theorem m7_low {n : Int} (j : Nat) (h : j < m7 n) : 128 ≤ n / 2 ^ (7 * j) := by
  have hj : j = 0 ∨ j = 1 ∨ j = 2 := by have := m7_most n; omega
  unfold m7 at h
  repeat' split at h
  all_goals first | omega | (rcases hj with rfl | rfl | rfl <;> first | omega | (simp only [Nat.mul_zero, Nat.mul_one, Nat.reduceMul, Int.reducePow]; omega))
theorem m8_top {n : Int} (h1 : n < 9223372036854775808) : n / 2 ^ (8 * m8 n) < 256 := by
  unfold m8
  repeat' split
  all_goals simp only [Nat.mul_zero, Nat.mul_one, Nat.reduceMul, Int.reducePow]; omega
theorem m8_low {n : Int} (j : Nat) (h : j < m8 n) : 256 ≤ n / 2 ^ (8 * j) := by
  have hj : j = 0 ∨ j = 1 ∨ j = 2 ∨ j = 3 ∨ j = 4 ∨ j = 5 ∨ j = 6 := by have := m8_most n; omega
  unfold m8 at h
  repeat' split at h
  all_goals first | omega | (rcases hj with rfl | rfl | rfl | rfl | rfl | rfl | rfl <;> first | omega | (simp only [Nat.mul_zero, Nat.mul_one, Nat.reduceMul, Int.reducePow]; omega))

/-- What Put answers. -/
def put (l : List Int) (cl : Int) (md : Bool) (nn : Int) : List Int :=
  if right cl nn then (if nn < 31 then l ++ [cl * 64 + (if md then 32 else 0) + nn] else l ++ [cl * 64 + (if md then 32 else 0) + 31] ++ grp7 nn (m7 nn)) else l
def tag_Put.f (l0 : List Int) (a1_0 : Int) (a1_1 : Bool) (a1_2 : Int) : Option (List Int) := if l0.length < 140737488350000 then some (put l0 a1_0 a1_1 a1_2) else none
theorem tag_Put.calls (A0 : Option Addr) (c0 : Nat) (l0 : List Int) (a1_0 : Int) (a1_1 : Bool) (a1_2 : Int) (r : List Int) (w : World) (hr0 : Kd.C (Kd.int .u8) w A0 l0.length l0) (hc0 : l0.length ≤ c0) (h : tag_Put.f l0 a1_0 a1_1 a1_2 = some r) :
    Calls Try.prog 38 #[.slice A0 l0.length c0, .agg #[.int .i64 a1_0, .bool a1_1, .int .i64 a1_2]] w fun e w' => ∃ v0_ : Value, e = .returned (v0_) ∧ Kd.R (Kd.int .u8) 5 w' w.heap.size (fun _ => True) v0_ r ∧ Below w.heap.size w w' := by
  unfold tag_Put.f at h
  split at h
  case isFalse => cases h
  rename_i hl
  obtain rfl := Option.some.inj h
  unfold put
  by_cases hr : right a1_0 a1_2 = true
  · have hr2 := hr
    simp [right] at hr2
    rw [if_pos hr]
    by_cases hn : a1_2 < 31
    · rw [if_pos hn]
      exact put_short A0 c0 l0 a1_0 a1_2 a1_1 w hr0 hc0 hl (by omega) (by omega) (by omega) hn
    · rw [if_neg hn]
      exact put_long A0 c0 l0 a1_0 a1_2 a1_1 (m7 a1_2) w hr0 hc0 hl (by omega) (by omega) (by omega) (by omega) (m7_most _) (m7_top (by omega)) m7_low
  · rw [if_neg hr]
    exact put_not A0 c0 l0 a1_0 a1_2 a1_1 w hr0 hc0 hl (by simpa using hr)

/-- What PutLen answers. -/
def putLen (l : List Int) (n : Int) : List Int := if n < 0 then l else if n < 128 then l ++ [n] else l ++ [128 + ((m8 n : Int) + 1)] ++ grp8 n (m8 n)
def tag_PutLen.f (l0 : List Int) (a1 : Int) : Option (List Int) := if l0.length < 140737488350000 ∧ a1 < 9223372036854775808 then some (putLen l0 a1) else none
theorem tag_PutLen.calls (A0 : Option Addr) (c0 : Nat) (l0 : List Int) (a1 : Int) (r : List Int) (w : World) (hr0 : Kd.C (Kd.int .u8) w A0 l0.length l0) (hc0 : l0.length ≤ c0) (h : tag_PutLen.f l0 a1 = some r) :
    Calls Try.prog 19 #[.slice A0 l0.length c0, .int .i64 a1] w fun e w' => ∃ v0_ : Value, e = .returned (v0_) ∧ Kd.R (Kd.int .u8) 5 w' w.heap.size (fun _ => True) v0_ r ∧ Below w.heap.size w w' := by
  unfold tag_PutLen.f at h
  split at h
  case isFalse => cases h
  rename_i hh
  obtain ⟨hl, hb⟩ := hh
  obtain rfl := Option.some.inj h
  unfold putLen
  by_cases h0 : a1 < 0
  · rw [if_pos h0]
    exact putLen_not A0 c0 l0 a1 w hr0 hc0 hl h0
  · rw [if_neg h0]
    by_cases h1 : a1 < 128
    · rw [if_pos h1]
      exact putLen_short A0 c0 l0 a1 w hr0 hc0 hl (by omega) h1
    · rw [if_neg h1]
      exact putLen_long A0 c0 l0 a1 (m8 a1) w hr0 hc0 hl (by omega) hb (m8_most _) (m8_top hb) m8_low
end Go.Proofs.Ytkhghgmonjebnaa.H
