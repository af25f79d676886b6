/- A number's bytes are read back. Plain Lean. -/
import Derived.Test.YtcbppladofnnlaaDoorHand2
namespace Go.Proofs.YtcbppladofnnlaaDoor.M
open Go.RowKit Go.Proofs.YtcbppladofnnlaaDoor.H Go.Proofs.YtcbppladofnnlaaDoorW.PrintWords Go.Proofs.YtcbppladofnnlaaDoorW.PrintLast
set_option linter.unusedVariables false
set_option linter.unusedSimpArgs false
theorem stp_eq (n : Int) {c : Int} (h0 : 0 ≤ c) (h1 : c ≤ 255) : stp n c = wrap64 (n * 256 + c) := by
  unfold stp Go.bits
  show IntKind.i64.wrap (((BitVec.ofInt (IntKind.bits .i64) (wrap64 (n * 256)) ||| BitVec.ofInt (IntKind.bits .i64) (wrap64 c)).toNat : Nat) : Int) = wrap64 (n * 256 + c)
  rw [i64_w]
  have e64 : IntKind.bits .i64 = 64 := rfl
  rw [e64, BitVec.toNat_or, BitVec.toNat_ofInt, BitVec.toNat_ofInt]
  have wc : wrap64 c = c := by unfold wrap64; omega
  rw [wc]
  have ha : (wrap64 (n * 256) % ((2 ^ 64 : Nat) : Int)) = n * 256 % 18446744073709551616 := by
    show wrap64 (n * 256) % 18446744073709551616 = _
    unfold wrap64
    omega
  have hc : c % ((2 ^ 64 : Nat) : Int) = c := by
    show c % 18446744073709551616 = _
    omega
  rw [ha, hc]
  obtain ⟨q, hq⟩ : ∃ q : Nat, (n * 256 % 18446744073709551616).toNat = 2 ^ 8 * q := ⟨(n * 256 % 18446744073709551616).toNat / 256, by omega⟩
  have hcn : c.toNat < 2 ^ 8 := by omega
  rw [hq, ← Nat.two_pow_add_eq_or_of_lt hcn]
  have : ((2 ^ 8 * q + c.toNat : Nat) : Int) = n * 256 % 18446744073709551616 + c := by omega
  rw [this]
  unfold wrap64
  omega
def lin (n c : Int) : Int := n * 256 + c
theorem lin_add (l : List Int) : ∀ (m t : Int), l.foldl lin (m + 18446744073709551616 * t) = l.foldl lin m + 18446744073709551616 * (t * 256 ^ l.length) := by
  induction l with
  | nil => intro m t; simp
  | cons c l ih =>
    intro m t
    simp only [List.foldl_cons]
    rw [show lin (m + 18446744073709551616 * t) c = lin m c + 18446744073709551616 * (t * 256) by unfold lin; omega, ih, List.length_cons, Int.pow_succ, Int.mul_assoc, Int.mul_comm 256]
theorem wrap_mod (m t : Int) : wrap64 (m + 18446744073709551616 * t) = wrap64 m := by unfold wrap64; omega
theorem wrap_as (m : Int) : ∃ t, wrap64 m = m + 18446744073709551616 * t := ⟨-((m + 9223372036854775808) / 18446744073709551616), by unfold wrap64; omega⟩
theorem fold_stp (l : List Int) : ∀ (n : Int), okb l = true → -9223372036854775808 ≤ n → n ≤ 9223372036854775807 → l.foldl stp n = wrap64 (l.foldl lin n) := by
  induction l with
  | nil => intro n _ h0 h1; simp only [List.foldl_nil]; unfold wrap64; omega
  | cons c l ih =>
    intro n hb h0 h1
    obtain ⟨c0, c1, hb⟩ := okb_cons hb
    simp only [List.foldl_cons]
    rw [stp_eq n c0 c1, ih _ hb (by unfold wrap64; omega) (by unfold wrap64; omega)]
    obtain ⟨t, ht⟩ := wrap_as (n * 256 + c)
    rw [ht, lin_add, wrap_mod]
    rfl
/-- The number of bytes. -/
def sb (a : Int) : Int := if 127 < a then a - 256 else a
def V : List Int → Int
  | [] => 0
  | a :: r => r.foldl lin (sb a)
theorem first_sb {a : Int} {r : List Int} (h0 : 0 ≤ a) (h1 : a ≤ 255) : first (a :: r) = sb a := by
  unfold first
  rw [show rd (a :: r) 0 = a from rfl]
  exact eq_of_beq (of_256 (p := fun a => wrap64 (IntKind.i8.wrap a) == sb a) (by decide +kernel) h0 h1)
theorem V_norm : ∀ (l : List Int), okb l = true → V (norm l) = V l
  | [], _ => rfl
  | [a], _ => rfl
  | a :: b :: r, h => by
    obtain ⟨a0, a1, h2⟩ := okb_cons h
    obtain ⟨b0, b1, h3⟩ := okb_cons h2
    rw [norm]
    split
    · rename_i hi
      rw [V_norm (b :: r) h2]
      simp only [V, List.foldl_cons]
      congr 1
      simp only [idle, Bool.or_eq_true, Bool.and_eq_true, beq_iff_eq, decide_eq_true_eq] at hi
      unfold sb lin
      rcases hi with ⟨rfl, h⟩ | ⟨rfl, h⟩ <;> split <;> simp <;> omega
    · rfl
theorem norm_okb : ∀ (l : List Int), okb l = true → okb (norm l) = true
  | [], _ => rfl
  | a :: r, h => by
    obtain ⟨_, _, h2⟩ := okb_cons h
    rw [norm]
    split
    · exact norm_okb r h2
    · exact h
theorem norm_le : ∀ (l : List Int), (norm l).length ≤ l.length
  | [] => Nat.le_refl _
  | a :: r => by
    rw [norm]
    split
    · have := norm_le r
      simp
      omega
    · exact Nat.le_refl _
theorem norm_idle : ∀ (l : List Int), idle (norm l) = false
  | [] => rfl
  | a :: r => by
    rw [norm]
    split
    · exact norm_idle r
    · rename_i h
      simpa using h
theorem norm_ne : ∀ (l : List Int), l ≠ [] → norm l ≠ []
  | [], h => absurd rfl h
  | [a], _ => by simp [norm, idle]
  | a :: b :: r, _ => by
    rw [norm]
    split
    · exact norm_ne (b :: r) (by simp)
    · simp
theorem V_full (x : Int) (h0 : -9223372036854775808 ≤ x) (h1 : x ≤ 9223372036854775807) : V (full x) = x := by
  have e : full x = [x / 72057594037927936 % 256, x / 281474976710656 % 256, x / 1099511627776 % 256, x / 4294967296 % 256, x / 16777216 % 256, x / 65536 % 256, x / 256 % 256, x / 1 % 256] := rfl
  rw [e]
  simp only [V, List.foldl_cons, List.foldl_nil, lin]
  have s : sb (x / 72057594037927936 % 256) = x / 72057594037927936 := by unfold sb; split <;> omega
  rw [s]
  have e1 : x / 72057594037927936 = x / 281474976710656 / 256 := by rw [Int.ediv_ediv_of_nonneg (by decide)]; rfl
  have e2 : x / 281474976710656 = x / 1099511627776 / 256 := by rw [Int.ediv_ediv_of_nonneg (by decide)]; rfl
  have e3 : x / 1099511627776 = x / 4294967296 / 256 := by rw [Int.ediv_ediv_of_nonneg (by decide)]; rfl
  have e4 : x / 4294967296 = x / 16777216 / 256 := by rw [Int.ediv_ediv_of_nonneg (by decide)]; rfl
  have e5 : x / 16777216 = x / 65536 / 256 := by rw [Int.ediv_ediv_of_nonneg (by decide)]; rfl
  have e6 : x / 65536 = x / 256 / 256 := by rw [Int.ediv_ediv_of_nonneg (by decide)]; rfl
  have k : ∀ q : Int, q / 256 * 256 + q % 256 = q := fun q => by omega
  rw [e1, k, e2, k, e3, k, e4, k, e5, k, e6, k, Int.ediv_one, k]
theorem full_ne (x : Int) : full x ≠ [] := by simp [full]
theorem rdw_norm (x : Int) (h0 : -9223372036854775808 ≤ x) (h1 : x ≤ 9223372036854775807) : rdw (norm (full x)) = (x, 0) ∧ 1 ≤ (norm (full x)).length ∧ (norm (full x)).length ≤ 8 := by
  have hv := V_norm (full x) (full_okb x)
  rw [V_full x h0 h1] at hv
  have hb := norm_okb (full x) (full_okb x)
  have hl := norm_le (full x)
  have hi := norm_idle (full x)
  have hn := norm_ne (full x) (full_ne x)
  rw [full_length] at hl
  generalize norm (full x) = l at *
  cases l with
  | nil => exact absurd rfl hn
  | cons a r =>
    obtain ⟨a0, a1, hb2⟩ := okb_cons hb
    refine ⟨?_, by simp, hl⟩
    unfold rdw
    rw [if_neg (by simp [hi]), if_neg (by omega), first_sb a0 a1, List.drop_one, List.tail_cons, fold_stp r _ hb2 (by unfold sb; split <;> omega) (by unfold sb; split <;> omega)]
    rw [show r.foldl lin (sb a) = x from hv]
    rw [show wrap64 x = x by unfold wrap64; omega]
theorem rdw_more {l : List Int} (hb : okb l = true) (hn : l ≠ []) : (rdw ([(((rd l 0) / 128) * 255) % 256] ++ l)).2 = 11 := by
  cases l with
  | nil => exact absurd rfl hn
  | cons a r =>
    obtain ⟨a0, a1, _⟩ := okb_cons hb
    rw [show rd (a :: r) 0 = a from rfl]
    have : idle ((a / 128 * 255 % 256) :: a :: r) = true := by
      simp only [idle, Bool.or_eq_true, Bool.and_eq_true, beq_iff_eq, decide_eq_true_eq]
      by_cases h : a < 128
      · exact .inl ⟨by omega, h⟩
      · exact .inr ⟨by omega, by omega⟩
    unfold rdw
    rw [List.singleton_append, if_pos (.inr this)]
end Go.Proofs.YtcbppladofnnlaaDoor.M
