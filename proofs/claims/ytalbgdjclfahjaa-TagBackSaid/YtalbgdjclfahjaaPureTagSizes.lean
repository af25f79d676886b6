/- The sizes of tags and lengths: the statement over numbers, and the walk. Conditions: none beyond the statement's own. -/
import Derived.Test.YtalbgdjclfahjaaLTagSizesx1
import Derived.Test.YtalbgdjclfahjaaPureTagPuts
namespace Go.Proofs.Ytalbgdjclfahjaa.Pure
open Go.RowKit Go.Proofs.Ytalbgdjclfahjaa.LTagSizes Go.Proofs.Ytalbgdjclfahjaa.H Go.Proofs.YtalbgdjclfahjaaW.PrintWords Go.Proofs.YtalbgdjclfahjaaW.PrintLast
open Go.Proofs.Ytalbgdjclfahjaa.PTagPuts

/-- How many groups a number needs. -/
def gs (b : Int) : Nat → Int → Nat
  | 0, _ => 0
  | c + 1, x => if x > 0 then gs b c (x / b) + 1 else 0
theorem gs_le (b : Int) : ∀ c x, gs b c x ≤ c := by
  intro c
  induction c with
  | zero => intro x; simp [gs]
  | succ c ih =>
    intro x
    have := ih (x / b)
    simp only [gs]
    split <;> omega

theorem grp7_len (n : Int) (m : Nat) : (grp7 n m).length = m + 1 := by
  induction m with
  | zero => rfl
  | succ m ih => simp [grp7, ih]

theorem gs7 {n : Int} (h0 : 1 ≤ n) (h1 : n < 268435456) : gs 128 10 n = m7 n + 1 := by
  unfold m7
  simp only [gs]
  repeat' split
  all_goals omega
theorem gs8 {n : Int} (h0 : 1 ≤ n) (h1 : n < 2147483648) : gs 256 5 n = m8 n + 1 := by
  unfold m8
  simp only [gs]
  repeat' split
  all_goals omega

theorem sz_l0 (x1 cl nn : Int) (md : Bool) (h31 : nn ≥ 31) (K : Nat) : ∀ (c : Nat) (x6 x5 : Int), x6 < 128 ^ c → 0 ≤ x5 → x5 + c < 1000 →
    peeragelaw01_TagSizes.l0 (K + gs 128 c x6 + 1) x1 x5 x6 cl md nn = peeragelaw01_TagSizes.l1 K x1 (x5 + gs 128 c x6) 1 x1 cl md nn := by
  intro c
  induction c with
  | zero =>
    intro x6 x5 h h0 h1
    have h : x6 < 1 := h
    rw [peeragelaw01_TagSizes.l0, if_pos h31, if_neg (by omega)]
    simp [gs]
  | succ c ih =>
    intro x6 x5 h h0 h1
    simp only [gs]
    by_cases hx : x6 > 0
    · rw [if_pos hx, show K + (gs 128 c (x6 / 128) + 1) + 1 = (K + gs 128 c (x6 / 128) + 1) + 1 by omega, peeragelaw01_TagSizes.l0, if_pos h31, if_pos hx, w64_ (by omega) (by omega), ih (x6 / 128) (x5 + 1) (by rw [Int.pow_succ] at h; omega) (by omega) (by omega)]
      congr 1
      omega
    · rw [if_neg hx, peeragelaw01_TagSizes.l0, if_pos h31, if_neg hx]
      simp

theorem sz_end {x1 x5 x7 cl nn : Int} {md : Bool} (h0 : 0 ≤ x1) (h1 : x1 < 2147483648) (h5 : right cl nn = true → ((put [] cl md nn).length : Int) = x5) (h7 : ((putLen [] x1).length : Int) = x7) :
    ((tag_Right.f cl md nn).bind fun t103 => (if t103 = true then ((tag_Put.f ([] : List Int) cl md nn).bind fun t104 => (if (t104.length : Int) = x5 then ((tag_PutLen.f ([] : List Int) x1).bind fun t107 => (if (t107.length : Int) = x7 then ((tag_PutLen.f ([] : List Int) (-1)).bind fun t110 => (some ((t110.length : Int) == 0))) else (some false))) else (some false))) else ((tag_PutLen.f ([] : List Int) x1).bind fun t113 => (if (t113.length : Int) = x7 then ((tag_PutLen.f ([] : List Int) (-1)).bind fun t116 => (some ((t116.length : Int) == 0))) else (some false))))) = some true := by
  have e1 : tag_Put.f ([] : List Int) cl md nn = some (put [] cl md nn) := by unfold tag_Put.f; rw [if_pos (by simp)]
  have e2 : tag_PutLen.f ([] : List Int) x1 = some (putLen [] x1) := by unfold tag_PutLen.f; rw [if_pos ⟨by simp, by omega⟩]
  have e3 : tag_PutLen.f ([] : List Int) (-1) = some [] := by decide +kernel
  rw [(right_f cl nn md).1, e1, e2, e3]
  simp only [Option.bind_some]
  by_cases hr : right cl nn = true
  · rw [if_pos hr, if_pos (h5 hr), if_pos h7]; rfl
  · rw [if_neg hr, if_pos h7]; rfl

theorem sz_l1 (x1 x5 cl nn : Int) (md : Bool) (h0 : 0 ≤ x1) (h1 : x1 < 2147483648) (h5 : right cl nn = true → ((put [] cl md nn).length : Int) = x5) : ∀ (c : Nat) (x8 x7 : Int), x8 < 256 ^ c → 0 ≤ x7 → x7 + c < 1000 → ((putLen [] x1).length : Int) = (if x1 ≥ 128 then x7 + gs 256 c x8 else x7) →
    peeragelaw01_TagSizes.l1 (c + 1) x1 x5 x7 x8 cl md nn = some true := by
  intro c
  induction c with
  | zero =>
    intro x8 x7 h g0 g1 h7
    have h : x8 < 1 := h
    rw [peeragelaw01_TagSizes.l1]
    by_cases hx : x1 ≥ 128
    · rw [if_pos hx] at h7 ⊢
      rw [if_neg (by omega)]
      exact sz_end h0 h1 h5 (by simpa [gs] using h7)
    · rw [if_neg hx] at h7 ⊢
      exact sz_end h0 h1 h5 h7
  | succ c ih =>
    intro x8 x7 h g0 g1 h7
    rw [peeragelaw01_TagSizes.l1]
    by_cases hx : x1 ≥ 128
    · rw [if_pos hx] at h7 ⊢
      simp only [gs] at h7
      by_cases h8 : x8 > 0
      · rw [if_pos h8] at h7 ⊢
        rw [w64_ (by omega) (by omega)]
        exact ih (x8 / 256) (x7 + 1) (by rw [Int.pow_succ] at h; omega) (by omega) (by omega) (by rw [if_pos hx]; omega)
      · rw [if_neg h8] at h7 ⊢
        exact sz_end h0 h1 h5 (by simpa using h7)
    · rw [if_neg hx] at h7 ⊢
      exact sz_end h0 h1 h5 h7

theorem and31_ (n : Int) : bits .and .i64 n 2147483647 = n % 2147483648 := by
  have h127 : (BitVec.ofInt 64 2147483647).toNat = 2 ^ 31 - 1 := by decide
  have key : (BitVec.ofInt 64 n &&& BitVec.ofInt 64 2147483647).toNat = (n % ((2 ^ 64 : Nat) : Int)).toNat % 2 ^ 31 := by
    rw [BitVec.toNat_and, BitVec.toNat_ofInt, h127, Nat.and_two_pow_sub_one_eq_mod]
  show IntKind.i64.wrap ((BitVec.ofInt 64 n &&& BitVec.ofInt 64 2147483647).toNat : Nat) = n % 2147483648
  rw [key, IntKind.wrap_i64]
  omega

theorem sizes_f (cl nn n : Int) (md : Bool) (hn : nn ≤ 9223372036854775807) : ∃ k, peeragelaw01_TagSizes.f k cl md nn n = some true := by
  unfold peeragelaw01_TagSizes.f
  rw [and31_]
  have h0 : 0 ≤ n % 2147483648 := by omega
  have h1 : n % 2147483648 < 2147483648 := by omega
  generalize n % 2147483648 = x1 at *
  have h7 : ((putLen [] x1).length : Int) = (if x1 ≥ 128 then 1 + (gs 256 5 x1 : Int) else 1) := by
    unfold putLen
    rw [if_neg (by omega)]
    by_cases hx : x1 < 128
    · rw [if_pos hx, if_neg (by omega)]; rfl
    · rw [if_neg hx, if_pos (by omega), gs8 (by omega) h1]
      simp [grp8_len]
      omega
  by_cases h31 : nn ≥ 31
  · have hL := sz_l0 x1 cl nn md h31 6 10 nn 1 (by have : (128 : Int) ^ 10 = 1180591620717411303424 := by decide
                                                   omega) (by omega) (by omega)
    refine ⟨_, hL.trans ?_⟩
    refine sz_l1 x1 _ cl nn md h0 h1 ?_ 5 x1 1 (by have : (256 : Int) ^ 5 = 1099511627776 := by decide
                                                   omega) (by omega) (by omega) h7
    intro hr
    have hr2 := hr
    simp [right] at hr2
    unfold put
    rw [if_pos hr, if_neg (by omega), gs7 (by omega) (by omega)]
    simp [grp7_len]
    omega
  · refine ⟨7, ?_⟩
    rw [peeragelaw01_TagSizes.l0, if_neg h31]
    refine sz_l1 x1 _ cl nn md h0 h1 ?_ 5 x1 1 (by have : (256 : Int) ^ 5 = 1099511627776 := by decide
                                                   omega) (by omega) (by omega) h7
    intro hr
    unfold put
    rw [if_pos hr, if_pos (by omega)]
    rfl

theorem sizes_walk (cl : Int) (md : Bool) (nn n : Int) (w : World) (hn : nn ≤ 9223372036854775807) :
    Calls Try.prog 5 #[.agg #[.int .i64 cl, .bool md, .int .i64 nn], .int .i64 n] w fun e w' => e = .returned (.bool true) ∧ Below w.heap.size w w' := by
  obtain ⟨k, h⟩ := sizes_f cl nn n md hn
  exact peeragelaw01_TagSizes.calls k cl md nn n w h
end Go.Proofs.Ytalbgdjclfahjaa.Pure
