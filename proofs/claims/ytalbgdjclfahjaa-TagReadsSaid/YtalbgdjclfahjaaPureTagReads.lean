/- What Read and ReadLen answer is the document's answer: the statement over lists of bytes. Conditions: none beyond the statement's own. -/
import Derived.Test.YtalbgdjclfahjaaLTagReadsx2
namespace Go.Proofs.Ytalbgdjclfahjaa.Pure
open Go.RowKit Go.Proofs.Ytalbgdjclfahjaa.LTagReads Go.Proofs.Ytalbgdjclfahjaa.H Go.Proofs.YtalbgdjclfahjaaW.PrintWords Go.Proofs.YtalbgdjclfahjaaW.PrintLast
open Go.Proofs.Ytalbgdjclfahjaa.PTagReads

theorem okb_of {l : List Int} (h : ∀ x ∈ l, (Lit.int .u8 x).wf = true) : okb l = true := by
  unfold okb
  rw [List.all_eq_true]
  intro x hx
  have := h x hx
  simp [Lit.wf, IntKind.min, IntKind.max, IntKind.signed, IntKind.bits] at this ⊢
  omega

def out5 (cl : Int) (md : Bool) (t : Int × Int × Int) : Int × Bool × Int × Int × Int := if t.2.2 = 0 then (cl, md, t.1, 1 + t.2.1, 0) else (0, false, 0, 0, t.2.2)
theorem read_l0 {L : List Int} (hL : okb L = true) (hm : (L.length : Int) < 1000000000) (cl : Int) (md : Bool) : ∀ (m i : Nat) (acc : Int), m + i = L.length → 1 ≤ i → i ≤ 5 → 0 ≤ acc → acc < 128 ^ (i - 1) →
    peerageref01_Read.l0 (2 * m + 1) L cl md acc i = some (out5 cl md (seven acc (i - 1) (L.drop i))) := by
  intro m
  induction m with
  | zero =>
    intro i acc h hi1 hi h0 h1
    have e : L.drop i = [] := List.drop_eq_nil_of_le (by omega)
    rw [e, peerageref01_Read.l0, if_neg (by omega)]
    simp only [seven]
    by_cases hc : i - 1 ≥ 4
    · rw [if_pos hc, if_pos (by omega)]; rfl
    · rw [if_neg hc, if_neg (by omega)]; rfl
  | succ m ih =>
    intro i acc h hi1 hi h0 h1
    have hlt : i < L.length := by omega
    obtain ⟨hc0, hc1⟩ := okb_at hL (i : Int)
    rw [drop_rd hlt, show 2 * (m + 1) + 1 = (2 * m + 1 + 1) + 1 by omega, peerageref01_Read.l0, if_pos (by omega), if_pos (by omega)]
    simp only [seven]
    have hp : (128 : Int) ^ (i - 1) ≤ 128 ^ 4 := by
      rcases (by omega : i - 1 = 0 ∨ i - 1 = 1 ∨ i - 1 = 2 ∨ i - 1 = 3 ∨ i - 1 = 4) with e | e | e | e | e <;> rw [e] <;> decide
    have hp4 : (128 : Int) ^ 4 = 268435456 := by decide
    have hacc : acc < 268435456 := by omega
    generalize hch : rd L (i : Int) = c at *
    rw [w64 (n := c) (by omega) (by omega)]
    have step : ∀ b : Bool, (b = true ↔ (i - 1 = 4 ∨ i - 1 = 0 ∧ (c = 128 ∨ c < 31))) → peerageref01_Read.j1 (2 * m + 1 + 1) L cl md acc i c b =
        some (out5 cl md (if i - 1 = 4 ∨ i - 1 = 0 ∧ (c = 128 ∨ c < 31) then ((0 : Int), (0 : Int), (11 : Int)) else if c < 128 then (acc * 128 + c % 128, ((i - 1 : Nat) : Int) + 1, 0) else seven (acc * 128 + c % 128) (i - 1 + 1) (L.drop (i + 1)))) := by
      intro b hb
      rw [peerageref01_Read.j1]
      by_cases hbb : b = true
      · rw [if_pos hbb, if_pos (hb.1 hbb)]; rfl
      · rw [if_neg hbb, if_neg (fun hh => hbb (hb.2 hh))]
        have hi4 : i - 1 < 4 := by
          rcases Nat.lt_or_ge (i - 1) 4 with h | h
          · exact h
          · exact absurd (hb.2 (Or.inl (by omega))) hbb
        have et : Int.tmod c 128 = c % 128 := Int.tmod_eq_emod_of_nonneg hc0
        rw [et, w64 (n := acc * 128) (by omega) (by omega), w64 (n := acc * 128 + c % 128) (by omega) (by omega), w64 (n := (i : Int) + 1) (by omega) (by omega)]
        by_cases hc : c < 128
        · rw [if_pos hc, if_pos hc]
          unfold out5
          rw [if_pos rfl]
          simp only [Option.some.injEq, Prod.mk.injEq, and_true, true_and]
          omega
        · rw [if_neg hc, if_neg hc]
          have := ih (i + 1) (acc * 128 + c % 128) (by omega) (by omega) (by omega) (by omega) (by rw [show i + 1 - 1 = (i - 1) + 1 by omega, Int.pow_succ]; omega)
          rw [show i + 1 - 1 = i - 1 + 1 by omega] at this
          exact this
    by_cases h4 : (i : Int) > 4
    · rw [if_pos h4, step true (by simp; omega)]
    · rw [if_neg h4]
      by_cases hz : (i : Int) = 1
      · rw [if_pos hz]
        by_cases hc : c = 128
        · rw [if_pos hc, step true (by simp; omega)]
        · rw [if_neg hc, step _ (by simp; omega)]
      · rw [if_neg hz, step false (by simp; omega)]

theorem read_f {l : List Int} (h : okb l = true) (hm : (l.length : Int) < 1000000000) : peerageref01_Read.f (2 * l.length + 1) l = some (read5 l) := by
  unfold peerageref01_Read.f read5
  by_cases hl : l.length = 0
  · rw [if_pos (by omega), if_pos hl]
  rw [if_neg (by omega), if_pos (by omega), if_neg hl]
  obtain ⟨hc0, hc1⟩ := okb_at h 0
  generalize rd l 0 = x at *
  have e1 : wrap64 x = x := w64 (by omega) (by omega)
  rw [e1]
  have e2 : Int.tmod x 32 = x % 32 := Int.tmod_eq_emod_of_nonneg hc0
  have e3 : Int.tdiv x 64 = x / 64 := Int.tdiv_eq_ediv_of_nonneg hc0
  have e4 : Int.tdiv x 32 = x / 32 := Int.tdiv_eq_ediv_of_nonneg hc0
  rw [e2, e3, e4, w64 (n := x / 64) (by omega) (by omega), w64 (n := x / 32) (by omega) (by omega)]
  have e5 : Int.tmod (x / 32) 2 = x / 32 % 2 := Int.tmod_eq_emod_of_nonneg (by omega)
  rw [e5]
  by_cases h31 : x % 32 < 31
  · rw [if_pos h31, if_pos h31]
  rw [if_neg h31, if_neg h31]
  have hz := read_l0 h hm (x / 64) (x / 32 % 2 == 1) (l.length - 1) 1 0 (by omega) (by omega) (by omega) (by omega) (by decide)
  rw [show 2 * (l.length - 1) + 1 = 2 * l.length - 1 by omega] at hz
  exact at_rounds (g := fun k => peerageref01_Read.l0 k l (x / 64) (x / 32 % 2 == 1) 0 1) (fun k => (peerageref01_Read.mono_l k).1 _ _ _ _ _) (by omega) hz

theorem len_l0 {L y : List Int} (hL : okb L = true) (c : Int) (h0 : 0 ≤ c) (h4 : c ≤ 4) (hlen : c < (L.length : Int)) (hy : y = (L.take (1 + c).toNat).drop 1) : ∀ (m i : Nat), (m : Int) + i = c + 1 → 1 ≤ i →
    peerageref01_ReadLen.l0 (m + 1) L c (big (y.take (i - 1))) i = some (if 2147483647 < big y then (0, 0, 3) else (big y, 1 + c, 0)) := by
  have hyl : (y.length : Int) = c := by rw [hy, List.length_drop, List.length_take]; omega
  have hyb : okb y = true := by rw [hy]; exact okb_drop (okb_take hL _) 1
  intro m
  induction m with
  | zero =>
    intro i h hi
    rw [peerageref01_ReadLen.l0, if_neg (by omega)]
    have e : y.take (i - 1) = y := List.take_of_length_le (by omega)
    rw [e]
    by_cases hg : 2147483647 < big y
    · rw [if_pos (by omega), if_pos hg]
    · rw [if_neg (by omega), if_neg hg, w64 (by omega) (by omega), Int.add_comm]
  | succ m ih =>
    intro i h hi
    rw [peerageref01_ReadLen.l0, if_pos (by omega), if_pos (by omega), if_pos (by omega)]
    obtain ⟨hc0, hc1⟩ := okb_at hL (i : Int)
    obtain ⟨hr0, hr1⟩ := big_three (okb_take hyb (i - 1)) (by rw [List.length_take]; omega)
    have e : rd L (i : Int) = rd y ((i - 1 : Nat) : Int) := by
      rw [rd_nat, rd_nat, hy, List.getD_eq_getElem?_getD, List.getD_eq_getElem?_getD, List.getElem?_drop, List.getElem?_take, if_pos (by omega), show 1 + (i - 1) = i by omega]
    have hs : big (y.take (i - 1 + 1)) = big (y.take (i - 1)) * 256 + rd y ((i - 1 : Nat) : Int) := by rw [take_rd (by omega), big_snoc]
    rw [← e] at hs
    rw [w64 (n := rd L (i : Int)) (by omega) (by omega), w64 (n := big (y.take (i - 1)) * 256) (by omega) (by omega), w64 (n := _ + rd L (i : Int)) (by omega) (by omega), ← hs, w64 (n := (i : Int) + 1) (by omega) (by omega)]
    have := ih (i + 1) (by omega) (by omega)
    rw [show i + 1 - 1 = i - 1 + 1 by omega] at this
    exact this

theorem len_f {l : List Int} (h : okb l = true) : peerageref01_ReadLen.f 6 l = some (len3 l) := by
  unfold peerageref01_ReadLen.f len3
  by_cases hl : l.length = 0
  · rw [if_pos (by omega), if_pos hl]
  rw [if_neg (by omega), if_pos (by omega), if_neg hl]
  obtain ⟨hc0, hc1⟩ := okb_at h 0
  generalize hx : rd l 0 = x at *
  rw [w64 (n := x) (by omega) (by omega)]
  by_cases h1 : x < 128
  · rw [if_pos h1, if_pos h1]
  rw [if_neg h1, if_neg h1]
  by_cases h2 : x = 128
  · rw [if_pos h2, if_pos (Or.inl h2), peerageref01_ReadLen.j0, if_pos rfl]
  rw [if_neg h2, peerageref01_ReadLen.j0]
  by_cases h3 : x = 255
  · rw [if_pos (by simpa using h3), if_pos (Or.inr h3)]
  rw [if_neg (by simpa using h3), if_neg (show ¬ (x = 128 ∨ x = 255) by omega), w64 (n := x - 128) (by omega) (by omega)]
  by_cases h4 : 132 < x
  · rw [if_pos (by omega), if_pos h4]
  rw [if_neg (by omega), if_neg h4]
  by_cases h5 : (l.length : Int) ≤ x - 128
  · rw [if_pos h5, if_pos h5]
  rw [if_neg h5, if_neg h5]
  have hz := len_l0 (y := (l.take (1 + (x - 128)).toNat).drop 1) h (x - 128) (by omega) (by omega) (by omega) rfl (x - 128).toNat 1 (by omega) (by omega)
  have hz' : peerageref01_ReadLen.l0 ((x - 128).toNat + 1) l (x - 128) 0 1 = _ := hz
  exact at_rounds (g := fun k => peerageref01_ReadLen.l0 k l (x - 128) 0 1) (fun k => (peerageref01_ReadLen.mono_l k).2 _ _ _ _) (by omega) hz'

theorem body {l : List Int} (h : okb l = true) (hm : (l.length : Int) < 1000000000) {α : Type} (f : (Int × Bool × Int × Int × Int) → (Int × Bool × Int × Int × Int) → (Int × Int × Int) → (Int × Int × Int) → Option α) :
    ((tag_Read.f l).bind fun a => ((peerageref01_Read.f (2 * l.length + 8) l).bind fun b => ((tag_ReadLen.f l).bind fun c => ((peerageref01_ReadLen.f (2 * l.length + 8) l).bind fun d => f a b c d)))) = f (read5 l) (read5 l) (len3 l) (len3 l) := by
  have e1 : tag_Read.f l = some (read5 l) := by unfold tag_Read.f; rw [if_pos ⟨h, hm⟩]
  have e2 : peerageref01_Read.f (2 * l.length + 8) l = some (read5 l) := at_rounds (g := fun k => peerageref01_Read.f k l) (fun k => peerageref01_Read.mono _ _) (by omega) (read_f h hm)
  have e3 : tag_ReadLen.f l = some (len3 l) := by unfold tag_ReadLen.f; rw [if_pos h]
  have e4 : peerageref01_ReadLen.f (2 * l.length + 8) l = some (len3 l) := at_rounds (g := fun k => peerageref01_ReadLen.f k l) (fun k => peerageref01_ReadLen.mono _ _) (by omega) (len_f h)
  rw [e1, e2, e3, e4]
  rfl

theorem TagReads : peeragelaw01_TagReads.Pure := by
  intro l0 m0 r0 w0
  have b0 := okb_of w0
  have one : tag_Read.f ([163] : List Int) = some (2, true, 3, 1, 0) := by decide +kernel
  unfold peeragelaw01_TagReads.f
  by_cases hc : (l0.length : Int) > 300
  · refine ⟨2 * (l0.take 300).length + 8, ?_⟩
    rw [if_pos hc, if_pos (by omega)]
    refine (body (okb_take b0 300) (by rw [List.length_take]; omega) (fun bt109 bt115 bt120 bt123 => ((tag_Read.f ([163] : List Int)).bind fun bt129 => _))).trans ?_
    simp [one]
  · refine ⟨2 * l0.length + 8, ?_⟩
    rw [if_neg hc]
    refine (body b0 (by omega) (fun bt109 bt115 bt120 bt123 => ((tag_Read.f ([163] : List Int)).bind fun bt129 => _))).trans ?_
    simp [one]
end Go.Proofs.Ytalbgdjclfahjaa.Pure
