/- Numbers' bytes: plain facts on what Put, Read and ReadBool answer, and the reference's. Condition: bytes. -/
import Derived.Test.YtcbppladofnnlaaPWholeBytesx0
import Derived.Test.YtcbppladofnnlaaPWholeBytesx2
import Derived.Test.YtcbppladofnnlaaPWholeBytesx3
import Derived.Lib.Hide
namespace Go.Proofs.Ytcbppladofnnlaa.H
open Go.RowKit Go.Proofs.YtcbppladofnnlaaW.PrintWords Go.Proofs.YtcbppladofnnlaaW.PrintLast Go.Proofs.YtcbppladofnnlaaW.PrintMore Go.Proofs.Ytcbppladofnnlaa.PWholeBytes
set_option linter.unusedVariables false
set_option linter.unusedSimpArgs false
def okb (l : List Int) : Bool := l.all fun x => decide (0 ≤ x) && decide (x ≤ 255)
theorem okb_of {l : List Int} (h : ∀ x ∈ l, (Lit.int .u8 x).wf = true) : okb l = true := by
  unfold okb
  rw [List.all_eq_true]
  intro x hx
  have := h x hx
  simp [Lit.wf, IntKind.min, IntKind.max, IntKind.signed, IntKind.bits] at this ⊢
  omega
theorem okb_cons {a : Int} {l : List Int} (h : okb (a :: l) = true) : 0 ≤ a ∧ a ≤ 255 ∧ okb l = true := by
  simp only [okb, List.all_cons, Bool.and_eq_true, decide_eq_true_eq] at h
  exact ⟨h.1.1, h.1.2, by simp [okb, h.2]⟩
theorem okb_take {a : List Int} (h : okb a = true) (n : Nat) : okb (a.take n) = true := by
  unfold okb at *
  rw [List.all_eq_true] at *
  exact fun x hx => h x (List.mem_of_mem_take hx)
theorem of_256 {p : Int → Bool} (h : (List.range 256).all (fun n => p n) = true) {x : Int} (h0 : 0 ≤ x) (h1 : x ≤ 255) : p x = true := by
  have := List.all_eq_true.mp h x.toNat (by simp; omega)
  rwa [Int.toNat_of_nonneg h0] at this
theorem and128 {x : Int} (h0 : 0 ≤ x) (h1 : x ≤ 255) : (Go.bits .and .u8 x 128 != 0) = decide (127 < x) := by
  have := of_256 (p := fun x => (Go.bits .and .u8 x 128 != 0) == decide (127 < x)) (by decide +kernel) h0 h1
  simpa using this
/-- Need the first byte not be there? -/
def idle : List Int → Bool
  | a :: b :: _ => (a == 0 && decide (b < 128)) || (a == 255 && decide (127 < b))
  | _ => false
def norm : List Int → List Int
  | a :: r => if idle (a :: r) then norm r else a :: r
  | [] => []
theorem norm_f (l : List Int) : okb l = true → (l.length : Int) < 1000 → peerageref02_Put.l1 (l.length + 1) l = some (norm l) := by
  induction l with
  | nil =>
    intro _ _
    rw [peerageref02_Put.l1, if_neg (by simp)]
    rfl
  | cons a t ih =>
    intro h hl
    cases t with
    | nil =>
      rw [peerageref02_Put.l1, if_neg (by simp)]
      rfl
    | cons b r =>
      obtain ⟨_, _, h2⟩ := okb_cons h
      have ih := ih h2 (by simp at hl ⊢; omega)
      have r0 : rd (a :: b :: r) 0 = a := by simp [rd]
      have r1 : rd (a :: b :: r) 1 = b := by simp [rd]
      have e : (1 : Int).toNat = 1 := rfl
      have p1 : (1 : Int) < ((a :: b :: r).length : Int) := by simp; omega
      have p2 : (0 : Int) < ((a :: b :: r).length : Int) := by simp; omega
      have p3 : (1 : Int) ≤ ((a :: b :: r).length : Int) := by simp; omega
      rw [peerageref02_Put.l1, norm, r0, r1, e, List.drop_one, List.tail_cons]
      rw [if_pos p1, if_pos p2, if_pos p1, if_pos p3, if_pos p1]
      have e2 : (a :: b :: r).length = (b :: r).length + 1 := rfl
      rw [e2, ih]
      simp only [idle]
      by_cases ha : a = 0
      · subst ha
        by_cases hc : b < 128
        · simp [hc]
        · simp [hc]
      · by_cases h5 : a = 255
        · subst h5
          by_cases hc : b > 127
          · simp [hc]
          · simp [hc]
        · simp [ha, h5]
/-- The byte at place j of eight. -/
def fb (x : Int) (j : Nat) : Int := x / 2 ^ (8 * (7 - j)) % 256
def full (x : Int) : List Int := (List.range 8).map (fb x)
theorem full_okb (x : Int) : okb (full x) = true := by
  unfold okb full
  rw [List.all_eq_true]
  intro y hy
  obtain ⟨j, _, rfl⟩ := List.mem_map.1 hy
  unfold fb
  simp
  omega
theorem put_l0 (x : Int) (k : Nat) : ∀ (n : Nat) (acc : List Int), n ≤ 8 → acc.length ≤ 100 - n → peerageref02_Put.l0 (n + k + 1) x acc ((n : Int) - 1) = peerageref02_Put.l1 k (acc ++ (List.range n).reverse.map fun i => x / 2 ^ (8 * i) % 256)
  | 0, acc, _, _ => by
    unfold peerageref02_Put.l0
    rw [if_neg (by omega)]
    simp
  | n + 1, acc, hn, ha => by
    rw [show n + 1 + k + 1 = (n + k + 1) + 1 by omega]
    unfold peerageref02_Put.l0
    have w1 : wrap64 (8 * (((n + 1 : Nat) : Int) - 1)) = 8 * (n : Int) := by unfold wrap64; omega
    have w2 : wrap64 (((n + 1 : Nat) : Int) - 1 - 1) = (n : Int) - 1 := by unfold wrap64; omega
    rw [if_pos (by omega), w1, w2, if_pos (by rw [IntKind.wrap_u64]; omega), if_pos (by omega), put_l0 x k n _ (by omega) (by simp; omega)]
    have e : shr .i64 x (IntKind.u64.wrap (8 * (n : Int))) = x / 2 ^ (8 * n) := by
      unfold shr
      rw [IntKind.wrap_u64, show min ((8 * (n : Int)) % 18446744073709551616).toNat (IntKind.i64).bits = 8 * n by rw [show (IntKind.i64).bits = 64 from rfl]; omega]
    rw [e, List.range_succ, List.reverse_append, List.reverse_singleton, List.singleton_append, List.map_cons, List.append_assoc, List.singleton_append]
theorem put_f (x : Int) : peerageref02_Put.f 18 x = some (norm (full x)) := by
  unfold peerageref02_Put.f
  have h := put_l0 x 9 8 [] (by omega) (by simp)
  rw [show 8 + 9 + 1 = 18 from rfl, show (((8 : Nat) : Int) - 1) = 7 from rfl] at h
  rw [h]
  have e : ([] : List Int) ++ (List.range 8).reverse.map (fun i => x / 2 ^ (8 * i) % 256) = full x := rfl
  rw [e]
  exact norm_f (full x) (full_okb x) (by simp [full])
/-! ### Read -/
def stp (n c : Int) : Int := Go.bits .or .i64 (wrap64 (n * 256)) (wrap64 c)
def first (l : List Int) : Int := wrap64 (IntKind.i8.wrap (rd l 0))
def rdw (l : List Int) : Int × Int := if l.length = 0 ∨ idle l = true then (0, 11) else if 8 < l.length then (0, 3) else ((l.drop 1).foldl stp (first l), 0)
theorem drop_rd {l : List Int} {i : Nat} (h : i < l.length) : l.drop i = rd l (i : Int) :: l.drop (i + 1) := by
  rw [List.drop_eq_getElem_cons h]
  simp [rd, List.getD_eq_getElem?_getD, h]
theorem stp_first {c : Int} (h0 : 0 ≤ c) (h1 : c ≤ 255) : stp (if 127 < c then -1 else 0) c = wrap64 (IntKind.i8.wrap c) := by
  have := of_256 (p := fun c => stp (if 127 < c then -1 else 0) c == wrap64 (IntKind.i8.wrap c)) (by decide +kernel) h0 h1
  simpa using this
theorem ref_l0 (L : List Int) (hL : (L.length : Int) < 1000) : ∀ (m i : Nat) (n : Int), i + m = L.length → peerageref02_Read.l0 (m + 1) L n (i : Int) = some ((L.drop i).foldl stp n, 0)
  | 0, i, n, h => by
    unfold peerageref02_Read.l0
    rw [if_neg (by omega), List.drop_eq_nil_of_le (by omega)]
    rfl
  | m + 1, i, n, h => by
    unfold peerageref02_Read.l0
    rw [if_pos (by omega), if_pos (by omega), show wrap64 ((i : Int) + 1) = ((i + 1 : Nat) : Int) by unfold wrap64; omega, ref_l0 L hL m (i + 1) _ (by omega), drop_rd (show i < L.length by omega)]
    rfl
theorem ref_j0 {l : List Int} (hb : okb l = true) (hl : (l.length : Int) < 1000) (h0 : l.length ≠ 0) (d : Bool) : peerageref02_Read.j0 (l.length + 3) l d = some (if d = true then (0, 11) else if 8 < l.length then (0, 3) else ((l.drop 1).foldl stp (first l), 0)) := by
  rw [show l.length + 3 = (l.length + 1 + 1) + 1 by omega, peerageref02_Read.j0]
  cases d
  · simp only [Bool.false_eq_true, if_false]
    by_cases h8 : 8 < l.length
    · rw [if_pos (by omega), if_pos h8]
    · rw [if_neg (by omega), if_neg h8, if_pos (by omega)]
      have h := fun n => ref_l0 l hl l.length 0 n (by omega)
      have e : l = rd l (0 : Nat) :: l.drop 1 := by have := drop_rd (show 0 < l.length by omega); rwa [List.drop_zero] at this
      have hr : 0 ≤ rd l 0 ∧ rd l 0 ≤ 255 := by
        have hb2 := hb
        rw [e] at hb2
        have := okb_cons hb2
        exact ⟨this.1, this.2.1⟩
      have hs := stp_first hr.1 hr.2
      have ef : ∀ n, l.foldl stp n = (l.drop 1).foldl stp (stp n (rd l 0)) := fun n => by
        conv => lhs; rw [e]
        rfl
      by_cases hg : 127 < rd l 0
      · rw [if_pos hg]
        unfold peerageref02_Read.j1
        have := h (-1)
        rw [List.drop_zero, ef] at this
        rw [if_pos hg] at hs
        rw [hs] at this
        exact this
      · rw [if_neg hg]
        unfold peerageref02_Read.j1
        have := h 0
        rw [List.drop_zero, ef] at this
        rw [if_neg hg] at hs
        rw [hs] at this
        exact this
  · simp
theorem ref_f {l : List Int} (hb : okb l = true) (hl : (l.length : Int) < 1000) : peerageref02_Read.f (l.length + 3) l = some (rdw l) := by
  by_cases h0 : l.length = 0
  · unfold peerageref02_Read.f rdw
    rw [if_pos (by omega), if_pos (.inl h0)]
    unfold peerageref02_Read.j0
    simp
  · have hj := ref_j0 hb hl h0
    have hr : rdw l = if idle l = true then (0, 11) else if 8 < l.length then (0, 3) else ((l.drop 1).foldl stp (first l), 0) := by
      unfold rdw
      by_cases hd : idle l = true
      · simp [hd]
      · simp [hd, h0]
    rw [hr, ← hj]
    unfold peerageref02_Read.f
    rw [if_neg (by omega)]
    rcases l with _ | ⟨a, _ | ⟨b, r⟩⟩
    · simp at h0
    · rw [if_neg (by simp)]
      rfl
    ·
      have r0 : rd (a :: b :: r) 0 = a := by simp [rd]
      have r1 : rd (a :: b :: r) 1 = b := by simp [rd]
      rw [if_pos (by simp; omega), if_pos (by simp; omega), r0, r1]
      rw [if_pos (show (1 : Int) < ((a :: b :: r).length : Int) by simp; omega), if_pos (show (1 : Int) < ((a :: b :: r).length : Int) by simp; omega)]
      by_cases ha : a = 0
      · subst ha
        by_cases hc : b < 128
        · simp [hc, idle]
        · simp [hc, idle]
      · by_cases h5 : a = 255
        · subst h5
          simp [idle]
        · have q0 : (a == 0) = false := beq_false_of_ne ha
          have q5 : (a == 255) = false := beq_false_of_ne h5
          simp [ha, h5, idle, q0, q5]
def right (l : List Int) : Bool := decide (l.length = 1) && ((rd l 0 == 0) || (rd l 0 == 255))
theorem bool_f (l : List Int) : whole_ReadBool.f l = some (if right l = true then (rd l 0 == 255, 0) else (false, 11)) := by
  unfold whole_ReadBool.f right
  by_cases h : l.length = 1
  · rw [if_pos (by omega), if_pos (by omega)]
    by_cases h0 : rd l 0 = 0
    · simp [h, h0]
    · by_cases h5 : rd l 0 = 255
      · simp [h, h5]
      · simp [h, h0, h5]
  · rw [if_neg (by omega)]
    simp [h]
end Go.Proofs.Ytcbppladofnnlaa.H
