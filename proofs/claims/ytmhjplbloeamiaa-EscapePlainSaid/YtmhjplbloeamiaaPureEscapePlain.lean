/- The plain law of EscapePlain: what stands in a name and in a filter. Plain Lean. -/
import Derived.Test.YtmhjplbloeamiaaLEscapePlainx2
import Derived.Test.YtmhjplbloeamiaaHnd
namespace Go.Proofs.Ytmhjplbloeamiaa.Pure
open Go.RowKit Go.Proofs.Ytmhjplbloeamiaa.M Go.Proofs.Ytmhjplbloeamiaa.H Go.Proofs.Ytmhjplbloeamiaa.LEscapePlain Go.Proofs.YtmhjplbloeamiaaW.PrintWords Go.Proofs.YtmhjplbloeamiaaW.PrintLast Go.Proofs.YtmhjplbloeamiaaW.PrintMore
set_option linter.unusedVariables false
set_option linter.unusedSimpArgs false
theorem pre_split (g : Nat → UInt8 → Bs) (l : Bs) (i : Nat) : ∀ n, i ≤ n → ∃ rest, pre g l n = pre g l i ++ rest
  | 0, h => ⟨[], by obtain rfl := Nat.le_zero.1 h; simp⟩
  | n + 1, h => by
    by_cases e : i = n + 1
    · subst e; exact ⟨[], by simp⟩
    · obtain ⟨rest, hr⟩ := pre_split g l i n (by omega)
      exact ⟨rest ++ g n (l.getD n 0), by rw [pre, hr, List.append_assoc]⟩
theorem pre_ge {g : Nat → UInt8 → Bs} {l : Bs} (h : ∀ i c, 1 ≤ (g i c).length) : ∀ i, i ≤ (pre g l i).length
  | 0 => Nat.zero_le _
  | i + 1 => by
    have := pre_ge h (l := l) i
    have := h i (l.getD i 0)
    simp only [pre, List.length_append]
    omega
theorem pre_two (l : Bs) : ∀ i, (pre (fun _ c => two2 c) l i).length = 2 * i
  | 0 => rfl
  | i + 1 => by
    have := pre_two l i
    simp only [pre, List.length_append, two_len]
    omega
theorem pre_mem {g : Nat → UInt8 → Bs} {l : Bs} {Q : UInt8 → Prop} (h : ∀ i c, ∀ b ∈ g i c, Q b) : ∀ i, ∀ b ∈ pre g l i, Q b
  | 0, b, hb => by cases hb
  | i + 1, b, hb => by
    rw [pre, List.mem_append] at hb
    rcases hb with hb | hb
    · exact pre_mem h i b hb
    · exact h _ _ b hb
def goodB (n : Nat) : Bool := decide (32 ≤ n) && !([92, 34, 43, 44, 59, 60, 62, 61, 127].contains n)
def good2 (n : Nat) : Bool := !([42, 40, 41, 0].contains n)
theorem plain_all : ∀ n : Fin 256, amg [34, 43, 44, 59, 60, 62, 61, 92] (UInt8.ofNat n.val) = false → 32 ≤ n.val → n.val ≠ 127 → goodB n.val = true := by decide +kernel
theorem fil_all : ∀ n : Fin 256, amg [42, 40, 41] (UInt8.ofNat n.val) = false → n.val ≠ 0 → good2 n.val = true := by decide +kernel
theorem dig_all : ∀ n : Fin 16, goodB (dig n.val).toNat = true ∧ good2 (dig n.val).toNat = true := by decide +kernel
theorem dig_good {n : Nat} (h : n < 16) : goodB (dig n).toNat = true ∧ good2 (dig n).toNat = true := dig_all ⟨n, h⟩
def chunk (ch : Bs) : Prop := (∃ a, ch = [92, a]) ∨ (∃ a b, ch = [92, a, b] ∧ goodB b.toNat = true) ∨ ∃ c, ch = [c] ∧ goodB c.toNat = true
theorem put_chunk (r : Bool) (last : Int) (i : Nat) (c : UInt8) : chunk (gput r last i c) := by
  unfold gput
  split
  · exact .inr (.inl ⟨_, _, rfl, (dig_good (by have := c.toNat_lt; omega)).1⟩)
  · rename_i h1
    split
    · exact .inl ⟨_, rfl⟩
    · rename_i h2
      refine .inr (.inr ⟨c, rfl, ?_⟩)
      simp only [p14, p15, Bool.or_eq_true, not_or, Bool.not_eq_true, decide_eq_true_eq, decide_eq_false_iff_not] at h1 h2
      have := plain_all ⟨c.toNat, c.toNat_lt⟩ (by simpa using h2.1.1) (by have := h1.1.1; simp only; omega) (by have := h1.1.2; simpa using this)
      exact this
theorem fil_good (r : Bool) (i : Nat) (c : UInt8) : ∀ b ∈ gfil r i c, good2 b.toNat = true := by
  unfold gfil
  intro b hb
  split at hb
  · simp only [two2, List.mem_cons, List.not_mem_nil, or_false] at hb
    rcases hb with rfl | rfl | rfl
    · rfl
    · exact (dig_good (by have := c.toNat_lt; omega)).2
    · exact (dig_good (by have := c.toNat_lt; omega)).2
  · rename_i h1
    simp only [List.mem_singleton] at hb
    subst hb
    simp only [p17, Bool.or_eq_true, not_or, Bool.not_eq_true, decide_eq_true_eq, decide_eq_false_iff_not] at h1
    exact fil_all ⟨b.toNat, b.toNat_lt⟩ (by simpa using h1.1.1.1) (by simpa using h1.1.2)
section
variable {x0 : ByteArray} {P : Bs} {j : Nat} {v : Bool} {c : UInt8}
theorem esc_step (h : P[j]? = some c) (hc : c.toNat = 92) (hj : P.length ≤ 4000000) (ih : Ev (fun k => peeragelaw10_EscapePlain.l0 k x0 (mk P) ((j + 2 : Nat) : Int)) v) :
    Ev (fun k => peeragelaw10_EscapePlain.l0 k x0 (mk P) (j : Int)) v := by
  have hlt := (List.getElem?_eq_some_iff.1 h).1
  refine Ev.step (f := fun k => peeragelaw10_EscapePlain.l0 k x0 (mk P) ((j + 2 : Nat) : Int)) (fun k => ?_) ih
  simp only [peeragelaw10_EscapePlain.l0]
  rw [bt_mk h, mk_size, if_pos (by omega), if_pos (by omega), if_pos (by omega)]
  rw [w64 (n := (j : Int) + 1) (by omega) (by omega), w64 (by omega) (by omega)]
  congr 1
theorem good_step (h : P[j]? = some c) (hc : goodB c.toNat = true) (hj : P.length ≤ 4000000) (ih : Ev (fun k => peeragelaw10_EscapePlain.l0 k x0 (mk P) ((j + 1 : Nat) : Int)) v) :
    Ev (fun k => peeragelaw10_EscapePlain.l0 k x0 (mk P) (j : Int)) v := by
  have hlt := (List.getElem?_eq_some_iff.1 h).1
  refine Ev.step (f := fun k => peeragelaw10_EscapePlain.l0 k x0 (mk P) ((j + 1 : Nat) : Int)) (fun k => ?_) ih
  simp only [peeragelaw10_EscapePlain.l0]
  simp only [goodB, Bool.and_eq_true, decide_eq_true_eq, Bool.not_eq_true', List.contains_eq_mem, List.mem_cons, List.not_mem_nil, or_false, decide_eq_false_iff_not, not_or] at hc
  rw [bt_mk h, mk_size, if_pos (by omega), if_pos (by omega), if_neg (by omega), if_neg (by omega), if_neg (by omega), if_neg (by omega), if_neg (by omega), if_neg (by omega), if_neg (by omega), if_neg (by omega), if_neg (by omega), if_neg (by omega)]
  rw [w64 (by omega) (by omega)]
  congr 1
end
theorem put_l0 {x0 : ByteArray} {g : Nat → UInt8 → Bs} {l : Bs} {v : Bool} (hg : ∀ i c, chunk (g i c)) (n : Nat) (hz : (pre g l n).length ≤ 4000000)
    (he : Ev (fun k => peeragelaw10_EscapePlain.l0 k x0 (mk (pre g l n)) ((pre g l n).length : Int)) v) :
    ∀ q i, i + q = n → Ev (fun k => peeragelaw10_EscapePlain.l0 k x0 (mk (pre g l n)) ((pre g l i).length : Int)) v
  | 0, i, h => by
    obtain rfl : i = n := by omega
    exact he
  | q + 1, i, h => by
    have ih := put_l0 hg n hz he q (i + 1) (by omega)
    obtain ⟨rest, hr⟩ := pre_split g l (i + 1) n (by omega)
    have hat : ∀ t, (g i (l.getD i 0)).length ≤ t ∨ (pre g l n)[(pre g l i).length + t]? = (g i (l.getD i 0))[t]? := by
      intro t
      by_cases ht : (g i (l.getD i 0)).length ≤ t
      · exact .inl ht
      · refine .inr ?_
        rw [hr, pre, List.append_assoc, List.getElem?_append_right (by omega), Nat.add_sub_cancel_left, List.getElem?_append_left (by omega)]
    have hl : (pre g l (i + 1)).length = (pre g l i).length + (g i (l.getD i 0)).length := by rw [pre, List.length_append]
    rw [hl] at ih
    rcases hg i (l.getD i 0) with ⟨a, e⟩ | ⟨a, b, e, hb⟩ | ⟨c, e, hc⟩
    · rw [e] at ih hat
      have h0 := (hat 0).resolve_left (by simp)
      exact esc_step (by simpa using h0) rfl hz (by simpa using ih)
    · rw [e] at ih hat
      have h0 := (hat 0).resolve_left (by simp)
      have h2 := (hat 2).resolve_left (by simp)
      exact esc_step (by simpa using h0) rfl hz (good_step (by simpa using h2) hb hz (by show Ev (fun k => peeragelaw10_EscapePlain.l0 k x0 (mk (pre g l n)) (((pre g l i).length + 3 : Nat) : Int)) v; exact ih))
    · rw [e] at ih hat
      have h0 := (hat 0).resolve_left (by simp)
      exact good_step (by simpa using h0) hc hz (by simpa using ih)
theorem fil_l1 {x0 x3 : ByteArray} {F : Bs} {v : Bool} (hF : ∀ b ∈ F, good2 b.toNat = true) (hz : F.length ≤ 4000000)
    (he : Ev (fun k => peeragelaw10_EscapePlain.l1 k x0 x3 (mk F) (F.length : Int)) v) :
    ∀ q j, j + q = F.length → Ev (fun k => peeragelaw10_EscapePlain.l1 k x0 x3 (mk F) (j : Int)) v
  | 0, j, h => by
    obtain rfl : j = F.length := by omega
    exact he
  | q + 1, j, h => by
    have ih := fil_l1 hF hz he q (j + 1) (by omega)
    have hlt : j < F.length := by omega
    have hat : F[j]? = some F[j] := List.getElem?_eq_getElem hlt
    have hg := hF _ (List.getElem_mem hlt)
    simp only [good2, Bool.not_eq_true', List.contains_eq_mem, List.mem_cons, List.not_mem_nil, or_false, decide_eq_false_iff_not, not_or] at hg
    refine Ev.step (f := fun k => peeragelaw10_EscapePlain.l1 k x0 x3 (mk F) ((j + 1 : Nat) : Int)) (fun k => ?_) ih
    simp only [peeragelaw10_EscapePlain.l1]
    rw [bt_mk hat, mk_size, if_pos (by omega), if_pos (by omega), if_neg (by omega), if_neg (by omega), if_neg (by omega), if_neg (by omega)]
    rw [w64 (by omega) (by omega)]
    congr 1
theorem put_a : escape_Put.f (⟨#[97]⟩ : ByteArray) = some ⟨#[97]⟩ := by decide +kernel
theorem facts (l : Bs) (hl : l.length ≤ 600) : escape_Put.f (mk l) = some (mk (puts l)) ∧ escape_Filter.f (mk l) = some (mk (fils l)) ∧ escape_Hex.f (mk l) = some (mk (hexs l)) := by
  have hs : (mk l).size = l.length := mk_size l
  have hs2 : (mk l).size ≤ 1000000000 := by omega
  refine ⟨?_, ?_, ?_⟩
  · unfold escape_Put.f; rw [if_pos hs2]; rfl
  · unfold escape_Filter.f; rw [if_pos hs2]; rfl
  · unfold escape_Hex.f; rw [if_pos hs2]; rfl
theorem lens (l : Bs) : ((puts l).length ≤ 3 * l.length ∧ l.length ≤ (puts l).length) ∧ ((fils l).length ≤ 3 * l.length ∧ l.length ≤ (fils l).length) ∧ (hexs l).length = 2 * l.length :=
  ⟨⟨pre_len (fun i c => by unfold gput; (repeat' split) <;> simp [two_len]) _, pre_ge (fun i c => by unfold gput; (repeat' split) <;> simp [two_len]) _⟩,
   ⟨pre_len (fun i c => by unfold gfil; (repeat' split) <;> simp [two_len]) _, pre_ge (fun i c => by unfold gfil; (repeat' split) <;> simp [two_len]) _⟩, pre_two l _⟩
theorem fin_ev (x0 P F H : ByteArray) (hs : x0.size ≤ 600) (hp : x0.size ≤ P.size) (hf : x0.size ≤ F.size) (hh : H.size = 2 * x0.size) (he : escape_Hex.f x0 = some H) :
    Ev (fun k => peeragelaw10_EscapePlain.l1 k x0 P F (F.size : Int)) true := by
  have g1 : ¬ (F.size : Int) < (F.size : Int) := by omega
  have g2 : (P.size : Int) ≥ (x0.size : Int) := by omega
  have g3 : (F.size : Int) ≥ (x0.size : Int) := by omega
  have g4 : (H.size : Int) = 2 * (x0.size : Int) := by omega
  have hw : wrap64 (2 * (x0.size : Int)) = 2 * (x0.size : Int) := by rw [w64 (by omega) (by omega)]
  refine Ev.step (f := fun _ => some true) (fun k => ?_) (Ev.now _)
  simp only [peeragelaw10_EscapePlain.l1]
  rw [if_neg g1, if_pos g2, if_pos g3, hw, he, put_a, Option.bind_some, if_pos g4, Option.bind_some, ByteArray.toList_eq]
  rfl
theorem mid_ev (x0 P F : ByteArray) (he : escape_Filter.f x0 = some F) (h : Ev (fun k => peeragelaw10_EscapePlain.l1 k x0 P F 0) true) :
    Ev (fun k => peeragelaw10_EscapePlain.l0 k x0 P (P.size : Int)) true := by
  have g1 : ¬ (P.size : Int) < (P.size : Int) := by omega
  refine Ev.step (f := fun k => peeragelaw10_EscapePlain.l1 k x0 P F 0) (fun k => ?_) h
  simp only [peeragelaw10_EscapePlain.l0]
  rw [if_neg g1, he]
  simp only [Option.bind_some]
theorem core (l : Bs) (hl : l.length ≤ 600) : Ev (fun k => (escape_Put.f (mk l)).bind fun t => peeragelaw10_EscapePlain.l0 k (mk l) t 0) true := by
  obtain ⟨e1, e2, e3⟩ := facts l hl
  obtain ⟨⟨hp1, hp2⟩, ⟨hf1, hf2⟩, hh⟩ := lens l
  have z1 : (fils l).length ≤ 4000000 := by omega
  have z2 : (puts l).length ≤ 4000000 := by omega
  have hfin := fin_ev (mk l) (mk (puts l)) (mk (fils l)) (mk (hexs l)) (by rw [mk_size]; exact hl) (by rw [mk_size, mk_size]; exact hp2) (by rw [mk_size, mk_size]; exact hf2) (by rw [mk_size, mk_size]; exact hh) e3
  rw [mk_size] at hfin
  have h0 := fil_l1 (F := fils l) (pre_mem (fil_good _) _) z1 hfin (fils l).length 0 (Nat.zero_add _)
  have hmid := mid_ev (mk l) (mk (puts l)) (mk (fils l)) e2 h0
  rw [mk_size] at hmid
  have := put_l0 (x0 := mk l) (put_chunk (right l).isSome ((l.length : Int) - 1)) l.length (l := l) z2 hmid l.length 0 (Nat.zero_add _)
  rw [e1]
  exact this
theorem EscapePlain : peeragelaw10_EscapePlain.Pure := by
  intro s hs
  have key : Ev (fun k => peeragelaw10_EscapePlain.f k s) true := by
    by_cases c : (s.size : Int) > 600
    · have := core (s.data.toList.take 600) (by simp; omega)
      refine Ev.congr (fun k => ?_) this
      unfold peeragelaw10_EscapePlain.f
      have e : s.extract 0 600 = mk (s.data.toList.take 600) := by
        have := mk_extract s.data.toList 0 600
        rw [mk_data] at this
        simpa using this
      rw [if_pos c, if_pos (by omega), if_pos (by omega), e]
    · have := core s.data.toList (by show s.size ≤ 600; omega)
      refine Ev.congr (fun k => ?_) this
      unfold peeragelaw10_EscapePlain.f
      rw [if_neg c, mk_data]
  exact key.rounds
end Go.Proofs.Ytmhjplbloeamiaa.Pure
