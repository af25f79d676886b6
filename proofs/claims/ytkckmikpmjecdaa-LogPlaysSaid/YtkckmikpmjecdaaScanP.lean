/- What Scan tells, in plain Lean; frame.Scan's contract says it. Condition: bytes. -/
import Derived.Test.YtkckmikpmjecdaaLRowsx1
namespace Go.Proofs.Ytkckmikpmjecdaa.H
open Go.RowKit Go.Proofs.YtkckmikpmjecdaaW.PrintWords Go.Proofs.YtkckmikpmjecdaaW.PrintLast Go.Proofs.YtkckmikpmjecdaaW.PrintMore Go.Proofs.Ytkckmikpmjecdaa.LRows
set_option linter.unusedVariables false
def scanl : Nat → List Int → List (List Int) → Nat → List (List Int) × Nat × Int
  | 0, _, acc, u => (acc, u, 0)
  | k + 1, l, acc, u => if u < l.length then (if (opened (l.drop u)).2.2 = 0 then scanl k l (acc ++ [(opened (l.drop u)).1]) (u + (opened (l.drop u)).2.1.toNat) else (acc, u, (opened (l.drop u)).2.2)) else (acc, u, 0)
def scan (l : List Int) : List (List Int) × Nat × Int := scanl (l.length + 1) l [] 0
theorem opened_ok {l : List Int} (hb : okb l = true) (h : (opened l).2.2 = 0) : ∃ n : Nat, (opened l).2.1 = 8 + (n : Int) ∧ n + 8 ≤ l.length ∧ n ≤ 65536 ∧ (opened l).1 = (l.take (4 + n)).drop 4 := by
  have hg := big_take hb 4
  obtain ⟨n, hn⟩ := Int.eq_ofNat_of_zero_le hg.1
  unfold opened at *
  split at h
  · simp at h
  split at h
  · simp at h
  split at h
  · simp at h
  split at h
  · simp at h
  rename_i h1 h2 h3 h4
  rw [if_neg h1, if_neg h2, if_neg h3, if_neg h4]
  refine ⟨n, by rw [hn], by omega, by omega, by rw [hn]; rfl⟩
theorem scan_l0 {l : List Int} (hb : okb l = true) (hm : l.length ≤ 1000000000) : ∀ (k : Nat) (acc : List (List Int)) (u : Nat), u ≤ l.length → acc.length ≤ u → l.length - u < k → frame_Scan.l0 k l acc (u : Int) = some ((scanl k l acc u).1, (((scanl k l acc u).2.1 : Nat) : Int), (scanl k l acc u).2.2)
  | 0, acc, u, _, _, h => by omega
  | k + 1, acc, u, hu, ha, h => by
    unfold frame_Scan.l0 scanl
    by_cases h1 : u < l.length
    · have hd := okb_drop hb u
      rw [if_pos (by omega), if_pos (by omega), if_pos (by omega), if_pos h1, Int.toNat_natCast]
      have hf : frame_Open.f (l.drop u) = some (opened (l.drop u)) := by
        unfold frame_Open.f
        rw [if_pos ⟨hd, by rw [List.length_drop]; omega⟩]
      rw [hf, Option.bind_some]
      by_cases h2 : (opened (l.drop u)).2.2 = 0
      · obtain ⟨n, e1, e2, e3, e4⟩ := opened_ok hd h2
        rw [List.length_drop] at e2
        rw [if_pos h2, if_pos (by omega), if_pos h2]
        have e5 : wrap64 ((u : Int) + (opened (l.drop u)).2.1) = ((u + (opened (l.drop u)).2.1.toNat : Nat) : Int) := by
          rw [e1]; unfold wrap64; omega
        rw [e5]
        have e6 : u + (opened (l.drop u)).2.1.toNat = u + 8 + n := by rw [e1]; omega
        exact scan_l0 hb hm k _ _ (by rw [e6]; omega) (by rw [e6, List.length_append, List.length_singleton]; omega) (by rw [e6]; omega)
      · rw [if_neg h2, if_neg h2]
    · rw [if_neg (by omega), if_neg h1]
theorem scan_f {l : List Int} (hb : okb l = true) (hm : l.length ≤ 1000000000) : frame_Scan.f (l.length + 1) l = some ((scan l).1, (((scan l).2.1 : Nat) : Int), (scan l).2.2) := scan_l0 hb hm (l.length + 1) [] 0 (by omega) (by simp) (by omega)
theorem scan_calls (A0 : Option Addr) (c0 : Nat) (l0 : List Int) (w : World) (hr0 : Kd.C (Kd.int .u8) w A0 l0.length l0) (hc0 : l0.length ≤ c0) (hb : okb l0 = true) (hm : l0.length ≤ 1000000000) :
    Calls Try.prog 36 #[.slice A0 l0.length c0] w fun e w' => ∃ v0_ : Value, e = .returned (.tuple #[v0_, .int .i64 ((scan l0).2.1 : Int), .int .i64 (scan l0).2.2]) ∧ Kd.S (Kd.slice 5 (Kd.int .u8)) 22 w' w.heap.size (fun _ => True) v0_ (scan l0).1 ∧ Below w.heap.size w w' :=
  frame_Scan.calls _ A0 c0 l0 _ _ _ w hr0 hc0 (scan_f hb hm)
end Go.Proofs.Ytkckmikpmjecdaa.H
