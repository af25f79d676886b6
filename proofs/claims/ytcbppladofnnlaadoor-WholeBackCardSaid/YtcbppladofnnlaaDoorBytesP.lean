/- Numbers' bytes: plain facts on what Put, Read and ReadBool answer, and the reference's. Condition: bytes. -/
import Derived.Test.YtcbppladofnnlaaDoorLAx0
import Derived.Lib.Hide
namespace Go.Proofs.YtcbppladofnnlaaDoor.H
open Go.RowKit Go.Proofs.YtcbppladofnnlaaDoorW.PrintWords Go.Proofs.YtcbppladofnnlaaDoorW.PrintLast Go.Proofs.YtcbppladofnnlaaDoorW.PrintMore
set_option linter.unusedVariables false
set_option linter.unusedSimpArgs false
def okb (l : List Int) : Bool := l.all fun x => decide (0 ≤ x) && decide (x ≤ 255)
theorem okb_of {l : List Int} (h : ∀ x ∈ l, (Lit.int .u8 x).wf = true) : okb l = true := by
  unfold okb
  rw [List.all_eq_true]
  intro x hx
  have := h x hx
  simp [Lit.wf, IntKind.min, IntKind.max, IntKind.signed, IntKind.bits] at this ⊢
  omega
theorem okb_cons {a : Int} {l : List Int} (h : okb (a :: l) = true) : 0 ≤ a ∧ a ≤ 255 ∧ okb l = true := by
  simp only [okb, List.all_cons, Bool.and_eq_true, decide_eq_true_eq] at h
  exact ⟨h.1.1, h.1.2, by simp [okb, h.2]⟩
theorem okb_take {a : List Int} (h : okb a = true) (n : Nat) : okb (a.take n) = true := by
  unfold okb at *
  rw [List.all_eq_true] at *
  exact fun x hx => h x (List.mem_of_mem_take hx)
theorem of_256 {p : Int → Bool} (h : (List.range 256).all (fun n => p n) = true) {x : Int} (h0 : 0 ≤ x) (h1 : x ≤ 255) : p x = true := by
  have := List.all_eq_true.mp h x.toNat (by simp; omega)
  rwa [Int.toNat_of_nonneg h0] at this
theorem and128 {x : Int} (h0 : 0 ≤ x) (h1 : x ≤ 255) : (Go.bits .and .u8 x 128 != 0) = decide (127 < x) := by
  have := of_256 (p := fun x => (Go.bits .and .u8 x 128 != 0) == decide (127 < x)) (by decide +kernel) h0 h1
  simpa using this
/-- Need the first byte not be there? -/
def idle : List Int → Bool
  | a :: b :: _ => (a == 0 && decide (b < 128)) || (a == 255 && decide (127 < b))
  | _ => false
def norm : List Int → List Int
  | a :: r => if idle (a :: r) then norm r else a :: r
  | [] => []
/-- The byte at place j of eight. -/
def fb (x : Int) (j : Nat) : Int := x / 2 ^ (8 * (7 - j)) % 256
def full (x : Int) : List Int := (List.range 8).map (fb x)
theorem full_okb (x : Int) : okb (full x) = true := by
  unfold okb full
  rw [List.all_eq_true]
  intro y hy
  obtain ⟨j, _, rfl⟩ := List.mem_map.1 hy
  unfold fb
  simp
  omega
def stp (n c : Int) : Int := Go.bits .or .i64 (wrap64 (n * 256)) (wrap64 c)
def first (l : List Int) : Int := wrap64 (IntKind.i8.wrap (rd l 0))
def rdw (l : List Int) : Int × Int := if l.length = 0 ∨ idle l = true then (0, 11) else if 8 < l.length then (0, 3) else ((l.drop 1).foldl stp (first l), 0)
theorem drop_rd {l : List Int} {i : Nat} (h : i < l.length) : l.drop i = rd l (i : Int) :: l.drop (i + 1) := by
  rw [List.drop_eq_getElem_cons h]
  simp [rd, List.getD_eq_getElem?_getD, h]
theorem stp_first {c : Int} (h0 : 0 ≤ c) (h1 : c ≤ 255) : stp (if 127 < c then -1 else 0) c = wrap64 (IntKind.i8.wrap c) := by
  have := of_256 (p := fun c => stp (if 127 < c then -1 else 0) c == wrap64 (IntKind.i8.wrap c)) (by decide +kernel) h0 h1
  simpa using this
end Go.Proofs.YtcbppladofnnlaaDoor.H
