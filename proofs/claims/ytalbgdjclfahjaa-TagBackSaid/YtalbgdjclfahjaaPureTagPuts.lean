/- Put and PutLen put the document's bytes: the statement over lists of bytes, and the walk. Conditions: none beyond the statement's own. -/
import Derived.Test.YtalbgdjclfahjaaLTagPutsx2
import Derived.Test.YtalbgdjclfahjaaRefPut
import Derived.Lib.SmallJoins
import Derived.Test.YtalbgdjclfahjaaRows
namespace Go.Proofs.Ytalbgdjclfahjaa.Pure
open Go.RowKit Go.Proofs.Ytalbgdjclfahjaa.LTagPuts Go.Proofs.Ytalbgdjclfahjaa.H Go.Proofs.YtalbgdjclfahjaaW.PrintWords Go.Proofs.YtalbgdjclfahjaaW.PrintLast
open Go.Proofs.Ytalbgdjclfahjaa.PTagPuts

theorem right_f (cl nn : Int) (md : Bool) : tag_Right.f cl md nn = some (right cl nn) ∧ peerageref01_Right.f cl nn = some (right cl nn) := by
  constructor
  · unfold tag_Right.f right
    by_cases a1 : 0 ≤ cl <;> by_cases a2 : cl ≤ 3 <;> by_cases a3 : 0 ≤ nn <;> simp [a1, a2, a3]
  · unfold peerageref01_Right.f right
    by_cases a1 : 0 ≤ cl <;> by_cases a2 : cl ≤ 3 <;> by_cases a3 : 0 ≤ nn <;> simp [a1, a2, a3]

theorem puts_f {l : List Int} {cl nn n : Int} {md : Bool} (hn : n < 9223372036854775808) : peeragelaw01_TagPuts.f 10 l cl md nn n = some true := by
  have one : tag_PutLen.f ([] : List Int) 300 = some [130, 1, 44] := by decide +kernel
  have two : ((strOfNums [130, 1, 44]).toList == ([130, 1, 44] : List UInt8)) = true := by decide +kernel
  have e1 : ∀ l : List Int, l.length ≤ 300 → tag_Put.f l cl md nn = some (put l cl md nn) := fun l h => by unfold tag_Put.f; rw [if_pos (by omega)]
  have e2 : ∀ l : List Int, l.length ≤ 300 → tag_PutLen.f l n = some (putLen l n) := fun l h => by unfold tag_PutLen.f; rw [if_pos ⟨by omega, hn⟩]
  have e3 : ∀ l : List Int, l.length ≤ 300 → peerageref01_Put.f 10 l cl md nn = some (put l cl md nn) := fun l h => put_f (by omega)
  have e4 : ∀ l : List Int, l.length ≤ 300 → peerageref01_PutLen.f 10 l n = some (putLen l n) := fun l h => putLen_f (by omega) hn
  unfold peeragelaw01_TagPuts.f
  by_cases hc : (l.length : Int) > 300
  · have hl : (l.take 300).length ≤ 300 := by rw [List.length_take]; omega
    rw [if_pos hc, if_pos (by omega)]
    rw [e1 _ hl, e2 _ hl, (right_f cl nn md).1, (right_f cl nn md).2]
    simp only [Option.bind_some, beq_self_eq_true, if_true, e3 _ hl, e4 _ hl, one, two]
  · have hl : l.length ≤ 300 := by omega
    rw [if_neg hc, e1 _ hl, e2 _ hl, (right_f cl nn md).1, (right_f cl nn md).2]
    simp only [Option.bind_some, beq_self_eq_true, if_true, e3 _ hl, e4 _ hl, one, two]

theorem puts_walk (a0 : Option Addr) (len0 cap0 : Nat) (z0 : List Int) (cl : Int) (md : Bool) (nn n : Int) (w : World) (w0 : (a0 = none ∧ len0 = 0 ∧ cap0 = 0 ∧ z0 = []) ∨ ∃ x, a0 = some x ∧ len0 ≤ cap0 ∧ cap0 ≤ maxLen ∧ z0.length = cap0 ∧ (∀ i, i < z0.length → w.cell? (x.add i) = some (.int .u8 (z0.getD i 0))) ∧ ∀ n ∈ z0, (Lit.int .u8 n).wf = true) (hn : n ≤ 9223372036854775807) :
    Calls Try.prog 3 #[.slice a0 len0 cap0, .agg #[.int .i64 cl, .bool md, .int .i64 nn], .int .i64 n] w fun e w' => e = .returned (.bool true) ∧ Below w.heap.size w w' := by
  obtain ⟨l0, rfl, hr0, hm0, hw0, hc0⟩ := ReadsInt.ofRowC w0
  exact peeragelaw01_TagPuts.calls 10 _ _ l0 cl md nn n w (Kd.C_of_reads (d := (0 : Int)) (h1 := fun _ => rfl) hr0) hc0 (puts_f (by omega))

section
open Go.ChangeShapes Go.WideShapes Go.ChangeAt
variable {H : Type} {enc : TypeId × Value → H}
/-- A tag that came in. -/
theorem open_tag {W : World} {base b0 : Nat} {spare : Nat → Bool} {held : Bool} {r : Reach} {v : Value} {d : DataW H} {p : List MemPlace} (hv : Value.okWide Try.prog W r b0 24 v) (h : DataW.Trod enc Try.prog W base spare held 24 v d p) :
    ∃ (cl : Int) (md : Bool) (nn : Int), v = .agg #[.int .i64 cl, .bool md, .int .i64 nn] ∧ (Lit.int .i64 cl).wf = true ∧ (Lit.int .i64 nn).wf = true := by
  obtain ⟨c0, c1, c2, y0, y1, y2, m, rfl, rfl, rfl, hy0, hy1, hy2⟩ := Go.Joins.open_agg3 Try.underlying24 (by kernel_rfl) (by kernel_rfl) hv h
  obtain ⟨a, e0, _, wa⟩ := DataW.trod_int Try.underlying3 hy0
  obtain ⟨b, e1, _⟩ := DataW.trod_bool Try.underlying4 hy1
  obtain ⟨c, e2, _, wc⟩ := DataW.trod_int Try.underlying3 hy2
  simp at e0 e1 e2
  subst e0 e1 e2
  exact ⟨a, b, c, rfl, wa, wc⟩
end
end Go.Proofs.Ytalbgdjclfahjaa.Pure
