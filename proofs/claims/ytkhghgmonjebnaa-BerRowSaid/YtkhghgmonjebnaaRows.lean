/-
  NARROWER THAN 'FOR EVERY INPUT', by the rows' own cells (each row's printed sentence says how): BerPuts: loops · BerBack: loops · BerRow: loops.
  DERIVED. THE GIVEN ROWS OF THIS SEAT. 6 by the template 'for every input the law returns true; each argument reads behind the call as it read before'; 0 by the template 'total and deterministic' (their statements: YtkhghgmonjebnaaTotals.lean).
  GIVEN WITH THE SEED: the statements are not yours to turn. If you find one false, say at which input.
  Laid BY PROGRAM, IN A SANDBOX (cutbox-rows.mjs): the forced cells as the released guide's own fill.sh prints them over the translation 9d38b73748a32bbd… (all of the seat's roots in one cut). By AI agents, Wed Nov 11 2026. No macro, syntax, notation, axiom, sorry.
-/
import Derived.Test.YtkhghgmonjebnaaChecked
import GoSem.Claim
import GoSem.ClaimJoined
import GoSem.ClaimMapViews
import Derived.JoinedTies
import Derived.KernelRfl
namespace Go.Proofs.Ytkhghgmonjebnaa
/- THE CELL 'sum', in the pinned program and in every row, IS THE sha256 OF THE DUMP (.gsa) THAT YtkhghgmonjebnaaProg.lean LOADS. Nothing in Lean hashes anything: it is a label: what it is worth is what the hold of that sum in a sandbox is worth. -/
noncomputable def Try.pinned : Pinned := { name := "ytkhghgmonjebnaa", sum := "9d38b73748a32bbd90a7e6339f07545bb9726515003d04bcfbfd20a140f315a5", checked := Try.checked }
namespace Rows
def none {H : Type} : Left H := { results := [], args := [] }

/-- 'peeragelaw03.BerPuts': WHATEVER THE INPUT: true; the input reads as it did. -/
def berPutsSpec : ChangeSpec := { name := "berPuts", fn := fun _ => fun
  | [d1, d2] => { results := [.lit (.bool true)], args := [d1, d2] }
  | _ => none }
def berPutsRow : OpenClaim := { program := "ytkhghgmonjebnaa", sum := "9d38b73748a32bbd90a7e6339f07545bb9726515003d04bcfbfd20a140f315a5", func := "peerage/peeragelaw03.BerPuts", spec := "berPuts", unfollowed := true, recurses := true, loops := true, apart := false }
def BerPutsSaid : Prop := berPutsRow.holds Try.pinned (OpenSpec.ofChange berPutsSpec)

/-- ITS FALSE NEIGHBOUR: 'it returns false'. Refute it at one input. -/
def berPutsWrong : ChangeSpec := { name := "berPuts", fn := fun _ => fun
  | [d1, d2] => { results := [.lit (.bool false)], args := [d1, d2] }
  | _ => none }
def BerPutsWrongFalsely : Prop := berPutsRow.holds Try.pinned (OpenSpec.ofChange berPutsWrong)

/-- 'peeragelaw03.BerParses': WHATEVER THE INPUT: true; the input reads as it did. -/
def berParsesSpec : ChangeSpec := { name := "berParses", fn := fun _ => fun
  | [d] => { results := [.lit (.bool true)], args := [d] }
  | _ => none }
def berParsesRow : OpenClaim := { program := "ytkhghgmonjebnaa", sum := "9d38b73748a32bbd90a7e6339f07545bb9726515003d04bcfbfd20a140f315a5", func := "peerage/peeragelaw03.BerParses", spec := "berParses", recurses := true, apart := false }
def BerParsesSaid : Prop := berParsesRow.holds Try.pinned (OpenSpec.ofChange berParsesSpec)

/-- ITS FALSE NEIGHBOUR: 'it returns false'. Refute it at one input. -/
def berParsesWrong : ChangeSpec := { name := "berParses", fn := fun _ => fun
  | [d] => { results := [.lit (.bool false)], args := [d] }
  | _ => none }
def BerParsesWrongFalsely : Prop := berParsesRow.holds Try.pinned (OpenSpec.ofChange berParsesWrong)

/-- 'peeragelaw03.BerDeep': WHATEVER THE INPUT: true; the input reads as it did. -/
def berDeepSpec : ChangeSpec := { name := "berDeep", fn := fun _ => fun
  | [d] => { results := [.lit (.bool true)], args := [d] }
  | _ => none }
def berDeepRow : OpenClaim := { program := "ytkhghgmonjebnaa", sum := "9d38b73748a32bbd90a7e6339f07545bb9726515003d04bcfbfd20a140f315a5", func := "peerage/peeragelaw03.BerDeep", spec := "berDeep", unfollowed := true, recurses := true, apart := false }
def BerDeepSaid : Prop := berDeepRow.holds Try.pinned (OpenSpec.ofChange berDeepSpec)

/-- ITS FALSE NEIGHBOUR: 'it returns false'. Refute it at one input. -/
def berDeepWrong : ChangeSpec := { name := "berDeep", fn := fun _ => fun
  | [d] => { results := [.lit (.bool false)], args := [d] }
  | _ => none }
def BerDeepWrongFalsely : Prop := berDeepRow.holds Try.pinned (OpenSpec.ofChange berDeepWrong)

/-- 'peeragelaw03.BerBack': WHATEVER THE INPUT: true; the input reads as it did. -/
def berBackSpec : ChangeSpec := { name := "berBack", fn := fun _ => fun
  | [d1, d2, d3] => { results := [.lit (.bool true)], args := [d1, d2, d3] }
  | _ => none }
def berBackRow : OpenClaim := { program := "ytkhghgmonjebnaa", sum := "9d38b73748a32bbd90a7e6339f07545bb9726515003d04bcfbfd20a140f315a5", func := "peerage/peeragelaw03.BerBack", spec := "berBack", unfollowed := true, recurses := true, loops := true, apart := false }
def BerBackSaid : Prop := berBackRow.holds Try.pinned (OpenSpec.ofChange berBackSpec)

/-- ITS FALSE NEIGHBOUR: 'it returns false'. Refute it at one input. -/
def berBackWrong : ChangeSpec := { name := "berBack", fn := fun _ => fun
  | [d1, d2, d3] => { results := [.lit (.bool false)], args := [d1, d2, d3] }
  | _ => none }
def BerBackWrongFalsely : Prop := berBackRow.holds Try.pinned (OpenSpec.ofChange berBackWrong)

/-- 'peeragelaw03.BerAgain': WHATEVER THE INPUT: true; the input reads as it did. -/
def berAgainSpec : ChangeSpec := { name := "berAgain", fn := fun _ => fun
  | [d] => { results := [.lit (.bool true)], args := [d] }
  | _ => none }
def berAgainRow : OpenClaim := { program := "ytkhghgmonjebnaa", sum := "9d38b73748a32bbd90a7e6339f07545bb9726515003d04bcfbfd20a140f315a5", func := "peerage/peeragelaw03.BerAgain", spec := "berAgain", unfollowed := true, recurses := true, apart := false }
def BerAgainSaid : Prop := berAgainRow.holds Try.pinned (OpenSpec.ofChange berAgainSpec)

/-- ITS FALSE NEIGHBOUR: 'it returns false'. Refute it at one input. -/
def berAgainWrong : ChangeSpec := { name := "berAgain", fn := fun _ => fun
  | [d] => { results := [.lit (.bool false)], args := [d] }
  | _ => none }
def BerAgainWrongFalsely : Prop := berAgainRow.holds Try.pinned (OpenSpec.ofChange berAgainWrong)

/-- 'peeragelaw03.BerRow': WHATEVER THE INPUT: true; the input reads as it did. -/
def berRowSpec : ChangeSpec := { name := "berRow", fn := fun _ => fun
  | [d] => { results := [.lit (.bool true)], args := [d] }
  | _ => none }
def berRowRow : OpenClaim := { program := "ytkhghgmonjebnaa", sum := "9d38b73748a32bbd90a7e6339f07545bb9726515003d04bcfbfd20a140f315a5", func := "peerage/peeragelaw03.BerRow", spec := "berRow", unfollowed := true, recurses := true, loops := true, apart := false }
def BerRowSaid : Prop := berRowRow.holds Try.pinned (OpenSpec.ofChange berRowSpec)

/-- ITS FALSE NEIGHBOUR: 'it returns false'. Refute it at one input. -/
def berRowWrong : ChangeSpec := { name := "berRow", fn := fun _ => fun
  | [d] => { results := [.lit (.bool false)], args := [d] }
  | _ => none }
def BerRowWrongFalsely : Prop := berRowRow.holds Try.pinned (OpenSpec.ofChange berRowWrong)

/- THE SECOND FORM. 'bulk': how many values and letters a reading holds, each counted each time it is reached (what is shared counts as often as it is met; a slice's spare places count too). A statement '..UptoSaid' is the law's where the arguments, and the package variables that the reading takes, are together of bulk at most 1048576: NARROWER than '..Said'. Prove '..Said' where nothing that the law and all that it calls make is longer than what came in: it says more and counts as full. Else prove '..UptoSaid'. A law counts once. -/
mutual
def uptoBulk {H : Type} : DataW H → Nat
  | .lit (.string bytes) => bytes.length + 1
  | .lit _ => 1
  | .nil => 1
  | .ptr d => uptoBulk d + 1
  | .slice elems spare => uptoBulkAll elems + uptoBulkAll spare + 1
  | .agg parts => uptoBulkAll parts + 1
  | .iface _ d => uptoBulk d + 1
  | .map entries => uptoBulkEntries entries + 1
  | .held _ => 1
def uptoBulkAll {H : Type} : List (DataW H) → Nat
  | [] => 0
  | d :: r => uptoBulk d + uptoBulkAll r
def uptoBulkEntries {H : Type} : List (Lit × DataW H) → Nat
  | [] => 0
  | x :: r => uptoBulkEntry x + uptoBulkEntries r
def uptoBulkEntry {H : Type} : Lit × DataW H → Nat
  | (.string bytes, d) => bytes.length + uptoBulk d + 1
  | (_, d) => uptoBulk d + 1
 end
def uptoSmall : (H : Type) → List (DataW H) → Bool := fun _ ds => decide (uptoBulkAll ds ≤ 1048576)
def OpenSpec.upto (s : _root_.Go.ChangeSpec) : _root_.Go.OpenSpec := { _root_.Go.OpenSpec.ofChange s with cond := some uptoSmall }

/-- 'peeragelaw03.BerPuts', WHERE WHAT IT READS IS OF BULK AT MOST 1048576: true; the input reads as it did. -/
def berPutsUptoRow : OpenClaim := { program := "ytkhghgmonjebnaa", sum := "9d38b73748a32bbd90a7e6339f07545bb9726515003d04bcfbfd20a140f315a5", func := "peerage/peeragelaw03.BerPuts", spec := "berPuts", unfollowed := true, recurses := true, loops := true, apart := false, narrowed := true }
def BerPutsUptoSaid : Prop := berPutsUptoRow.holds Try.pinned (OpenSpec.upto berPutsSpec)

/-- 'peeragelaw03.BerParses', WHERE WHAT IT READS IS OF BULK AT MOST 1048576: true; the input reads as it did. -/
def berParsesUptoRow : OpenClaim := { program := "ytkhghgmonjebnaa", sum := "9d38b73748a32bbd90a7e6339f07545bb9726515003d04bcfbfd20a140f315a5", func := "peerage/peeragelaw03.BerParses", spec := "berParses", recurses := true, apart := false, narrowed := true }
def BerParsesUptoSaid : Prop := berParsesUptoRow.holds Try.pinned (OpenSpec.upto berParsesSpec)

/-- 'peeragelaw03.BerDeep', WHERE WHAT IT READS IS OF BULK AT MOST 1048576: true; the input reads as it did. -/
def berDeepUptoRow : OpenClaim := { program := "ytkhghgmonjebnaa", sum := "9d38b73748a32bbd90a7e6339f07545bb9726515003d04bcfbfd20a140f315a5", func := "peerage/peeragelaw03.BerDeep", spec := "berDeep", unfollowed := true, recurses := true, apart := false, narrowed := true }
def BerDeepUptoSaid : Prop := berDeepUptoRow.holds Try.pinned (OpenSpec.upto berDeepSpec)

/-- 'peeragelaw03.BerBack', WHERE WHAT IT READS IS OF BULK AT MOST 1048576: true; the input reads as it did. -/
def berBackUptoRow : OpenClaim := { program := "ytkhghgmonjebnaa", sum := "9d38b73748a32bbd90a7e6339f07545bb9726515003d04bcfbfd20a140f315a5", func := "peerage/peeragelaw03.BerBack", spec := "berBack", unfollowed := true, recurses := true, loops := true, apart := false, narrowed := true }
def BerBackUptoSaid : Prop := berBackUptoRow.holds Try.pinned (OpenSpec.upto berBackSpec)

/-- 'peeragelaw03.BerAgain', WHERE WHAT IT READS IS OF BULK AT MOST 1048576: true; the input reads as it did. -/
def berAgainUptoRow : OpenClaim := { program := "ytkhghgmonjebnaa", sum := "9d38b73748a32bbd90a7e6339f07545bb9726515003d04bcfbfd20a140f315a5", func := "peerage/peeragelaw03.BerAgain", spec := "berAgain", unfollowed := true, recurses := true, apart := false, narrowed := true }
def BerAgainUptoSaid : Prop := berAgainUptoRow.holds Try.pinned (OpenSpec.upto berAgainSpec)

/-- 'peeragelaw03.BerRow', WHERE WHAT IT READS IS OF BULK AT MOST 1048576: true; the input reads as it did. -/
def berRowUptoRow : OpenClaim := { program := "ytkhghgmonjebnaa", sum := "9d38b73748a32bbd90a7e6339f07545bb9726515003d04bcfbfd20a140f315a5", func := "peerage/peeragelaw03.BerRow", spec := "berRow", unfollowed := true, recurses := true, loops := true, apart := false, narrowed := true }
def BerRowUptoSaid : Prop := berRowUptoRow.holds Try.pinned (OpenSpec.upto berRowSpec)

end Rows
end Go.Proofs.Ytkhghgmonjebnaa
