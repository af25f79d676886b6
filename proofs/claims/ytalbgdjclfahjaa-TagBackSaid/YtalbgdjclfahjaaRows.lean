/-
  No cell of these rows narrows 'for every input' (looked for: loops, veiled, ifaces, maps, wideKeys, modest, calm, conditions, laid).
  DERIVED. THE GIVEN ROWS OF THIS SEAT. 5 by the template 'for every input the law returns true; each argument reads behind the call as it read before'; 0 by the template 'total and deterministic' (their statements: YtalbgdjclfahjaaTotals.lean).
  GIVEN WITH THE SEED: the statements are not yours to turn. If you find one false, say at which input.
  Laid BY PROGRAM, IN A SANDBOX (cutbox-rows.mjs): the forced cells as the released guide's own fill.sh prints them over the translation 123c57ef19ff7181… (all of the seat's roots in one cut). By AI agents, Wed Nov 11 2026. No macro, syntax, notation, axiom, sorry.
-/
import Derived.Test.YtalbgdjclfahjaaChecked
import GoSem.Claim
import GoSem.ClaimJoined
import GoSem.ClaimMapViews
import Derived.JoinedTies
import Derived.KernelRfl
namespace Go.Proofs.Ytalbgdjclfahjaa
/- THE CELL 'sum', in the pinned program and in every row, IS THE sha256 OF THE DUMP (.gsa) THAT YtalbgdjclfahjaaProg.lean LOADS. Nothing in Lean hashes anything: it is a label: what it is worth is what the hold of that sum in a sandbox is worth. -/
noncomputable def Try.pinned : Pinned := { name := "ytalbgdjclfahjaa", sum := "123c57ef19ff7181d15b5fc2a86163d652a9c8219ac25e6402d9c085777b06b3", checked := Try.checked }
namespace Rows
def none {H : Type} : Left H := { results := [], args := [] }

/-- 'peeragelaw01.TagPuts': WHATEVER THE INPUT: true; the input reads as it did. -/
def tagPutsSpec : ChangeSpec := { name := "tagPuts", fn := fun _ => fun
  | [d1, d2, d3] => { results := [.lit (.bool true)], args := [d1, d2, d3] }
  | _ => none }
def tagPutsRow : OpenClaim := { program := "ytalbgdjclfahjaa", sum := "123c57ef19ff7181d15b5fc2a86163d652a9c8219ac25e6402d9c085777b06b3", func := "peerage/peeragelaw01.TagPuts", spec := "tagPuts", unfollowed := true, recurses := true, apart := false }
def TagPutsSaid : Prop := tagPutsRow.holds Try.pinned (OpenSpec.ofChange tagPutsSpec)

/-- ITS FALSE NEIGHBOUR: 'it returns false'. Refute it at one input. -/
def tagPutsWrong : ChangeSpec := { name := "tagPuts", fn := fun _ => fun
  | [d1, d2, d3] => { results := [.lit (.bool false)], args := [d1, d2, d3] }
  | _ => none }
def TagPutsWrongFalsely : Prop := tagPutsRow.holds Try.pinned (OpenSpec.ofChange tagPutsWrong)

/-- 'peeragelaw01.TagOne': WHATEVER THE INPUT: true; the input reads as it did. -/
def tagOneSpec : ChangeSpec := { name := "tagOne", fn := fun _ => fun
  | [d1, d2, d3] => { results := [.lit (.bool true)], args := [d1, d2, d3] }
  | _ => none }
def tagOneRow : OpenClaim := { program := "ytalbgdjclfahjaa", sum := "123c57ef19ff7181d15b5fc2a86163d652a9c8219ac25e6402d9c085777b06b3", func := "peerage/peeragelaw01.TagOne", spec := "tagOne", unfollowed := true, recurses := true, apart := false }
def TagOneSaid : Prop := tagOneRow.holds Try.pinned (OpenSpec.ofChange tagOneSpec)

/-- ITS FALSE NEIGHBOUR: 'it returns false'. Refute it at one input. -/
def tagOneWrong : ChangeSpec := { name := "tagOne", fn := fun _ => fun
  | [d1, d2, d3] => { results := [.lit (.bool false)], args := [d1, d2, d3] }
  | _ => none }
def TagOneWrongFalsely : Prop := tagOneRow.holds Try.pinned (OpenSpec.ofChange tagOneWrong)

/-- 'peeragelaw01.TagSizes': WHATEVER THE INPUT: true; the input reads as it did. -/
def tagSizesSpec : ChangeSpec := { name := "tagSizes", fn := fun _ => fun
  | [d1, d2] => { results := [.lit (.bool true)], args := [d1, d2] }
  | _ => none }
def tagSizesRow : OpenClaim := { program := "ytalbgdjclfahjaa", sum := "123c57ef19ff7181d15b5fc2a86163d652a9c8219ac25e6402d9c085777b06b3", func := "peerage/peeragelaw01.TagSizes", spec := "tagSizes", unfollowed := true, recurses := true, apart := false }
def TagSizesSaid : Prop := tagSizesRow.holds Try.pinned (OpenSpec.ofChange tagSizesSpec)

/-- ITS FALSE NEIGHBOUR: 'it returns false'. Refute it at one input. -/
def tagSizesWrong : ChangeSpec := { name := "tagSizes", fn := fun _ => fun
  | [d1, d2] => { results := [.lit (.bool false)], args := [d1, d2] }
  | _ => none }
def TagSizesWrongFalsely : Prop := tagSizesRow.holds Try.pinned (OpenSpec.ofChange tagSizesWrong)

/-- 'peeragelaw01.TagReads': WHATEVER THE INPUT: true; the input reads as it did. -/
def tagReadsSpec : ChangeSpec := { name := "tagReads", fn := fun _ => fun
  | [d] => { results := [.lit (.bool true)], args := [d] }
  | _ => none }
def tagReadsRow : OpenClaim := { program := "ytalbgdjclfahjaa", sum := "123c57ef19ff7181d15b5fc2a86163d652a9c8219ac25e6402d9c085777b06b3", func := "peerage/peeragelaw01.TagReads", spec := "tagReads", apart := false }
def TagReadsSaid : Prop := tagReadsRow.holds Try.pinned (OpenSpec.ofChange tagReadsSpec)

/-- ITS FALSE NEIGHBOUR: 'it returns false'. Refute it at one input. -/
def tagReadsWrong : ChangeSpec := { name := "tagReads", fn := fun _ => fun
  | [d] => { results := [.lit (.bool false)], args := [d] }
  | _ => none }
def TagReadsWrongFalsely : Prop := tagReadsRow.holds Try.pinned (OpenSpec.ofChange tagReadsWrong)

/-- 'peeragelaw01.TagBack': WHATEVER THE INPUT: true; the input reads as it did. -/
def tagBackSpec : ChangeSpec := { name := "tagBack", fn := fun _ => fun
  | [d1, d2, d3] => { results := [.lit (.bool true)], args := [d1, d2, d3] }
  | _ => none }
def tagBackRow : OpenClaim := { program := "ytalbgdjclfahjaa", sum := "123c57ef19ff7181d15b5fc2a86163d652a9c8219ac25e6402d9c085777b06b3", func := "peerage/peeragelaw01.TagBack", spec := "tagBack", unfollowed := true, recurses := true, apart := false }
def TagBackSaid : Prop := tagBackRow.holds Try.pinned (OpenSpec.ofChange tagBackSpec)

/-- ITS FALSE NEIGHBOUR: 'it returns false'. Refute it at one input. -/
def tagBackWrong : ChangeSpec := { name := "tagBack", fn := fun _ => fun
  | [d1, d2, d3] => { results := [.lit (.bool false)], args := [d1, d2, d3] }
  | _ => none }
def TagBackWrongFalsely : Prop := tagBackRow.holds Try.pinned (OpenSpec.ofChange tagBackWrong)

/- THE SECOND FORM. 'bulk': how many values and letters a reading holds, each counted each time it is reached (what is shared counts as often as it is met; a slice's spare places count too). A statement '..UptoSaid' is the law's where the arguments, and the package variables that the reading takes, are together of bulk at most 1048576: NARROWER than '..Said'. Prove '..Said' where nothing that the law and all that it calls make is longer than what came in: it says more and counts as full. Else prove '..UptoSaid'. A law counts once. -/
mutual
def uptoBulk {H : Type} : DataW H → Nat
  | .lit (.string bytes) => bytes.length + 1
  | .lit _ => 1
  | .nil => 1
  | .ptr d => uptoBulk d + 1
  | .slice elems spare => uptoBulkAll elems + uptoBulkAll spare + 1
  | .agg parts => uptoBulkAll parts + 1
  | .iface _ d => uptoBulk d + 1
  | .map entries => uptoBulkEntries entries + 1
  | .held _ => 1
def uptoBulkAll {H : Type} : List (DataW H) → Nat
  | [] => 0
  | d :: r => uptoBulk d + uptoBulkAll r
def uptoBulkEntries {H : Type} : List (Lit × DataW H) → Nat
  | [] => 0
  | x :: r => uptoBulkEntry x + uptoBulkEntries r
def uptoBulkEntry {H : Type} : Lit × DataW H → Nat
  | (.string bytes, d) => bytes.length + uptoBulk d + 1
  | (_, d) => uptoBulk d + 1
 end
def uptoSmall : (H : Type) → List (DataW H) → Bool := fun _ ds => decide (uptoBulkAll ds ≤ 1048576)
def OpenSpec.upto (s : _root_.Go.ChangeSpec) : _root_.Go.OpenSpec := { _root_.Go.OpenSpec.ofChange s with cond := some uptoSmall }

/-- 'peeragelaw01.TagPuts', WHERE WHAT IT READS IS OF BULK AT MOST 1048576: true; the input reads as it did. -/
def tagPutsUptoRow : OpenClaim := { program := "ytalbgdjclfahjaa", sum := "123c57ef19ff7181d15b5fc2a86163d652a9c8219ac25e6402d9c085777b06b3", func := "peerage/peeragelaw01.TagPuts", spec := "tagPuts", unfollowed := true, recurses := true, apart := false, narrowed := true }
def TagPutsUptoSaid : Prop := tagPutsUptoRow.holds Try.pinned (OpenSpec.upto tagPutsSpec)

/-- 'peeragelaw01.TagOne', WHERE WHAT IT READS IS OF BULK AT MOST 1048576: true; the input reads as it did. -/
def tagOneUptoRow : OpenClaim := { program := "ytalbgdjclfahjaa", sum := "123c57ef19ff7181d15b5fc2a86163d652a9c8219ac25e6402d9c085777b06b3", func := "peerage/peeragelaw01.TagOne", spec := "tagOne", unfollowed := true, recurses := true, apart := false, narrowed := true }
def TagOneUptoSaid : Prop := tagOneUptoRow.holds Try.pinned (OpenSpec.upto tagOneSpec)

/-- 'peeragelaw01.TagSizes', WHERE WHAT IT READS IS OF BULK AT MOST 1048576: true; the input reads as it did. -/
def tagSizesUptoRow : OpenClaim := { program := "ytalbgdjclfahjaa", sum := "123c57ef19ff7181d15b5fc2a86163d652a9c8219ac25e6402d9c085777b06b3", func := "peerage/peeragelaw01.TagSizes", spec := "tagSizes", unfollowed := true, recurses := true, apart := false, narrowed := true }
def TagSizesUptoSaid : Prop := tagSizesUptoRow.holds Try.pinned (OpenSpec.upto tagSizesSpec)

/-- 'peeragelaw01.TagReads', WHERE WHAT IT READS IS OF BULK AT MOST 1048576: true; the input reads as it did. -/
def tagReadsUptoRow : OpenClaim := { program := "ytalbgdjclfahjaa", sum := "123c57ef19ff7181d15b5fc2a86163d652a9c8219ac25e6402d9c085777b06b3", func := "peerage/peeragelaw01.TagReads", spec := "tagReads", apart := false, narrowed := true }
def TagReadsUptoSaid : Prop := tagReadsUptoRow.holds Try.pinned (OpenSpec.upto tagReadsSpec)

/-- 'peeragelaw01.TagBack', WHERE WHAT IT READS IS OF BULK AT MOST 1048576: true; the input reads as it did. -/
def tagBackUptoRow : OpenClaim := { program := "ytalbgdjclfahjaa", sum := "123c57ef19ff7181d15b5fc2a86163d652a9c8219ac25e6402d9c085777b06b3", func := "peerage/peeragelaw01.TagBack", spec := "tagBack", unfollowed := true, recurses := true, apart := false, narrowed := true }
def TagBackUptoSaid : Prop := tagBackUptoRow.holds Try.pinned (OpenSpec.upto tagBackSpec)

end Rows
end Go.Proofs.Ytalbgdjclfahjaa
