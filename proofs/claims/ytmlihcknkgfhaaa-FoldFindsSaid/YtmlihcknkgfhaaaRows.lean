/-
  No cell of these rows narrows 'for every input' (looked for: loops, veiled, ifaces, maps, wideKeys, modest, calm, conditions, laid).
  DERIVED. THE GIVEN ROWS OF THIS SEAT. 3 by the template 'for every input the law returns true; each argument reads behind the call as it read before'; 0 by the template 'total and deterministic' (their statements: YtmlihcknkgfhaaaTotals.lean).
  GIVEN WITH THE SEED: the statements are not yours to turn. If you find one false, say at which input.
  Laid BY PROGRAM, IN A SANDBOX (cutbox-rows.mjs): the forced cells as the released guide's own fill.sh prints them over the translation 89bfc5f562e8f6c9… (all of the seat's roots in one cut). By AI agents, Wed Nov 11 2026. No macro, syntax, notation, axiom, sorry.
-/
import Derived.Test.YtmlihcknkgfhaaaChecked
import GoSem.Claim
import GoSem.ClaimJoined
import GoSem.ClaimMapViews
import Derived.JoinedTies
import Derived.KernelRfl
namespace Go.Proofs.Ytmlihcknkgfhaaa
/- THE CELL 'sum', in the pinned program and in every row, IS THE sha256 OF THE DUMP (.gsa) THAT YtmlihcknkgfhaaaProg.lean LOADS. Nothing in Lean hashes anything: it is a label: what it is worth is what the hold of that sum in a sandbox is worth. -/
noncomputable def Try.pinned : Pinned := { name := "ytmlihcknkgfhaaa", sum := "89bfc5f562e8f6c97c22e32cfcdf3b46bfd5875a87bac4948773914a0271f423", checked := Try.checked }
namespace Rows
def none {H : Type} : Left H := { results := [], args := [] }

/-- 'peeragelaw05.FoldFinds': WHATEVER THE INPUT: true; the input reads as it did. -/
def foldFindsSpec : ChangeSpec := { name := "foldFinds", fn := fun _ => fun
  | [d1, d2, d3] => { results := [.lit (.bool true)], args := [d1, d2, d3] }
  | _ => none }
def foldFindsRow : OpenClaim := { program := "ytmlihcknkgfhaaa", sum := "89bfc5f562e8f6c97c22e32cfcdf3b46bfd5875a87bac4948773914a0271f423", func := "peerage/peeragelaw05.FoldFinds", spec := "foldFinds", inPlace := ["internal/bytealg.IndexByteString", "internal/bytealg.IndexString"], named := ["internal/bytealg.MaxLen"], apart := false }
def FoldFindsSaid : Prop := foldFindsRow.holds Try.pinned (OpenSpec.ofChange foldFindsSpec)

/-- ITS FALSE NEIGHBOUR: 'it returns false'. Refute it at one input. -/
def foldFindsWrong : ChangeSpec := { name := "foldFinds", fn := fun _ => fun
  | [d1, d2, d3] => { results := [.lit (.bool false)], args := [d1, d2, d3] }
  | _ => none }
def FoldFindsWrongFalsely : Prop := foldFindsRow.holds Try.pinned (OpenSpec.ofChange foldFindsWrong)

/-- 'peeragelaw05.FoldJoins': WHATEVER THE INPUT: true; the input reads as it did. -/
def foldJoinsSpec : ChangeSpec := { name := "foldJoins", fn := fun _ => fun
  | [d1, d2] => { results := [.lit (.bool true)], args := [d1, d2] }
  | _ => none }
def foldJoinsRow : OpenClaim := { program := "ytmlihcknkgfhaaa", sum := "89bfc5f562e8f6c97c22e32cfcdf3b46bfd5875a87bac4948773914a0271f423", func := "peerage/peeragelaw05.FoldJoins", spec := "foldJoins", inPlace := ["internal/abi.NoEscape"], apart := false }
def FoldJoinsSaid : Prop := foldJoinsRow.holds Try.pinned (OpenSpec.ofChange foldJoinsSpec)

/-- ITS FALSE NEIGHBOUR: 'it returns false'. Refute it at one input. -/
def foldJoinsWrong : ChangeSpec := { name := "foldJoins", fn := fun _ => fun
  | [d1, d2] => { results := [.lit (.bool false)], args := [d1, d2] }
  | _ => none }
def FoldJoinsWrongFalsely : Prop := foldJoinsRow.holds Try.pinned (OpenSpec.ofChange foldJoinsWrong)

/-- 'peeragelaw05.FoldAgain': WHATEVER THE INPUT: true; the input reads as it did. -/
def foldAgainSpec : ChangeSpec := { name := "foldAgain", fn := fun _ => fun
  | [d] => { results := [.lit (.bool true)], args := [d] }
  | _ => none }
def foldAgainRow : OpenClaim := { program := "ytmlihcknkgfhaaa", sum := "89bfc5f562e8f6c97c22e32cfcdf3b46bfd5875a87bac4948773914a0271f423", func := "peerage/peeragelaw05.FoldAgain", spec := "foldAgain", inPlace := ["internal/abi.NoEscape"], apart := false }
def FoldAgainSaid : Prop := foldAgainRow.holds Try.pinned (OpenSpec.ofChange foldAgainSpec)

/-- ITS FALSE NEIGHBOUR: 'it returns false'. Refute it at one input. -/
def foldAgainWrong : ChangeSpec := { name := "foldAgain", fn := fun _ => fun
  | [d] => { results := [.lit (.bool false)], args := [d] }
  | _ => none }
def FoldAgainWrongFalsely : Prop := foldAgainRow.holds Try.pinned (OpenSpec.ofChange foldAgainWrong)

/- THE SECOND FORM. 'bulk': how many values and letters a reading holds, each counted each time it is reached (what is shared counts as often as it is met; a slice's spare places count too). A statement '..UptoSaid' is the law's where the arguments, and the package variables that the reading takes, are together of bulk at most 1048576: NARROWER than '..Said'. Prove '..Said' where nothing that the law and all that it calls make is longer than what came in: it says more and counts as full. Else prove '..UptoSaid'. A law counts once. -/
mutual
def uptoBulk {H : Type} : DataW H → Nat
  | .lit (.string bytes) => bytes.length + 1
  | .lit _ => 1
  | .nil => 1
  | .ptr d => uptoBulk d + 1
  | .slice elems spare => uptoBulkAll elems + uptoBulkAll spare + 1
  | .agg parts => uptoBulkAll parts + 1
  | .iface _ d => uptoBulk d + 1
  | .map entries => uptoBulkEntries entries + 1
  | .held _ => 1
def uptoBulkAll {H : Type} : List (DataW H) → Nat
  | [] => 0
  | d :: r => uptoBulk d + uptoBulkAll r
def uptoBulkEntries {H : Type} : List (Lit × DataW H) → Nat
  | [] => 0
  | x :: r => uptoBulkEntry x + uptoBulkEntries r
def uptoBulkEntry {H : Type} : Lit × DataW H → Nat
  | (.string bytes, d) => bytes.length + uptoBulk d + 1
  | (_, d) => uptoBulk d + 1
 end
def uptoSmall : (H : Type) → List (DataW H) → Bool := fun _ ds => decide (uptoBulkAll ds ≤ 1048576)
def OpenSpec.upto (s : _root_.Go.ChangeSpec) : _root_.Go.OpenSpec := { _root_.Go.OpenSpec.ofChange s with cond := some uptoSmall }

/-- 'peeragelaw05.FoldFinds', WHERE WHAT IT READS IS OF BULK AT MOST 1048576: true; the input reads as it did. -/
def foldFindsUptoRow : OpenClaim := { program := "ytmlihcknkgfhaaa", sum := "89bfc5f562e8f6c97c22e32cfcdf3b46bfd5875a87bac4948773914a0271f423", func := "peerage/peeragelaw05.FoldFinds", spec := "foldFinds", inPlace := ["internal/bytealg.IndexByteString", "internal/bytealg.IndexString"], named := ["internal/bytealg.MaxLen"], apart := false, narrowed := true }
def FoldFindsUptoSaid : Prop := foldFindsUptoRow.holds Try.pinned (OpenSpec.upto foldFindsSpec)

/-- 'peeragelaw05.FoldJoins', WHERE WHAT IT READS IS OF BULK AT MOST 1048576: true; the input reads as it did. -/
def foldJoinsUptoRow : OpenClaim := { program := "ytmlihcknkgfhaaa", sum := "89bfc5f562e8f6c97c22e32cfcdf3b46bfd5875a87bac4948773914a0271f423", func := "peerage/peeragelaw05.FoldJoins", spec := "foldJoins", inPlace := ["internal/abi.NoEscape"], apart := false, narrowed := true }
def FoldJoinsUptoSaid : Prop := foldJoinsUptoRow.holds Try.pinned (OpenSpec.upto foldJoinsSpec)

/-- 'peeragelaw05.FoldAgain', WHERE WHAT IT READS IS OF BULK AT MOST 1048576: true; the input reads as it did. -/
def foldAgainUptoRow : OpenClaim := { program := "ytmlihcknkgfhaaa", sum := "89bfc5f562e8f6c97c22e32cfcdf3b46bfd5875a87bac4948773914a0271f423", func := "peerage/peeragelaw05.FoldAgain", spec := "foldAgain", inPlace := ["internal/abi.NoEscape"], apart := false, narrowed := true }
def FoldAgainUptoSaid : Prop := foldAgainUptoRow.holds Try.pinned (OpenSpec.upto foldAgainSpec)

end Rows
end Go.Proofs.Ytmlihcknkgfhaaa
