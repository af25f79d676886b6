/-
  No cell of these rows narrows 'for every input' (looked for: loops, veiled, ifaces, maps, wideKeys, modest, calm, conditions, laid).
  DERIVED. THE GIVEN ROWS OF THIS SEAT. 6 by the template 'for every input the law returns true; each argument reads behind the call as it read before'; 0 by the template 'total and deterministic' (their statements: YtfgamapnoonklaaTotals.lean).
  GIVEN WITH THE SEED: the statements are not yours to turn. If you find one false, say at which input.
  Laid BY PROGRAM, IN A SANDBOX (cutbox-rows.mjs): the forced cells as the released guide's own fill.sh prints them over the translation efd290f551cea68b… (all of the seat's roots in one cut). By AI agents, Wed Nov 11 2026. No macro, syntax, notation, axiom, sorry.
-/
import Derived.Test.YtfgamapnoonklaaChecked
import GoSem.Claim
import GoSem.ClaimJoined
import GoSem.ClaimMapViews
import Derived.JoinedTies
import Derived.KernelRfl
namespace Go.Proofs.Ytfgamapnoonklaa
/- THE CELL 'sum', in the pinned program and in every row, IS THE sha256 OF THE DUMP (.gsa) THAT YtfgamapnoonklaaProg.lean LOADS. Nothing in Lean hashes anything: it is a label: what it is worth is what the hold of that sum in a sandbox is worth. -/
noncomputable def Try.pinned : Pinned := { name := "ytfgamapnoonklaa", sum := "efd290f551cea68bd4e0dbafa310b794622d87ab9ad20da79c28f104a2cc011d", checked := Try.checked }
namespace Rows
def none {H : Type} : Left H := { results := [], args := [] }

/-- 'peeragelaw06.RealRates': WHATEVER THE INPUT: true; the input reads as it did. -/
def realRatesSpec : ChangeSpec := { name := "realRates", fn := fun _ => fun
  | [d1, d2, d3] => { results := [.lit (.bool true)], args := [d1, d2, d3] }
  | _ => none }
def realRatesRow : OpenClaim := { program := "ytfgamapnoonklaa", sum := "efd290f551cea68bd4e0dbafa310b794622d87ab9ad20da79c28f104a2cc011d", func := "peerage/peeragelaw06.RealRates", spec := "realRates", apart := false }
def RealRatesSaid : Prop := realRatesRow.holds Try.pinned (OpenSpec.ofChange realRatesSpec)

/-- ITS FALSE NEIGHBOUR: 'it returns false'. Refute it at one input. -/
def realRatesWrong : ChangeSpec := { name := "realRates", fn := fun _ => fun
  | [d1, d2, d3] => { results := [.lit (.bool false)], args := [d1, d2, d3] }
  | _ => none }
def RealRatesWrongFalsely : Prop := realRatesRow.holds Try.pinned (OpenSpec.ofChange realRatesWrong)

/-- 'peeragelaw06.RealGreatest': WHATEVER THE INPUT: true; the input reads as it did. -/
def realGreatestSpec : ChangeSpec := { name := "realGreatest", fn := fun _ => fun
  | [d] => { results := [.lit (.bool true)], args := [d] }
  | _ => none }
def realGreatestRow : OpenClaim := { program := "ytfgamapnoonklaa", sum := "efd290f551cea68bd4e0dbafa310b794622d87ab9ad20da79c28f104a2cc011d", func := "peerage/peeragelaw06.RealGreatest", spec := "realGreatest", unfollowed := true, recurses := true, apart := false }
def RealGreatestSaid : Prop := realGreatestRow.holds Try.pinned (OpenSpec.ofChange realGreatestSpec)

/-- ITS FALSE NEIGHBOUR: 'it returns false'. Refute it at one input. -/
def realGreatestWrong : ChangeSpec := { name := "realGreatest", fn := fun _ => fun
  | [d] => { results := [.lit (.bool false)], args := [d] }
  | _ => none }
def RealGreatestWrongFalsely : Prop := realGreatestRow.holds Try.pinned (OpenSpec.ofChange realGreatestWrong)

/-- 'peeragelaw06.RealOrder': WHATEVER THE INPUT: true; the input reads as it did. -/
def realOrderSpec : ChangeSpec := { name := "realOrder", fn := fun _ => fun
  | [d1, d2, d3] => { results := [.lit (.bool true)], args := [d1, d2, d3] }
  | _ => none }
def realOrderRow : OpenClaim := { program := "ytfgamapnoonklaa", sum := "efd290f551cea68bd4e0dbafa310b794622d87ab9ad20da79c28f104a2cc011d", func := "peerage/peeragelaw06.RealOrder", spec := "realOrder", inPlace := ["math.Float64frombits", "math.Float64bits"], apart := false }
def RealOrderSaid : Prop := realOrderRow.holds Try.pinned (OpenSpec.ofChange realOrderSpec)

/-- ITS FALSE NEIGHBOUR: 'it returns false'. Refute it at one input. -/
def realOrderWrong : ChangeSpec := { name := "realOrder", fn := fun _ => fun
  | [d1, d2, d3] => { results := [.lit (.bool false)], args := [d1, d2, d3] }
  | _ => none }
def RealOrderWrongFalsely : Prop := realOrderRow.holds Try.pinned (OpenSpec.ofChange realOrderWrong)

/-- 'peeragelaw06.RealPicks': WHATEVER THE INPUT: true; the input reads as it did. -/
def realPicksSpec : ChangeSpec := { name := "realPicks", fn := fun _ => fun
  | [d1, d2, d3] => { results := [.lit (.bool true)], args := [d1, d2, d3] }
  | _ => none }
def realPicksRow : OpenClaim := { program := "ytfgamapnoonklaa", sum := "efd290f551cea68bd4e0dbafa310b794622d87ab9ad20da79c28f104a2cc011d", func := "peerage/peeragelaw06.RealPicks", spec := "realPicks", inPlace := ["math.Float64bits"], unfollowed := true, recurses := true, apart := false }
def RealPicksSaid : Prop := realPicksRow.holds Try.pinned (OpenSpec.ofChange realPicksSpec)

/-- ITS FALSE NEIGHBOUR: 'it returns false'. Refute it at one input. -/
def realPicksWrong : ChangeSpec := { name := "realPicks", fn := fun _ => fun
  | [d1, d2, d3] => { results := [.lit (.bool false)], args := [d1, d2, d3] }
  | _ => none }
def RealPicksWrongFalsely : Prop := realPicksRow.holds Try.pinned (OpenSpec.ofChange realPicksWrong)

/-- 'peeragelaw06.RealTells': WHATEVER THE INPUT: true; the input reads as it did. -/
def realTellsSpec : ChangeSpec := { name := "realTells", fn := fun _ => fun
  | [d1, d2, d3] => { results := [.lit (.bool true)], args := [d1, d2, d3] }
  | _ => none }
def realTellsRow : OpenClaim := { program := "ytfgamapnoonklaa", sum := "efd290f551cea68bd4e0dbafa310b794622d87ab9ad20da79c28f104a2cc011d", func := "peerage/peeragelaw06.RealTells", spec := "realTells", inPlace := ["math.Float64frombits", "math.Float64bits"], apart := false }
def RealTellsSaid : Prop := realTellsRow.holds Try.pinned (OpenSpec.ofChange realTellsSpec)

/-- ITS FALSE NEIGHBOUR: 'it returns false'. Refute it at one input. -/
def realTellsWrong : ChangeSpec := { name := "realTells", fn := fun _ => fun
  | [d1, d2, d3] => { results := [.lit (.bool false)], args := [d1, d2, d3] }
  | _ => none }
def RealTellsWrongFalsely : Prop := realTellsRow.holds Try.pinned (OpenSpec.ofChange realTellsWrong)

/-- 'peeragelaw06.RealBack': WHATEVER THE INPUT: true; the input reads as it did. -/
def realBackSpec : ChangeSpec := { name := "realBack", fn := fun _ => fun
  | [d] => { results := [.lit (.bool true)], args := [d] }
  | _ => none }
def realBackRow : OpenClaim := { program := "ytfgamapnoonklaa", sum := "efd290f551cea68bd4e0dbafa310b794622d87ab9ad20da79c28f104a2cc011d", func := "peerage/peeragelaw06.RealBack", spec := "realBack", inPlace := ["math.Float64frombits", "math.Float64bits"], apart := false }
def RealBackSaid : Prop := realBackRow.holds Try.pinned (OpenSpec.ofChange realBackSpec)

/-- ITS FALSE NEIGHBOUR: 'it returns false'. Refute it at one input. -/
def realBackWrong : ChangeSpec := { name := "realBack", fn := fun _ => fun
  | [d] => { results := [.lit (.bool false)], args := [d] }
  | _ => none }
def RealBackWrongFalsely : Prop := realBackRow.holds Try.pinned (OpenSpec.ofChange realBackWrong)

/- THE SECOND FORM. 'bulk': how many values and letters a reading holds, each counted each time it is reached (what is shared counts as often as it is met; a slice's spare places count too). A statement '..UptoSaid' is the law's where the arguments, and the package variables that the reading takes, are together of bulk at most 1048576: NARROWER than '..Said'. Prove '..Said' where nothing that the law and all that it calls make is longer than what came in: it says more and counts as full. Else prove '..UptoSaid'. A law counts once. -/
mutual
def uptoBulk {H : Type} : DataW H → Nat
  | .lit (.string bytes) => bytes.length + 1
  | .lit _ => 1
  | .nil => 1
  | .ptr d => uptoBulk d + 1
  | .slice elems spare => uptoBulkAll elems + uptoBulkAll spare + 1
  | .agg parts => uptoBulkAll parts + 1
  | .iface _ d => uptoBulk d + 1
  | .map entries => uptoBulkEntries entries + 1
  | .held _ => 1
def uptoBulkAll {H : Type} : List (DataW H) → Nat
  | [] => 0
  | d :: r => uptoBulk d + uptoBulkAll r
def uptoBulkEntries {H : Type} : List (Lit × DataW H) → Nat
  | [] => 0
  | x :: r => uptoBulkEntry x + uptoBulkEntries r
def uptoBulkEntry {H : Type} : Lit × DataW H → Nat
  | (.string bytes, d) => bytes.length + uptoBulk d + 1
  | (_, d) => uptoBulk d + 1
 end
def uptoSmall : (H : Type) → List (DataW H) → Bool := fun _ ds => decide (uptoBulkAll ds ≤ 1048576)
def OpenSpec.upto (s : _root_.Go.ChangeSpec) : _root_.Go.OpenSpec := { _root_.Go.OpenSpec.ofChange s with cond := some uptoSmall }

/-- 'peeragelaw06.RealRates', WHERE WHAT IT READS IS OF BULK AT MOST 1048576: true; the input reads as it did. -/
def realRatesUptoRow : OpenClaim := { program := "ytfgamapnoonklaa", sum := "efd290f551cea68bd4e0dbafa310b794622d87ab9ad20da79c28f104a2cc011d", func := "peerage/peeragelaw06.RealRates", spec := "realRates", apart := false, narrowed := true }
def RealRatesUptoSaid : Prop := realRatesUptoRow.holds Try.pinned (OpenSpec.upto realRatesSpec)

/-- 'peeragelaw06.RealGreatest', WHERE WHAT IT READS IS OF BULK AT MOST 1048576: true; the input reads as it did. -/
def realGreatestUptoRow : OpenClaim := { program := "ytfgamapnoonklaa", sum := "efd290f551cea68bd4e0dbafa310b794622d87ab9ad20da79c28f104a2cc011d", func := "peerage/peeragelaw06.RealGreatest", spec := "realGreatest", unfollowed := true, recurses := true, apart := false, narrowed := true }
def RealGreatestUptoSaid : Prop := realGreatestUptoRow.holds Try.pinned (OpenSpec.upto realGreatestSpec)

/-- 'peeragelaw06.RealOrder', WHERE WHAT IT READS IS OF BULK AT MOST 1048576: true; the input reads as it did. -/
def realOrderUptoRow : OpenClaim := { program := "ytfgamapnoonklaa", sum := "efd290f551cea68bd4e0dbafa310b794622d87ab9ad20da79c28f104a2cc011d", func := "peerage/peeragelaw06.RealOrder", spec := "realOrder", inPlace := ["math.Float64frombits", "math.Float64bits"], apart := false, narrowed := true }
def RealOrderUptoSaid : Prop := realOrderUptoRow.holds Try.pinned (OpenSpec.upto realOrderSpec)

/-- 'peeragelaw06.RealPicks', WHERE WHAT IT READS IS OF BULK AT MOST 1048576: true; the input reads as it did. -/
def realPicksUptoRow : OpenClaim := { program := "ytfgamapnoonklaa", sum := "efd290f551cea68bd4e0dbafa310b794622d87ab9ad20da79c28f104a2cc011d", func := "peerage/peeragelaw06.RealPicks", spec := "realPicks", inPlace := ["math.Float64bits"], unfollowed := true, recurses := true, apart := false, narrowed := true }
def RealPicksUptoSaid : Prop := realPicksUptoRow.holds Try.pinned (OpenSpec.upto realPicksSpec)

/-- 'peeragelaw06.RealTells', WHERE WHAT IT READS IS OF BULK AT MOST 1048576: true; the input reads as it did. -/
def realTellsUptoRow : OpenClaim := { program := "ytfgamapnoonklaa", sum := "efd290f551cea68bd4e0dbafa310b794622d87ab9ad20da79c28f104a2cc011d", func := "peerage/peeragelaw06.RealTells", spec := "realTells", inPlace := ["math.Float64frombits", "math.Float64bits"], apart := false, narrowed := true }
def RealTellsUptoSaid : Prop := realTellsUptoRow.holds Try.pinned (OpenSpec.upto realTellsSpec)

/-- 'peeragelaw06.RealBack', WHERE WHAT IT READS IS OF BULK AT MOST 1048576: true; the input reads as it did. -/
def realBackUptoRow : OpenClaim := { program := "ytfgamapnoonklaa", sum := "efd290f551cea68bd4e0dbafa310b794622d87ab9ad20da79c28f104a2cc011d", func := "peerage/peeragelaw06.RealBack", spec := "realBack", inPlace := ["math.Float64frombits", "math.Float64bits"], apart := false, narrowed := true }
def RealBackUptoSaid : Prop := realBackUptoRow.holds Try.pinned (OpenSpec.upto realBackSpec)

end Rows
end Go.Proofs.Ytfgamapnoonklaa
