/- A region that draws its order: on the way more may be held. -/
import Derived.Test.YtkhghgmonjebnaaWLast
namespace Go.Proofs.Ytkhghgmonjebnaa.H
open Go.RowKit Go.Proofs.YtkhghgmonjebnaaW.PrintLast
variable {P : Program} {ops : Array Oper} {Q : Exit → Act → World → Prop} {md : Region.Mode}
theorem more_all {S S1 : World → Prop} (h1 : ∀ w, S1 w → S w) : ∀ (fuel : Nat) (l : Array Bool) (a : Act) (w : World), S1 w → wpAnyLast P md ops Q S1 [] fuel l a w → wpAnyLast P md ops Q S [] fuel l a w
  | 0, _, _, _, _, h => h
  | fuel + 1, l, a, w, hS, h => ⟨h.1, fun i hi => wpOp_mono (fun a' w' h' => ⟨fun hn _ => h1 _ (h'.1 hn hS), more_all h1 fuel _ a' w' (h'.1 (by simp) hS) h'.2⟩) (h.2 i hi)⟩
/-- From here on S1 is held, which says more. -/
theorem more_ {S S1 : World → Prop} {fuel : Nat} {l : Array Bool} {a : Act} {w : World} (h1 : ∀ w', S1 w' → S w') (hS : S1 w) (h : S1 w → wpAnyLast P md ops Q S1 [] fuel l a w) : wpAnyLast P md ops Q S [] fuel l a w :=
  more_all h1 fuel l a w hS (h hS)
end Go.Proofs.Ytkhghgmonjebnaa.H
