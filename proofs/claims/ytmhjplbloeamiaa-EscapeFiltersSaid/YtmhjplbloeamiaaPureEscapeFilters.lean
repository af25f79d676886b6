/- The plain law of EscapeFilters: the program's Filter and Unfilter compute what the reference's do. Plain Lean. -/
import Derived.Test.YtmhjplbloeamiaaLEscapeFiltersx1
import Derived.Test.YtmhjplbloeamiaaRUn
import Derived.Test.YtmhjplbloeamiaaHnd
namespace Go.Proofs.Ytmhjplbloeamiaa.Pure
open Go.RowKit Go.Proofs.Ytmhjplbloeamiaa.M Go.Proofs.Ytmhjplbloeamiaa.H Go.Proofs.Ytmhjplbloeamiaa.PEsc Go.Proofs.Ytmhjplbloeamiaa.PRef Go.Proofs.Ytmhjplbloeamiaa.LEscapeFilters Go.Proofs.YtmhjplbloeamiaaW.PrintWords Go.Proofs.YtmhjplbloeamiaaW.PrintLast Go.Proofs.YtmhjplbloeamiaaW.PrintMore
set_option linter.unusedVariables false
set_option linter.unusedSimpArgs false
theorem a_star : escape_Filter.f (⟨#[97, 42]⟩ : ByteArray) = some (mk [97, 92, 50, 97]) := by decide +kernel
theorem a_star_end : ((mk [97, 92, 50, 97]).toList == ([97, 92, 50, 97] : List UInt8)) = true := by rw [mk_toList]; rfl
def parts (k : Nat) (s : ByteArray) : Option Bool := (escape_Unfilter.f k s).bind fun bt161 => ((peerageref10_Unfilter.f k s).bind fun bt163 => ((escape_Filter.f s).bind fun t165 => ((peerageref10_Filter.f k s).bind fun t166 => (if t165.toList = t166.toList then (if bt161.1.toList = bt163.1.toList then (if (bt161.2 == bt163.2) = true then ((escape_Filter.f (⟨#[97, 42]⟩ : ByteArray)).bind fun t167 => (some (t167.toList == ([97, 92, 50, 97] : List UInt8)))) else (some false)) else (some false)) else (some false)))))
theorem core (l : Bs) (hl : l.length ≤ 600) : Ev (fun k => parts k (mk l)) true := by
  have hs2 : (mk l).size ≤ 1000000000 := by rw [mk_size]; omega
  have fa : escape_Filter.f (mk l) = some (mk (fils l)) := by unfold escape_Filter.f; rw [if_pos hs2]; rfl
  have u1 : Ev (fun k => escape_Unfilter.f k (mk l)) (asB (unf (l.length + 1) l [])) := esc_unf (l.length + 1) l [] [] (by omega) (by simp; omega) (by simp; omega)
  have u2 : Ev (fun k => peerageref10_Unfilter.f k (mk l)) (asB (unf (l.length + 1) l [])) := ref_unf (l.length + 1) l [] [] (by omega) (by simp; omega) (by simp; omega)
  have rf := ref_fil l hl
  unfold parts
  refine Ev.bind u1 (Ev.bind u2 ?_)
  simp only [fa, Option.bind_some]
  refine Ev.bind rf ?_
  simp only [if_true, beq_self_eq_true, a_star, Option.bind_some, a_star_end]
  exact Ev.now _
theorem EscapeFilters : peeragelaw10_EscapeFilters.Pure := by
  intro s hs
  have key : Ev (fun k => peeragelaw10_EscapeFilters.f k s) true := by
    by_cases c : (s.size : Int) > 600
    · have := core (s.data.toList.take 600) (by simp; omega)
      refine Ev.congr (fun k => ?_) this
      unfold peeragelaw10_EscapeFilters.f
      have e : s.extract 0 600 = mk (s.data.toList.take 600) := by
        have := mk_extract s.data.toList 0 600
        rw [mk_data] at this
        simpa using this
      rw [if_pos c, if_pos (by omega), if_pos (by omega), e]
      rfl
    · have := core s.data.toList (by show s.size ≤ 600; omega)
      refine Ev.congr (fun k => ?_) this
      unfold peeragelaw10_EscapeFilters.f
      rw [if_neg c, mk_data]
      rfl
  exact key.rounds
end Go.Proofs.Ytmhjplbloeamiaa.Pure
