/- The plain law of EscapeBack: what was put is read back. Plain Lean over the printed functions. -/
import Derived.Test.YtmhjplbloeamiaaDoorLEscapeBackx1
import Derived.Test.YtmhjplbloeamiaaDoorUx
namespace Go.Proofs.YtmhjplbloeamiaaDoor.Pure
open Go.RowKit Go.Proofs.YtmhjplbloeamiaaDoor.M Go.Proofs.YtmhjplbloeamiaaDoor.H Go.Proofs.YtmhjplbloeamiaaDoor.PEsc Go.Proofs.YtmhjplbloeamiaaDoor.LEscapeBack Go.Proofs.YtmhjplbloeamiaaDoorW.PrintWords Go.Proofs.YtmhjplbloeamiaaDoorW.PrintLast Go.Proofs.YtmhjplbloeamiaaDoorW.PrintMore
set_option linter.unusedVariables false
set_option linter.unusedSimpArgs false
theorem facts (l : Bs) (hl : l.length ≤ 600) : escape_Put.f (mk l) = some (mk (puts l)) ∧ escape_Filter.f (mk l) = some (mk (fils l)) ∧ escape_Hex.f (mk l) = some (mk (hexs l)) := by
  have hs : (mk l).size = l.length := mk_size l
  have hs2 : (mk l).size ≤ 1000000000 := by omega
  refine ⟨?_, ?_, ?_⟩
  · unfold escape_Put.f; rw [if_pos hs2]; rfl
  · unfold escape_Filter.f; rw [if_pos hs2]; rfl
  · unfold escape_Hex.f; rw [if_pos hs2]; rfl
theorem fils_len (l : Bs) : (fils l).length ≤ 3 * l.length := pre_len (fun i c => by unfold gfil; (repeat' split) <;> simp [two_len]) _
theorem put_space : escape_Put.f (⟨#[32]⟩ : ByteArray) = some (mk [92, 32]) := by decide +kernel
/-- The law's body, over the text that it looks at. -/
def body (k : Nat) (a0 : ByteArray) : Option Bool := ((escape_Put.f a0).bind fun t173 => ((escape_Read.f k t173).bind fun bt174 => (if 2 + t173.size ≤ 9223372036854775807 then (if ((⟨#[32, 32]⟩ : ByteArray) ++ t173).size + 6 ≤ 9223372036854775807 then ((escape_Read.f k (((⟨#[32, 32]⟩ : ByteArray) ++ t173) ++ (⟨#[32, 44, 114, 101, 115, 116]⟩ : ByteArray))).bind fun bt177 => ((escape_Filter.f a0).bind fun t180 => ((escape_Unfilter.f k t180).bind fun bt181 => ((escape_Hex.f a0).bind fun t183 => ((escape_Unhex.f k t183).bind fun bt184 => (if bt174.2.2 = true then (if bt174.1.toList = a0.toList then (if bt174.2.1 = (t173.size : Int) then (if bt177.2.2 = true then (if bt177.1.toList = a0.toList then (if bt177.2.1 = (wrap64 ((t173.size : Int) + 3)) then (if bt181.2 = true then (if bt181.1.toList = a0.toList then (if bt184.2 = true then (if bt184.1.toList = a0.toList then ((escape_Put.f (⟨#[32]⟩ : ByteArray)).bind fun t186 => (some (t186.toList == ([92, 32] : List UInt8)))) else (some false)) else (some false)) else (some false)) else (some false)) else (some false)) else (some false)) else (some false)) else (some false)) else (some false)) else (some false))))))) else (none)) else (none))))
theorem core (l : Bs) (hl : l.length ≤ 600) : Ev (fun k => body k (mk l)) true := by
  obtain ⟨f1, f2, f3⟩ := facts l hl
  have hp := puts_len l
  have hf := fils_len l
  have hsz : (mk (puts l)).size = (puts l).length := mk_size _
  have happ : ((⟨#[32, 32]⟩ : ByteArray) ++ mk (puts l)) = mk ([32, 32] ++ puts l) := mk_append _ _
  have happ2 : (mk ([32, 32] ++ puts l) ++ (⟨#[32, 44, 114, 101, 115, 116]⟩ : ByteArray)) = mk ([32, 32] ++ (puts l ++ [32, 44, 114, 101, 115, 116])) := mk_append _ _
  have hs2 : (mk ([32, 32] ++ puts l)).size = (puts l).length + 2 := by rw [mk_size, List.length_append]; simp <;> omega
  have c1 : 2 + (puts l).length ≤ 9223372036854775807 := by omega
  have c2 : (puts l).length + 2 + 6 ≤ 9223372036854775807 := by omega
  have hw : wrap64 (((puts l).length : Int) + 3) = (((puts l).length + 3 : Nat) : Int) := by rw [w64 (by omega) (by omega)]; omega
  have hfin : (some ((mk [92, 32]).toList == ([92, 32] : List UInt8))) = some true := by rw [mk_toList]; rfl
  have u1 := read_alone l hl
  have u2 := read_around l hl
  have u3 := unfilter_f (un_fils l) (by omega) (by omega)
  have u4 := unhex_hexs l hl
  clear hp hf c2
  have c2 : (puts l).length + 2 + 6 ≤ 9223372036854775807 := by have := puts_len l; omega
  unfold body
  rw [f1, f2, f3, put_space]
  refine Ev.bind (Ev.now (mk (puts l))) ?_
  refine Ev.bind u1 ?_
  rw [hsz, happ, happ2, hs2, hw]
  refine Ev.congr (fun k => by rw [if_pos c1, if_pos c2]) ?_
  refine Ev.bind u2 ?_
  refine Ev.bind (Ev.now (mk (fils l))) ?_
  refine Ev.bind u3 ?_
  refine Ev.bind (Ev.now (mk (hexs l))) ?_
  refine Ev.bind u4 ?_
  refine Ev.congr (fun k => ?_) (Ev.now true)
  rw [if_pos rfl, if_pos rfl, if_pos rfl, if_pos rfl, if_pos rfl, if_pos rfl, if_pos rfl, if_pos rfl, if_pos rfl, if_pos rfl]
  exact hfin
theorem EscapeBack : peeragelaw10_EscapeBack.Pure := by
  intro a0 _
  obtain ⟨l, rfl⟩ : ∃ l, a0 = mk l := ⟨a0.data.toList, (mk_data a0).symm⟩
  by_cases h : l.length > 600
  · have hx : (mk l).extract 0 600 = mk (l.take 600) := by rw [mk_extract]; rfl
    have := core (l.take 600) (by rw [List.length_take]; omega)
    refine (Ev.congr (fun k => ?_) this : Ev (fun k => peeragelaw10_EscapeBack.f k (mk l)) true).rounds
    unfold peeragelaw10_EscapeBack.f
    have g1 : (l.length : Int) > 600 := by omega
    have g2 : (600 : Int) ≤ (l.length : Int) := by omega
    rw [mk_size, if_pos g1, if_pos (by decide), if_pos g2, hx]
    rfl
  · have := core l (by omega)
    refine (Ev.congr (fun k => ?_) this : Ev (fun k => peeragelaw10_EscapeBack.f k (mk l)) true).rounds
    unfold peeragelaw10_EscapeBack.f
    have g1 : ¬ (l.length : Int) > 600 := by omega
    rw [mk_size, if_neg g1]
    rfl
end Go.Proofs.YtmhjplbloeamiaaDoor.Pure
