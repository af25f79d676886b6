/- Where a text in a name ends, piece by piece; and what Read's loop tells of it. Plain Lean over the printed functions. -/
import Derived.Test.YtmhjplbloeamiaaDoorChk
namespace Go.Proofs.YtmhjplbloeamiaaDoor.H
open Go.RowKit Go.Proofs.YtmhjplbloeamiaaDoor.M Go.Proofs.YtmhjplbloeamiaaDoor.PEsc Go.Proofs.YtmhjplbloeamiaaDoorW.PrintWords Go.Proofs.YtmhjplbloeamiaaDoorW.PrintLast Go.Proofs.YtmhjplbloeamiaaDoorW.PrintMore
set_option linter.unusedVariables false
set_option linter.unusedSimpArgs false
/-- The bytes of piece i stand behind those of the pieces before. -/
theorem piece_at (g : Nat → UInt8 → Bs) (l X Y : Bs) {i n : Nat} (hi : i < n) {ch : Bs} (hg : g i (l.getD i 0) = ch) (t : Nat) (ht : t < ch.length) :
    (X ++ (pre g l n ++ Y))[(X.length + (pre g l i).length) + t]? = ch[t]? := by
  obtain ⟨rest, hr⟩ := pre_split g l (i + 1) n (by omega)
  rw [hr, pre, hg, List.getElem?_append_right (by omega), List.append_assoc, List.append_assoc, List.getElem?_append_right (by omega), List.getElem?_append_left (by omega)]
  congr 1
  omega
theorem end_pieces (g : Nat → UInt8 → Bs) (l X Y : Bs) (n : Nat) (last : Int) (v : Int) (hg : ∀ i c, Piece i last c (g i c)) (hz : (X ++ (pre g l n ++ Y)).length ≤ 4000000)
    (he : Ev (fun k => escape_end.l0 k (mk (X ++ (pre g l n ++ Y))) ((X.length + (pre g l n).length : Nat) : Int)) v) :
    ∀ q i, i + q = n → Ev (fun k => escape_end.l0 k (mk (X ++ (pre g l n ++ Y))) ((X.length + (pre g l i).length : Nat) : Int)) v
  | 0, i, h => by
    obtain rfl : i = n := by omega
    exact he
  | q + 1, i, h => by
    have ih := end_pieces g l X Y n last v hg hz he q (i + 1) (by omega)
    have hat := fun ch hg => piece_at g l X Y (i := i) (n := n) (by omega) (ch := ch) hg
    have hl : (pre g l (i + 1)).length = (pre g l i).length + (g i (l.getD i 0)).length := by rw [pre, List.length_append]
    have hle : X.length + (pre g l (i + 1)).length ≤ (X ++ (pre g l n ++ Y)).length := by
      obtain ⟨rest, hr⟩ := pre_split g l (i + 1) n (by omega)
      rw [hr]
      simp only [List.length_append]
      omega
    rw [hl] at ih hle
    generalize l.getD i 0 = c at *
    rcases hg i c with ⟨e, ha⟩ | e | ⟨e, hc, _, _⟩
    · rw [e] at ih hle
      have h0 := hat _ e 0 (by simp)
      exact end_slash (by simpa using h0) rfl (by simpa [Nat.add_assoc] using hle) hz (by simpa [Nat.add_assoc] using ih)
    · rw [e] at ih hle
      have h0 := hat _ e 0 (by simp)
      have h2 := hat _ e 2 (by simp [two_len])
      have hd : calm (dig (c.toNat % 16)) = true := dig_calm (by omega)
      refine end_slash (by simpa using h0) rfl (by simp [two_len] at hle ⊢; omega) hz (end_calm (c := dig (c.toNat % 16)) (by simpa [two2] using h2) hd hz ?_)
      simpa [two_len, Nat.add_assoc] using ih
    · rw [e] at ih hle
      have h0 := hat _ e 0 (by simp)
      exact end_calm (c := c) (by simpa using h0) hc hz (by simpa [Nat.add_assoc] using ih)
end Go.Proofs.YtmhjplbloeamiaaDoor.H
