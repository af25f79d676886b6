/- Small laws on texts. Plain Lean. -/
import Derived.Lib.Strings
namespace Go.Proofs.YtcbppladofnnlaaDoor.H
theorem ne_nil_b {b : BEq (List UInt8)} [@LawfulBEq (List UInt8) b] (l : List UInt8) : l.isEmpty = !(@bne _ b l []) := by
  cases l with
  | nil => simp
  | cons c l => simp
theorem ne_nil_f {b : BEq (List UInt8)} [@LawfulBEq (List UInt8) b] (l : List UInt8) : (@bne _ b l []) = !l.isEmpty := by
  cases l with
  | nil => simp
  | cons c l => simp
end Go.Proofs.YtcbppladofnnlaaDoor.H
