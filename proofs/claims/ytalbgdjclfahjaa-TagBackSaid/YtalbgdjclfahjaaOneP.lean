/- Two tags have the same bytes just if they are one; so two lengths: over lists of bytes, as the code compares them. -/
import Derived.Test.YtalbgdjclfahjaaBackP
import Derived.Lib.Bytes
namespace Go.Proofs.Ytalbgdjclfahjaa.OneW
open Go.Lib Go.RowKit H Go.Proofs.YtalbgdjclfahjaaW.PrintWords Go.Proofs.YtalbgdjclfahjaaW.PrintLast Go.Proofs.YtalbgdjclfahjaaW.PrintMore

theorem put_one {c1 n1 c2 n2 : Int} {m1 m2 : Bool} (h1 : right c1 n1 = true) (h2 : right c2 n2 = true) : put [] c1 m1 n1 = put [] c2 m2 n2 ↔ c1 = c2 ∧ m1 = m2 ∧ n1 = n2 := by
  constructor
  · intro h
    have a := read_put (md := m1) h1 []
    have b := read_put (md := m2) h2 []
    rw [h, b] at a
    simp only [Prod.mk.injEq] at a
    exact ⟨a.1.symm, a.2.1.symm, a.2.2.1.symm⟩
  · rintro ⟨rfl, rfl, rfl⟩
    rfl
theorem putLen_one {a b : Int} (a0 : 0 ≤ a) (a1 : a < 2147483648) (b0 : 0 ≤ b) (b1 : b < 2147483648) : putLen [] a = putLen [] b ↔ a = b := by
  constructor
  · intro h
    have x := len_put a0 a1 []
    have y := len_put b0 b1 []
    rw [h, y] at x
    simp only [Prod.mk.injEq] at x
    exact x.1.symm
  · rintro rfl
    rfl
theorem str_one {xs ys : List Int} (hx : okb xs = true) (hy : okb ys = true) : (strOfNums xs).toList = (strOfNums ys).toList ↔ xs = ys := by
  constructor
  · intro h
    rw [strOfNums_toList, strOfNums_toList] at h
    induction xs generalizing ys with
    | nil => cases ys with
      | nil => rfl
      | cons y ys => simp [Go.Lib.bytesOf] at h
    | cons x xs ih =>
      cases ys with
      | nil => simp [Go.Lib.bytesOf] at h
      | cons y ys =>
        have hx1 := okb_mem hx (x := x) (by simp)
        have hy1 := okb_mem hy (x := y) (by simp)
        simp only [Go.Lib.bytesOf, List.map_cons, List.cons.injEq] at h
        have e : x = y := by
          have := congrArg UInt8.toNat h.1
          simp at this
          omega
        rw [e, ih (okb_sub hx fun z hz => by simp [hz]) (okb_sub hy fun z hz => by simp [hz]) h.2]
  · rintro rfl
    rfl
theorem tags_eq {c1 n1 c2 n2 : Int} {m1 m2 : Bool} (h1 : right c1 n1 = true) (h2 : right c2 n2 = true) : ((strOfNums (put [] c1 m1 n1)).toList == (strOfNums (put [] c2 m2 n2)).toList) = (c1 == c2 && (m1 == m2 && (n1 == n2))) := by
  rw [Bool.eq_iff_iff]
  simp only [beq_iff_eq, Bool.and_eq_true]
  rw [str_one (put_okb [] rfl) (put_okb [] rfl), put_one h1 h2]
theorem lens_eq {a b : Int} (a0 : 0 ≤ a) (a1 : a < 2147483648) (b0 : 0 ≤ b) (b1 : b < 2147483648) : ((strOfNums (putLen [] a)).toList == (strOfNums (putLen [] b)).toList) = (a == b) := by
  rw [Bool.eq_iff_iff]
  simp only [beq_iff_eq]
  rw [str_one (putLen_okb a1) (putLen_okb b1), putLen_one a0 a1 b0 b1]
end Go.Proofs.Ytalbgdjclfahjaa.OneW
