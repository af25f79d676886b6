/- Sums of bytes, as plain facts. -/
import Derived.Test.YtkckmikpmjecdaaMoreW
namespace Go.Proofs.Ytkckmikpmjecdaa.H
open Go.RowKit

theorem okb_of {l : List Int} (h : ∀ x ∈ l, (Lit.int .u8 x).wf = true) : okb l = true := by
  unfold okb
  rw [List.all_eq_true]
  intro x hx
  have := h x hx
  simp [Lit.wf, IntKind.min, IntKind.max, IntKind.signed, IntKind.bits] at this ⊢
  omega
theorem okb_append {a b : List Int} (ha : okb a = true) (hb : okb b = true) : okb (a ++ b) = true := by
  unfold okb at *
  rw [List.all_append, ha, hb]; rfl
theorem more_range (a : Int) (l : List Int) : 0 ≤ more a l ∧ more a l ≤ 4294967295 := xr_range _ _
theorem sum_some {l : List Int} (h : okb l = true) : frame_More.f 0 l = some (more 0 l) := by
  simp [frame_More.f, h]
theorem xr_xr {x y : Int} (h0 : 0 ≤ x) (h1 : x ≤ 4294967295) (h2 : 0 ≤ y) (h3 : y ≤ 4294967295) : xr (xr x y) y = x := by
  have hr := xr_range x y
  unfold xr at *
  rw [u32_xor x y h0 (by omega) h2 (by omega)] at hr ⊢
  rw [u32_xor _ y hr.1 (by omega) h2 (by omega), Int.toNat_natCast, Nat.xor_assoc, Nat.xor_self, Nat.xor_zero]
  omega
theorem more_more {a : List Int} (b : List Int) : more (more 0 a) b = more 0 (a ++ b) := by
  unfold more
  have h := reg_range (xr 0 4294967295) a (xr_range _ _)
  rw [xr_xr h.1 h.2 (by omega) (by omega)]
  unfold reg
  rw [List.foldl_append]
theorem more_nil : more 0 [] = 0 := by decide +kernel
theorem more_zero : more 0 [0] ≠ 0 := by decide +kernel
end Go.Proofs.Ytkckmikpmjecdaa.H
