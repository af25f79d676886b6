/- Bytes, and small facts for walks. -/
import Derived.Test.YtkhghgmonjebnaaProg
import Derived.Test.YtkhghgmonjebnaaWMore
import Derived.Test.YtkhghgmonjebnaaWZeros
import Derived.WalkLawsBesides
import Derived.WalkSpells
import Derived.Lib.Hide
namespace Go.Proofs.Ytkhghgmonjebnaa.H
open Go.RowKit Go.Proofs.YtkhghgmonjebnaaW.PrintWords Go.Proofs.YtkhghgmonjebnaaW.PrintLast Go.Proofs.YtkhghgmonjebnaaW.PrintMore
set_option linter.unusedVariables false

theorem info5 : (Try.prog.info? 5).map (fun i => (i.zero, i.size, i.bytes)) = some (some (.int .u8 0), 1, 1) := by kernel_rfl
def okb (l : List Int) : Bool := l.all fun x => decide (0 ≤ x) && decide (x ≤ 255)
theorem okb_mem {l : List Int} (h : okb l = true) {x : Int} (hx : x ∈ l) : 0 ≤ x ∧ x ≤ 255 := by
  have := List.all_eq_true.1 h _ hx
  simpa using this
theorem okb_at {l : List Int} (h : okb l = true) (i : Int) : 0 ≤ rd l i ∧ rd l i ≤ 255 := by
  unfold rd
  rw [List.getD_eq_getElem?_getD]
  rcases Nat.lt_or_ge i.toNat l.length with h1 | h1
  · rw [List.getElem?_eq_getElem h1, Option.getD_some]
    exact okb_mem h (List.getElem_mem h1)
  · rw [List.getElem?_eq_none h1]; simp
theorem okb_sub {l m : List Int} (h : okb l = true) (hs : ∀ x ∈ m, x ∈ l) : okb m = true := by
  unfold okb at *
  rw [List.all_eq_true] at *
  exact fun x hx => h x (hs x hx)
theorem okb_take {l : List Int} (h : okb l = true) (n : Nat) : okb (l.take n) = true := okb_sub h fun _ hx => List.mem_of_mem_take hx
theorem okb_drop {l : List Int} (h : okb l = true) (n : Nat) : okb (l.drop n) = true := okb_sub h fun _ hx => List.mem_of_mem_drop hx
theorem take_rd {l : List Int} {k : Nat} (h : k < l.length) : l.take (k + 1) = l.take k ++ [rd l k] := by
  rw [List.take_succ_eq_append_getElem h]
  simp [rd, List.getD_eq_getElem?_getD, h]
/-- 'or' where the bits are apart. -/
theorem or_add {a b : Int} {n : Nat} (ha : 0 ≤ a) (hb : 0 ≤ b) (hb2 : b < 2 ^ n) (h : a * 2 ^ n + b < 9223372036854775808) : bits .or .i64 (a * 2 ^ n) b = a * 2 ^ n + b := by
  obtain ⟨x, rfl⟩ := Int.eq_ofNat_of_zero_le ha
  obtain ⟨y, rfl⟩ := Int.eq_ofNat_of_zero_le hb
  have hy : y < 2 ^ n := Int.ofNat_lt.1 (by rw [Int.natCast_pow]; exact hb2)
  have e : ((x : Int) * 2 ^ n) = ((x * 2 ^ n : Nat) : Int) := by rw [Int.natCast_mul, Int.natCast_pow]; rfl
  rw [e] at h ⊢
  have h1 : x * 2 ^ n + y < 9223372036854775808 := by omega
  show IntKind.i64.wrap ((BitVec.ofInt 64 ((x * 2 ^ n : Nat) : Int) ||| BitVec.ofInt 64 (y : Int)).toNat : Int) = _
  rw [BitVec.ofInt_natCast, BitVec.ofInt_natCast, BitVec.toNat_or, BitVec.toNat_ofNat, BitVec.toNat_ofNat, Nat.mod_eq_of_lt (by omega), Nat.mod_eq_of_lt (by omega)]
  rw [← Nat.shiftLeft_eq, ← Nat.shiftLeft_add_eq_or_of_lt hy, Nat.shiftLeft_eq]
  rw [IntKind.wrap_i64]
  omega
end Go.Proofs.Ytkhghgmonjebnaa.H
