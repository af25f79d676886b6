/- The checksum's register as the program computes it: plain functions, and small facts for walks. -/
import Derived.Test.YtkckmikpmjecdaaProg
import Derived.Test.YtkckmikpmjecdaaWMore
import Derived.Test.YtkckmikpmjecdaaWZeros
import Derived.WalkLawsBesides
import Derived.WalkSpells
import Derived.Lib.Hide
namespace Go.Proofs.Ytkckmikpmjecdaa.H
open Go.RowKit Go.Proofs.YtkckmikpmjecdaaW.PrintWords Go.Proofs.YtkckmikpmjecdaaW.PrintLast Go.Proofs.YtkckmikpmjecdaaW.PrintMore
set_option linter.unusedVariables false

theorem info5 : (Try.prog.info? 5).map (fun i => (i.zero, i.size, i.bytes)) = some (some (.int .u8 0), 1, 1) := by kernel_rfl
/-- Bytes. -/
def okb (l : List Int) : Bool := l.all fun x => decide (0 ≤ x) && decide (x ≤ 255)
theorem okb_at {l : List Int} (h : okb l = true) (i : Int) : 0 ≤ rd l i ∧ rd l i ≤ 255 := by
  unfold rd
  rw [List.getD_eq_getElem?_getD]
  rcases Nat.lt_or_ge i.toNat l.length with h1 | h1
  · rw [List.getElem?_eq_getElem h1, Option.getD_some]
    have := List.all_eq_true.1 h _ (List.getElem_mem h1)
    simpa using this
  · rw [List.getElem?_eq_none h1]; simp
def tabI : List Int := [0, 498536548, 997073096, 651767980, 1994146192, 1802195444, 1303535960, 1342533948, 3988292384, 4027552580, 3604390888, 3412177804, 2607071920, 2262029012, 2685067896, 3183342108]
theorem tab_range : ∀ j, j < 16 → 0 ≤ tabI.getD j 0 ∧ tabI.getD j 0 ≤ 4294967295 := by decide
def xr (a b : Int) : Int := Go.bits .xor .u32 a b
theorem xr_range (a b : Int) : 0 ≤ xr a b ∧ xr a b ≤ 4294967295 := by
  unfold xr
  show 0 ≤ IntKind.u32.wrap _ ∧ IntKind.u32.wrap _ ≤ _
  rw [IntKind.wrap_u32']
  omega
def an (a b : Int) : Int := Go.bits .and .u32 a b
theorem an15 {x : Int} (h0 : 0 ≤ x) (h1 : x ≤ 4294967295) : an x 15 = x % 16 := by
  unfold an
  rw [u32_and x 15 h0 (by omega) (by omega) (by omega)]
  have e : x.toNat &&& (15 : Int).toNat = x.toNat % 16 := Nat.and_two_pow_sub_one_eq_mod x.toNat 4
  rw [e]
  omega
def half (y : Int) : Int := xr (y / 16) (tabI.getD (an y 15).toNat 0)
def step (r c : Int) : Int := half (half (xr r c))
def reg (r : Int) (l : List Int) : Int := l.foldl step r
theorem reg_snoc (r : Int) (l : List Int) (c : Int) : reg r (l ++ [c]) = step (reg r l) c := by simp [reg]
theorem reg_range (r : Int) (l : List Int) (h : 0 ≤ r ∧ r ≤ 4294967295) : 0 ≤ reg r l ∧ reg r l ≤ 4294967295 := by
  rcases List.eq_nil_or_concat l with rfl | ⟨l', c, rfl⟩
  · exact h
  · rw [List.concat_eq_append, reg_snoc]; exact xr_range _ _
theorem take_rd {l : List Int} {k : Nat} (h : k < l.length) : l.take (k + 1) = l.take k ++ [rd l k] := by
  rw [List.take_succ_eq_append_getElem h]
  simp [rd, List.getD_eq_getElem?_getD, h]
/-- What More answers. -/
def more (a : Int) (l : List Int) : Int := xr (reg (xr a 4294967295) l) 4294967295
end Go.Proofs.Ytkckmikpmjecdaa.H
