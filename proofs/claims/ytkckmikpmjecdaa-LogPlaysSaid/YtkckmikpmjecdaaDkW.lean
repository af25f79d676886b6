/- What a disk's calls answer: contracts. Condition: a disk that was made, that any number of calls may write. -/
import Derived.Test.YtkckmikpmjecdaaProg
import Derived.Test.YtkckmikpmjecdaaWMore
import Derived.Test.YtkckmikpmjecdaaWZeros
import Derived.WalkLawsBesides
import Derived.WalkSpells
import Derived.Lib.Hide
namespace Go.Proofs.Ytkckmikpmjecdaa.H
open Go.RowKit Go.Proofs.YtkckmikpmjecdaaW.PrintWords Go.Proofs.YtkckmikpmjecdaaW.PrintLast Go.Proofs.YtkckmikpmjecdaaW.PrintMore
set_option linter.unusedVariables false
set_option linter.unusedSimpArgs false
theorem info5 : (Try.prog.info? 5).map (fun i => (i.zero, i.size, i.bytes)) = some (some (.int .u8 0), 1, 1) := by kernel_rfl
/-- A disk in memory. -/
def Dk (w : World) (p : Nat) (v : Value) (s : Int) : Prop := w.heap[p]? = some (.cells #[.bool true, v, .int .i64 s, .int .i64 (-1)] 36 (0, 0))
theorem Dk.c0 {w p v s} (h : Dk w p v s) : w.cell? ⟨p, 0, none⟩ = some (.bool true) := (blk_cell h 0).trans rfl
theorem Dk.c1 {w p v s} (h : Dk w p v s) : w.cell? ⟨p, 1, none⟩ = some v := (blk_cell h 1).trans rfl
theorem Dk.c2 {w p v s} (h : Dk w p v s) : w.cell? ⟨p, 2, none⟩ = some (.int .i64 s) := (blk_cell h 2).trans rfl
theorem Dk.c3 {w p v s} (h : Dk w p v s) : w.cell? ⟨p, 3, none⟩ = some (.int .i64 (-1)) := (blk_cell h 3).trans rfl
theorem is_calls (p : Nat) (v : Value) (s : Int) (w : World) (h : Dk w p v s) : Calls Try.prog 33 #[.pointer (some ⟨p, 0, none⟩)] w fun e w' => e = .returned (.bool true) ∧ w = w' := by
  have h0 := h.c0
  clear h
  go_enter Try.func33, Try.ntmps33
  go_wp2
  go_ret
  exact ⟨rfl, rfl⟩
theorem new_calls (w : World) : Calls Try.prog 8 #[] w fun e w' => ∃ q, e = .returned (.pointer (some ⟨q, 0, none⟩)) ∧ w.heap.size ≤ q ∧ Dk w' q (.slice none 0 0) 0 ∧ Below w.heap.size w w' := by
  go_enter Try.func8, Try.ntmps8
  go_wp2
  go_ret
  exact ⟨_, rfl, Nat.le_refl _, blk_new w _, below_alloc (Below.refl _ _) _⟩
theorem len_calls (p : Nat) (A : Option Addr) (n c : Nat) (s : Int) (w : World) (h : Dk w p (.slice A n c) s) : Calls Try.prog 12 #[.pointer (some ⟨p, 0, none⟩)] w fun e w' => e = .returned (.int .i64 n) ∧ w = w' := by
  have h1 := h.c1
  have H := Lib.hid h
  clear h
  go_enter Try.func12, Try.ntmps12
  go_wp2_with (go_at_call 33; refine (is_calls _ _ _ _ H.out).mono ?_; rintro e w1 ⟨rfl, rfl⟩)
  go_ret
  exact ⟨rfl, rfl⟩
theorem synced_calls (p : Nat) (v : Value) (s : Int) (w : World) (h : Dk w p v s) : Calls Try.prog 11 #[.pointer (some ⟨p, 0, none⟩)] w fun e w' => e = .returned (.int .i64 s) ∧ w = w' := by
  have h2 := h.c2
  have H := Lib.hid h
  clear h
  go_enter Try.func11, Try.ntmps11
  go_wp2_with (go_at_call 33; refine (is_calls _ _ _ _ H.out).mono ?_; rintro e w1 ⟨rfl, rfl⟩)
  go_ret
  exact ⟨rfl, rfl⟩
theorem left_calls (p : Nat) (v : Value) (s : Int) (w : World) (h : Dk w p v s) : Calls Try.prog 15 #[.pointer (some ⟨p, 0, none⟩)] w fun e w' => e = .returned (.int .i64 (-1)) ∧ w = w' := by
  have h2 := h.c3
  have H := Lib.hid h
  clear h
  go_enter Try.func15, Try.ntmps15
  go_wp2_with (go_at_call 33; refine (is_calls _ _ _ _ H.out).mono ?_; rintro e w1 ⟨rfl, rfl⟩)
  go_ret
  exact ⟨rfl, rfl⟩
theorem nothing_calls (x : Value) (w : World) : Calls Try.prog 31 #[x] w fun e w' => e = .returned (.int .i64 0) ∧ w = w' := by
  go_enter Try.func31, Try.ntmps31
  go_wp2
  go_ret
  exact ⟨rfl, rfl⟩
theorem flush_calls (B : Nat) (w0 : World) (p : Nat) (A : Option Addr) (n c : Nat) (s : Int) (w : World) (h : Dk w p (.slice A n c) s) (hp : w0.heap.size ≤ p) (hB : Below w0.heap.size w0 w) : Calls Try.prog 32 #[.pointer (some ⟨p, 0, none⟩)] w fun e w' => e = .returned (.tuple #[]) ∧ Dk w' p (.slice A n c) n ∧ Below w0.heap.size w0 w' ∧ ∃ u, w' = w.setCell ⟨p, 2, none⟩ u := by
  have h1 := h.c1
  have h2 := h.c2
  have h2f := blk_frozen h 2
  have H := Lib.hid h
  have HB := Lib.hid hB
  clear h hB
  go_enter Try.func32, Try.ntmps32
  go_wp2
  exact bodyPost_end (v := .tuple #[]) (by simp [results, Try.results32, go_sem]) rfl ⟨rfl, blk_put H.out 2 _ rfl, below_set HB.out hp, _, rfl⟩
/-- The question of Append. -/
theorem wrong_calls (p g : Nat) (A D : Option Addr) (n c m k : Nat) (s : Int) (w : World) (h : Dk w p (.slice A n c) s) (hg : w.cell? ⟨g, 0, none⟩ = some (.slice D m k)) (hs : n + m ≤ 100000) : Calls Try.prog 29 #[.pointer (some ⟨p, 0, none⟩), .pointer (some ⟨g, 0, none⟩)] w fun e w' => e = .returned (.int .i64 0) ∧ ∃ q, w' = w.drewN q := by
  have h1 := h.c1
  have ht : decide ((4194304 : Int) - (n : Int) < (m : Int)) = false := by simp; omega
  clear h
  go_enter Try.func29, Try.ntmps29
  go_wp2
  go_region
  go_wp2
  go_ret
  exact ⟨rfl, 1, rfl⟩
end Go.Proofs.Ytkckmikpmjecdaa.H
