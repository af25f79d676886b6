/- Rate, Greatest and Mean give the document's results: the walk of the law. Condition: the slice holds numbers by their bits. -/
import Derived.Test.YtfgamapnoonklaaRefs
namespace Go.Proofs.Ytfgamapnoonklaa.PicksW
open Go.RowKit H Key GreatestW Go.Proofs.YtfgamapnoonklaaW.PrintWords Go.Proofs.YtfgamapnoonklaaW.PrintLast Go.Proofs.YtfgamapnoonklaaW.PrintMore
set_option linter.unusedVariables false
set_option linter.unusedSimpArgs false

theorem bits_calls (x : Nat) (w : World) : Calls Try.prog 15 #[.float .f64 x] w fun e w' => e = .returned (.int .u64 (plain x)) ∧ w = w' := by
  have hb1 : ∀ (n : Nat) (w : World), (callFunc 27 #[.float .f64 n]).run Try.prog w = .ok (.value (.int .u64 (n : Int))) w := run_bits
  cases hn : isNaN x
  · have q0 : (FloatKind.f64.format.order x x != some .eq) = false := by rw [← hn]; exact order_self x
    have k0 : key 0 = 0 := by decide
    have he : (FloatKind.f64.format.order x 0 == some .eq) = decide (key x = 0) := by
      have := order_eq hn (y := 0) (by decide)
      rw [k0] at this
      exact this
    by_cases hk : key x = 0
    · have hp : plain x = 0 := by simp [plain, hn, hk]
      rw [hp]
      replace he : (FloatKind.f64.format.order x 0 == some .eq) = true := he.trans (by simpa using hk)
      clear hk hp hn
      go_enter Try.func15, Try.ntmps15
      go_wp2
      go_ret
      exact ⟨rfl, rfl⟩
    · have hp : plain x = x := by simp [plain, hn, hk]
      rw [hp]
      replace he : (FloatKind.f64.format.order x 0 == some .eq) = false := he.trans (by simpa using hk)
      clear hk hp hn
      go_enter Try.func15, Try.ntmps15
      go_wp2
      go_ret
      exact ⟨rfl, rfl⟩
  · have q0 : (FloatKind.f64.format.order x x != some .eq) = true := by rw [← hn]; exact order_self x
    have hp : plain x = 9221120237041090560 := by simp [plain, hn]
    rw [hp]
    clear hn hp
    go_enter Try.func15, Try.ntmps15
    go_wp2
    go_ret
    exact ⟨rfl, rfl⟩
theorem sim_plain {x t : Nat} (h : Sim x t) : plain x = plain t := by
  rcases h with rfl | ⟨h1, h2⟩
  · rfl
  · simp [plain, h1, h2]
theorem bits_sim {x t : Nat} (h : Sim x t) (w : World) : Calls Try.prog 15 #[.float .f64 x] w fun e w' => e = .returned (.int .u64 (plain t)) ∧ w = w' := by
  rw [← sim_plain h]
  exact bits_calls x w
theorem Fl_drewN {w : World} {A : Option Addr} {l : List Nat} (h : Fl w A l) (q : Nat) : Fl (w.drewN q) A l := h
theorem one_none : isNaN (divP (ofInt 1) (ofInt 0)) = false ∧ isNaN (divP (ofInt 0) (ofInt 0)) = true := by decide +kernel
theorem ord_sure {x y : Nat} (hx : Sim x (divP (ofInt 1) (ofInt 0))) (hy : Sim y (divP (ofInt 0) (ofInt 0))) : ord x y = -1 := by
  have h1 : isNaN x = false := by
    rcases hx with rfl | ⟨_, h⟩
    · exact one_none.1
    · rw [one_none.1] at h; cases h
  have h2 : isNaN y = true := by
    rcases hy with rfl | ⟨h, _⟩
    · exact one_none.2
    · exact h
  simp [ord, h1, h2]

set_option maxHeartbeats 4000000 in
theorem short (A : Option Addr) (l : List Nat) (c : Nat) (n k : Int) (w : World) (hcell : Fl w A l) (hl : l.length ≤ 300) :
    Calls Try.prog 6 #[.int .i64 n, .int .i64 k, .slice A l.length c] w fun e w' => e = .returned (.bool true) ∧ Below w.heap.size w w' := by
  have HC := Lib.hid hcell
  clear hcell
  have hyl : l.length ≤ 300 := by omega
  go_enter Try.func6, Try.ntmps6
  go_wp2_with (first | (go_at_call 13; refine (mean_calls A l c _ (by repeat (first | exact HC.out | apply Fl_drewN)) (by omega)).mono ?_; rintro e w' ⟨x13, q13, rfl, hs, rfl⟩; have S13 := Lib.hid hs; clear hs) | (go_at_call 14; refine (mean2_calls A l c _ (by repeat (first | exact HC.out | apply Fl_drewN)) (by omega)).mono ?_; rintro e w' ⟨x14, q14, rfl, hs, rfl⟩; have S14 := Lib.hid hs; clear hs) | (go_at_call_of 9 (Value.int IntKind.i64 n); refine (rate_sim n k _).mono ?_; rintro e w' ⟨x9, q9, rfl, hs, rfl⟩; have S9 := Lib.hid hs; clear hs) | (go_at_call 16; refine (rate2_sim n k _).mono ?_; rintro e w' ⟨x16, q16, rfl, hs, rfl⟩; have S16 := Lib.hid hs; clear hs) | (go_at_call_of 9 (Value.int IntKind.i64 1); refine (rate_sim 1 0 _).mono ?_; rintro e w' ⟨x91, q91, rfl, hs, rfl⟩; have S91 := Lib.hid hs; clear hs) | (go_at_call 9; refine (rate_sim 0 0 _).mono ?_; rintro e w' ⟨x90, q90, rfl, hs, rfl⟩; have S90 := Lib.hid hs; clear hs) | (go_at_call 15; (first | (with_reducible refine (bits_sim S9.out _).mono ?_) | (with_reducible refine (bits_sim S16.out _).mono ?_) | (with_reducible refine (bits_sim S13.out _).mono ?_) | (with_reducible refine (bits_sim S14.out _).mono ?_)); rintro e w' ⟨rfl, rfl⟩) | (go_at_call 11; refine (greatest_calls A l c _ (by repeat (first | exact HC.out | apply Fl_drewN)) (by omega)).mono ?_; rintro e w' ⟨rfl, rfl⟩) | (go_at_call 17; refine (greatest2_calls A l c _ (by repeat (first | exact HC.out | apply Fl_drewN)) (by omega)).mono ?_; rintro e w' ⟨q17, rfl, rfl⟩) | (go_at_call 10; refine (order_any _ _ _).mono ?_; rintro e w' ⟨rfl, rfl⟩; rw [ord_sure S91.out S90.out]))
  go_ret
  exact ⟨rfl, by repeat (first | exact Below.refl _ _ | apply below_drew | apply pw_below_drewN | apply below_alloc)⟩

set_option maxHeartbeats 4000000 in
theorem long (A : Option Addr) (l : List Nat) (c : Nat) (n k : Int) (w : World) (y : List Nat) (hcell : Fl w A y) (hl : 300 < l.length) (hy : y.length = 300) (hcut : ∀ W : World, (Instr.slice 26 (.slice A l.length c) none (some (.int .i64 300)) none).run Try.prog W = .ok (.slice A y.length c) W) :
    Calls Try.prog 6 #[.int .i64 n, .int .i64 k, .slice A l.length c] w fun e w' => e = .returned (.bool true) ∧ Below w.heap.size w w' := by
  have HC := Lib.hid hcell
  clear hcell
  have hyl : y.length ≤ 300 := by omega
  clear hy
  go_enter Try.func6, Try.ntmps6
  go_wp2_with (first | (go_at_call 13; refine (mean_calls A y c _ (by repeat (first | exact HC.out | apply Fl_drewN)) (by omega)).mono ?_; rintro e w' ⟨x13, q13, rfl, hs, rfl⟩; have S13 := Lib.hid hs; clear hs) | (go_at_call 14; refine (mean2_calls A y c _ (by repeat (first | exact HC.out | apply Fl_drewN)) (by omega)).mono ?_; rintro e w' ⟨x14, q14, rfl, hs, rfl⟩; have S14 := Lib.hid hs; clear hs) | (go_at_call_of 9 (Value.int IntKind.i64 n); refine (rate_sim n k _).mono ?_; rintro e w' ⟨x9, q9, rfl, hs, rfl⟩; have S9 := Lib.hid hs; clear hs) | (go_at_call 16; refine (rate2_sim n k _).mono ?_; rintro e w' ⟨x16, q16, rfl, hs, rfl⟩; have S16 := Lib.hid hs; clear hs) | (go_at_call_of 9 (Value.int IntKind.i64 1); refine (rate_sim 1 0 _).mono ?_; rintro e w' ⟨x91, q91, rfl, hs, rfl⟩; have S91 := Lib.hid hs; clear hs) | (go_at_call 9; refine (rate_sim 0 0 _).mono ?_; rintro e w' ⟨x90, q90, rfl, hs, rfl⟩; have S90 := Lib.hid hs; clear hs) | (go_at_call 15; (first | (with_reducible refine (bits_sim S9.out _).mono ?_) | (with_reducible refine (bits_sim S16.out _).mono ?_) | (with_reducible refine (bits_sim S13.out _).mono ?_) | (with_reducible refine (bits_sim S14.out _).mono ?_)); rintro e w' ⟨rfl, rfl⟩) | (go_at_call 11; refine (greatest_calls A y c _ (by repeat (first | exact HC.out | apply Fl_drewN)) (by omega)).mono ?_; rintro e w' ⟨rfl, rfl⟩) | (go_at_call 17; refine (greatest2_calls A y c _ (by repeat (first | exact HC.out | apply Fl_drewN)) (by omega)).mono ?_; rintro e w' ⟨q17, rfl, rfl⟩) | (go_at_call 10; refine (order_any _ _ _).mono ?_; rintro e w' ⟨rfl, rfl⟩; rw [ord_sure S91.out S90.out]))
  go_ret
  exact ⟨rfl, by repeat (first | exact Below.refl _ _ | apply below_drew | apply pw_below_drewN | apply below_alloc)⟩

theorem walk (n k : Int) (A : Option Addr) (len cap : Nat) (l : List Nat) (w : World) (h : IsFl w A len cap l) :
    Calls Try.prog 6 #[.int .i64 n, .int .i64 k, .slice A len cap] w fun e w' => e = .returned (.bool true) ∧ Below w.heap.size w w' := by
  obtain ⟨rfl, hc, hm, hf⟩ := h
  have hmx : maxLen ≤ 9223372036854775807 := by decide
  by_cases hl : l.length ≤ 300
  · exact short A l cap n k w hf hl
  · obtain ⟨i0, hi0, _, hsz, _⟩ := info_parts info22
    obtain ⟨hcut, hA, _⟩ := print_take_of (P := Try.prog) (Value.float .f64) 0 26 22 .i64 Try.underlying26 hi0 hsz A cap l 300 (by omega) (by omega) hc
    have e : (300 : Int).toNat = 300 := rfl
    rw [e] at hcut hA
    exact long A l cap n k w (l.take 300) (Fl_of_reads (hA w (Fl_reads hf (by omega)))) (by omega) (by rw [List.length_take]; omega) hcut
end Go.Proofs.Ytfgamapnoonklaa.PicksW
