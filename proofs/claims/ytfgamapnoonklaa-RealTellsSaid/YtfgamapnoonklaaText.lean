/- What Plain and Text answer: contracts. No condition. -/
import Derived.Test.YtfgamapnoonklaaRate
import Derived.Test.YtfgamapnoonklaaWMore
namespace Go.Proofs.Ytfgamapnoonklaa.H
open Go.RowKit Key Go.Proofs.YtfgamapnoonklaaW.PrintWords Go.Proofs.YtfgamapnoonklaaW.PrintLast Go.Proofs.YtfgamapnoonklaaW.PrintMore
set_option linter.unusedVariables false
set_option linter.unusedSimpArgs false

theorem run_frombits (n : Nat) (w : World) : (callFunc 29 #[.int .u64 (n : Int)]).run Try.prog w = .ok (.value (.float .f64 n)) w := by
  rw [run_callFunc_extern Try.func29 (by kernel_rfl) (by kernel_rfl) (by kernel_rfl) (e := Extern.MathFloatBits.float64frombits) (by kernel_rfl)]
  rfl
theorem run_bits (n : Nat) (w : World) : (callFunc 27 #[.float .f64 n]).run Try.prog w = .ok (.value (.int .u64 (n : Int))) w := by
  rw [run_callFunc_extern Try.func27 (by kernel_rfl) (by kernel_rfl) (by kernel_rfl) (e := Extern.MathFloatBits.float64bits) (by kernel_rfl)]
  rfl
def plain (x : Nat) : Nat := if isNaN x then 9221120237041090560 else if key x = 0 then 0 else x

set_option maxHeartbeats 1000000 in
theorem plain_calls (x : Nat) (w : World) : Calls Try.prog 21 #[.float .f64 x] w fun e w' => e = .returned (.float .f64 (plain x)) ∧ w = w' := by
  cases hn : isNaN x
  · have k0 : key 0 = 0 := by decide
    have he : (FloatKind.f64.format.order x 0 == some .eq) = decide (key x = 0) := by
      have h := order_eq hn (show isNaN 0 = false by decide)
      rw [k0] at h
      exact h
    by_cases h0 : key x = 0
    · have hp : plain x = 0 := by simp [plain, hn, h0]
      replace he : (FloatKind.f64.format.order x 0 == some .eq) = true := by rw [he]; simpa using h0
      rw [hp]
      clear hp h0
      go_enter Try.func21, Try.ntmps21
      go_wp2_with (go_at_call 23; refine (isnan_calls _ _).mono ?_; rintro e w' ⟨rfl, rfl⟩)
      go_ret
      exact ⟨rfl, rfl⟩
    · have hp : plain x = x := by simp [plain, hn, h0]
      replace he : (FloatKind.f64.format.order x 0 == some .eq) = false := by rw [he]; simpa using h0
      rw [hp]
      clear hp h0
      go_enter Try.func21, Try.ntmps21
      go_wp2_with (go_at_call 23; refine (isnan_calls _ _).mono ?_; rintro e w' ⟨rfl, rfl⟩)
      go_ret
      exact ⟨rfl, rfl⟩
  · have hp : plain x = 9221120237041090560 := by simp [plain, hn]
    rw [hp]
    clear hp
    have hfb : ∀ (w : World), (callFunc 29 #[.int .u64 9221120237041090560]).run Try.prog w = .ok (.value (.float .f64 9221120237041090560)) w := fun w => run_frombits 9221120237041090560 w
    go_enter Try.func21, Try.ntmps21
    go_wp2_with (go_at_call 23; refine (isnan_calls _ _).mono ?_; rintro e w' ⟨rfl, rfl⟩)
    go_ret
    exact ⟨rfl, rfl⟩

/-! ### Text -/
def hexs : ByteArray := ⟨#[48, 49, 50, 51, 52, 53, 54, 55, 56, 57, 97, 98, 99, 100, 101, 102]⟩
def hexL : List Int := [48, 49, 50, 51, 52, 53, 54, 55, 56, 57, 97, 98, 99, 100, 101, 102]
def hexd (d : Int) : Int := hexL.getD d.toNat 0
theorem hex_at (d : Nat) (h : d < (⟨#[48, 49, 50, 51, 52, 53, 54, 55, 56, 57, 97, 98, 99, 100, 101, 102]⟩ : ByteArray).size) :
    ((((⟨#[48, 49, 50, 51, 52, 53, 54, 55, 56, 57, 97, 98, 99, 100, 101, 102]⟩ : ByteArray)[d]'h).toNat : Nat) : Int) = hexd (d : Int) := by
  have hn : d < 16 := h
  rcases (by omega : d = 0 ∨ d = 1 ∨ d = 2 ∨ d = 3 ∨ d = 4 ∨ d = 5 ∨ d = 6 ∨ d = 7 ∨ d = 8 ∨ d = 9 ∨ d = 10 ∨ d = 11 ∨ d = 12 ∨ d = 13 ∨ d = 14 ∨ d = 15) with rfl | rfl | rfl | rfl | rfl | rfl | rfl | rfl | rfl | rfl | rfl | rfl | rfl | rfl | rfl | rfl <;> rfl
theorem mask15 (x : Nat) (h : x < 2 ^ 64) : bits .and .u64 (x : Int) 15 = ((x % 16 : Nat) : Int) := by
  have h2 : x < 18446744073709551616 := h
  have e := u64_and (x : Int) 15 (by omega) (by omega) (by omega) (by omega)
  rw [e, Int.toNat_natCast]
  have e2 : x &&& (15 : Int).toNat = x % 16 := Nat.and_two_pow_sub_one_eq_mod x 4
  rw [e2]
theorem shifted (n k : Nat) (h : n < 2 ^ 64) (hk : k < 16) : bits .and .u64 ((n : Int) / 2 ^ (60 - 4 * k)) 15 = ((n / 16 ^ (15 - k) % 16 : Nat) : Int) := by
  have e : (n : Int) / 2 ^ (60 - 4 * k) = ((n / 16 ^ (15 - k) : Nat) : Int) := by
    rw [show 60 - 4 * k = 4 * (15 - k) by omega, Int.pow_mul]
    simp
  rw [e]
  exact mask15 _ (Nat.lt_of_le_of_lt (Nat.div_le_self ..) h)
/-- The digits of a word, the highest first. -/
def dig (n : Nat) (i : Nat) : Int := hexd ((n / 16 ^ (15 - i) % 16 : Nat) : Int)
def digs (n : Nat) : List Int := (List.range 16).map (dig n)

theorem digs_length (n : Nat) : (digs n).length = 16 := by simp [digs]
/-- The array behind k rounds. -/
def row (n k : Nat) : List Int := (digs n).take k ++ List.replicate (16 - k) 0
theorem row_length {n k : Nat} (h : k ≤ 16) : (row n k).length = 16 := by simp [row, digs_length]; omega
theorem row_set {n k : Nat} (h : k < 16) : (row n k).set k (dig n k) = row n (k + 1) := by
  unfold row
  apply List.ext_getElem?
  intro i
  rw [List.getElem?_set]
  have hl : ((digs n).take k).length = k := by simp [digs_length]; omega
  have hl1 : ((digs n).take (k + 1)).length = k + 1 := by simp [digs_length]; omega
  by_cases h1 : k = i
  · subst h1
    rw [if_pos rfl, if_pos (by simp [digs_length]; omega), List.getElem?_append_left (by omega), List.getElem?_take_of_lt (by omega)]
    simp [digs, h]
  · rw [if_neg h1]
    rcases Nat.lt_or_ge i k with h2 | h2
    · rw [List.getElem?_append_left (by omega), List.getElem?_append_left (by omega), List.getElem?_take_of_lt h2, List.getElem?_take_of_lt (by omega)]
    · rw [List.getElem?_append_right (by omega), List.getElem?_append_right (by omega), hl, hl1, List.getElem?_replicate, List.getElem?_replicate]
      by_cases h3 : i < 16
      · rw [if_pos (by omega), if_pos (by omega)]
      · rw [if_neg (by omega), if_neg (by omega)]
def Arr (w : World) (b : Nat) (l : List Int) : Prop := w.heap[b]? = some (.cells (nums .u8 l).toArray 43 (0, 0))
theorem Arr.cell {w : World} {b : Nat} {l : List Int} (h : Arr w b l) (k : Nat) (hk : k < l.length) : w.cell? ⟨b, k, none⟩ = some (.int .u8 (l.getD k 0)) := by
  rw [blk_cell h]
  simp [nums, List.getD_eq_getElem?_getD, hk]
theorem Arr.frozen {w : World} {b : Nat} {l : List Int} (h : Arr w b l) (k : Nat) : w.frozen? ⟨b, k, none⟩ = false := blk_frozen h k
theorem Arr.set {w : World} {b : Nat} {l : List Int} (h : Arr w b l) (k : Nat) (x : Int) : Arr (w.setCell ⟨b, k, none⟩ (.int .u8 x)) b (l.set k x) := by
  refine blk_put h k _ ?_
  simp [nums, List.map_set]

set_option maxHeartbeats 2000000 in
theorem text_calls (x : Nat) (w : World) (hx : x < 2 ^ 64) : Calls Try.prog 12 #[.float .f64 x] w fun e w' => e = .returned (.string (strOfNums (digs (plain x)))) ∧ Below w.heap.size w w' := by
  have hb1 : ∀ (n : Nat) (w : World), (callFunc 27 #[.float .f64 n]).run Try.prog w = .ok (.value (.int .u64 (n : Int))) w := run_bits
  have hp : plain x < 2 ^ 64 := by unfold plain; split; decide; split; decide; exact hx
  go_enter Try.func12, Try.ntmps12
  go_wp2_with (go_at_call 21; refine (plain_calls _ _).mono ?_; rintro e w' ⟨rfl, rfl⟩)
  generalize hn : plain x = n at *
  have HN := Lib.hid hn
  clear hn hb1
  go_loopw [5, 9] (fun _ i wr => ∃ k : Nat, k ≤ 16 ∧ i = .int .i64 k ∧ Hid (Arr wr w.heap.size (row n k)) ∧ Hid (Below w.heap.size w wr)) (fun _ i _ => 16 - (intOf i).toNat)
  case atStart => exact ⟨0, by omega, rfl, blk_new w _, (Below.refl _ _).alloc (Nat.le_refl _) _⟩
  case round =>
    obtain ⟨k, hk, rfl, HA, HB⟩ := hrel
    by_cases hlt : k < 16
    · have hc := HA.out.cell k (by rw [row_length hk]; exact hlt)
      have hf := HA.out.frozen k
      have hm := shifted n k hp hlt
      have hm0 : 0 ≤ bits .and .u64 ((n : Int) / 2 ^ (60 - 4 * k)) 15 := by rw [hm]; omega
      have hm1 : bits .and .u64 ((n : Int) / 2 ^ (60 - 4 * k)) 15 < 16 := by rw [hm]; omega
      have HM := Lib.hid (show hexd ((bits .and .u64 ((n : Int) / 2 ^ (60 - 4 * k)) 15).toNat : Int) = dig n k by rw [hm]; rfl)
      clear hm
      go_wp2
      go_roundw
      case rel =>
        refine ⟨k + 1, by omega, by go_num, ?_, HB.out.setCell (Nat.le_refl _) _⟩
        rw [hex_at, HM.out, ← row_set hlt]
        exact HA.out.set k _
      case measure => simp [intOf]; omega
    · have hkl : k = 16 := by omega
      subst hkl
      have hrow : row n 16 = digs n := by unfold row; rw [List.take_of_length_le (by simp [digs_length])]; simp
      rw [hrow] at HA
      have hconv : (convert 44 9 (.slice (some ⟨w.heap.size, 0, none⟩) 16 16)).run Try.prog wr = .ok (.string (strOfNums (digs n))) wr :=
        run_convert_bytes_arg wr 44 5 Try.underlying44 Try.underlying5 w.heap.size 0 16 16 (digs n) (digs_length n) (fun i hi => by rw [Nat.zero_add]; exact HA.out.cell i (by rw [digs_length]; exact hi)) 9 Try.underlying9
      clear hrow
      go_wp2
      go_ret
      exact ⟨by have h := HN.out; subst h; rfl, HB.out⟩
end Go.Proofs.Ytfgamapnoonklaa.H
