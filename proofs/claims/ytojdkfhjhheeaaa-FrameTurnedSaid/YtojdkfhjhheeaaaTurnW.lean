/- A frame in which bits after its length are inverted, within 32 consecutive bits, is not opened: the walk. Conditions: none beyond the statement's own. -/
import Derived.Test.YtojdkfhjhheeaaaTurnQ
import Derived.Test.YtojdkfhjhheeaaaTellsW
namespace Go.Proofs.Ytojdkfhjhheeaaa.H
open Go.RowKit Go.Proofs.YtojdkfhjhheeaaaW.PrintWords Go.Proofs.YtojdkfhjhheeaaaW.PrintLast Go.Proofs.YtojdkfhjhheeaaaW.PrintMore
set_option linter.unusedVariables false
set_option linter.unusedSimpArgs false
/-- Where the turns begin. -/
def kt (B x : Int) : Int := wrap64 (32 + (wrap64 (x.tmod B + B)).tmod B)
theorem kt_range {B x : Int} (hB : 1 ≤ B) (hB1 : B ≤ 100000) : 32 ≤ kt B x ∧ kt B x ≤ 32 + B - 1 := by
  have h1 := Int.tmod_lt_of_pos x (show (0 : Int) < B by omega)
  have h2 := Int.lt_tmod_of_pos x (show (0 : Int) < B by omega)
  unfold kt
  have e1 : wrap64 (x.tmod B + B) = x.tmod B + B := by unfold wrap64; omega
  rw [e1]
  generalize x.tmod B = y at *
  have h3 : (y + B).tmod B = (y + B) % B := Int.tmod_eq_emod_of_nonneg (by omega)
  have h4 := Int.emod_nonneg (y + B) (show B ≠ 0 by omega)
  have h5 := Int.emod_lt_of_pos (y + B) (show (0 : Int) < B by omega)
  rw [h3]
  unfold wrap64
  omega
theorem bit_k (Y k : Nat) (hY : Y < 2 ^ 32) : (Go.bits .and .u32 ((Y : Int) / 2 ^ k) 1 == 1) = Y.testBit k := by
  have e : (Y : Int) / 2 ^ k = ((Y / 2 ^ k : Nat) : Int) := by push_cast; rfl
  have hlt : Y / 2 ^ k < 4294967296 := Nat.lt_of_le_of_lt (Nat.div_le_self ..) hY
  have h := u32_and_nat (Y / 2 ^ k) 1 hlt (by omega)
  rw [e, show (1 : Int) = ((1 : Nat) : Int) from rfl, h, Nat.and_one_is_mod, Nat.testBit_eq_decide_div_mod_eq]
  have h2 : Y / 2 ^ k % 2 < 2 := Nat.mod_lt _ (by decide)
  rw [Bool.eq_iff_iff]
  simp
  omega
theorem behind_size : (⟨#[98, 101, 104, 105, 110, 100]⟩ : ByteArray).size = 6 := rfl
theorem okb_behind : okb (bytesOf ⟨#[98, 101, 104, 105, 110, 100]⟩) = true := by decide +kernel
theorem turn_put {z : List Int} (hz : okb z = true) {T y k : Nat} (h : y.testBit k = true) (hi : (T + k) / 8 < z.length) {v : Int} (hv : rdOf (0 : Int) (tog z T y k) (((T + k) / 8 : Nat) : Int) = v) :
    (tog z T y k).set ((T + k) / 8) (Go.bits .xor .u8 v (2 ^ ((T + k) % 8) % 256)) = tog z T y (k + 1) := by
  have h0 := tog_turn (z := z) h hi
  have hg := okb_get (tog_okb hz T y k) ((T + k) / 8)
  have hv2 : (tog z T y k).getD ((T + k) / 8) 0 = v := hv
  rw [hv2] at h0 hg
  have hlt : 2 ^ ((T + k) % 8) < 256 := Nat.lt_of_lt_of_le (Nat.pow_lt_pow_right (by omega) (Nat.mod_lt _ (by omega))) (Nat.le_refl (2 ^ 8))
  have e1 : ((2 : Int) ^ ((T + k) % 8)) % 256 = ((2 ^ ((T + k) % 8) : Nat) : Int) := by
    have : ((2 ^ ((T + k) % 8) : Nat) : Int) = (2 : Int) ^ ((T + k) % 8) := by push_cast; rfl
    rw [← this]; exact Int.emod_eq_of_lt (Int.natCast_nonneg _) (Int.ofNat_lt.2 hlt)
  have e2 : v = ((v.toNat : Nat) : Int) := by omega
  rw [← h0, e1]
  congr 1
  conv => lhs; rw [e2]
  exact u8_xor_nat _ _ (by omega) hlt

set_option maxHeartbeats 4000000 in
theorem turned_short (x : Int) (Y T : Nat) (A : Option Addr) (c : Nat) (l : List Int) (w : World) (hY : Y < 2 ^ 32) (hr : Kd.C (Kd.int .u8) w A l.length l) (hc : l.length ≤ c) (hb : okb l = true) (hl : l.length ≤ 3000) (hT : kt (8 * (l.length : Int) + 1) x = T) :
    Calls Try.prog 5 #[.slice A l.length c, .int .i64 x, .int .u32 (Y : Int)] w fun e w' => e = .returned (.bool true) ∧ Below w.heap.size w w' := by
  have HX := Lib.hid (show Kd.C (Kd.int .u8) w A (l).length l by exact hr)
  have HN := Lib.hid (show (l).length = l.length by rfl)
  have HC := Lib.hid (show (l).length ≤ c by exact hc)
  have HK := Lib.hid (show okb l = true by exact hb)
  have HZ := Lib.hid (show (l).length ≤ 3000 by omega)
  have HSL := Lib.hid (show (sealed l).length = l.length + 8 by rw [sealed_length]; )
  have hrg := kt_range (B := 8 * (l.length : Int) + 1) (x := x) (by omega) (by omega)
  rw [hT] at hrg
  have HT := Lib.hid (show 32 ≤ T ∧ T + 32 ≤ 8 * ((l).length + 8) by have := HN.out; omega)
  have hT2 : wrap64 (32 + (wrap64 (x.tmod (8 * (l.length : Int) + 1) + (8 * (l.length : Int) + 1))).tmod (8 * (l.length : Int) + 1)) = (T : Int) := hT
  have T1 : (T : Int) ≤ 30000 := by omega
  have T0 : (32 : Int) ≤ (T : Int) := by omega
  have HY := Lib.hid hY
  have cut : decide ((3000 : Int) < (l.length : Int)) = false := by simp; omega
  clear hr hb hT hrg hY
  go_enter Try.func5, Try.ntmps5
  go_wp2_with (first | (go_at_call 11; refine cast_len (n' := (l).length) (by first | rfl | exact HN.out.symm) ?_; refine (seal_calls A c l _ HX.out (HC.out) HK.out (by have := HZ.out; omega)).mono ?_; rintro e w22 ⟨v5, rfl, ho, hb⟩; (obtain ⟨g, cx, e5, hg0, _, _⟩ := Kd.R_form ho (by rw [sealed_length]; omega)); subst e5; rw [HSL.out] at ho ⊢; have P7 := Lib.hid ho; have HB := Lib.hid hb; have HG := Lib.hid hg0; clear ho hb hg0))
  rw [hT2]
  clear hT2
  go_loopw [10] (fun i wr => ∃ k : Nat, k ≤ 32 ∧ i = .int .i64 k ∧ Hid (Kd.R (Kd.int .u8) 5 wr w.heap.size (fun _ => True) (.slice (some ⟨g, 0, none⟩) (l.length + 8) cx) (tog (sealed l) T Y k)) ∧ Hid (Below w.heap.size w wr)) (fun i _ => 32 - (intOf i).toNat)
  case atStart => exact ⟨0, by omega, rfl, Lib.hid (by rw [tog_zero (sealed_okb HK.out)]; exact P7.out), HB⟩
  case round =>
    obtain ⟨k, hk, rfl, HR, HBr⟩ := hrel
    by_cases hlt : k < 32
    · have hbit := bit_k Y k HY.out
      cases hb : Y.testBit k with
      | false =>
        rw [hb] at hbit
        go_wp2
        go_roundw
        case rel => exact ⟨k + 1, by omega, by go_num, Lib.hid (by rw [tog_same hb]; exact HR.out), HBr⟩
        case measure => simp [intOf]; omega
      | true =>
        rw [hb] at hbit
        have hb1 := (show 0 ≤ ((T : Int) + (k : Int)) / 8 ∧ ((T : Int) + (k : Int)) / 8 < (l.length : Int) + 8 by have := HT.out; have := HN.out; omega)
        have hc1 := Kd.R_celln (0 : Int) HR.out (((T + k) / 8 : Nat) : Int) (by omega) (by omega)
        rw [Int.toNat_natCast] at hc1
        obtain ⟨hc2, hc3⟩ := hc1
        generalize hrd : rdOf (0 : Int) (tog (sealed l) T Y k) _ = z at hc2
        have hrd := Lib.hid hrd
        go_wp2
        go_roundw
        case rel =>
          have h5 := Kd.R_putg HR.out (((T + k) / 8 : Nat) : Int) (Go.bits .xor .u8 z (2 ^ ((T + k) % 8) % 256))
          rw [Int.toNat_natCast, turn_put (sealed_okb HK.out) hb (by rw [HSL.out]; have := HT.out; have := HN.out; omega) hrd.out] at h5
          exact ⟨k + 1, by omega, by go_num, Lib.hid h5.1, Lib.hid (below_set HBr.out HG.out)⟩
        case measure => simp [intOf]; omega
    · obtain rfl : k = 32 := by omega
      have HL : Hid ((tog (sealed l) T Y 32 ++ bytesOf ⟨#[98, 101, 104, 105, 110, 100]⟩).length ≤ 65544) := Lib.hid (by rw [List.length_append, tog_length, bytesOf_length, HSL.out, behind_size]; have := HZ.out; have := HN.out; omega)
      have HE := turned_err (bh := bytesOf ⟨#[98, 101, 104, 105, 110, 100]⟩) HK.out (by have := HZ.out; omega) (y := Y) HT.out.1 HT.out.2 HY.out
      have HO := Lib.hid (okb_app (tog_okb (sealed_okb HK.out) T Y 32) okb_behind)
      generalize hop : opened (tog (sealed l) T Y 32 ++ bytesOf ⟨#[98, 101, 104, 105, 110, 100]⟩) = op at HE
      obtain ⟨o1, o2, o3⟩ := op
      simp only at HE
      have hop := Lib.hid hop
      rcases Nat.eq_zero_or_pos Y with hY0 | hY0
      · rw [if_pos hY0] at HE
        subst HE
        have hy2 : ((Y : Int) == 0) = true := by simp; omega
        have hY0 := Lib.hid hY0
        go_wp2_with (first | ((with_reducible refine gate_builtin (b := .append) (xs := #[.tmp 74, .const (.string ⟨#[98, 101, 104, 105, 110, 100]⟩)]) rfl ?_); at_builtin; refine print_append_str (w0 := w) w.heap.size rfl (.tmp 74) (.const (.string ⟨#[98, 101, 104, 105, 110, 100]⟩)) 22 9 5 rfl Try.underlying22 Try.underlying9 info5 _ (tog (sealed l) T Y 32) _ rfl rfl (by have h := Kd.own_of_R HR.out; rw [tog_length, HSL.out]; rw [tog_length, HSL.out] at h; exact h) HBr.out HBr.out.size (by rw [tog_length, HSL.out]; have := HZ.out; have := HN.out; rw [behind_size]; omega) ?_; intro v8 w8 ho hb hg; clear hg; obtain ⟨A8, c8, e8, hc8, hC8⟩ := Kd.R_reads (Kd.R_of_own (h1 := fun _ => rfl) (ok := fun _ => True) ho (fun _ _ => trivial)); subst e8; have HX8 := Lib.hid hC8; have HC8 := Lib.hid hc8; have HB8 := Lib.hid hb; clear ho hb hc8 hC8) | (go_at_call 13; (with_reducible refine cast_len (A := A8) (n' := (tog (sealed l) T Y 32 ++ bytesOf ⟨#[98, 101, 104, 105, 110, 100]⟩).length) ?hl13 ?_); (case hl13 => first | rfl | (simp only [List.length_append, tog_length, HSL.out, bytesOf_length]; done)); refine (open_at HX8.out HC8.out HO.out (by have := HL.out; omega) hop.out).mono ?_; rintro e w9 ⟨v9, rfl, ho, hb⟩; have HB9 := Lib.hid (below_step HB8.out hb); clear ho hb))
        go_ret
        exact ⟨rfl, HB9.out⟩
      · rw [if_neg (by omega)] at HE
        subst HE
        have hy2 : ((Y : Int) == 0) = false := by simp; omega
        have hY0 := Lib.hid hY0
        go_wp2_with (first | ((with_reducible refine gate_builtin (b := .append) (xs := #[.tmp 74, .const (.string ⟨#[98, 101, 104, 105, 110, 100]⟩)]) rfl ?_); at_builtin; refine print_append_str (w0 := w) w.heap.size rfl (.tmp 74) (.const (.string ⟨#[98, 101, 104, 105, 110, 100]⟩)) 22 9 5 rfl Try.underlying22 Try.underlying9 info5 _ (tog (sealed l) T Y 32) _ rfl rfl (by have h := Kd.own_of_R HR.out; rw [tog_length, HSL.out]; rw [tog_length, HSL.out] at h; exact h) HBr.out HBr.out.size (by rw [tog_length, HSL.out]; have := HZ.out; have := HN.out; rw [behind_size]; omega) ?_; intro v8 w8 ho hb hg; clear hg; obtain ⟨A8, c8, e8, hc8, hC8⟩ := Kd.R_reads (Kd.R_of_own (h1 := fun _ => rfl) (ok := fun _ => True) ho (fun _ _ => trivial)); subst e8; have HX8 := Lib.hid hC8; have HC8 := Lib.hid hc8; have HB8 := Lib.hid hb; clear ho hb hc8 hC8) | (go_at_call 13; (with_reducible refine cast_len (A := A8) (n' := (tog (sealed l) T Y 32 ++ bytesOf ⟨#[98, 101, 104, 105, 110, 100]⟩).length) ?hl13 ?_); (case hl13 => first | rfl | (simp only [List.length_append, tog_length, HSL.out, bytesOf_length]; done)); refine (open_at HX8.out HC8.out HO.out (by have := HL.out; omega) hop.out).mono ?_; rintro e w9 ⟨v9, rfl, ho, hb⟩; have HB9 := Lib.hid (below_step HB8.out hb); clear ho hb))
        go_ret
        exact ⟨rfl, HB9.out⟩

set_option maxHeartbeats 4000000 in
theorem turned_long (x : Int) (Y T : Nat) (A : Option Addr) (c : Nat) (l : List Int) (w : World) (hY : Y < 2 ^ 32) (hr : Kd.C (Kd.int .u8) w A 3000 (l.take 3000)) (hc : l.length ≤ c) (hb : okb l = true) (hl : 3000 < l.length) (hT : kt (24001) x = T) :
    Calls Try.prog 5 #[.slice A l.length c, .int .i64 x, .int .u32 (Y : Int)] w fun e w' => e = .returned (.bool true) ∧ Below w.heap.size w w' := by
  have HX := Lib.hid (show Kd.C (Kd.int .u8) w A ((l.take 3000)).length (l.take 3000) by have h := hr; rw [show (l.take 3000).length = 3000 by rw [List.length_take]; omega]; exact h)
  have HN := Lib.hid (show ((l.take 3000)).length = 3000 by rw [List.length_take]; omega)
  have HC := Lib.hid (show ((l.take 3000)).length ≤ c by rw [List.length_take]; omega)
  have HK := Lib.hid (show okb (l.take 3000) = true by exact okb_take hb _)
  have HZ := Lib.hid (show ((l.take 3000)).length ≤ 3000 by rw [List.length_take]; omega)
  have HSL := Lib.hid (show (sealed (l.take 3000)).length = 3000 + 8 by rw [sealed_length]; rw [List.length_take]; omega)
  have hrg := kt_range (B := 24001) (x := x) (by omega) (by omega)
  rw [hT] at hrg
  have HT := Lib.hid (show 32 ≤ T ∧ T + 32 ≤ 8 * (((l.take 3000)).length + 8) by have := HN.out; omega)
  have hT2 : wrap64 (32 + (wrap64 (x.tmod (24001) + (24001))).tmod (24001)) = (T : Int) := hT
  have T1 : (T : Int) ≤ 30000 := by omega
  have T0 : (32 : Int) ≤ (T : Int) := by omega
  have HY := Lib.hid hY
  have cut : decide ((3000 : Int) < (l.length : Int)) = true := by simp; omega
  have cut2 : (3000 : Int) ≤ (c : Int) := by omega
  clear hr hb hT hrg hY
  go_enter Try.func5, Try.ntmps5
  go_wp2_with (first | (go_at_call 11; refine cast_len (n' := ((l.take 3000)).length) (by first | rfl | exact HN.out.symm) ?_; refine (seal_calls A c (l.take 3000) _ HX.out (HC.out) HK.out (by have := HZ.out; omega)).mono ?_; rintro e w22 ⟨v5, rfl, ho, hb⟩; (obtain ⟨g, cx, e5, hg0, _, _⟩ := Kd.R_form ho (by rw [sealed_length]; omega)); subst e5; rw [HSL.out] at ho ⊢; have P7 := Lib.hid ho; have HB := Lib.hid hb; have HG := Lib.hid hg0; clear ho hb hg0))
  rw [hT2]
  clear hT2
  go_loopw [10] (fun i wr => ∃ k : Nat, k ≤ 32 ∧ i = .int .i64 k ∧ Hid (Kd.R (Kd.int .u8) 5 wr w.heap.size (fun _ => True) (.slice (some ⟨g, 0, none⟩) (3000 + 8) cx) (tog (sealed (l.take 3000)) T Y k)) ∧ Hid (Below w.heap.size w wr)) (fun i _ => 32 - (intOf i).toNat)
  case atStart => exact ⟨0, by omega, rfl, Lib.hid (by rw [tog_zero (sealed_okb HK.out)]; exact P7.out), HB⟩
  case round =>
    obtain ⟨k, hk, rfl, HR, HBr⟩ := hrel
    by_cases hlt : k < 32
    · have hbit := bit_k Y k HY.out
      cases hb : Y.testBit k with
      | false =>
        rw [hb] at hbit
        go_wp2
        go_roundw
        case rel => exact ⟨k + 1, by omega, by go_num, Lib.hid (by rw [tog_same hb]; exact HR.out), HBr⟩
        case measure => simp [intOf]; omega
      | true =>
        rw [hb] at hbit
        have hb1 := (show 0 ≤ ((T : Int) + (k : Int)) / 8 ∧ ((T : Int) + (k : Int)) / 8 < (3000 : Int) + 8 by have := HT.out; have := HN.out; omega)
        have hc1 := Kd.R_celln (0 : Int) HR.out (((T + k) / 8 : Nat) : Int) (by omega) (by omega)
        rw [Int.toNat_natCast] at hc1
        obtain ⟨hc2, hc3⟩ := hc1
        generalize hrd : rdOf (0 : Int) (tog (sealed (l.take 3000)) T Y k) _ = z at hc2
        have hrd := Lib.hid hrd
        go_wp2
        go_roundw
        case rel =>
          have h5 := Kd.R_putg HR.out (((T + k) / 8 : Nat) : Int) (Go.bits .xor .u8 z (2 ^ ((T + k) % 8) % 256))
          rw [Int.toNat_natCast, turn_put (sealed_okb HK.out) hb (by rw [HSL.out]; have := HT.out; have := HN.out; omega) hrd.out] at h5
          exact ⟨k + 1, by omega, by go_num, Lib.hid h5.1, Lib.hid (below_set HBr.out HG.out)⟩
        case measure => simp [intOf]; omega
    · obtain rfl : k = 32 := by omega
      have HL : Hid ((tog (sealed (l.take 3000)) T Y 32 ++ bytesOf ⟨#[98, 101, 104, 105, 110, 100]⟩).length ≤ 65544) := Lib.hid (by rw [List.length_append, tog_length, bytesOf_length, HSL.out, behind_size]; have := HZ.out; have := HN.out; omega)
      have HE := turned_err (bh := bytesOf ⟨#[98, 101, 104, 105, 110, 100]⟩) HK.out (by have := HZ.out; omega) (y := Y) HT.out.1 HT.out.2 HY.out
      have HO := Lib.hid (okb_app (tog_okb (sealed_okb HK.out) T Y 32) okb_behind)
      generalize hop : opened (tog (sealed (l.take 3000)) T Y 32 ++ bytesOf ⟨#[98, 101, 104, 105, 110, 100]⟩) = op at HE
      obtain ⟨o1, o2, o3⟩ := op
      simp only at HE
      have hop := Lib.hid hop
      rcases Nat.eq_zero_or_pos Y with hY0 | hY0
      · rw [if_pos hY0] at HE
        subst HE
        have hy2 : ((Y : Int) == 0) = true := by simp; omega
        have hY0 := Lib.hid hY0
        go_wp2_with (first | ((with_reducible refine gate_builtin (b := .append) (xs := #[.tmp 74, .const (.string ⟨#[98, 101, 104, 105, 110, 100]⟩)]) rfl ?_); at_builtin; refine print_append_str (w0 := w) w.heap.size rfl (.tmp 74) (.const (.string ⟨#[98, 101, 104, 105, 110, 100]⟩)) 22 9 5 rfl Try.underlying22 Try.underlying9 info5 _ (tog (sealed (l.take 3000)) T Y 32) _ rfl rfl (by have h := Kd.own_of_R HR.out; rw [tog_length, HSL.out]; rw [tog_length, HSL.out] at h; exact h) HBr.out HBr.out.size (by rw [tog_length, HSL.out]; have := HZ.out; have := HN.out; rw [behind_size]; omega) ?_; intro v8 w8 ho hb hg; clear hg; obtain ⟨A8, c8, e8, hc8, hC8⟩ := Kd.R_reads (Kd.R_of_own (h1 := fun _ => rfl) (ok := fun _ => True) ho (fun _ _ => trivial)); subst e8; have HX8 := Lib.hid hC8; have HC8 := Lib.hid hc8; have HB8 := Lib.hid hb; clear ho hb hc8 hC8) | (go_at_call 13; (with_reducible refine cast_len (A := A8) (n' := (tog (sealed (l.take 3000)) T Y 32 ++ bytesOf ⟨#[98, 101, 104, 105, 110, 100]⟩).length) ?hl13 ?_); (case hl13 => first | rfl | (simp only [List.length_append, tog_length, HSL.out, bytesOf_length]; done)); refine (open_at HX8.out HC8.out HO.out (by have := HL.out; omega) hop.out).mono ?_; rintro e w9 ⟨v9, rfl, ho, hb⟩; have HB9 := Lib.hid (below_step HB8.out hb); clear ho hb))
        go_ret
        exact ⟨rfl, HB9.out⟩
      · rw [if_neg (by omega)] at HE
        subst HE
        have hy2 : ((Y : Int) == 0) = false := by simp; omega
        have hY0 := Lib.hid hY0
        go_wp2_with (first | ((with_reducible refine gate_builtin (b := .append) (xs := #[.tmp 74, .const (.string ⟨#[98, 101, 104, 105, 110, 100]⟩)]) rfl ?_); at_builtin; refine print_append_str (w0 := w) w.heap.size rfl (.tmp 74) (.const (.string ⟨#[98, 101, 104, 105, 110, 100]⟩)) 22 9 5 rfl Try.underlying22 Try.underlying9 info5 _ (tog (sealed (l.take 3000)) T Y 32) _ rfl rfl (by have h := Kd.own_of_R HR.out; rw [tog_length, HSL.out]; rw [tog_length, HSL.out] at h; exact h) HBr.out HBr.out.size (by rw [tog_length, HSL.out]; have := HZ.out; have := HN.out; rw [behind_size]; omega) ?_; intro v8 w8 ho hb hg; clear hg; obtain ⟨A8, c8, e8, hc8, hC8⟩ := Kd.R_reads (Kd.R_of_own (h1 := fun _ => rfl) (ok := fun _ => True) ho (fun _ _ => trivial)); subst e8; have HX8 := Lib.hid hC8; have HC8 := Lib.hid hc8; have HB8 := Lib.hid hb; clear ho hb hc8 hC8) | (go_at_call 13; (with_reducible refine cast_len (A := A8) (n' := (tog (sealed (l.take 3000)) T Y 32 ++ bytesOf ⟨#[98, 101, 104, 105, 110, 100]⟩).length) ?hl13 ?_); (case hl13 => first | rfl | (simp only [List.length_append, tog_length, HSL.out, bytesOf_length]; done)); refine (open_at HX8.out HC8.out HO.out (by have := HL.out; omega) hop.out).mono ?_; rintro e w9 ⟨v9, rfl, ho, hb⟩; have HB9 := Lib.hid (below_step HB8.out hb); clear ho hb))
        go_ret
        exact ⟨rfl, HB9.out⟩

theorem turned_walk (a1 : Option Addr) (len1 cap1 : Nat) (z1 : List Int) (x y : Int) (w : World) (hy0 : 0 ≤ y) (hy1 : y ≤ 4294967295) (w1 : (a1 = none ∧ len1 = 0 ∧ cap1 = 0 ∧ z1 = []) ∨ ∃ x, a1 = some x ∧ len1 ≤ cap1 ∧ cap1 ≤ maxLen ∧ z1.length = cap1 ∧ (∀ i, i < z1.length → w.cell? (x.add i) = some (.int .u8 (z1.getD i 0))) ∧ ∀ n ∈ z1, (Lit.int .u8 n).wf = true) :
    Calls Try.prog 5 #[.slice a1 len1 cap1, .int .i64 x, .int .u32 y] w fun e w' => e = .returned (.bool true) ∧ Below w.heap.size w w' := by
  obtain ⟨l, rfl, hr0, hm0, hw0, hc0⟩ := ReadsInt.ofRowC w1
  have hok : okb l = true := okb_of hw0
  have hX : Kd.C (Kd.int .u8) w a1 l.length l := Kd.C_of_reads (d := (0 : Int)) (h1 := fun _ => rfl) hr0
  obtain ⟨Y, rfl⟩ := Int.eq_ofNat_of_zero_le hy0
  rcases Nat.lt_or_ge 3000 l.length with h | h
  · obtain ⟨T, hT⟩ := Int.eq_ofNat_of_zero_le (show 0 ≤ kt 24001 x by have := kt_range (B := 24001) (x := x) (by omega) (by omega); omega)
    exact turned_long x Y T a1 cap1 l w (by omega) (by have h2 := Kd.C_take (m := 3000) hX (by omega); rw [show (l.take 3000).length = 3000 by rw [List.length_take]; omega] at h2; exact h2) hc0 hok h hT
  · obtain ⟨T, hT⟩ := Int.eq_ofNat_of_zero_le (show 0 ≤ kt (8 * (l.length : Int) + 1) x by have := kt_range (B := 8 * (l.length : Int) + 1) (x := x) (by omega) (by omega); omega)
    exact turned_short x Y T a1 cap1 l w (by omega) hX hc0 hok h hT
end Go.Proofs.Ytojdkfhjhheeaaa.H
