/- So many elements, one within another, are put and parsed just up to MaxDeep: the walk. No condition. -/
import Derived.Test.YtkhghgmonjebnaaDeepP
import Derived.Test.YtkhghgmonjebnaaAgainL
namespace Go.Proofs.Ytkhghgmonjebnaa.B
open Go.RowKit Go.Proofs.YtkhghgmonjebnaaW.PrintWords Go.Proofs.YtkhghgmonjebnaaW.PrintLast Go.Proofs.YtkhghgmonjebnaaW.PrintMore
open Go.Proofs.Ytkhghgmonjebnaa.H Go.Proofs.Ytkhghgmonjebnaa.K
set_option linter.unusedVariables false
set_option linter.unusedSimpArgs false

theorem C_lit1 (W : World) (n : Nat) (hn : n = W.heap.size) : Kd.C (Kd.int .u8) (W.alloc (.cells #[.int .u8 48] 5)) (some ⟨n, 0, none⟩) [(48 : Int)].length [48] := by
  subst hn
  refine Kd.C_of_reads (d := (0 : Int)) ⟨rfl, by decide, fun _ => ⟨_, rfl, fun j hj => ?_⟩⟩
  have hj' : j < 1 := hj
  have ha : (⟨W.heap.size, 0, none⟩ : Addr).add j = ⟨W.heap.size, j, none⟩ := by unfold Addr.add; split <;> simp_all
  rw [ha]
  have hb := blk_new W (.cells #[.int .u8 48] 5)
  obtain rfl : j = 0 := by omega
  exact blk_cell hb 0
/-- An element of the chain, but for its kids. -/
def madeOf : Nat → Bool | 0 => false | _ + 1 => true
def numOf : Nat → Int | 0 => 4 | _ + 1 => 16
def kidsOf : Nat → List S27 | 0 => [] | k + 1 => [chain k]
theorem chain_is (k : Nat) : chain k = ⟨⟨0, madeOf k, numOf k⟩, [], kidsOf k⟩ := by cases k <;> rfl

theorem R_keepT {t g base : Nat} {w w' : World} {v : Value} {xs : List Int} {cs : Array Value} (h : Kd.R (Kd.int .u8) 5 w base (fun _ => True) v xs) (hp : w.heap[g]? = some (.cells cs t (0, 0))) (ht : 5 ≠ t) (hk : KeepBut w w' g none) : Kd.R (Kd.int .u8) 5 w' base (fun _ => True) v xs :=
  Kd.R_mono (Kd.R_keep (Kd.R_types h hp (fun q hq => by have : q = 5 := by simpa [Kd.E, Kd.int, Kd.scalar] using hq
                                                        omega)) hk (fun _ h => h.2)) (fun _ _ => trivial)
set_option maxRecDepth 100000 in
set_option maxHeartbeats 20000000 in
theorem deep_walk (x : Int) (w : World) :
    Calls Try.prog 5 #[.int .i64 x] w fun e w' => e = .returned (.bool true) ∧ Below w.heap.size w w' := by
  obtain ⟨n, hn0, hn1, hn⟩ : ∃ n : Nat, 1 ≤ n ∧ n ≤ 64 ∧ wrap64 (1 + bits .and .i64 x 63) = (n : Int) := by
    rw [and63]
    exact ⟨(1 + x % 64).toNat, by omega, by omega, by unfold wrap64; omega⟩
  have HN := Lib.hid (show 1 ≤ n ∧ n ≤ 64 from ⟨hn0, hn1⟩)
  clear hn0 hn1
  go_enter Try.func5, Try.ntmps5
  go_wp2_with ((with_reducible refine gate_dst (N := 16) rfl ?_); refine Kd.R_lit (Kd.int .u8) (w0 := _) (w.heap.size + 1) 5 ?hg (N := 16) ?hd (xs := [4, 0]) (inner := [.int .u8 4, .int .u8 0]) (ok := fun _ => True) (okp := fun _ => True) ?hr ?hp (fun _ hk => hk) trivial (Below.refl _ _) (by simp) (by simp) ?_; (case hd => rfl); (case hg => rfl); (case hr => first | (go_simp; done) | (go_simp; rfl)); (case hp => exact Reps.one rfl (Reps.one rfl (Reps.none _ _))); intro v16 w16 ho hb hg hnew; have HR := Lib.hid ho; have HX := Lib.hid (blk_grown (blk_new w _) hg (by simp)); have HB := Lib.hid ((below_alloc (Below.refl _ _) _).trans (Below.mono hb (by omega)) : Below w.heap.size w w16); clear ho hb hg hnew)
  try rw [hn]
  clear hn
  go_loopw [4, 5] (fun v4 v5 wr => ∃ (i k : Nat) (A4 : Option Addr) (c4 : Nat), i ≤ n ∧ v5 = .int .i64 i ∧ Hid (i = k + 1) ∧ Hid (Kd.R (Kd.int .u8) 5 wr (w.heap.size + 1) (fun _ => True) v4 (encE (chain k))) ∧ Hid (wr.heap[w.heap.size]? = some (.cells #[.int .i64 0, .bool (madeOf k), .int .i64 (numOf k), .slice none 0 0, .slice A4 (kidsOf k).length c4] 27 (0, 0))) ∧ Hid (Kd.R k27 27 wr (w.heap.size + 1) (fun _ => True) (.slice A4 (kidsOf k).length c4) (kidsOf k)) ∧ Hid (Below w.heap.size w wr)) (fun _ v5 _ => n - (intOf v5).toNat)
  case atStart => exact ⟨1, 0, none, 0, HN.out.1, rfl, Lib.hid rfl, Lib.hid (by rw [enc_zero]; exact HR.out), HX, Lib.hid (Kd.R_nil _ _ _ _ _), HB⟩
  case round =>
    clear HR HX HB
    obtain ⟨i, k, A4, c4, hk, rfl, HIK, HR, HX, HK, HB⟩ := hrel
    obtain ⟨A7, c7, rfl, hl7, hC7⟩ := Kd.R_reads HR.out
    have C7 := Lib.hid hC7
    have HL7 := Lib.hid hl7
    have HCL : Hid (2 ≤ (encE (chain k)).length ∧ (encE (chain k)).length ≤ 1000) := Lib.hid (by have := chain_len k; have := HN.out; have := HIK.out; omega)
    have HSZ := Lib.hid (show w.heap.size + 1 ≤ wr.heap.size from blk_lt HX.out)
    have HM : Hid (Kd.M k27 wr (w.heap.size + 1) (fun _ => True) (chain k) [.int .i64 0, .bool (madeOf k), .int .i64 (numOf k), .slice none 0 0, .slice A4 (kidsOf k).length c4]) := Lib.hid (by rw [chain_is]; exact k27_mkM _ _ _ ⟨⟨0, madeOf k, numOf k⟩, [], kidsOf k⟩ (Kd.R_nil _ _ _ _ _) HK.out)
    have pc0 : wr.cell? ⟨w.heap.size, 0, none⟩ = some (.int .i64 0) := (blk_cell HX.out 0).trans rfl
    have pf0 : wr.frozen? ⟨w.heap.size, 0, none⟩ = false := blk_frozen HX.out 0
    have pc1 : wr.cell? ⟨w.heap.size, 1, none⟩ = some (.bool (madeOf k)) := (blk_cell HX.out 1).trans rfl
    have pf1 : wr.frozen? ⟨w.heap.size, 1, none⟩ = false := blk_frozen HX.out 1
    have pc2 : wr.cell? ⟨w.heap.size, 2, none⟩ = some (.int .i64 (numOf k)) := (blk_cell HX.out 2).trans rfl
    have pf2 : wr.frozen? ⟨w.heap.size, 2, none⟩ = false := blk_frozen HX.out 2
    have pc3 : wr.cell? ⟨w.heap.size, 3, none⟩ = some (.slice none 0 0) := (blk_cell HX.out 3).trans rfl
    have pf3 : wr.frozen? ⟨w.heap.size, 3, none⟩ = false := blk_frozen HX.out 3
    have pc4 : wr.cell? ⟨w.heap.size, 4, none⟩ = some (.slice A4 (kidsOf k).length c4) := (blk_cell HX.out 4).trans rfl
    have pf4 : wr.frozen? ⟨w.heap.size, 4, none⟩ = false := blk_frozen HX.out 4
    clear hl7 hC7
    have HN2 : Hid ((n : Int) ≤ 64) := Lib.hid (by have := HN.out; omega)
    by_cases hlt : (i : Int) < (n : Int)
    · have hn64 : n ≤ 64 := HN.out.2
      go_wp2_with (first | ((with_reducible refine gate_dst (N := 24) rfl ?_); refine Kd.R_lit k27 (w0 := wr) (w.heap.size + 1) 27 ?hg (N := 24) ?hd (xs := [chain k]) (inner := [.int .i64 0, .bool (madeOf k), .int .i64 (numOf k), .slice none 0 0, .slice A4 (kidsOf k).length c4]) (ok := fun _ => True) (okp := fun _ => True) ?hr ?hp (fun _ hk => hk) trivial (Below.refl _ _) HSZ.out (by simp) ?_; (case hd => rfl); (case hg => rfl); (case hr => first | (go_simp; done) | (go_simp; rfl)); (case hp => exact Reps.c5 HM.out (Reps.none _ _)); intro v24 w24 ho hb hg hnew; (obtain ⟨A24, c24, hv24⟩ := Kd.R_slice ho); subst hv24; have HK24 := Lib.hid ho; have HX24 := Lib.hid (blk_grown HX.out hg (by simp)); have HB24 := Lib.hid (HB.out.trans (Below.mono hb (by omega))); have HR24 := Lib.hid (Kd.R_grown HR.out hg (fun _ _ => by simp)); have qc0 : w24.cell? ⟨w.heap.size, 0, none⟩ = some (.int .i64 0) := (blk_cell HX24.out 0).trans rfl; have qf0 : w24.frozen? ⟨w.heap.size, 0, none⟩ = false := blk_frozen HX24.out 0; have qc1 : w24.cell? ⟨w.heap.size, 1, none⟩ = some (.bool (madeOf k)) := (blk_cell HX24.out 1).trans rfl; have qf1 : w24.frozen? ⟨w.heap.size, 1, none⟩ = false := blk_frozen HX24.out 1; have qc2 : w24.cell? ⟨w.heap.size, 2, none⟩ = some (.int .i64 (numOf k)) := (blk_cell HX24.out 2).trans rfl; have qf2 : w24.frozen? ⟨w.heap.size, 2, none⟩ = false := blk_frozen HX24.out 2; have qc3 : w24.cell? ⟨w.heap.size, 3, none⟩ = some (.slice none 0 0) := (blk_cell HX24.out 3).trans rfl; have qf3 : w24.frozen? ⟨w.heap.size, 3, none⟩ = false := blk_frozen HX24.out 3; have qc4 : w24.cell? ⟨w.heap.size, 4, none⟩ = some (.slice A4 (kidsOf k).length c4) := (blk_cell HX24.out 4).trans rfl; have qf4 : w24.frozen? ⟨w.heap.size, 4, none⟩ = false := blk_frozen HX24.out 4; clear ho hb hg hnew) | (go_at_call 19; refine (tag_PutLen.calls _ 1 [48] ((encE (chain k)).length : Int) _ _ (C_lit1 _ _ (by simp)) (by decide) (if_pos ⟨by decide, by have := HCL.out; omega⟩)).mono ?_; rintro e w29 ⟨v29, rfl, ho, hb⟩; have HX25 := Lib.hid (set5v_blk HX24.out (.int .i64 0) (.bool true) (.int .i64 16) (.slice none 0 0) (.slice A24 1 c24)); have HK25 := Lib.hid (R_up HK24.out (set5v_keep (W := w24) (b := w.heap.size) (.int .i64 0) (.bool true) (.int .i64 16) (.slice none 0 0) (.slice A24 1 c24)) (by omega)); have HR25 := Lib.hid (R_keepT HR24.out HX24.out (by decide) (set5v_keep (W := w24) (b := w.heap.size) (.int .i64 0) (.bool true) (.int .i64 16) (.slice none 0 0) (.slice A24 1 c24))); have HB25 := Lib.hid (set5v_below HB24.out (Nat.le_refl _) (.int .i64 0) (.bool true) (.int .i64 16) (.slice none 0 0) (.slice A24 1 c24)); have hal := below_then (below_alloc (Below.refl ((set5v w24 w.heap.size (.int .i64 0) (.bool true) (.int .i64 16) (.slice none 0 0) (.slice A24 1 c24))).heap.size (set5v w24 w.heap.size (.int .i64 0) (.bool true) (.int .i64 16) (.slice none 0 0) (.slice A24 1 c24))) (.cells #[.int .u8 48] 5)) (by simp) hb; have HX29 := Lib.hid (blk_below HX25.out hal); have HK29 := Lib.hid (Kd.R_below (Kd.R_mono (Kd.R_bound HK25.out) (fun k hk => hk.2.2.1)) hal); have HO29B := Lib.hid (Kd.R_base ho); have HR29 := Lib.hid (Kd.R_below HR25.out hal); have HB29 := Lib.hid (below_then HB25.out HB25.out.size hal); have HO29 := Lib.hid (Kd.R_lower ho (by have := blk_lt HX24.out; simp; omega) : Kd.R (Kd.int .u8) 5 w29 (w.heap.size + 1) (fun _ => True) v29 (putLen [48] ((encE (chain k)).length : Int))); clear ho hb hal) | ((with_reducible refine gate_builtin (b := .append) (xs := #[.tmp 29, .tmp 30]) rfl ?_); at_builtin; refine Kd.R_append_rows (Kd.int .u8) (w0 := w29) (w.heap.size + 1) rfl (.tmp 29) (.tmp 30) 24 5 (.int .u8 0) 1 rfl Try.underlying24 info5 rfl (by decide) (by omega) _ (putLen [48] ((encE (chain k)).length : Int)) (encE (chain k)) A7 (encE (chain k)).length c7 (fun _ => True) (fun _ => False) rfl rfl HO29.out (C_of_R HR29.out) (fun _ _ h => h) (fun _ h => h.elim) (fun _ _ => trivial) (Below.refl _ _) (by have := blk_lt HX29.out; omega) (by have := HCL.out; have := head_len 0 16 ((encE (chain k)).length : Int) true; rw [show put [] 0 true 16 = [48] by decide] at this; omega) ?_; intro v31 w31 ho9 hb9 hg9 hat9; rw [← enc_succ] at ho9; have HR31 := Lib.hid ho9; have HB31 := Lib.hid (HB29.out.trans (Below.mono hb9 (by omega))); have HX31 := Lib.hid ((hb9.block w.heap.size (by omega)).trans HX29.out); have HK31 := Lib.hid (Kd.R_mono (Kd.R_grown HK29.out hg9 (fun k hk e => by have h1 := HO29B.out k e.symm; simp at h1 hk; omega)) (fun _ _ => trivial) : Kd.R k27 27 w31 (w.heap.size + 1) (fun _ => True) (.slice A24 1 c24) [chain k]); clear ho9 hb9 hg9 hat9))
      go_roundw
      case rel =>
        have HX9 : Hid (w31.heap[w.heap.size]? = some (.cells #[.int .i64 0, .bool (madeOf (k + 1)), .int .i64 (numOf (k + 1)), .slice none 0 0, .slice A24 (kidsOf (k + 1)).length c24] 27 (0, 0))) := Lib.hid (by simpa only [madeOf, numOf, kidsOf, List.length_cons, List.length_nil, Nat.zero_add] using HX31.out)
        have HK9 : Hid (Kd.R k27 27 w31 (w.heap.size + 1) (fun _ => True) (.slice A24 (kidsOf (k + 1)).length c24) (kidsOf (k + 1))) := Lib.hid (by simpa only [kidsOf, List.length_cons, List.length_nil, Nat.zero_add] using HK31.out)
        exact ⟨i + 1, k + 1, A24, c24, by omega, by have := HN.out; go_num, Lib.hid (by rw [HIK.out]), HR31, HX9, HK9, HB31⟩
      case measure => have := HN.out; simp [intOf]; omega
    · obtain rfl : i = n := by omega
      have hkn : i = k + 1 := HIK.out
      have HPUT : Hid (∀ W, Below wr.heap.size wr W → Calls Try.prog 10 #[.agg #[.int .i64 0, .bool (madeOf k), .int .i64 (numOf k), .slice none 0 0, .slice A4 (kidsOf k).length c4]] W fun e w' => PutQ W (chain k) e w') := Lib.hid (fun W hW => by
        have hL : Lies W ⟨⟨0, madeOf k, numOf k⟩, [], kidsOf k⟩ none 0 A4 c4 := by
          obtain ⟨B4, d4, e4, l4, g4⟩ := Kd.R_reads HK.out
          injection e4 with b1 _ b3
          subst b1 b3
          exact ⟨Nat.le_refl _, Kd.C_nil _ _, l4, Kd.C_below g4 hW⟩
        exact (put_calls ⟨⟨0, madeOf k, numOf k⟩, [], kidsOf k⟩ (by rw [← chain_is]; exact chain_fit k) (by rw [← chain_is]; exact chain_thin k) none 0 A4 c4 W hL).mono (fun e w' h => by rw [chain_is]; exact h))
      have HLL : Hid (((encE (chain k)).length : Int) < 1000000000) := Lib.hid (by have := HCL.out; omega)
      have HOK := Lib.hid (enc_okb (chain k) (chain_fit k) (by have := HCL.out; omega))
      by_cases h24 : 24 < i
      · have HPR : Hid (putR (chain k) = ([], 15)) := Lib.hid (by rw [chain_put k (by have := HN.out; omega), if_pos (by omega)])
        have HPB := Lib.hid (chain_parse_bad k (by omega) (by have := HN.out; omega))
        have h24b : (24 : Int) < (i : Int) := by omega
        clear h24 hkn hk hlt
        go_wp2_with (first | (go_at_call 10; with_reducible refine (HPUT.out _ (Below.refl _ _)).mono ?_; unfold PutQ; rw [HPR.out]; rintro e w6 ⟨v6, rfl, h6, hb6⟩; (obtain ⟨A6, c6, hv6, hl6, hC6⟩ := Kd.R_reads h6); subst hv6; have HC6 := Lib.hid hC6; have HB6 := Lib.hid (below_then HB.out HB.out.size hb6); have HC7 := Lib.hid (Kd.C_below C7.out hb6); clear h6 hb6 hl6 hC6) | (go_at_call 17; with_reducible refine (parse_calls (encE (chain k)) A7 c7 _ HC7.out HL7.out HOK.out HLL.out).mono ?_; unfold ParseQ; rw [HPB.out]; rintro e w8 ⟨hb8, rfl⟩; have HB8 := Lib.hid (below_then HB6.out HB6.out.size hb8); have hcv6 : ∀ o, (convert 24 9 (.slice A6 ([] : List Int).length c6)).run Try.prog (w8.alloc o) = .ok (.string (strOfNums [])) (w8.alloc o) := fun o => Kd.C_string (P := Try.prog) (c := c6) Try.underlying24 Try.underlying5 Try.underlying9 (Kd.C_below (Kd.C_below HC6.out hb8) (below_alloc (Below.refl _ _) o)); have hcv7 : ∀ o, (convert 24 9 (.slice A7 (encE (chain k)).length c7)).run Try.prog (w8.alloc o) = .ok (.string (strOfNums (encE (chain k)))) (w8.alloc o) := fun o => Kd.C_string (P := Try.prog) (c := c7) Try.underlying24 Try.underlying5 Try.underlying9 (Kd.C_below (Kd.C_below HC7.out hb8) (below_alloc (Below.refl _ _) o)); clear hb8))
        go_ret
        exact ⟨rfl, below_alloc HB8.out _⟩
      · have HPR : Hid (putR (chain k) = (encE (chain k), 0)) := Lib.hid (by rw [chain_put k (by have := HN.out; omega), if_neg (by omega)])
        have HPB := Lib.hid (chain_parse k (by omega))
        have h24b : decide ((24 : Int) < (i : Int)) = false := decide_eq_false (by omega)
        clear h24 hkn hk hlt
        go_wp2_with (first | (go_at_call 10; with_reducible refine (HPUT.out _ (Below.refl _ _)).mono ?_; unfold PutQ; rw [HPR.out]; rintro e w6 ⟨v6, rfl, h6, hb6⟩; (obtain ⟨A6, c6, hv6, hl6, hC6⟩ := Kd.R_reads h6); subst hv6; have HC6 := Lib.hid hC6; have HB6 := Lib.hid (below_then HB.out HB.out.size hb6); have HC7 := Lib.hid (Kd.C_below C7.out hb6); clear h6 hb6 hl6 hC6) | (go_at_call 17; with_reducible refine (parse_calls (encE (chain k)) A7 c7 _ HC7.out HL7.out HOK.out HLL.out).mono ?_; unfold ParseQ; rw [HPB.out]; rintro e w8 ⟨hb8, A3, c3, B4, d4, rfl, h3, h4⟩; have HB8 := Lib.hid (below_then HB6.out HB6.out.size hb8); have hcv6 : ∀ o, (convert 24 9 (.slice A6 (encE (chain k)).length c6)).run Try.prog (w8.alloc o) = .ok (.string (strOfNums (encE (chain k)))) (w8.alloc o) := fun o => Kd.C_string (P := Try.prog) (c := c6) Try.underlying24 Try.underlying5 Try.underlying9 (Kd.C_below (Kd.C_below HC6.out hb8) (below_alloc (Below.refl _ _) o)); have hcv7 : ∀ o, (convert 24 9 (.slice A7 (encE (chain k)).length c7)).run Try.prog (w8.alloc o) = .ok (.string (strOfNums (encE (chain k)))) (w8.alloc o) := fun o => Kd.C_string (P := Try.prog) (c := c7) Try.underlying24 Try.underlying5 Try.underlying9 (Kd.C_below (Kd.C_below HC7.out hb8) (below_alloc (Below.refl _ _) o)); clear hb8))
        go_ret
        exact ⟨by simp, below_alloc HB8.out _⟩
end Go.Proofs.Ytkhghgmonjebnaa.B
