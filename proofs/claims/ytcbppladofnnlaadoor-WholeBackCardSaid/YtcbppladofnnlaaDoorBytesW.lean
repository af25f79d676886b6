/- What idle, Read and Put answer: contracts. Condition: bytes. -/
import Derived.Test.YtcbppladofnnlaaDoorBytesP
import Derived.Test.YtcbppladofnnlaaDoorWMore
namespace Go.Proofs.YtcbppladofnnlaaDoor.H
open Go.RowKit Go.Proofs.YtcbppladofnnlaaDoorW.PrintWords Go.Proofs.YtcbppladofnnlaaDoorW.PrintLast Go.Proofs.YtcbppladofnnlaaDoorW.PrintMore
set_option linter.unusedVariables false
set_option linter.unusedSimpArgs false
theorem inf5 : (Tryd.prog.info? 5).map (fun i => (i.zero, i.size, i.bytes)) = some (some (.int .u8 0), 1, 1) := by kernel_rfl
set_option maxHeartbeats 1000000 in
theorem idle_calls (A : Option Addr) (c : Nat) (l : List Int) (w : World) (hr : Kd.C (Kd.int .u8) w A l.length l) (hb : okb l = true) :
    Calls Tryd.prog 23 #[.slice A l.length c] w fun e w' => e = .returned (.bool (idle l)) ∧ w = w' := by
  by_cases h2 : l.length < 2
  · have hi : idle l = false := by
      match l, h2 with
      | [], _ => rfl
      | [a], _ => rfl
    rw [hi]
    have t1 : decide ((l.length : Int) < 2) = true := by simp; omega
    go_enter Tryd.func23, Tryd.ntmps23
    go_wp2
    go_ret
    exact ⟨rfl, rfl⟩
  · obtain ⟨a, b, r, hl⟩ : ∃ a b r, l = a :: b :: r := by
      match l, h2 with
      | a :: b :: r, _ => exact ⟨a, b, r, rfl⟩
      | [], h => simp at h
      | [a], h => simp at h
    have t1 : decide ((l.length : Int) < 2) = false := by simp; omega
    have t2 : (1 : Int) < (l.length : Int) := by omega
    have t3 : (0 : Int) < (l.length : Int) := by omega
    obtain ⟨ad, e1, hk⟩ := (Kd.reads_of_C (enc := Value.int .u8) (d := (0 : Int)) (h1 := fun _ => rfl) hr).2.2 (by omega)
    subst e1
    have c0 : w.cell? ad = some (.int .u8 a) := by have h := hk 0 (by omega); subst hl; exact h
    have c1 : w.cell? ⟨ad.block, ad.off + 1, none⟩ = some (.int .u8 b) := by have h := hk 1 (by omega); subst hl; exact h
    have hb1 : 0 ≤ b ∧ b ≤ 255 := by
      rw [hl] at hb
      have := okb_cons (okb_cons hb).2.2
      exact ⟨this.1, this.2.1⟩
    have hy := and128 hb1.1 hb1.2
    have hi : idle l = ((a == 0 && !(Go.bits .and .u8 b 128 != 0)) || (a == 255 && (Go.bits .and .u8 b 128 != 0))) := by
      rw [hl, hy]
      simp only [idle]
      rw [show decide (b < 128) = !decide (127 < b) by rw [Bool.eq_iff_iff]; simp; omega]
    have HI := Lib.hid hi
    clear hi hy hb1 hb hk hr hl
    cases d1 : (a == 0) <;> cases d2 : (Go.bits .and .u8 b 128 != 0) <;> cases d3 : (a == 255)
    all_goals
      rw [d1, d2, d3] at HI
      simp only [Bool.not_false, Bool.not_true, Bool.and_true, Bool.and_false, Bool.or_false, Bool.or_true, Bool.false_and, Bool.true_and, Bool.false_or, Bool.true_or] at HI
      rw [HI.out]
      go_enter Tryd.func23, Tryd.ntmps23
      go_wp2
      go_ret
      exact ⟨rfl, rfl⟩
theorem wrap_byte {c : Int} (h0 : 0 ≤ c) (h1 : c ≤ 255) : wrap64 c = c := by unfold wrap64; omega
theorem okb_at {l : List Int} (h : okb l = true) (i : Int) : 0 ≤ rd l i ∧ rd l i ≤ 255 := by
  unfold rd
  rw [List.getD_eq_getElem?_getD]
  rcases Nat.lt_or_ge i.toNat l.length with h1 | h1
  · rw [List.getElem?_eq_getElem h1, Option.getD_some]
    have := List.all_eq_true.1 h _ (List.getElem_mem h1)
    simpa using this
  · rw [List.getElem?_eq_none h1]; simp
theorem take_rd {l : List Int} {k : Nat} (h : k < l.length) : l.take (k + 1) = l.take k ++ [rd l k] := by
  rw [List.take_succ_eq_append_getElem h]
  simp [rd, List.getD_eq_getElem?_getD, h]

abbrev two (a b : Int) : Value := .tuple #[.int .i64 a, .int .i64 b]
set_option maxHeartbeats 2000000 in
theorem read_calls (A : Option Addr) (c : Nat) (l : List Int) (w : World) (hr : Kd.C (Kd.int .u8) w A l.length l) (hc : l.length ≤ c) (hb : okb l = true) (hm : l.length ≤ 1000000) :
    Calls Tryd.prog 18 #[.slice A l.length c] w fun e w' => e = .returned (two (rdw l).1 (rdw l).2) ∧ w = w' := by
  have HR := Lib.hid hr
  have HL := Lib.hid hb
  by_cases h0 : l.length = 0
  · have hi : rdw l = (0, 11) := by unfold rdw; rw [if_pos (.inl h0)]
    rw [hi]
    have t1 : ((l.length : Int) == 0) = true := by simp [h0]
    clear hr hb
    go_enter Tryd.func18, Tryd.ntmps18
    go_wp2_with fail
    exact bodyPost_ret (v := two 0 11) (by simp [results, Tryd.results18, go_sem]) rfl ⟨rfl, rfl⟩
  · have t1 : ((l.length : Int) == 0) = false := by simp [h0]
    cases hd : idle l with
    | true =>
      have hi : rdw l = (0, 11) := by unfold rdw; rw [if_pos (.inr hd)]
      rw [hi]
      have HD := Lib.hid hd
      clear hr hb hd
      go_enter Tryd.func18, Tryd.ntmps18
      go_wp2_with (go_at_call 23; refine (idle_calls A c l _ HR.out HL.out).mono ?_; rintro e w1 ⟨rfl, rfl⟩; rw [HD.out])
      exact bodyPost_ret (v := two 0 11) (by simp [results, Tryd.results18, go_sem]) rfl ⟨rfl, rfl⟩
    | false =>
      by_cases h8 : 8 < l.length
      · have hi : rdw l = (0, 3) := by unfold rdw; rw [if_neg (by simp [h0, hd]), if_pos h8]
        rw [hi]
        have HD := Lib.hid hd
        have t2 : decide ((8 : Int) < (l.length : Int)) = true := by simp; omega
        clear hr hb hd
        go_enter Tryd.func18, Tryd.ntmps18
        go_wp2_with (go_at_call 23; refine (idle_calls A c l _ HR.out HL.out).mono ?_; rintro e w1 ⟨rfl, rfl⟩; rw [HD.out])
        exact bodyPost_ret (v := two 0 3) (by simp [results, Tryd.results18, go_sem]) rfl ⟨rfl, rfl⟩
      · have hi : rdw l = ((l.drop 1).foldl stp (first l), 0) := by unfold rdw; rw [if_neg (by simp [h0, hd]), if_neg h8]
        have HI := Lib.hid hi
        have HD := Lib.hid hd
        have t2 : decide ((8 : Int) < (l.length : Int)) = false := by simp; omega
        have t3 : (0 : Int) < (l.length : Int) := by omega
        obtain ⟨ad, e1, hk⟩ := (Kd.reads_of_C (enc := Value.int .u8) (d := (0 : Int)) (h1 := fun _ => rfl) hr).2.2 (by omega)
        subst e1
        have c0 : w.cell? ad = some (.int .u8 (rd l 0)) := by
          have h := hk 0 (by omega)
          rw [show ad.add 0 = ad from rfl] at h
          rw [h]
          rfl
        obtain ⟨i5, hi5, _, hsz5, _⟩ := info_parts inf5
        obtain ⟨A', hcut, hA, hcA⟩ := print_drop_of (P := Tryd.prog) (Value.int .u8) 0 32 5 .i64 Tryd.underlying32 hi5 hsz5 (some ad) c l 1 (by omega) (by omega) hc
        have e1 : (1 : Int).toNat = 1 := rfl
        rw [e1] at hcut hA hcA
        have HA := Lib.hid (hA _ (Kd.reads_of_C (enc := Value.int .u8) (d := (0 : Int)) (h1 := fun _ => rfl) HR.out))
        have HY := Lib.hid (show okb (l.drop 1) = true by
          unfold okb at *
          rw [List.all_eq_true] at *
          exact fun x hx => hb x (List.mem_of_mem_drop hx))
        have hyl : (l.drop 1).length = l.length - 1 := by rw [List.length_drop]
        have hcut : ∀ W : World, (Instr.slice 32 (.slice (some ad) l.length c) (some (.int .i64 1)) none none).run Tryd.prog W = .ok (.slice A' (l.drop 1).length (c - 1)) W := hcut
        have hb0 := okb_at HL.out 0
        have HF := Lib.hid (show wrap64 (IntKind.i8.wrap (rd l 0)) = first l from rfl)
        have HYL := Lib.hid hyl
        clear hr hb hd hk hA hcA hi5 hsz5 e1 hi
        generalize rd l 0 = x0 at *
        generalize l.drop 1 = y at *
        rw [hyl] at hcut
        go_enter Tryd.func18, Tryd.ntmps18
        go_wp2_with (go_at_call 23; refine (idle_calls (some ad) c l _ HR.out HL.out).mono ?_; rintro e w1 ⟨rfl, rfl⟩; rw [HD.out])
        clear hcut c0 hb0
        rw [HF.out]
        go_loop [4, 6, 27] (fun n _ i => ∃ k : Nat, k ≤ y.length ∧ i = .int .i64 k ∧ n = .int .i64 ((y.take k).foldl stp (first l))) (fun _ _ i => y.length - (intOf i).toNat)
        case atStart => exact ⟨0, Nat.zero_le _, rfl, rfl⟩
        case round =>
          obtain ⟨k, hk, rfl, rfl⟩ := hrel
          by_cases hlt : k < y.length
          · obtain ⟨ad2, e2, hcell⟩ := Kd.at_int (Kd.C_of_reads (h1 := fun _ => rfl) HA.out) (k : Int) (by omega) (by omega)
            subst e2
            have hcell : w.cell? (ad2.add k) = some (.int .u8 (rd y k)) := hcell
            obtain ⟨hc0, hc1⟩ := okb_at HY.out (k : Int)
            have HS := Lib.hid (show (y.take (k + 1)).foldl stp (first l) = stp ((y.take k).foldl stp (first l)) (rd y k) by rw [take_rd hlt, List.foldl_append]; rfl)
            generalize (y.take k).foldl stp (first l) = R at *
            generalize rd y k = ch at *
            have hlt2 : (k : Int) < ((l.length - 1 : Nat) : Int) := by omega
            go_wp2
            go_round
            case rel => exact ⟨k + 1, by omega, by go_num, by rw [HS.out]; unfold stp; rw [wrap_byte hc0 hc1]⟩
            case measure => simp [intOf]; omega
          · have hkl : k = y.length := by omega
            have hge : ¬ (k : Int) < ((l.length - 1 : Nat) : Int) := by omega
            have HI2 := Lib.hid (show rdw l = ((y.take (l.length - 1)).foldl stp (first l), 0) by rw [HI.out, ← HYL.out, List.take_length])
            go_wp2
            exact bodyPost_ret (v := two ((y.take (l.length - 1)).foldl stp (first l)) 0) (by simp [results, Tryd.results18, go_sem]) rfl ⟨by rw [HI2.out], rfl⟩
end Go.Proofs.YtcbppladofnnlaaDoor.H
