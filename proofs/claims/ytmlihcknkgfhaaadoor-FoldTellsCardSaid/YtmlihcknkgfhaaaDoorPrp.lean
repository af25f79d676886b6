/- What prepared answers: a contract. Condition: texts of at most four thousand million bytes. -/
import Derived.Test.YtmlihcknkgfhaaaDoorSml
namespace Go.Proofs.YtmlihcknkgfhaaaDoor.H
open Go.RowKit Go.Proofs.YtmlihcknkgfhaaaDoor.M Go.Proofs.YtmlihcknkgfhaaaDoor.PFold Go.Proofs.YtmlihcknkgfhaaaDoorW.PrintWords Go.Proofs.YtmlihcknkgfhaaaDoorW.PrintLast Go.Proofs.YtmlihcknkgfhaaaDoorW.PrintMore
set_option linter.unusedVariables false
set_option linter.unusedSimpArgs false
abbrev IsB (b : Nat) (B : Nat) (l : Bs) (w : World) : Prop := Lib.IsBuilder 42 5 B b (Lib.byteCells l) w
theorem isb_new (w : World) (B : Nat) (hB : B ≤ w.heap.size) : IsB w.heap.size B [] (w.alloc (.cells #[.pointer none, .slice none 0 0] 42)) :=
  .inl ⟨hB, .slice none 0 0, blk_new w _, own_nil _ _ _ _, by simp [Value.ownBlock]⟩
theorem isb_drew {b B n : Nat} {l : Bs} {w : World} (h : IsB b B l w) : IsB b B l (w.drewN n) := h
theorem ws_calls (B b : Nat) (l : Bs) (s : ByteArray) (w : World) (h : IsB b B l w) (hlen : l.length + s.size ≤ 140737488355328) (hBw : B ≤ w.heap.size) :
    Calls Tryd.prog 28 #[.pointer (some ⟨b, 0, none⟩), .string s] w fun e w' => e = .returned (.tuple #[.int .i64 s.size, .nilIface]) ∧ IsB b B (l ++ s.data.toList) w' ∧ Below B w w' := by
  refine (Any.Builder_WriteString Tryd.bld166 Tryd.bldExtra B b (Lib.byteCells l) s w h (by rw [Lib.byteCells_length]; exact hlen) hBw).mono ?_
  rintro e w' ⟨rfl, h1, h2⟩
  refine ⟨rfl, .inr ?_, h2⟩
  rw [Lib.byteCells_append, ← Lib.strCells_eq]
  exact h1
theorem str_calls (B b : Nat) (l : Bs) (w : World) (h : IsB b B l w) (hBw : B ≤ w.heap.size) :
    Calls Tryd.prog 30 #[.pointer (some ⟨b, 0, none⟩)] w fun e w' => e = .returned (.string (mk l)) ∧ Below B w w' := Tryd.Builder_String_any B b l w h hBw
theorem len_calls (B b : Nat) (l : Bs) (w : World) (h : IsB b B l w) :
    Calls Tryd.prog 27 #[.pointer (some ⟨b, 0, none⟩)] w fun e w' => e = .returned (.int .i64 l.length) ∧ w = w' := by
  refine (Tryd.Builder_Len B b (Lib.byteCells l) w h).mono ?_
  rintro e w' ⟨rfl, rfl⟩
  rw [Lib.byteCells_length]
  exact ⟨rfl, rfl⟩
theorem right_calls (l : Bs) (w : World) (hl : l.length ≤ 4000000000) :
    Calls Tryd.prog 11 #[.string (mk l)] w fun e w' => e = .returned (.bool (right l).isSome) ∧ Drawn0 w w' := by
  obtain ⟨k, hk⟩ := (right_f l hl).rounds
  exact fold_Right.calls k _ _ w hk
theorem next_calls (S : ByteArray) (c : Nat) (cs : List Nat) (w : World) (hS : S = mk (E (c :: cs))) (hv : valid c = true) :
    Calls Tryd.prog 5 #[.string S] w fun e w' => ∃ N : Nat, e = .returned (.tuple #[.int .i32 (c : Int), .int .i64 (N : Int)]) ∧ N = (enc c).length ∧ Drawn0 w w' := by
  obtain ⟨k, hk⟩ := (next_f (E (c :: cs))).rounds
  rw [← hS, show E (c :: cs) = enc c ++ E cs from rfl, nx_enc hv] at hk
  exact (fold_Next.calls k _ _ _ w hk).mono fun e w' h => ⟨_, h.1, rfl, h.2⟩
theorem kind_calls (c n : Nat) (h : kind c = n) (w : World) :
    Calls Tryd.prog 26 #[.int .i32 (c : Int)] w fun e w' => e = .returned (.int .i64 (n : Int)) ∧ Drawn0 w w' := by
  have hk := kind_f c
  rw [h] at hk
  exact fold_kind.calls _ _ w hk
theorem sm_eq (c : Nat) (own : ByteArray) (h : own = mk (enc c)) : (if big c = true then mk (enc (c + 32)) else own) = mk (enc (sm c)) := by
  unfold sm
  split
  · rfl
  · exact h
theorem small_var (c : Nat) (own : ByteArray) (w : World) (h : own = mk (enc c)) :
    Calls Tryd.prog 29 #[.int .i32 (c : Int), .string own] w fun e w' => ∃ r, e = .returned (.string r) ∧ r = mk (enc (sm c)) ∧ w = w' :=
  (small_calls c own w).mono fun e w' hh => ⟨_, hh.1, sm_eq c own h, hh.2⟩
/-- What prepared answers. -/
def prepared (l : Bs) (ends letters : Bool) : Bs := match right l with
  | some cs => E (prep ends letters cs)
  | none => l
theorem E_isE (out : List Nat) : (E out).length = 0 ↔ out = [] := by
  cases out with
  | nil => simp [E]
  | cons c out =>
    have h := enc_pos c
    rw [E, List.length_append]
    constructor
    · intro e; omega
    · intro e; cases e
theorem E_one (out : List Nat) (x : Nat) : E (out ++ [x]) = E out ++ enc x := by rw [E_append]; simp [E]
theorem E_two (out : List Nat) (x : Nat) : E (out ++ [32, x]) = E out ++ [32] ++ enc x := by
  rw [E_append, List.append_assoc]
  congr 1
  show enc 32 ++ (enc x ++ []) = [32] ++ enc x
  rw [List.append_nil]
  rfl
theorem cut_own {S : ByteArray} {c N : Nat} {cs : List Nat} (hS : S = mk (E (c :: cs))) (hN : N = (enc c).length) : S.extract 0 N = mk (enc c) := by
  rw [hS, hN, mk_extract, E]
  simp
theorem cut_rest {S : ByteArray} {c N : Nat} {cs : List Nat} (hS : S = mk (E (c :: cs))) (hN : N = (enc c).length) : S.extract N S.size = mk (E cs) := by
  rw [hS, hN, mk_extract, E, mk_size]
  simp
theorem data_mk (l : Bs) : (mk l).data.toList = l := rfl
theorem go_step2 (ends letters : Bool) {c : Nat} (h : kind c = 2) (out cs : List Nat) (due : Bool) {fin : List Nat} (hf : out ++ go ends letters (c :: cs) due (!out.isEmpty) = fin) :
    (out ++ ((if due && (ends || !out.isEmpty) then [32] else []) ++ [if letters then sm c else c])) ++ go ends letters cs false (!(out ++ ((if due && (ends || !out.isEmpty) then [32] else []) ++ [if letters then sm c else c])).isEmpty) = fin := by
  rw [← hf, go_other h]
  have e : (!(out ++ ((if due && (ends || !out.isEmpty) then [32] else []) ++ [if letters then sm c else c])).isEmpty) = true := by
    simp
  rw [e]
  simp

set_option maxHeartbeats 2000000 in
theorem prepared_walk (l : Bs) (cs0 : List Nat) (ends letters : Bool) (w : World) (hr : right l = some cs0) (hl : l.length ≤ 4000000000) :
    Calls Tryd.prog 22 #[.string (mk l), .bool ends, .bool letters] w fun e w' => e = .returned (.string (mk (E (prep ends letters cs0)))) ∧ Below w.heap.size w w' := by
  obtain ⟨hv0, hE0⟩ := right_some hr
  have HL := Lib.hid hl
  have HR := Lib.hid (show (right l).isSome = true by rw [hr]; rfl)
  have HE := Lib.hid (show mk l = mk (E cs0) by rw [← hE0])
  have HEL := Lib.hid (show (E cs0).length ≤ 4000000000 by rw [← hE0]; exact hl)
  have HV0 := Lib.hid hv0
  clear hr hl hv0 hE0
  generalize hSl : mk l = SL at HE ⊢
  have HSL := Lib.hid hSl
  clear hSl
  go_enter Tryd.func22, Tryd.ntmps22
  go_wp2_with (go_at_call 11; rw [← HSL.out]; refine (right_calls l _ HL.out).mono ?_; rintro e w1 ⟨rfl, ⟨n0, rfl⟩⟩; rw [HR.out]; rw [HSL.out])
  have hI0 : IsB w.heap.size w.heap.size [] ((w.drewN n0).alloc (.cells #[.pointer none, .slice none 0 0] 42)) := isb_new (w.drewN n0) w.heap.size (Nat.le_refl _)
  have hB0 : Below w.heap.size w ((w.drewN n0).alloc (.cells #[.pointer none, .slice none 0 0] 42)) := below_alloc (pw_below_drewN (Below.refl _ _) _) _
  generalize (w.drewN n0).alloc (.cells #[.pointer none, .slice none 0 0] 42) = W0 at *
  have HI0 := Lib.hid hI0
  have HB0 := Lib.hid hB0
  clear hI0 hB0
  go_loopw [0, 8] (fun v0 v8 wr => ∃ (cs : List Nat) (due : Bool) (out : List Nat), v0 = .string (mk (E cs)) ∧ v8 = .bool due ∧ Hid (vs cs = true) ∧ Hid (IsB w.heap.size w.heap.size (E out) wr) ∧ Hid (Below w.heap.size w wr) ∧ Hid (out ++ go ends letters cs due (!out.isEmpty) = prep ends letters cs0) ∧ Hid ((E out).length + 2 * (E cs).length + 1 ≤ 9000000000)) (fun v0 _ _ => Lib.strSize v0)
  case atStart => exact ⟨cs0, false, [], by rw [HE.out], rfl, HV0, HI0, HB0, Lib.hid rfl, Lib.hid (by have := HEL.out; simp only [E, List.length_nil]; omega)⟩
  case round =>
    obtain ⟨cs, due, out, rfl, rfl, HV1, HI, HB, HF, HZ⟩ := hrel
    clear HL HR HE HEL HV0 HI0 HB0 HSL
    cases cs with
    | nil =>
      have t0 : (mk (E [])).toList.isEmpty = true := by rw [mk_toList]; rfl
      have t1 : ((mk (E [])).toList != []) = false := by rw [mk_toList]; rfl
      have HS0 := Lib.hid t0
      generalize mk (E []) = S at *
      cases due
      · go_wp2_with (go_at_call 30; refine (str_calls w.heap.size w.heap.size (E out) _ (by exact HI.out) HB.out.size).mono ?_; rintro e w3 ⟨rfl, hb⟩; have HB3 := Lib.hid (HB.out.trans hb); clear hb)
        go_ret
        refine ⟨?_, HB3.out⟩
        rw [← HF.out]
        simp only [go, Bool.false_and, Bool.false_eq_true, if_false, List.append_nil]
        rfl
      · cases ends
        · go_wp2_with (go_at_call 30; refine (str_calls w.heap.size w.heap.size (E out) _ (by exact HI.out) HB.out.size).mono ?_; rintro e w3 ⟨rfl, hb⟩; have HB3 := Lib.hid (HB.out.trans hb); clear hb)
          go_ret
          refine ⟨?_, HB3.out⟩
          rw [← HF.out]
          simp only [go, Bool.and_false, Bool.false_eq_true, if_false, List.append_nil]
          rfl
        · go_wp2_with (first | (go_at_call 28; refine (ws_calls w.heap.size w.heap.size (E out) (⟨#[32]⟩ : ByteArray) _ (by exact HI.out) (by have := HZ.out; rw [show (⟨#[32]⟩ : ByteArray).size = 1 from rfl]; omega) HB.out.size).mono ?_; rintro e w2 ⟨rfl, hi, hb⟩; have HI2 := Lib.hid hi; have HB2 := Lib.hid (HB.out.trans hb); clear hi hb) | (go_at_call 30; refine (str_calls w.heap.size w.heap.size _ _ (by exact HI2.out) HB2.out.size).mono ?_; rintro e w3 ⟨rfl, hb⟩; have HB3 := Lib.hid (HB2.out.trans hb); clear hb))
          go_ret
          refine ⟨?_, HB3.out⟩
          rw [← HF.out]
          simp only [go, Bool.and_self, if_true, E_append]
          rfl
    | cons c cs =>
      obtain ⟨hv, hvs⟩ := vs_cons.1 HV1.out
      have HV := Lib.hid hv
      have HVS := Lib.hid hvs
      have hs0 : (mk (E (c :: cs))).toList.isEmpty = false := by
        rw [mk_toList, E, List.isEmpty_eq_false_iff]
        intro e
        have h1 := congrArg List.length e
        have h2 := enc_pos c
        rw [List.length_append, List.length_nil] at h1
        omega
      have hs1 : ((mk (E (c :: cs))).toList != []) = true := by
        have := List.isEmpty_eq_false_iff.1 hs0
        simpa using this
      have HZ2 : Hid ((E out).length + 2 * ((enc c).length + (E cs).length) + 1 ≤ 9000000000) := Lib.hid (by have := HZ.out; rw [E, List.length_append] at this; exact this)
      have HP := Lib.hid (enc_pos c)
      have HQ := Lib.hid (enc_le c)
      clear hv hvs HV1 HZ
      generalize hS : mk (E (c :: cs)) = S at *
      have HS := Lib.hid hS.symm
      clear hS
      rcases kind_cases c with hk | hk | hk
      · have HK := Lib.hid hk
        have HF2 := Lib.hid (show out ++ go ends letters cs true (!out.isEmpty) = prep ends letters cs0 by rw [← HF.out, go_blank hk])
        clear hk HF
        go_wp2_with (first | (go_at_call 5; refine (next_calls S c cs _ HS.out HV.out).mono ?_; rintro e w1 ⟨N, rfl, hN, ⟨n1, rfl⟩⟩; have HN := Lib.hid hN; have hNS : N ≤ S.size := (by rw [HS.out, mk_size, hN, E, List.length_append]; omega); have hNS2 : (N : Int) ≤ (S.size : Int) := (by exact_mod_cast hNS); clear hN) | (go_at_call 26; refine (kind_calls c 0 HK.out _).mono ?_; rintro e w2 ⟨rfl, ⟨n2, rfl⟩⟩))
        go_roundw
        case rel => exact ⟨cs, true, out, by rw [cut_rest HS.out HN.out], rfl, HVS, Lib.hid (by exact HI.out), Lib.hid (by repeat (first | exact HB.out | apply pw_below_drewN | apply below_drew)), HF2, Lib.hid (by have := HZ2.out; omega)⟩
        case measure => rw [Lib.strSize_string, Lib.strSize_string, cut_rest HS.out HN.out, HS.out, mk_size, mk_size, E, List.length_append]; have := HP.out; omega
      · have HK := Lib.hid hk
        have HF2 := Lib.hid (show out ++ go ends letters cs due (!out.isEmpty) = prep ends letters cs0 by rw [← HF.out, go_not hk])
        clear hk HF
        go_wp2_with (first | (go_at_call 5; refine (next_calls S c cs _ HS.out HV.out).mono ?_; rintro e w1 ⟨N, rfl, hN, ⟨n1, rfl⟩⟩; have HN := Lib.hid hN; have hNS : N ≤ S.size := (by rw [HS.out, mk_size, hN, E, List.length_append]; omega); have hNS2 : (N : Int) ≤ (S.size : Int) := (by exact_mod_cast hNS); clear hN) | (go_at_call 26; refine (kind_calls c 1 HK.out _).mono ?_; rintro e w2 ⟨rfl, ⟨n2, rfl⟩⟩))
        go_roundw
        case rel => exact ⟨cs, due, out, by rw [cut_rest HS.out HN.out], rfl, HVS, Lib.hid (by exact HI.out), Lib.hid (by repeat (first | exact HB.out | apply pw_below_drewN | apply below_drew)), HF2, Lib.hid (by have := HZ2.out; omega)⟩
        case measure => rw [Lib.strSize_string, Lib.strSize_string, cut_rest HS.out HN.out, HS.out, mk_size, mk_size, E, List.length_append]; have := HP.out; omega
      · have HK := Lib.hid hk
        have hF2 := go_step2 ends letters hk out cs due HF.out
        clear hk HF
        cases letters
        · cases due
          · skip
            have HF2 := Lib.hid (show (out ++ [c]) ++ go _ _ cs false (!(out ++ [c]).isEmpty) = prep _ _ cs0 from by simpa using hF2)
            clear hF2
            go_wp2_with (first | (go_at_call 5; refine (next_calls S c cs _ HS.out HV.out).mono ?_; rintro e w1 ⟨N, rfl, hN, ⟨n1, rfl⟩⟩; have HN := Lib.hid hN; have hNS : N ≤ S.size := (by rw [HS.out, mk_size, hN, E, List.length_append]; omega); have hNS2 : (N : Int) ≤ (S.size : Int) := (by exact_mod_cast hNS); clear hN) | (go_at_call 26; refine (kind_calls c 2 HK.out _).mono ?_; rintro e w2 ⟨rfl, ⟨n2, rfl⟩⟩) | (go_at_call 28; refine (ws_calls w.heap.size w.heap.size (E out) _ _ (by exact HI.out) (by have := HZ2.out; have := HP.out; have := HQ.out; rw [cut_own HS.out HN.out, mk_size]; omega) (by exact HB.out.size)).mono ?_; rintro e w7 ⟨rfl, hi, hb⟩; have HI7 := Lib.hid hi; have HB7 := (Lib.hid (Below.trans (by repeat (first | exact HB.out | apply pw_below_drewN | apply below_drew)) hb)); clear hi hb))
            go_roundw
            case rel =>
              refine ⟨cs, false, out ++ [c], by rw [cut_rest HS.out HN.out], rfl, HVS, Lib.hid ?_, HB7, HF2, Lib.hid ?_⟩
              · have h := HI7.out
                rw [cut_own HS.out HN.out, data_mk] at h
                rw [E_one]
                exact h
              · have := HZ2.out
                have := HP.out
                rw [E_one]
                simp only [List.length_append, List.length_singleton]
                omega
            case measure => rw [Lib.strSize_string, Lib.strSize_string, cut_rest HS.out HN.out, HS.out, mk_size, mk_size, E, List.length_append]; have := HP.out; omega
          · cases ends
            · by_cases hout : out = []
              · have tl : decide (0 < (E out).length) = false := by rw [hout]; rfl
                have hoe : out.isEmpty = true := by rw [hout]; rfl
                rw [hoe] at hF2
                clear hout hoe
                have HF2 := Lib.hid (show (out ++ [c]) ++ go _ _ cs false (!(out ++ [c]).isEmpty) = prep _ _ cs0 from by simpa using hF2)
                clear hF2
                go_wp2_with (first | (go_at_call 5; refine (next_calls S c cs _ HS.out HV.out).mono ?_; rintro e w1 ⟨N, rfl, hN, ⟨n1, rfl⟩⟩; have HN := Lib.hid hN; have hNS : N ≤ S.size := (by rw [HS.out, mk_size, hN, E, List.length_append]; omega); have hNS2 : (N : Int) ≤ (S.size : Int) := (by exact_mod_cast hNS); clear hN) | (go_at_call 26; refine (kind_calls c 2 HK.out _).mono ?_; rintro e w2 ⟨rfl, ⟨n2, rfl⟩⟩) | (go_at_call 27; refine (len_calls w.heap.size w.heap.size (E out) _ (by exact HI.out)).mono ?_; rintro e w4 ⟨rfl, rfl⟩) | (go_at_call 28; refine (ws_calls w.heap.size w.heap.size (E out) _ _ (by exact HI.out) (by have := HZ2.out; have := HP.out; have := HQ.out; rw [cut_own HS.out HN.out, mk_size]; omega) (by exact HB.out.size)).mono ?_; rintro e w7 ⟨rfl, hi, hb⟩; have HI7 := Lib.hid hi; have HB7 := (Lib.hid (Below.trans (by repeat (first | exact HB.out | apply pw_below_drewN | apply below_drew)) hb)); clear hi hb))
                go_roundw
                case rel =>
                  refine ⟨cs, false, out ++ [c], by rw [cut_rest HS.out HN.out], rfl, HVS, Lib.hid ?_, HB7, HF2, Lib.hid ?_⟩
                  · have h := HI7.out
                    rw [cut_own HS.out HN.out, data_mk] at h
                    rw [E_one]
                    exact h
                  · have := HZ2.out
                    have := HP.out
                    rw [E_one]
                    simp only [List.length_append, List.length_singleton]
                    omega
                case measure => rw [Lib.strSize_string, Lib.strSize_string, cut_rest HS.out HN.out, HS.out, mk_size, mk_size, E, List.length_append]; have := HP.out; omega
              · have tl : decide (0 < (E out).length) = true := by
                  rw [decide_eq_true_eq]
                  have h0 : (E out).length ≠ 0 := fun e => hout ((E_isE out).1 e)
                  omega
                have hoe : out.isEmpty = false := by rw [List.isEmpty_eq_false_iff]; exact hout
                rw [hoe] at hF2
                clear hout hoe
                have HF2 := Lib.hid (show (out ++ [32, c]) ++ go _ _ cs false (!(out ++ [32, c]).isEmpty) = prep _ _ cs0 from by simpa using hF2)
                clear hF2
                go_wp2_with (first | (go_at_call 5; refine (next_calls S c cs _ HS.out HV.out).mono ?_; rintro e w1 ⟨N, rfl, hN, ⟨n1, rfl⟩⟩; have HN := Lib.hid hN; have hNS : N ≤ S.size := (by rw [HS.out, mk_size, hN, E, List.length_append]; omega); have hNS2 : (N : Int) ≤ (S.size : Int) := (by exact_mod_cast hNS); clear hN) | (go_at_call 26; refine (kind_calls c 2 HK.out _).mono ?_; rintro e w2 ⟨rfl, ⟨n2, rfl⟩⟩) | (go_at_call 27; refine (len_calls w.heap.size w.heap.size (E out) _ (by exact HI.out)).mono ?_; rintro e w4 ⟨rfl, rfl⟩) | (go_at_call 28; have hx_ := HI5.out; clear hx_; refine (ws_calls w.heap.size w.heap.size (E out ++ [32]) _ _ (by exact HI5.out) (by have := HZ2.out; have := HP.out; have := HQ.out; rw [cut_own HS.out HN.out, mk_size]; simp only [List.length_append, List.length_singleton]; omega) (by exact HB5.out.size)).mono ?_; rintro e w7 ⟨rfl, hi, hb⟩; have HI7 := Lib.hid hi; have HB7 := (Lib.hid (Below.trans HB5.out hb)); clear hi hb) | (go_at_call 28; refine (ws_calls w.heap.size w.heap.size (E out) (⟨#[32]⟩ : ByteArray) _ (by exact HI.out) (by have := HZ2.out; rw [show (⟨#[32]⟩ : ByteArray).size = 1 from rfl]; omega) (by exact HB.out.size)).mono ?_; rintro e w5 ⟨rfl, hi, hb⟩; have HI5 := Lib.hid hi; have HB5 := Lib.hid (Below.trans (by repeat (first | exact HB.out | apply pw_below_drewN | apply below_drew)) hb); clear hi hb))
                go_roundw
                case rel =>
                  refine ⟨cs, false, out ++ [32, c], by rw [cut_rest HS.out HN.out], rfl, HVS, Lib.hid ?_, HB7, HF2, Lib.hid ?_⟩
                  · have h := HI7.out
                    rw [cut_own HS.out HN.out, data_mk] at h
                    rw [E_two]
                    exact h
                  · have := HZ2.out
                    have := HP.out
                    rw [E_two]
                    simp only [List.length_append, List.length_singleton]
                    omega
                case measure => rw [Lib.strSize_string, Lib.strSize_string, cut_rest HS.out HN.out, HS.out, mk_size, mk_size, E, List.length_append]; have := HP.out; omega
            · skip
              have HF2 := Lib.hid (show (out ++ [32, c]) ++ go _ _ cs false (!(out ++ [32, c]).isEmpty) = prep _ _ cs0 from by simpa using hF2)
              clear hF2
              go_wp2_with (first | (go_at_call 5; refine (next_calls S c cs _ HS.out HV.out).mono ?_; rintro e w1 ⟨N, rfl, hN, ⟨n1, rfl⟩⟩; have HN := Lib.hid hN; have hNS : N ≤ S.size := (by rw [HS.out, mk_size, hN, E, List.length_append]; omega); have hNS2 : (N : Int) ≤ (S.size : Int) := (by exact_mod_cast hNS); clear hN) | (go_at_call 26; refine (kind_calls c 2 HK.out _).mono ?_; rintro e w2 ⟨rfl, ⟨n2, rfl⟩⟩) | (go_at_call 28; have hx_ := HI5.out; clear hx_; refine (ws_calls w.heap.size w.heap.size (E out ++ [32]) _ _ (by exact HI5.out) (by have := HZ2.out; have := HP.out; have := HQ.out; rw [cut_own HS.out HN.out, mk_size]; simp only [List.length_append, List.length_singleton]; omega) (by exact HB5.out.size)).mono ?_; rintro e w7 ⟨rfl, hi, hb⟩; have HI7 := Lib.hid hi; have HB7 := (Lib.hid (Below.trans HB5.out hb)); clear hi hb) | (go_at_call 28; refine (ws_calls w.heap.size w.heap.size (E out) (⟨#[32]⟩ : ByteArray) _ (by exact HI.out) (by have := HZ2.out; rw [show (⟨#[32]⟩ : ByteArray).size = 1 from rfl]; omega) (by exact HB.out.size)).mono ?_; rintro e w5 ⟨rfl, hi, hb⟩; have HI5 := Lib.hid hi; have HB5 := Lib.hid (Below.trans (by repeat (first | exact HB.out | apply pw_below_drewN | apply below_drew)) hb); clear hi hb))
              go_roundw
              case rel =>
                refine ⟨cs, false, out ++ [32, c], by rw [cut_rest HS.out HN.out], rfl, HVS, Lib.hid ?_, HB7, HF2, Lib.hid ?_⟩
                · have h := HI7.out
                  rw [cut_own HS.out HN.out, data_mk] at h
                  rw [E_two]
                  exact h
                · have := HZ2.out
                  have := HP.out
                  rw [E_two]
                  simp only [List.length_append, List.length_singleton]
                  omega
              case measure => rw [Lib.strSize_string, Lib.strSize_string, cut_rest HS.out HN.out, HS.out, mk_size, mk_size, E, List.length_append]; have := HP.out; omega
        · cases due
          · skip
            have HF2 := Lib.hid (show (out ++ [(sm c)]) ++ go _ _ cs false (!(out ++ [(sm c)]).isEmpty) = prep _ _ cs0 from by simpa using hF2)
            clear hF2
            go_wp2_with (first | (go_at_call 5; refine (next_calls S c cs _ HS.out HV.out).mono ?_; rintro e w1 ⟨N, rfl, hN, ⟨n1, rfl⟩⟩; have HN := Lib.hid hN; have hNS : N ≤ S.size := (by rw [HS.out, mk_size, hN, E, List.length_append]; omega); have hNS2 : (N : Int) ≤ (S.size : Int) := (by exact_mod_cast hNS); clear hN) | (go_at_call 26; refine (kind_calls c 2 HK.out _).mono ?_; rintro e w2 ⟨rfl, ⟨n2, rfl⟩⟩) | (go_at_call 29; refine (small_var c _ _ (cut_own HS.out HN.out)).mono ?_; rintro e w6 ⟨r, rfl, hr, rfl⟩; have HR := Lib.hid hr; clear hr) | (go_at_call 28; refine (ws_calls w.heap.size w.heap.size (E out) _ _ (by exact HI.out) (by have := HZ2.out; have := HP.out; have := HQ.out; rw [HR.out, mk_size, sm_len]; omega) (by exact HB.out.size)).mono ?_; rintro e w7 ⟨rfl, hi, hb⟩; have HI7 := Lib.hid hi; have HB7 := (Lib.hid (Below.trans (by repeat (first | exact HB.out | apply pw_below_drewN | apply below_drew)) hb)); clear hi hb))
            go_roundw
            case rel =>
              refine ⟨cs, false, out ++ [(sm c)], by rw [cut_rest HS.out HN.out], rfl, HVS, Lib.hid ?_, HB7, HF2, Lib.hid ?_⟩
              · have h := HI7.out
                rw [HR.out, data_mk] at h
                rw [E_one]
                exact h
              · have := HZ2.out
                have := HP.out
                rw [E_one]
                simp only [List.length_append, List.length_singleton, sm_len]
                omega
            case measure => rw [Lib.strSize_string, Lib.strSize_string, cut_rest HS.out HN.out, HS.out, mk_size, mk_size, E, List.length_append]; have := HP.out; omega
          · cases ends
            · by_cases hout : out = []
              · have tl : decide (0 < (E out).length) = false := by rw [hout]; rfl
                have hoe : out.isEmpty = true := by rw [hout]; rfl
                rw [hoe] at hF2
                clear hout hoe
                have HF2 := Lib.hid (show (out ++ [(sm c)]) ++ go _ _ cs false (!(out ++ [(sm c)]).isEmpty) = prep _ _ cs0 from by simpa using hF2)
                clear hF2
                go_wp2_with (first | (go_at_call 5; refine (next_calls S c cs _ HS.out HV.out).mono ?_; rintro e w1 ⟨N, rfl, hN, ⟨n1, rfl⟩⟩; have HN := Lib.hid hN; have hNS : N ≤ S.size := (by rw [HS.out, mk_size, hN, E, List.length_append]; omega); have hNS2 : (N : Int) ≤ (S.size : Int) := (by exact_mod_cast hNS); clear hN) | (go_at_call 26; refine (kind_calls c 2 HK.out _).mono ?_; rintro e w2 ⟨rfl, ⟨n2, rfl⟩⟩) | (go_at_call 27; refine (len_calls w.heap.size w.heap.size (E out) _ (by exact HI.out)).mono ?_; rintro e w4 ⟨rfl, rfl⟩) | (go_at_call 29; refine (small_var c _ _ (cut_own HS.out HN.out)).mono ?_; rintro e w6 ⟨r, rfl, hr, rfl⟩; have HR := Lib.hid hr; clear hr) | (go_at_call 28; refine (ws_calls w.heap.size w.heap.size (E out) _ _ (by exact HI.out) (by have := HZ2.out; have := HP.out; have := HQ.out; rw [HR.out, mk_size, sm_len]; omega) (by exact HB.out.size)).mono ?_; rintro e w7 ⟨rfl, hi, hb⟩; have HI7 := Lib.hid hi; have HB7 := (Lib.hid (Below.trans (by repeat (first | exact HB.out | apply pw_below_drewN | apply below_drew)) hb)); clear hi hb))
                go_roundw
                case rel =>
                  refine ⟨cs, false, out ++ [(sm c)], by rw [cut_rest HS.out HN.out], rfl, HVS, Lib.hid ?_, HB7, HF2, Lib.hid ?_⟩
                  · have h := HI7.out
                    rw [HR.out, data_mk] at h
                    rw [E_one]
                    exact h
                  · have := HZ2.out
                    have := HP.out
                    rw [E_one]
                    simp only [List.length_append, List.length_singleton, sm_len]
                    omega
                case measure => rw [Lib.strSize_string, Lib.strSize_string, cut_rest HS.out HN.out, HS.out, mk_size, mk_size, E, List.length_append]; have := HP.out; omega
              · have tl : decide (0 < (E out).length) = true := by
                  rw [decide_eq_true_eq]
                  have h0 : (E out).length ≠ 0 := fun e => hout ((E_isE out).1 e)
                  omega
                have hoe : out.isEmpty = false := by rw [List.isEmpty_eq_false_iff]; exact hout
                rw [hoe] at hF2
                clear hout hoe
                have HF2 := Lib.hid (show (out ++ [32, (sm c)]) ++ go _ _ cs false (!(out ++ [32, (sm c)]).isEmpty) = prep _ _ cs0 from by simpa using hF2)
                clear hF2
                go_wp2_with (first | (go_at_call 5; refine (next_calls S c cs _ HS.out HV.out).mono ?_; rintro e w1 ⟨N, rfl, hN, ⟨n1, rfl⟩⟩; have HN := Lib.hid hN; have hNS : N ≤ S.size := (by rw [HS.out, mk_size, hN, E, List.length_append]; omega); have hNS2 : (N : Int) ≤ (S.size : Int) := (by exact_mod_cast hNS); clear hN) | (go_at_call 26; refine (kind_calls c 2 HK.out _).mono ?_; rintro e w2 ⟨rfl, ⟨n2, rfl⟩⟩) | (go_at_call 27; refine (len_calls w.heap.size w.heap.size (E out) _ (by exact HI.out)).mono ?_; rintro e w4 ⟨rfl, rfl⟩) | (go_at_call 29; refine (small_var c _ _ (cut_own HS.out HN.out)).mono ?_; rintro e w6 ⟨r, rfl, hr, rfl⟩; have HR := Lib.hid hr; clear hr) | (go_at_call 28; have hx_ := HI5.out; clear hx_; refine (ws_calls w.heap.size w.heap.size (E out ++ [32]) _ _ (by exact HI5.out) (by have := HZ2.out; have := HP.out; have := HQ.out; rw [HR.out, mk_size, sm_len]; simp only [List.length_append, List.length_singleton]; omega) (by exact HB5.out.size)).mono ?_; rintro e w7 ⟨rfl, hi, hb⟩; have HI7 := Lib.hid hi; have HB7 := (Lib.hid (Below.trans HB5.out hb)); clear hi hb) | (go_at_call 28; refine (ws_calls w.heap.size w.heap.size (E out) (⟨#[32]⟩ : ByteArray) _ (by exact HI.out) (by have := HZ2.out; rw [show (⟨#[32]⟩ : ByteArray).size = 1 from rfl]; omega) (by exact HB.out.size)).mono ?_; rintro e w5 ⟨rfl, hi, hb⟩; have HI5 := Lib.hid hi; have HB5 := Lib.hid (Below.trans (by repeat (first | exact HB.out | apply pw_below_drewN | apply below_drew)) hb); clear hi hb))
                go_roundw
                case rel =>
                  refine ⟨cs, false, out ++ [32, (sm c)], by rw [cut_rest HS.out HN.out], rfl, HVS, Lib.hid ?_, HB7, HF2, Lib.hid ?_⟩
                  · have h := HI7.out
                    rw [HR.out, data_mk] at h
                    rw [E_two]
                    exact h
                  · have := HZ2.out
                    have := HP.out
                    rw [E_two]
                    simp only [List.length_append, List.length_singleton, sm_len]
                    omega
                case measure => rw [Lib.strSize_string, Lib.strSize_string, cut_rest HS.out HN.out, HS.out, mk_size, mk_size, E, List.length_append]; have := HP.out; omega
            · skip
              have HF2 := Lib.hid (show (out ++ [32, (sm c)]) ++ go _ _ cs false (!(out ++ [32, (sm c)]).isEmpty) = prep _ _ cs0 from by simpa using hF2)
              clear hF2
              go_wp2_with (first | (go_at_call 5; refine (next_calls S c cs _ HS.out HV.out).mono ?_; rintro e w1 ⟨N, rfl, hN, ⟨n1, rfl⟩⟩; have HN := Lib.hid hN; have hNS : N ≤ S.size := (by rw [HS.out, mk_size, hN, E, List.length_append]; omega); have hNS2 : (N : Int) ≤ (S.size : Int) := (by exact_mod_cast hNS); clear hN) | (go_at_call 26; refine (kind_calls c 2 HK.out _).mono ?_; rintro e w2 ⟨rfl, ⟨n2, rfl⟩⟩) | (go_at_call 29; refine (small_var c _ _ (cut_own HS.out HN.out)).mono ?_; rintro e w6 ⟨r, rfl, hr, rfl⟩; have HR := Lib.hid hr; clear hr) | (go_at_call 28; have hx_ := HI5.out; clear hx_; refine (ws_calls w.heap.size w.heap.size (E out ++ [32]) _ _ (by exact HI5.out) (by have := HZ2.out; have := HP.out; have := HQ.out; rw [HR.out, mk_size, sm_len]; simp only [List.length_append, List.length_singleton]; omega) (by exact HB5.out.size)).mono ?_; rintro e w7 ⟨rfl, hi, hb⟩; have HI7 := Lib.hid hi; have HB7 := (Lib.hid (Below.trans HB5.out hb)); clear hi hb) | (go_at_call 28; refine (ws_calls w.heap.size w.heap.size (E out) (⟨#[32]⟩ : ByteArray) _ (by exact HI.out) (by have := HZ2.out; rw [show (⟨#[32]⟩ : ByteArray).size = 1 from rfl]; omega) (by exact HB.out.size)).mono ?_; rintro e w5 ⟨rfl, hi, hb⟩; have HI5 := Lib.hid hi; have HB5 := Lib.hid (Below.trans (by repeat (first | exact HB.out | apply pw_below_drewN | apply below_drew)) hb); clear hi hb))
              go_roundw
              case rel =>
                refine ⟨cs, false, out ++ [32, (sm c)], by rw [cut_rest HS.out HN.out], rfl, HVS, Lib.hid ?_, HB7, HF2, Lib.hid ?_⟩
                · have h := HI7.out
                  rw [HR.out, data_mk] at h
                  rw [E_two]
                  exact h
                · have := HZ2.out
                  have := HP.out
                  rw [E_two]
                  simp only [List.length_append, List.length_singleton, sm_len]
                  omega
              case measure => rw [Lib.strSize_string, Lib.strSize_string, cut_rest HS.out HN.out, HS.out, mk_size, mk_size, E, List.length_append]; have := HP.out; omega
end Go.Proofs.YtmlihcknkgfhaaaDoor.H
