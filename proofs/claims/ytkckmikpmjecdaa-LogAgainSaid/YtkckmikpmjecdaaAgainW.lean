/- A log that is opened again: the walk. Condition: the arguments are read as rows of bytes. A log that is opened again: the early returns, and the law for all arguments. No condition beyond the reading of the arguments. -/
import Derived.Test.YtkckmikpmjecdaaLogA
import Derived.Lib.SlBytesConst
namespace Go.Proofs.Ytkckmikpmjecdaa.H
open Go.RowKit Go.Proofs.YtkckmikpmjecdaaW.PrintWords Go.Proofs.YtkckmikpmjecdaaW.PrintLast Go.Proofs.YtkckmikpmjecdaaW.PrintMore
set_option linter.unusedVariables false
set_option linter.unusedSimpArgs false
theorem row_at2 {w : World} {A : Option Addr} {l : List (List Int)} (h : Kd.C KL w A l.length l) (i : Nat) (hi : i < l.length) :
    ∃ ad B d, A = some ad ∧ w.cell? (ad.add i) = some (.slice B (l.getD i []).length d) ∧ (l.getD i []).length ≤ d ∧ Kd.C (Kd.int .u8) w B (l.getD i []).length (l.getD i []) := by
  obtain ⟨ad, c, hA, hl, hK, hc⟩ := Kd.C_get h [] (i : Int) (by omega) (by omega)
  simp only [Int.toNat_natCast] at hK hc
  obtain ⟨B, d, hcs, hle, hC⟩ := hK
  subst hcs
  have := hc 0 _ rfl
  rw [show i * KL.sz + 0 = i by show i * 1 + 0 = i; omega] at this
  exact ⟨ad, B, d, hA, this, hle, hC⟩
theorem scan_nil : scan [] = ([], 0, 0) := by decide
theorem flat_small {rows : List (List Int)} (h : ∀ r ∈ rows, r.length ≤ 300) : (flat rows).length ≤ 308 * rows.length := flat_le h
abbrev moV : Array Value := #[.int .u8 109, .int .u8 111, .int .u8 114, .int .u8 101]
abbrev mo : List Int := [109, 111, 114, 101]
theorem C_more (W : World) : Kd.C (Kd.int .u8) (W.alloc (.cells moV 5 (4, 5))) (some ⟨W.heap.size, 0, none⟩) 4 mo := by
  refine Kd.C_of_reads (d := (0 : Int)) ⟨rfl, by decide, fun _ => ⟨_, rfl, fun j hj => ?_⟩⟩
  have hj' : j < 4 := hj
  have ha : (⟨W.heap.size, 0, none⟩ : Addr).add j = ⟨W.heap.size, j, none⟩ := by unfold Addr.add; split <;> simp_all
  rw [ha]
  rw [World.cell?_alloc_mark W moV 5 (4, 5) j]
  obtain rfl | rfl | rfl | rfl : j = 0 ∨ j = 1 ∨ j = 2 ∨ j = 3 := by omega
  all_goals rfl
theorem okmo : okb mo = true := by decide
theorem str_more : strOfNums mo = ⟨#[109, 111, 114, 101]⟩ := rfl
theorem force_four (w0 : World) (p q : Nat) (xs ys : List Int) (s : Nat) (D : Option Addr) (w : World) (h : Dq w w0.heap.size p xs s) (hL : Lg w q p) (hp : w0.heap.size ≤ p) (hB : Below w0.heap.size w0 w)
    (hY : Kd.C (Kd.int .u8) w D 4 ys) (hy : ys.length = 4) (hb : okb ys = true) (hx : xs.length ≤ 90000) :
    Calls Try.prog 17 #[.pointer (some ⟨q, 0, none⟩), .slice D 4 4] w fun e w' => e = .returned (.int .i64 0) ∧ Dq w' w0.heap.size p (xs ++ sealed ys) (xs ++ sealed ys).length ∧ Lg w' q p ∧ Below w0.heap.size w0 w' ∧ Stays w w' p := by
  have e := force_calls w0 p q xs ys s D 4 w h hL hp hB (by rw [hy]; exact hY) (by omega) hb (by omega) hx
  rw [hy] at e
  exact e
set_option maxRecDepth 100000 in
set_option maxHeartbeats 4000000 in
theorem again_walk (A0 A1 : Option Addr) (c0 c1 : Nat) (l : List (List Int)) (torn : List Int) (w : World) (h0 : Kd.C KL w A0 l.length l) (hc0 : l.length ≤ c0) (h1 : Kd.C (Kd.int .u8) w A1 torn.length torn) (hc1 : torn.length ≤ c1)
    (hl : l.length ≤ 20) (ht : torn.length ≤ 3) (hb : ∀ r ∈ l, okb r = true) (hbt : okb torn = true) :
    Calls Try.prog 5 #[.slice A0 l.length c0, .slice A1 torn.length c1] w fun e w' => e = .returned (.bool true) ∧ Below w.heap.size w w' := by
  have H0 := Lib.hid h0
  have H1 := Lib.hid h1
  have HL := Lib.hid hl
  have HT := Lib.hid ht
  have HO := Lib.hid hb
  have HOT := Lib.hid hbt
  have HC1 := Lib.hid hc1
  have HC0 := Lib.hid hc0
  obtain ⟨m, hm⟩ : ∃ m : List Int, m = mo := ⟨_, rfl⟩
  have CM := Lib.hid (show ∀ W : World, Kd.C (Kd.int .u8) (W.alloc (.cells moV 5 (4, 5))) (some ⟨W.heap.size, 0, none⟩) 4 m from fun W => hm ▸ C_more W)
  have OKM := Lib.hid (show okb m = true by rw [hm]; exact okmo)
  have ML := Lib.hid (show m.length = 4 by rw [hm]; rfl)
  have SM := Lib.hid (show strOfNums m = ⟨#[109, 111, 114, 101]⟩ by rw [hm]; exact str_more)
  clear hm
  have d1 : decide ((20 : Int) < (l.length : Int)) = false := decide_eq_false (by omega)
  have d2 : decide ((3 : Int) < (torn.length : Int)) = false := decide_eq_false (by omega)
  clear h0 h1 hl ht hb hbt hc1 hc0
  go_enter Try.func5, Try.ntmps5
  go_wp2_with (first
    | (go_at_call 8; refine (new_calls _).mono ?_; rintro e w1 ⟨p, rfl, hp, hd, hb⟩; have HP := Lib.hid hp; have HD1 := Lib.hid (show Dq w1 w.heap.size p [] 0 from ⟨none, 0, hd, .inl (Kd.R_nil _ _ _ _ _)⟩); have HB1 := Lib.hid hb; clear hp hd hb)
    | (go_at_call 19; refine (open_whole w p [] 0 [] 0 _ HD1.out HP.out HB1.out rfl (by simp) scan_nil).mono ?_; rintro e w2 ⟨q, v2, rfl, hq, hlg, hd, hs, hb, _⟩; have HG2 := Lib.hid hlg; have HD2 := Lib.hid hd; have HB2 := Lib.hid hb; clear hq hlg hd hs hb))
  go_loopw [8] (fun i wr => ∃ k : Nat, k ≤ l.length ∧ i = .int .i64 k ∧ Hid (Dq wr w.heap.size p (flat (l.take k)) (flat (l.take k)).length) ∧ Hid (Lg wr q p) ∧ Hid (Below w.heap.size w wr) ∧ Hid (∀ r ∈ l.take k, r.length ≤ 300)) (fun i _ => l.length - (intOf i).toNat)
  case atStart => exact ⟨0, Nat.zero_le _, rfl, HD2, HG2, HB2, Lib.hid (by simp)⟩
  case round =>
    obtain ⟨k, hk, rfl, HD, HG, HB, HS⟩ := hrel
    by_cases hlt : k < l.length
    · obtain ⟨a0, B0, d0, hA0, e0, hle0, hC0⟩ := row_at2 (Kd.C_below H0.out HB.out) k hlt
      subst hA0
      have hx : l.getD k [] ∈ l := by rw [List.getD_eq_getElem?_getD, List.getElem?_eq_getElem hlt]; exact List.getElem_mem hlt
      have htk : l.take (k + 1) = l.take k ++ [l.getD k []] := by rw [List.take_add_one, List.getD_eq_getElem?_getD, List.getElem?_eq_getElem hlt]; rfl
      have HTK := Lib.hid htk
      have HXO := Lib.hid (HO.out _ hx)
      clear htk hx
      generalize l.getD k [] = x at e0 hC0 hle0 HTK HXO
      have HC := Lib.hid hC0
      have HLE := Lib.hid hle0
      clear hC0 hle0
      have g0 : decide ((k : Int) < (l.length : Int)) = true := decide_eq_true (by omega)
      have hkb : k < 1000 := by have := HL.out; omega
      by_cases hx3 : x.length ≤ 300
      · have g1 : decide ((300 : Int) < (x.length : Int)) = false := decide_eq_false (by omega)
        have HX3 := Lib.hid hx3
        have HFL := Lib.hid (show (flat (l.take k)).length ≤ 90000 by have := flat_small HS.out; rw [List.length_take] at this; have := HL.out; omega)
        clear hx3
        go_wp2_with (go_at_call 17; refine (force_calls w p q (flat (l.take k)) x _ B0 d0 _ HD.out HG.out HP.out HB.out HC.out HLE.out HXO.out HX3.out HFL.out).mono ?_; rintro e w3 ⟨rfl, hd, hlg, hb, _⟩; have HD3 := Lib.hid (show Dq w3 w.heap.size p (flat (l.take (k + 1))) (flat (l.take (k + 1))).length by rw [HTK.out, flat_snoc]; exact hd); have HG3 := Lib.hid hlg; have HB3 := Lib.hid hb; clear hd hlg hb)
        go_roundw
        case rel => exact ⟨k + 1, by omega, by go_num, HD3, HG3, HB3, Lib.hid (by rw [HTK.out]; intro r hr; rcases List.mem_append.1 hr with hr | hr; exact HS.out r hr; rw [List.mem_singleton.1 hr]; exact HX3.out)⟩
        case measure => simp [intOf]; omega
      · have g1 : decide ((300 : Int) < (x.length : Int)) = true := decide_eq_true (by omega)
        go_wp2_with fail
        go_ret
        exact ⟨rfl, HB.out⟩
    · obtain rfl : k = l.length := by omega
      have g0 : decide (((l.length : Nat) : Int) < (l.length : Int)) = false := decide_eq_false (by omega)
      rw [List.take_length] at HD HS
      have HX := Lib.hid (show (flat l ++ torn).length ≤ 90000 by have := flat_small HS.out; have := HL.out; have := HT.out; rw [List.length_append]; omega)
      have lq := (blk_cell HG.out 0).trans (show (#[.pointer (some ⟨p, 0, none⟩)] : Array Value)[0]? = some (.pointer (some ⟨p, 0, none⟩)) from rfl)
      go_wp2_with (first
        | (go_at_call 12; refine (HD7.out.len).mono ?_; rintro e w8 ⟨rfl, rfl⟩)
        | (go_at_call 12; refine (HD.out.len).mono ?_; rintro e w3 ⟨rfl, rfl⟩)
        | (go_at_call 9; refine (HD.out.append HP.out HB.out (Kd.C_below H1.out HB.out) (by have := HX.out; rw [List.length_append] at this; omega)).mono ?_; rintro e w4 ⟨rfl, hd, hb, hst⟩; have HD4 := Lib.hid hd; have HB4 := Lib.hid hb; have HG4 := Lib.hid (show Lg w4 q p from hst.blk HG.out (by obtain ⟨_, _, hD, _⟩ := HD.out; exact blk_ne HG.out hD (by decide)) (by decide)); have lq4 := (blk_cell HG4.out 0).trans (show (#[.pointer (some ⟨p, 0, none⟩)] : Array Value)[0]? = some (.pointer (some ⟨p, 0, none⟩)) from rfl); clear hd hb hst)
        | (go_at_call 13; refine (HD8.out.crash HB8.out (Nat.le_refl _) (by have := HM8.out; omega) 0 (flat (l ++ [m])).length (kk_none _ _ (Nat.le_refl _) (by have := HM8.out; omega))).mono ?_; rintro e w9 ⟨p3, rfl, hp3, hd, hb⟩; rw [List.take_length] at hd; have HP3 := Lib.hid (show w.heap.size ≤ p3 by have := HB8.out.size; omega); have HD9 := Lib.hid (show Dq w9 w.heap.size p3 (flat (l ++ [m]) ++ []) (flat (l ++ [m]) ++ []).length by rw [List.append_nil]; exact hd); have HB9 := Lib.hid (below_then HB8.out HB8.out.size hb); clear hd hb hp3)
        | (go_at_call 13; refine (HD4.out.crash HB4.out (by rw [List.length_append]; omega) (by have := HX.out; omega) (-1) (flat l ++ torn).length (kk_all _ _ (by rw [List.length_append]; omega) (by have := HX.out; omega))).mono ?_; rintro e w5 ⟨p2, rfl, hp2, hd, hb⟩; rw [List.take_length] at hd; have HP2 := Lib.hid (show w.heap.size ≤ p2 by have := HB4.out.size; omega); have HD5 := Lib.hid hd; have HB5 := Lib.hid (below_then HB4.out HB4.out.size hb); clear hd hb hp2)
        | (go_at_call 19; refine (open_rows w p3 (l ++ [m]) [] _ HD9.out HP3.out HB9.out (by intro r hr; rcases List.mem_append.1 hr with hr | hr; exact HO.out r hr; rw [List.mem_singleton.1 hr]; exact OKM.out) (by decide) (by intro r hr; rcases List.mem_append.1 hr with hr | hr; exact HS.out r hr; rw [List.mem_singleton.1 hr, ML.out]; decide) (by decide) (by have := HM8.out; rw [List.append_nil]; omega)).mono ?_; rintro e w10 ⟨q4, v10, rfl, hq4, _, _, hS, hb, _⟩; obtain ⟨A10, c10, e10, hc10, hC10⟩ := Kd.S_reads hS; subst e10; obtain ⟨n10, hn10⟩ : ∃ n : Nat, n = (l ++ [m]).length := ⟨_, rfl⟩; have hC10' := hC10; have HC10 := Lib.hid hC10'; clear hC10'; rw [← hn10] at hc10 hC10; rw [← hn10]; have HCL10 := Lib.hid hc10; have HB10 := Lib.hid hb; have HN10 := Lib.hid (show n10 = l.length + 1 by rw [hn10, List.length_append]; rfl); have g10 : ((n10 : Int) == wrap64 ((l.length : Int) + 1)) = true := beq_iff_eq.2 ((show (n10 : Int) = (l.length : Int) + 1 by have := HN10.out; omega).trans (show wrap64 ((l.length : Int) + 1) = (l.length : Int) + 1 by have := HL.out; unfold wrap64; omega).symm); have g12 : l.length < n10 := (by have := HN10.out; omega); have g11 : l.length ≤ c10 := (by have := HN10.out; have := HCL10.out; omega); obtain ⟨ad10, B10, d10, hA10, _, _, _⟩ := row_at2 HC10.out l.length (by rw [List.length_append]; exact Nat.lt_succ_self _); subst hA10; have HT10 := Lib.hid (show Kd.C KL w10 (some ad10) l.length l by have h := Kd.C_take (m := l.length) (xs := l ++ [m]) HC10.out (by rw [List.length_append]; exact Nat.le_add_right _ _); rwa [List.take_left] at h); clear hn10 hq4 hS hb hc10 hC10)
        | (go_at_call 19; refine (open_rows w p2 l torn _ HD5.out HP2.out HB5.out HO.out HOT.out HS.out HT.out (by have := HX.out; omega)).mono ?_; rintro e w6 ⟨q2, v6, rfl, hq2, hlg, hd, hS, hb, _⟩; obtain ⟨A6, c6, e6, hc6, hC6⟩ := Kd.S_reads hS; subst e6; have HG6 := Lib.hid hlg; have HD6 := Lib.hid hd; have HC6 := Lib.hid hC6; have HCL6 := Lib.hid hc6; have HB6 := Lib.hid hb; clear hq2 hlg hd hS hb hc6 hC6)
        | (go_at_call 20; (refine (same_calls (some ad10) A0 c10 c0 l _ HT10.out (by have := HCL10.out; have := HN10.out; omega) (Kd.C_below H0.out HB10.out) HC0.out (by have := HL.out; omega)).mono ?_; rintro e w11 ⟨rfl, hb⟩; obtain ⟨ad11, B11, d11, hA11, e11, hle11, hB11⟩ := row_at2 (l := l ++ [m]) (Kd.C_below HC10.out hb) l.length (by rw [List.length_append]; exact Nat.lt_succ_self _); obtain rfl := Option.some.inj hA11; rw [show (l ++ [m]).getD l.length [] = m by simp, ML.out] at e11 hB11; have cv11 : (convert 22 9 (.slice B11 4 d11)).run Try.prog w11 = .ok (.string ⟨#[109, 111, 114, 101]⟩) w11 := SM.out ▸ Kd.C_string (P := Try.prog) (c := d11) Try.underlying22 Try.underlying5 Try.underlying9 hB11; replace e11 : w11.cell? (ad10.add l.length) = some (.slice B11 4 d11) := e11))
        | (go_at_call 20; (refine (same_calls A6 A0 c6 c0 l _ HC6.out HCL6.out (Kd.C_below H0.out HB6.out) HC0.out (by have := HL.out; omega)).mono ?_; rintro e w7 ⟨rfl, hb⟩; have HG7 := Lib.hid (show Lg w7 q2 p2 from blk_below HG6.out hb); have HD7 := Lib.hid (HD6.out.below hb); have HB7 := Lib.hid (below_then HB6.out HB6.out.size hb); have lq7 := (blk_cell HG7.out 0).trans (show (#[.pointer (some ⟨p2, 0, none⟩)] : Array Value)[0]? = some (.pointer (some ⟨p2, 0, none⟩)) from rfl); have hcv := Go.Lib.run_convert_bytes_const (P := Try.prog) w7 22 5 moV 4 4 Try.underlying22 Try.underlying5; clear hb))
        | (go_at_call 17; (refine (force_four w p2 q2 (flat l) m _ (some ⟨w7.heap.size, 0, none⟩) _ (HD7.out.below (below_alloc (Below.refl _ _) _)) (blk_below HG7.out (below_alloc (Below.refl _ _) _)) HP2.out (below_alloc HB7.out _) (CM.out w7) ML.out OKM.out (by have := HX.out; rw [List.length_append] at this; omega)).mono ?_; rintro e w8 ⟨rfl, hd, hlg, hb, _⟩; have HD8 := Lib.hid (show Dq w8 w.heap.size p2 (flat (l ++ [m])) (flat (l ++ [m])).length by rw [flat_snoc]; exact hd); have HB8 := Lib.hid hb; have HM8 := Lib.hid (show (flat (l ++ [m])).length ≤ 90300 by have := HX.out; rw [flat_snoc, List.length_append, sealed_length]; rw [List.length_append] at this; have := ML.out; omega); have lq8 := (blk_cell hlg 0).trans (show (#[.pointer (some ⟨p2, 0, none⟩)] : Array Value)[0]? = some (.pointer (some ⟨p2, 0, none⟩)) from rfl); clear hd hb hlg)))
      go_goals
      all_goals (have hl := HL.out; have hn := HN10.out; have hcl := HCL10.out; have hw : wrap64 ((l.length : Int) + 1) = (l.length : Int) + 1 := by unfold wrap64; omega)
      all_goals (first | (exfalso; omega) | exact bodyPost_ret (v := .bool true) (by simp [results, Try.results5, go_sem]) rfl ⟨rfl, below_then HB10.out HB10.out.size hb⟩)
end Go.Proofs.Ytkckmikpmjecdaa.H
namespace Go.Proofs.Ytkckmikpmjecdaa.H
open Go.RowKit Go.Proofs.YtkckmikpmjecdaaW.PrintWords Go.Proofs.YtkckmikpmjecdaaW.PrintLast Go.Proofs.YtkckmikpmjecdaaW.PrintMore
set_option linter.unusedVariables false
set_option linter.unusedSimpArgs false
set_option maxRecDepth 100000 in
theorem again_long (A0 A1 : Option Addr) (c0 c1 n0 n1 : Nat) (w : World) (hl : 20 < n0) :
    Calls Try.prog 5 #[.slice A0 n0 c0, .slice A1 n1 c1] w fun e w' => e = .returned (.bool true) ∧ Below w.heap.size w w' := by
  have d1 : decide ((20 : Int) < (n0 : Int)) = true := decide_eq_true (by omega)
  clear hl
  go_enter Try.func5, Try.ntmps5
  go_wp2_with (first
    | (go_at_call 8; refine (new_calls _).mono ?_; rintro e w1 ⟨p, rfl, hp, hd, hb⟩; have HP := Lib.hid hp; have HD1 := Lib.hid (show Dq w1 w.heap.size p [] 0 from ⟨none, 0, hd, .inl (Kd.R_nil _ _ _ _ _)⟩); have HB1 := Lib.hid hb; clear hp hd hb)
    | (go_at_call 19; refine (open_whole w p [] 0 [] 0 _ HD1.out HP.out HB1.out rfl (by simp) scan_nil).mono ?_; rintro e w2 ⟨q, v2, rfl, hq, hlg, hd, hs, hb, _⟩; have HG2 := Lib.hid hlg; have HD2 := Lib.hid hd; have HB2 := Lib.hid hb; clear hq hlg hd hs hb))
  exact bodyPost_ret (v := .bool true) (by simp [results, Try.results5, go_sem]) rfl ⟨rfl, HB2.out⟩
set_option maxRecDepth 100000 in
theorem again_torn (A0 A1 : Option Addr) (c0 c1 n0 n1 : Nat) (w : World) (hl : n0 ≤ 20) (ht : 3 < n1) :
    Calls Try.prog 5 #[.slice A0 n0 c0, .slice A1 n1 c1] w fun e w' => e = .returned (.bool true) ∧ Below w.heap.size w w' := by
  have d1 : decide ((20 : Int) < (n0 : Int)) = false := decide_eq_false (by omega)
  have d2 : decide ((3 : Int) < (n1 : Int)) = true := decide_eq_true (by omega)
  clear hl ht
  go_enter Try.func5, Try.ntmps5
  go_wp2_with (first
    | (go_at_call 8; refine (new_calls _).mono ?_; rintro e w1 ⟨p, rfl, hp, hd, hb⟩; have HP := Lib.hid hp; have HD1 := Lib.hid (show Dq w1 w.heap.size p [] 0 from ⟨none, 0, hd, .inl (Kd.R_nil _ _ _ _ _)⟩); have HB1 := Lib.hid hb; clear hp hd hb)
    | (go_at_call 19; refine (open_whole w p [] 0 [] 0 _ HD1.out HP.out HB1.out rfl (by simp) scan_nil).mono ?_; rintro e w2 ⟨q, v2, rfl, hq, hlg, hd, hs, hb, _⟩; have HG2 := Lib.hid hlg; have HD2 := Lib.hid hd; have HB2 := Lib.hid hb; clear hq hlg hd hs hb))
  exact bodyPost_ret (v := .bool true) (by simp [results, Try.results5, go_sem]) rfl ⟨rfl, HB2.out⟩
theorem again_all (A0 A1 : Option Addr) (c0 c1 : Nat) (l : List (List Int)) (torn : List Int) (w : World) (h0 : Kd.C KL w A0 l.length l) (hc0 : l.length ≤ c0) (hb : ∀ r ∈ l, okb r = true) (h1 : Kd.C (Kd.int .u8) w A1 torn.length torn) (hc1 : torn.length ≤ c1) (hbt : okb torn = true) :
    Calls Try.prog 5 #[.slice A0 l.length c0, .slice A1 torn.length c1] w fun e w' => e = .returned (.bool true) ∧ Below w.heap.size w w' := by
  by_cases hl : l.length ≤ 20
  · by_cases ht : torn.length ≤ 3
    · exact again_walk A0 A1 c0 c1 l torn w h0 hc0 h1 hc1 hl ht hb hbt
    · exact again_torn A0 A1 c0 c1 _ _ w hl (by omega)
  · exact again_long A0 A1 c0 c1 _ _ w (by omega)
theorem again_row (A0 A1 : Option Addr) (c0 : Nat) (l : List (List Int)) (len1 cap1 : Nat) (z1 : List Int) (w : World) (h0 : Kd.C KL w A0 l.length l) (hc0 : l.length ≤ c0) (hb : ∀ r ∈ l, okb r = true)
    (w1 : (A1 = none ∧ len1 = 0 ∧ cap1 = 0 ∧ z1 = []) ∨ ∃ x, A1 = some x ∧ len1 ≤ cap1 ∧ cap1 ≤ maxLen ∧ z1.length = cap1 ∧ (∀ i, i < z1.length → w.cell? (x.add i) = some (.int .u8 (z1.getD i 0))) ∧ ∀ n ∈ z1, (Lit.int .u8 n).wf = true) :
    Calls Try.prog 5 #[.slice A0 l.length c0, .slice A1 len1 cap1] w fun e w' => e = .returned (.bool true) ∧ Below w.heap.size w w' := by
  obtain ⟨t, rfl, hr0, hm0, hw0, hc1⟩ := ReadsInt.ofRowC w1
  exact again_all A0 A1 c0 cap1 l t w h0 hc0 hb (Kd.C_of_reads (d := (0 : Int)) (h1 := fun _ => rfl) hr0) hc1 (okb_of hw0)
end Go.Proofs.Ytkckmikpmjecdaa.H
