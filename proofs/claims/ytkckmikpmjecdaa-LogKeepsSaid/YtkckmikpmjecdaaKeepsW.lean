/- Behind a crash a log has all records that were flushed, and some of those behind them: the walk. No condition but at most 80 steps. -/
import Derived.Test.YtkckmikpmjecdaaKeepsB
import Derived.Test.YtkckmikpmjecdaaGrow
namespace Go.Proofs.Ytkckmikpmjecdaa.H
open Go.RowKit Go.Proofs.YtkckmikpmjecdaaW.PrintWords Go.Proofs.YtkckmikpmjecdaaW.PrintLast Go.Proofs.YtkckmikpmjecdaaW.PrintMore
set_option linter.unusedVariables false
set_option linter.unusedSimpArgs false
theorem scan_nil : scan [] = ([], 0, 0) := by decide
set_option maxRecDepth 100000 in
set_option maxHeartbeats 4000000 in
theorem keeps_walk (A0 : Option Addr) (c0 : Nat) (l : List Ac) (w : World) (h0 : Acts w A0 l) (hl : l.length ≤ 80) :
    Calls Try.prog 6 #[.slice A0 l.length c0] w fun e w' => e = .returned (.bool true) ∧ Below w.heap.size w w' := by
  have H0 := Lib.hid h0
  have HL := Lib.hid hl
  have d1 : decide ((80 : Int) < (l.length : Int)) = false := decide_eq_false (by omega)
  clear h0 hl
  go_enter Try.func6, Try.ntmps6
  go_wp2_with (first
    | (go_at_call 8; refine (new_calls _).mono ?_; rintro e w1 ⟨p, rfl, hp, hd, hb⟩; have HP := Lib.hid hp; have HD1 := Lib.hid (show Dq w1 w.heap.size p [] 0 from ⟨none, 0, hd, .inl (Kd.R_nil _ _ _ _ _)⟩); have HB1 := Lib.hid hb; clear hp hd hb)
    | (go_at_call 19; refine (open_whole w p [] 0 [] 0 _ HD1.out HP.out HB1.out rfl (by simp) scan_nil).mono ?_; rintro e w2 ⟨q, v2, rfl, hq, hlg, hd, hs, hb, _⟩; have HG2 := Lib.hid hlg; have HD2 := Lib.hid hd; have HB2 := Lib.hid hb; clear hq hlg hd hs hb))
  go_loopw [3, 5, 6, 7, 8] (fun v3 v5 v6 v7 v8 wr => ∃ (k p q s : Nat) (hs : List Hd), k ≤ l.length ∧ v8 = .int .i64 k ∧ v3 = .pointer (some ⟨q, 0, none⟩) ∧ v5 = .int .i64 0 ∧ v7 = .int .i64 s ∧ Hid (Kd.R KH 22 wr w.heap.size (fun _ => True) v6 hs) ∧ Hid (Dq wr w.heap.size p (flat (hs.map Hd.xs)) (fl (hs.map Hd.xs) s)) ∧ Hid (Lg wr q p) ∧ Hid (Below w.heap.size w wr) ∧ Hid (w.heap.size ≤ p) ∧ Hid (Good w hs) ∧ Hid (hs.length ≤ k) ∧ Hid (s ≤ hs.length)) (fun _ _ _ _ v8 _ => l.length - (intOf v8).toNat)
  case atStart => exact ⟨0, p, q, 0, [], Nat.zero_le _, rfl, rfl, rfl, rfl, Lib.hid (Kd.R_nil _ _ _ _ _), HD2, HG2, HB2, HP, Lib.hid (by simp [Good]), Lib.hid (by simp), Lib.hid (by simp)⟩
  case round =>
    clear HP HD1 HB1 HG2 HD2 HB2
    obtain ⟨k, p, q, s, hs, hk, rfl, rfl, rfl, rfl, HR, HD, HG, HB, HP, HT, HLK, HSL⟩ := hrel
    obtain ⟨A6, n6, c6, e6, hn6, hc6, hC6⟩ := C_of_hn HR.out (HT.out.there HB.out)
    subst e6
    have HN6 := Lib.hid hn6
    clear hn6
    have HC6 := Lib.hid hC6
    have HCL6 := Lib.hid hc6
    clear hC6 hc6
    by_cases hlt : k < l.length
    · have g0 : decide ((k : Int) < (l.length : Int)) = true := decide_eq_true (by omega)
      have hkb : k < 1000 := by have := HL.out; omega
      obtain ⟨ad, hA, h1⟩ := H0.out k hlt
      subst hA
      generalize l[k]'hlt = a at h1
      obtain ⟨aK, aN, ⟨aA, ac, ax⟩⟩ := a
      have q0 := pw_cell_below HB.out h1.1
      have q1 := pw_cell_below HB.out h1.2.1
      have q2 := pw_cell_below HB.out h1.2.2.1
      have HTH := Lib.hid h1.2.2.2.1
      have HOa := Lib.hid (show okb ax = true from h1.2.2.2.2.1)
      clear h1
      generalize hz : ad.add (k * 3) = z at q0 q1 q2
      have c0' : wr.cell? z = some (.int .i64 aK) := q0
      have c1 : wr.cell? ⟨z.block, z.off + 1, none⟩ = some (.int .i64 aN) := q1
      have c2 : wr.cell? ⟨z.block, z.off + 2, none⟩ = some (.slice aA ax.length ac) := q2
      clear q0 q1 q2
      have hba : Below wr.heap.size wr (wr.alloc (.cells #[.int .i64 aK, .int .i64 aN, .slice aA ax.length ac] 47)) := below_alloc (Below.refl _ _) _
      have HBLK := Lib.hid (show (wr.alloc (.cells #[.int .i64 aK, .int .i64 aN, .slice aA ax.length ac] 47)).heap[wr.heap.size]? = some (.cells #[.int .i64 aK, .int .i64 aN, .slice aA ax.length ac] 47 (0, 0)) from blk_new wr _)
      have HDa := Lib.hid (HD.out.below hba)
      have HGa := Lib.hid (show Lg (wr.alloc (.cells #[.int .i64 aK, .int .i64 aN, .slice aA ax.length ac] 47)) q p from blk_below HG.out hba)
      have HBa := Lib.hid (below_alloc HB.out (.cells #[.int .i64 aK, .int .i64 aN, .slice aA ax.length ac] 47))
      have HRa := Lib.hid (Kd.R_below HR.out hba)
      have HCLa := Lib.hid (show ax.length ≤ ac from HTH.out.1)
      have HCa := Lib.hid (Kd.C_below HTH.out.2 HBa.out)
      have HC6a := Lib.hid (Kd.C_below HC6.out hba)
      clear hba
      by_cases hx3 : ax.length ≤ 300
      · have g1 : decide ((300 : Int) < (ax.length : Int)) = false := decide_eq_false (by omega)
        have HX3 := Lib.hid hx3
        clear hx3
        have HTn := Lib.hid (HT.out.snoc (h := (⟨aA, ac, ax⟩ : Hd)) HTH.out HOa.out HX3.out)
        have HLn := Lib.hid (show (hs ++ [(⟨aA, ac, ax⟩ : Hd)]).length ≤ 80 by have := HLK.out; have := HL.out; rw [List.length_append, List.length_singleton]; omega)
        have HL6 := Lib.hid (show hs.length ≤ 80 by have := HLK.out; have := HL.out; omega)
        have HFL := Lib.hid (show (flat (hs.map Hd.xs)).length ≤ 90000 by have := HT.out.small HL6.out; omega)
        by_cases k0 : aK = 0
        · have j0 : (aK == 0) = true := by simp [k0]
          clear k0
          have HLKn := Lib.hid (show (hs ++ [(⟨aA, ac, ax⟩ : Hd)]).length ≤ k + 1 by have := HLK.out; rw [List.length_append, List.length_singleton]; omega)
          have HSLn := Lib.hid (show s ≤ (hs ++ [(⟨aA, ac, ax⟩ : Hd)]).length by have := HSL.out; rw [List.length_append, List.length_singleton]; omega)
          go_wp2_with (first
            | (go_at_call 16; refine (write_calls w p q (flat (hs.map Hd.xs)) ax _ aA ac _ HDa.out HGa.out HP.out HBa.out HCa.out HCLa.out HOa.out HX3.out HFL.out).mono ?_; rintro e w3 ⟨rfl, hd, hlg, hb, hst⟩; have HD3 := Lib.hid (show Dq w3 w.heap.size p (flat ((hs ++ [(⟨aA, ac, ax⟩ : Hd)]).map Hd.xs)) (fl ((hs ++ [(⟨aA, ac, ax⟩ : Hd)]).map Hd.xs) s) by rw [flat_hs, fl_hs hs _ HSL.out]; exact hd); have HG3 := Lib.hid hlg; have HB3 := Lib.hid hb; have HR3 := Lib.hid (H_stays HRa.out hst HDa.out); have HK3 := Lib.hid (hst.blk HBLK.out (by have := HD.out.lt; omega) (by decide)); have cb3 := (blk_cell HK3.out 2).trans (show (#[.int .i64 aK, .int .i64 aN, .slice aA ax.length ac] : Array Value)[2]? = some (.slice aA ax.length ac) from rfl); clear hd hlg hb hst)
            | ((with_reducible refine gate_builtin (b := .append) (xs := #[.tmp 54, .tmp 57]) rfl ?_); at_builtin; refine Kd.R_append KH (w0 := w) w.heap.size rfl (.tmp 54) (.tmp 57) 38 22 (.slice none 0 0) 24 rfl Try.underlying38 info22 rfl (by decide) (by omega) _ hs (⟨aA, ac, ax⟩ : Hd) [.slice aA ax.length ac] (fun _ => True) (fun _ => False) rfl rfl ?aP (fun _ hk => hk.elim) (fun _ _ => trivial) HR3.out HB3.out HB3.out.size ?aL ?_; (case aP => exact rfl); (case aL => have := HLK.out; have := HL.out; omega); intro v4 w4 ho hb hg hat; clear hat; obtain ⟨A4, n4, c4, e4, hn4, hc4, hC4⟩ := C_of_hn ho (HTn.out.there hb); subst e4; have HN4 := Lib.hid hn4; clear hn4; have HDz := Lib.hid (HD3.out.grown HR3.out hg); have HGz := Lib.hid (HG3.out.grown HR3.out hg); have HRz := Lib.hid ho; have HBz := Lib.hid hb; have HCz := Lib.hid hC4; have HCLz := Lib.hid hc4; clear ho hb hg hC4 hc4)
            | (go_at_call 18; refine (records_flat w.heap.size p q ((hs ++ [(⟨aA, ac, ax⟩ : Hd)]).map Hd.xs) _ _ HDz.out HGz.out HTn.out.ok HTn.out.len (by have := HTn.out.small HLn.out; omega)).mono ?_; rintro e w8 ⟨v8, rfl, hS, hb⟩; obtain ⟨A8, n8, c8, e8, hn8, hc8, hC8⟩ := S_rows hS; subst e8; have HN8 := Lib.hid (show n8 = (hs ++ [(⟨aA, ac, ax⟩ : Hd)]).length by rw [hn8, List.length_map]); clear hn8; have HC8 := Lib.hid hC8; have HCL8 := Lib.hid hc8; have HD8 := Lib.hid (HDz.out.below hb); have HG8 := Lib.hid (show Lg w8 q p from blk_below HGz.out hb); have HR8 := Lib.hid (Kd.R_below HRz.out hb); have HC8z := Lib.hid (Kd.C_below HCz.out hb); have HB8 := Lib.hid (below_then HBz.out HBz.out.size hb); clear hS hb hC8 hc8)
            | (go_at_call 20; refine (same_rows A8 A4 c8 c4 n8 n4 ((hs ++ [(⟨aA, ac, ax⟩ : Hd)]).map Hd.xs) _ (by rw [List.length_map]; exact HN8.out) (by rw [List.length_map]; exact HN4.out) HC8.out HCL8.out HC8z.out HCLz.out (by have := HLn.out; have := HN8.out; omega)).mono ?_; rintro e w9 ⟨rfl, hb⟩; have HD9 := Lib.hid (HD8.out.below hb); have HG9 := Lib.hid (show Lg w9 q p from blk_below HG8.out hb); have HR9 := Lib.hid (Kd.R_below HR8.out hb); have HB9 := Lib.hid (below_then HB8.out HB8.out.size hb); clear hb))
          go_roundw
          case rel => exact ⟨k + 1, p, q, s, (hs ++ [(⟨aA, ac, ax⟩ : Hd)]), by omega, by go_num, rfl, rfl, rfl, HR9, HD9, HG9, HB9, HP, HTn, Lib.hid (by have := HLKn.out; omega), HSLn⟩
          case measure => simp [intOf]; omega
        · have j0 : (aK == 0) = false := by simp [k0]
          by_cases k1 : aK = 1
          · have j1 : (aK == 1) = true := by simp [k1]
            clear k0 k1
            have HLKn := Lib.hid (show (hs ++ [(⟨aA, ac, ax⟩ : Hd)]).length ≤ k + 1 by have := HLK.out; rw [List.length_append, List.length_singleton]; omega)
            go_wp2_with (first
              | (go_at_call 17; refine (force_calls w p q (flat (hs.map Hd.xs)) ax _ aA ac _ HDa.out HGa.out HP.out HBa.out HCa.out HCLa.out HOa.out HX3.out HFL.out).mono ?_; rintro e w3 ⟨rfl, hd, hlg, hb, hst⟩; have HD3 := Lib.hid (show Dq w3 w.heap.size p (flat ((hs ++ [(⟨aA, ac, ax⟩ : Hd)]).map Hd.xs)) (fl ((hs ++ [(⟨aA, ac, ax⟩ : Hd)]).map Hd.xs) (hs ++ [(⟨aA, ac, ax⟩ : Hd)]).length) by rw [flat_hs, fl_full, flat_hs]; exact hd); have HG3 := Lib.hid hlg; have HB3 := Lib.hid hb; have HR3 := Lib.hid (H_stays HRa.out hst HDa.out); have HK3 := Lib.hid (hst.blk HBLK.out (by have := HD.out.lt; omega) (by decide)); have cb3 := (blk_cell HK3.out 2).trans (show (#[.int .i64 aK, .int .i64 aN, .slice aA ax.length ac] : Array Value)[2]? = some (.slice aA ax.length ac) from rfl); clear hd hlg hb hst)
              | ((with_reducible refine gate_builtin (b := .append) (xs := #[.tmp 65, .tmp 68]) rfl ?_); at_builtin; refine Kd.R_append KH (w0 := w) w.heap.size rfl (.tmp 65) (.tmp 68) 38 22 (.slice none 0 0) 24 rfl Try.underlying38 info22 rfl (by decide) (by omega) _ hs (⟨aA, ac, ax⟩ : Hd) [.slice aA ax.length ac] (fun _ => True) (fun _ => False) rfl rfl ?aP (fun _ hk => hk.elim) (fun _ _ => trivial) HR3.out HB3.out HB3.out.size ?aL ?_; (case aP => exact rfl); (case aL => have := HLK.out; have := HL.out; omega); intro v4 w4 ho hb hg hat; clear hat; obtain ⟨A4, n4, c4, e4, hn4, hc4, hC4⟩ := C_of_hn ho (HTn.out.there hb); subst e4; have HN4 := Lib.hid hn4; clear hn4; have HDz := Lib.hid (HD3.out.grown HR3.out hg); have HGz := Lib.hid (HG3.out.grown HR3.out hg); have HRz := Lib.hid ho; have HBz := Lib.hid hb; have HCz := Lib.hid hC4; have HCLz := Lib.hid hc4; clear ho hb hg hC4 hc4)
              | (go_at_call 18; refine (records_flat w.heap.size p q ((hs ++ [(⟨aA, ac, ax⟩ : Hd)]).map Hd.xs) _ _ HDz.out HGz.out HTn.out.ok HTn.out.len (by have := HTn.out.small HLn.out; omega)).mono ?_; rintro e w8 ⟨v8, rfl, hS, hb⟩; obtain ⟨A8, n8, c8, e8, hn8, hc8, hC8⟩ := S_rows hS; subst e8; have HN8 := Lib.hid (show n8 = (hs ++ [(⟨aA, ac, ax⟩ : Hd)]).length by rw [hn8, List.length_map]); clear hn8; have HC8 := Lib.hid hC8; have HCL8 := Lib.hid hc8; have HD8 := Lib.hid (HDz.out.below hb); have HG8 := Lib.hid (show Lg w8 q p from blk_below HGz.out hb); have HR8 := Lib.hid (Kd.R_below HRz.out hb); have HC8z := Lib.hid (Kd.C_below HCz.out hb); have HB8 := Lib.hid (below_then HBz.out HBz.out.size hb); clear hS hb hC8 hc8)
              | (go_at_call 20; refine (same_rows A8 A4 c8 c4 n8 n4 ((hs ++ [(⟨aA, ac, ax⟩ : Hd)]).map Hd.xs) _ (by rw [List.length_map]; exact HN8.out) (by rw [List.length_map]; exact HN4.out) HC8.out HCL8.out HC8z.out HCLz.out (by have := HLn.out; have := HN8.out; omega)).mono ?_; rintro e w9 ⟨rfl, hb⟩; have HD9 := Lib.hid (HD8.out.below hb); have HG9 := Lib.hid (show Lg w9 q p from blk_below HG8.out hb); have HR9 := Lib.hid (Kd.R_below HR8.out hb); have HB9 := Lib.hid (below_then HB8.out HB8.out.size hb); clear hb))
            go_roundw
            case rel => exact ⟨k + 1, p, q, n4, (hs ++ [(⟨aA, ac, ax⟩ : Hd)]), by omega, by go_num, rfl, rfl, rfl, HR9, (Lib.hid (by rw [HN4.out]; exact HD9.out)), HG9, HB9, HP, HTn, Lib.hid (by have := HLKn.out; omega), (Lib.hid (Nat.le_of_eq HN4.out))⟩
            case measure => simp [intOf]; omega
          · have j1 : (aK == 1) = false := by simp [k1]
            by_cases k2 : aK = 2
            · have j2 : (aK == 2) = true := by simp [k2]
              clear k0 k1 k2
              have lqa := (blk_cell HGa.out 0).trans (show (#[.pointer (some ⟨p, 0, none⟩)] : Array Value)[0]? = some (.pointer (some ⟨p, 0, none⟩)) from rfl)
              have lnd := (blk_cell (blk_drew HBLK.out) 1).trans (show (#[.int .i64 aK, .int .i64 aN, .slice aA ax.length ac] : Array Value)[1]? = some (.int .i64 aN) from rfl)
              have lqd := (blk_cell (blk_drew HGa.out) 0).trans (show (#[.pointer (some ⟨p, 0, none⟩)] : Array Value)[0]? = some (.pointer (some ⟨p, 0, none⟩)) from rfl)
              have hbd : Below (wr.alloc (.cells #[.int .i64 aK, .int .i64 aN, .slice aA ax.length ac] 47)).heap.size (wr.alloc (.cells #[.int .i64 aK, .int .i64 aN, .slice aA ax.length ac] 47)) (wr.alloc (.cells #[.int .i64 aK, .int .i64 aN, .slice aA ax.length ac] 47)).drew := below_drew (Below.refl _ _)
              have HDd := Lib.hid (HDa.out.below hbd)
              have HBd := Lib.hid (below_drew HBa.out)
              have HRd := Lib.hid (Kd.R_below HRa.out hbd)
              clear hbd
              have HF1 := Lib.hid (show fl (hs.map Hd.xs) s ≤ (flat (hs.map Hd.xs)).length from fl_mono _ _)
              obtain ⟨kc, hkc⟩ : ∃ kc : Nat, kk (fl (hs.map Hd.xs) s) (((flat (hs.map Hd.xs)).length : Int) - (fl (hs.map Hd.xs) s) + 1) aN = kc := Int.eq_ofNat_of_zero_le (by have := kk_range (s := (fl (hs.map Hd.xs) s : Int)) (N := ((flat (hs.map Hd.xs)).length : Int) - (fl (hs.map Hd.xs) s) + 1) (x := aN) (by omega) (by have := HFL.out; have := HF1.out; omega) (by have := HF1.out; omega) (by have := HFL.out; omega); omega)
              have hkr := kk_range (s := (fl (hs.map Hd.xs) s : Int)) (N := ((flat (hs.map Hd.xs)).length : Int) - (fl (hs.map Hd.xs) s) + 1) (x := aN) (by omega) (by have := HFL.out; have := HF1.out; omega) (by have := HF1.out; omega) (by have := HFL.out; omega)
              rw [hkc] at hkr
              have HKC := Lib.hid hkc
              have HF2 := Lib.hid (show fl (hs.map Hd.xs) s ≤ kc by omega)
              have HF3 := Lib.hid (show kc ≤ (flat (hs.map Hd.xs)).length by omega)
              clear hkr hkc
              go_wp2_with fail
              refine start_ (n := 15) (S := fun w' => (w'.cell? ⟨q, 0, none⟩ = some (.pointer (some ⟨p, 0, none⟩))) ∧ (w'.cell? ⟨wr.heap.size, 1, none⟩ = some (.int .i64 aN))) (ds := [6, 7]) #[false, false, false, false, false, false, false, false, false, false, false, false, false, false, false] (by kernel_rfl) rfl rfl ⟨lqd, lnd⟩ (fun hHeld => ?_)
              refine pure_ (i := 0) (N := some 75) (v := ?_) (a' := ?_) #[true, false, false, false, false, false, false, false, false, false, false, false, false, false, false] rfl rfl (by kernel_rfl) (fun _ _ _ h => h) (Or.inl ⟨by rfl, ?_⟩) ?_ ?_
              rotate_left
              · intro w'
                go_simp
                with_reducible rfl
              rotate_left
              · simp only [Act.put, List.setIfInBounds_toArray, List.set_cons_zero, List.set_cons_succ, i64_w, i32_w]
                rfl
              refine pure_ (i := 1) (N := some 76) (v := ?_) (a' := ?_) #[true, true, false, false, false, false, false, false, false, false, false, false, false, false, false] rfl rfl (by kernel_rfl) (fun _ _ _ h => h) (Or.inl ⟨by rfl, ?_⟩) ?_ ?_
              rotate_left
              · intro w'
                go_simp
                with_reducible rfl
              rotate_left
              · simp only [Act.put, List.setIfInBounds_toArray, List.set_cons_zero, List.set_cons_succ, i64_w, i32_w]
                rfl
              refine pure_ (i := 2) (N := some 77) (v := ?_) (a' := ?_) #[true, true, true, false, false, false, false, false, false, false, false, false, false, false, false] rfl rfl (by kernel_rfl) (fun _ _ _ h => h) (Or.inl ⟨by rfl, ?_⟩) ?_ ?_
              rotate_left
              · intro w'
                go_simp
                with_reducible rfl
              rotate_left
              · simp only [Act.put, List.setIfInBounds_toArray, List.set_cons_zero, List.set_cons_succ, i64_w, i32_w]
                rfl
              refine pure_ (i := 4) (N := some 79) (v := ?_) (a' := ?_) #[true, true, true, false, true, false, false, false, false, false, false, false, false, false, false] rfl rfl (by kernel_rfl) (fun _ _ _ h => h) (Or.inl ⟨by rfl, ?_⟩) ?_ ?_
              rotate_left
              · intro w'
                go_simp
                with_reducible rfl
              rotate_left
              · simp only [Act.put, List.setIfInBounds_toArray, List.set_cons_zero, List.set_cons_succ, i64_w, i32_w]
                rfl
              refine take_ (i := 3) (N := some 78) (v := ?_) (a' := ?_) #[true, true, true, true, true, false, false, false, false, false, false, false, false, false, false] rfl rfl (by kernel_rfl) (fun _ _ _ h => h) (Or.inl ⟨by rfl, ?_⟩) hHeld ?_ ?_
              rotate_left
              · rintro w' ⟨h1, h2⟩
                go_simp
                with_reducible rfl
              rotate_left
              · simp only [Act.put, List.setIfInBounds_toArray, List.set_cons_zero, List.set_cons_succ, i64_w, i32_w]
                rfl
              refine take_ (i := 5) (N := some 80) (v := ?_) (a' := ?_) #[true, true, true, true, true, true, false, false, false, false, false, false, false, false, false] rfl rfl (by kernel_rfl) (fun _ _ _ h => h) (Or.inl ⟨by rfl, ?_⟩) hHeld ?_ ?_
              rotate_left
              · rintro w' ⟨h1, h2⟩
                go_simp
                with_reducible rfl
              rotate_left
              · simp only [Act.put, List.setIfInBounds_toArray, List.set_cons_zero, List.set_cons_succ, i64_w, i32_w]
                rfl
              refine last_ (i := 6) (N := some 81) #[true, true, true, true, true, true, true, false, false, false, false, false, false, false, false] rfl rfl (by kernel_rfl) (by decide) (fun K hK => ?_)
              obtain ⟨h1, h2⟩ := hHeld
              refine goes_ Try.func13 (by kernel_rfl) rfl #[.pointer (some ⟨p, 0, none⟩), .int .i64 aN] (by rfl) rfl rfl (by simp only [List.map_toArray, List.map_cons, List.map_nil]; rfl) ?_
              with_reducible refine (HDd.out.crash HBd.out HF1.out (by have := HFL.out; omega) aN kc HKC.out).mono ?_
              rintro e w3 ⟨p3, rfl, hp3, hd, hb⟩
              refine ⟨_, rfl, ?_⟩
              refine hK.out _ _ ?_
              clear hK K
              have HP3 := Lib.hid (show w.heap.size ≤ p3 by have := HBd.out.size; omega)
              have HD3 := Lib.hid hd
              have HB3 := Lib.hid (below_then HBd.out HBd.out.size hb)
              have HR3 := Lib.hid (Kd.R_below HRd.out hb)
              obtain ⟨m, hm1, hm2, hop⟩ := open_prefix w p3 (hs.map Hd.xs) kc s w3 hd HP3.out HB3.out HT.out.ok HT.out.len (by rw [List.length_map]; exact HSL.out) HF2.out HF3.out (by have := HFL.out; omega)
              rw [List.length_map] at hm2
              have HM1 := Lib.hid hm1
              have HM2 := Lib.hid hm2
              have HOP := Lib.hid hop
              clear hp3 hd hb hm1 hm2 hop
              refine norm_ (a' := ?_) ?_ ?_
              rotate_left
              · show Act.put _ (some 81) _ = _
                simp only [Act.put, List.setIfInBounds_toArray, List.set_cons_zero, List.set_cons_succ, i64_w, i32_w]
                rfl
              refine last_ (i := 7) (N := some 82) #[true, true, true, true, true, true, true, true, false, false, false, false, false, false, false] rfl rfl (by kernel_rfl) (by decide) (fun K hK => ?_)
              refine goes_ Try.func19 (by kernel_rfl) rfl #[.pointer (some ⟨p3, 0, none⟩)] (by rfl) rfl rfl (by simp only [List.map_toArray, List.map_cons, List.map_nil]; rfl) ?_
              with_reducible refine (HOP.out).mono ?_
              rintro e w4 ⟨q4, v4, rfl, hq4, hlg, hd, hS, hb, hkb4⟩
              refine ⟨_, rfl, ?_⟩
              refine hK.out _ _ ?_
              clear hK K
              obtain ⟨A4, n4, c4, e4, hn4, hc4, hC4⟩ := S_rows hS
              have hml : ((hs.map Hd.xs).take m).length = m := by rw [List.length_take, List.length_map]; have := HM2.out; omega
              obtain rfl : m = n4 := (hn4.trans hml).symm
              subst e4
              have HG4 := Lib.hid hlg
              have HD4 := Lib.hid hd
              have HB4 := Lib.hid hb
              have HC4 := Lib.hid hC4
              have HCL4 := Lib.hid hc4
              have HR4 := Lib.hid (H_stays HR3.out (stays_keep hkb4) HD3.out)
              clear hq4 hlg hd hS hb hkb4 hc4 hC4 hml hn4 HOP HR3 HD3 HB3
              refine norm_ (a' := ?_) ?_ ?_
              rotate_left
              · show Act.put _ (some 82) _ = _
                simp only [Act.put, List.setIfInBounds_toArray, List.set_cons_zero, List.set_cons_succ, i64_w, i32_w]
                rfl
              refine pure_ (i := 8) (N := some 74) (v := ?_) (a' := ?_) #[true, true, true, true, true, true, true, true, true, false, false, false, false, false, false] rfl rfl (by kernel_rfl) (fun _ _ _ h => h) (Or.inl ⟨by rfl, ?_⟩) ?_ ?_
              rotate_left
              · intro w'
                go_simp
                with_reducible rfl
              rotate_left
              · simp only [Act.put, List.setIfInBounds_toArray, List.set_cons_zero, List.set_cons_succ, i64_w, i32_w]
                rfl
              refine pure_ (i := 9) (N := some 83) (v := ?_) (a' := ?_) #[true, true, true, true, true, true, true, true, true, true, false, false, false, false, false] rfl rfl (by kernel_rfl) (fun _ _ _ h => h) (Or.inl ⟨by rfl, ?_⟩) ?_ ?_
              rotate_left
              · intro w'
                go_simp
                with_reducible rfl
              rotate_left
              · simp only [Act.put, List.setIfInBounds_toArray, List.set_cons_zero, List.set_cons_succ, i64_w, i32_w]
                rfl
              refine pure_ (i := 10) (N := some 84) (v := ?_) (a' := ?_) #[true, true, true, true, true, true, true, true, true, true, true, false, false, false, false] rfl rfl (by kernel_rfl) (fun _ _ _ h => h) (Or.inl ⟨by rfl, ?_⟩) ?_ ?_
              rotate_left
              · intro w'
                go_simp
                with_reducible rfl
              rotate_left
              · simp only [Act.put, List.setIfInBounds_toArray, List.set_cons_zero, List.set_cons_succ, i64_w, i32_w]
                rfl
              refine pure_ (i := 11) (N := some 85) (v := ?_) (a' := ?_) #[true, true, true, true, true, true, true, true, true, true, true, true, false, false, false] rfl rfl (by kernel_rfl) (fun _ _ _ h => h) (Or.inl ⟨by rfl, ?_⟩) ?_ ?_
              rotate_left
              · intro w'
                go_simp
                with_reducible rfl
              rotate_left
              · simp only [Act.put, List.setIfInBounds_toArray, List.set_cons_zero, List.set_cons_succ, i64_w, i32_w]
                rfl
              refine pure_ (i := 12) (N := some 10) (v := ?_) (a' := ?_) #[true, true, true, true, true, true, true, true, true, true, true, true, true, false, false] rfl rfl (by kernel_rfl) (fun _ _ _ h => h) (Or.inl ⟨by rfl, ?_⟩) ?_ ?_
              rotate_left
              · intro w'
                go_simp
                with_reducible rfl
              rotate_left
              · simp only [Act.put, List.setIfInBounds_toArray, List.set_cons_zero, List.set_cons_succ, i64_w, i32_w]
                rfl
              refine pure_ (i := 13) (N := some 11) (v := ?_) (a' := ?_) #[true, true, true, true, true, true, true, true, true, true, true, true, true, true, false] rfl rfl (by kernel_rfl) (fun _ _ _ h => h) (Or.inl ⟨by rfl, ?_⟩) ?_ ?_
              rotate_left
              · intro w'
                go_simp
                with_reducible rfl
              rotate_left
              · simp only [Act.put, List.setIfInBounds_toArray, List.set_cons_zero, List.set_cons_succ, i64_w, i32_w]
                rfl
              refine pure_ (i := 14) (N := some 12) (v := ?_) (a' := ?_) #[true, true, true, true, true, true, true, true, true, true, true, true, true, true, true] rfl rfl (by kernel_rfl) (fun _ _ _ h => h) (Or.inl ⟨by rfl, ?_⟩) ?_ ?_
              rotate_left
              · intro w'
                go_simp
                with_reducible rfl
              rotate_left
              · simp only [Act.put, List.setIfInBounds_toArray, List.set_cons_zero, List.set_cons_succ, i64_w, i32_w]
                rfl
              refine done_ (by kernel_rfl) ?_
              have m1 : decide ((m : Int) < (s : Int)) = false := decide_eq_false (by have := HM1.out; omega)
              have m2 : decide ((n6 : Int) < (m : Int)) = false := decide_eq_false (by have := HM2.out; have := HN6.out; omega)
              have m3 : m ≤ c6 := by have := HCL6.out; have := HN6.out; have := HM2.out; omega
              have m4 : m ≤ n6 := by have := HN6.out; have := HM2.out; omega
              have HRt := Lib.hid (Kd.R_take HR4.out HM2.out)
              have HTt := Lib.hid (HT.out.take m)
              have htl : (hs.take m).length = m := by rw [List.length_take]; have := HM2.out; omega
              obtain ⟨A5, c5, e5, hc5, hC5⟩ := C_of_hs HRt.out (HTt.out.there HB4.out)
              rw [htl] at e5 hc5 hC5
              have htm := Lib.hid htl.symm
              obtain ⟨rfl, _, rfl⟩ := Value.slice.inj e5
              rw [List.map_take] at hC5
              have HC5 := Lib.hid hC5
              clear hC5 hc5 e5
              go_wp2_with (first
                | (go_at_call 20; refine (same_rows A4 A6 c4 c6 m m ((hs.map Hd.xs).take m) _ (by rw [List.length_take, List.length_map]; have := HM2.out; omega) (by rw [List.length_take, List.length_map]; have := HM2.out; omega) HC4.out HCL4.out HC5.out m3 (by have := HM2.out; have := HL6.out; omega)).mono ?_; rintro e w5 ⟨rfl, hb⟩; have HDz := Lib.hid (show Dq w5 w.heap.size p3 (flat ((hs.take m).map Hd.xs)) (fl ((hs.take m).map Hd.xs) m) by rw [List.map_take, fl, List.take_take, Nat.min_self]; exact HD4.out.below hb); have HGz := Lib.hid (show Lg w5 q4 p3 from blk_below HG4.out hb); have HRz := Lib.hid (Kd.R_below HRt.out hb); have HBz := Lib.hid (below_then HB4.out HB4.out.size hb); have HCz := Lib.hid (show Kd.C KL w5 A6 m ((hs.take m).map Hd.xs) by rw [List.map_take]; exact Kd.C_below HC5.out hb); have HCLz := Lib.hid m3; clear hb)
                | fail)
              go_region
              have hbd5 : Below w5.heap.size w5 w5.drew := below_drew (Below.refl _ _)
              have HDz := Lib.hid (HDz.out.below hbd5)
              have HGz := Lib.hid (show Lg w5.drew q4 p3 from blk_below HGz.out hbd5)
              have HRz := Lib.hid (Kd.R_below HRz.out hbd5)
              have HBz := Lib.hid (below_drew HBz.out)
              have HCz := Lib.hid (Kd.C_below HCz.out hbd5)
              clear hbd5
              have HLt := Lib.hid (show (hs.take m).length ≤ 80 by have := HL6.out; have := HM2.out; omega)
              have HLt2 := Lib.hid (show (hs.take m).length ≤ k by have := HLK.out; have := HM2.out; omega)
              have HSt := Lib.hid (show m ≤ (hs.take m).length by omega)
              clear htl m3 m4
              go_wp2_with (first
                | (go_at_call 18; refine (records_flat w.heap.size p3 q4 ((hs.take m).map Hd.xs) _ _ HDz.out HGz.out HTt.out.ok HTt.out.len (by have := HTt.out.small HLt.out; omega)).mono ?_; rintro e w8 ⟨v8, rfl, hS, hb⟩; obtain ⟨A8, n8, c8, e8, hn8, hc8, hC8⟩ := S_rows hS; subst e8; have HN8 := Lib.hid (show n8 = (hs.take m).length by rw [hn8, List.length_map]); clear hn8; have HC8 := Lib.hid hC8; have HCL8 := Lib.hid hc8; have HD8 := Lib.hid (HDz.out.below hb); have HG8 := Lib.hid (show Lg w8 q4 p3 from blk_below HGz.out hb); have HR8 := Lib.hid (Kd.R_below HRz.out hb); have HC8z := Lib.hid (Kd.C_below HCz.out hb); have HB8 := Lib.hid (below_then HBz.out HBz.out.size hb); clear hS hb hC8 hc8)
                | (go_at_call 20; refine (same_rows A8 A6 c8 c6 n8 m ((hs.take m).map Hd.xs) _ (by rw [List.length_map]; exact HN8.out) (by rw [List.length_map]; exact htm.out) HC8.out HCL8.out HC8z.out HCLz.out (by have := HLt.out; have := HN8.out; omega)).mono ?_; rintro e w9 ⟨rfl, hb⟩; have HD9 := Lib.hid (HD8.out.below hb); have HG9 := Lib.hid (show Lg w9 q4 p3 from blk_below HG8.out hb); have HR9 := Lib.hid (Kd.R_below HR8.out hb); have HB9 := Lib.hid (below_then HB8.out HB8.out.size hb); clear hb))
              go_roundw
              case rel => exact ⟨k + 1, p3, q4, m, (hs.take m), by omega, by go_num, rfl, rfl, rfl, HR9, HD9, HG9, HB9, HP3, HTt, Lib.hid (by have := HLt2.out; omega), HSt⟩
              case measure => simp [intOf]; omega
            · have j2 : (aK == 2) = false := by simp [k2]
              by_cases k3 : aK = 3
              · have j3 : (aK == 3) = true := by simp [k3]
                clear k0 k1 k2 k3
                have lqa := (blk_cell HGa.out 0).trans (show (#[.pointer (some ⟨p, 0, none⟩)] : Array Value)[0]? = some (.pointer (some ⟨p, 0, none⟩)) from rfl)
                go_wp2_with (first
                  | (go_at_call 10; refine (HDa.out.sync HP.out HBa.out).mono ?_; rintro e w3 ⟨rfl, hd, hb, hst⟩; have HDz := Lib.hid (show Dq w3 w.heap.size p (flat (hs.map Hd.xs)) (fl (hs.map Hd.xs) hs.length) by rw [fl_full]; exact hd); have HGz := Lib.hid (hst.blk HGa.out (by obtain ⟨_, _, hD, _⟩ := HDa.out; exact blk_ne HGa.out hD (by decide)) (by decide)); have HRz := Lib.hid (H_stays HRa.out hst HDa.out); have HBz := Lib.hid hb; obtain ⟨A4, n4, c4, e4, hn4, hc4, hC4⟩ := C_of_hn HRz.out (HT.out.there hb); obtain ⟨rfl, rfl, rfl⟩ := Value.slice.inj e4; clear hn4; have HCz := Lib.hid hC4; have HCLz := Lib.hid hc4; clear hd hb hst hc4 hC4 e4)
                  | (go_at_call 18; refine (records_flat w.heap.size p q (hs.map Hd.xs) _ _ HDz.out HGz.out HT.out.ok HT.out.len (by have := HT.out.small HL6.out; omega)).mono ?_; rintro e w8 ⟨v8, rfl, hS, hb⟩; obtain ⟨A8, n8, c8, e8, hn8, hc8, hC8⟩ := S_rows hS; subst e8; have HN8 := Lib.hid (show n8 = hs.length by rw [hn8, List.length_map]); clear hn8; have HC8 := Lib.hid hC8; have HCL8 := Lib.hid hc8; have HD8 := Lib.hid (HDz.out.below hb); have HG8 := Lib.hid (show Lg w8 q p from blk_below HGz.out hb); have HR8 := Lib.hid (Kd.R_below HRz.out hb); have HC8z := Lib.hid (Kd.C_below HCz.out hb); have HB8 := Lib.hid (below_then HBz.out HBz.out.size hb); clear hS hb hC8 hc8)
                  | (go_at_call 20; refine (same_rows A8 A6 c8 c6 n8 n6 (hs.map Hd.xs) _ (by rw [List.length_map]; exact HN8.out) (by rw [List.length_map]; exact HN6.out) HC8.out HCL8.out HC8z.out HCLz.out (by have := HL6.out; have := HN8.out; omega)).mono ?_; rintro e w9 ⟨rfl, hb⟩; have HD9 := Lib.hid (HD8.out.below hb); have HG9 := Lib.hid (show Lg w9 q p from blk_below HG8.out hb); have HR9 := Lib.hid (Kd.R_below HR8.out hb); have HB9 := Lib.hid (below_then HB8.out HB8.out.size hb); clear hb))
                go_roundw
                case rel => exact ⟨k + 1, p, q, n6, hs, by omega, by go_num, rfl, rfl, rfl, HR9, (Lib.hid (by rw [HN6.out]; exact HD9.out)), HG9, HB9, HP, HT, Lib.hid (by have := HLK.out; omega), (Lib.hid (Nat.le_of_eq HN6.out))⟩
                case measure => simp [intOf]; omega
              · have j3 : (aK == 3) = false := by simp [k3]
                clear k0 k1 k2 k3
                have HDz := HDa
                have HGz := HGa
                have HRz := HRa
                have HBz := HBa
                have HCz := HC6a
                have HCLz := HCL6
                go_wp2_with (first
                  | (go_at_call 18; refine (records_flat w.heap.size p q (hs.map Hd.xs) _ _ HDz.out HGz.out HT.out.ok HT.out.len (by have := HT.out.small HL6.out; omega)).mono ?_; rintro e w8 ⟨v8, rfl, hS, hb⟩; obtain ⟨A8, n8, c8, e8, hn8, hc8, hC8⟩ := S_rows hS; subst e8; have HN8 := Lib.hid (show n8 = hs.length by rw [hn8, List.length_map]); clear hn8; have HC8 := Lib.hid hC8; have HCL8 := Lib.hid hc8; have HD8 := Lib.hid (HDz.out.below hb); have HG8 := Lib.hid (show Lg w8 q p from blk_below HGz.out hb); have HR8 := Lib.hid (Kd.R_below HRz.out hb); have HC8z := Lib.hid (Kd.C_below HCz.out hb); have HB8 := Lib.hid (below_then HBz.out HBz.out.size hb); clear hS hb hC8 hc8)
                  | (go_at_call 20; refine (same_rows A8 A6 c8 c6 n8 n6 (hs.map Hd.xs) _ (by rw [List.length_map]; exact HN8.out) (by rw [List.length_map]; exact HN6.out) HC8.out HCL8.out HC8z.out HCLz.out (by have := HL6.out; have := HN8.out; omega)).mono ?_; rintro e w9 ⟨rfl, hb⟩; have HD9 := Lib.hid (HD8.out.below hb); have HG9 := Lib.hid (show Lg w9 q p from blk_below HG8.out hb); have HR9 := Lib.hid (Kd.R_below HR8.out hb); have HB9 := Lib.hid (below_then HB8.out HB8.out.size hb); clear hb))
                go_roundw
                case rel => exact ⟨k + 1, p, q, s, hs, by omega, by go_num, rfl, rfl, rfl, HR9, HD9, HG9, HB9, HP, HT, Lib.hid (by have := HLK.out; omega), HSL⟩
                case measure => simp [intOf]; omega
      · have g1 : decide ((300 : Int) < (ax.length : Int)) = true := decide_eq_true (by omega)
        go_wp2_with fail
        exact bodyPost_ret (v := .bool true) (by simp [results, Try.results6, go_sem]) rfl ⟨rfl, HBa.out⟩
    · have g0 : decide ((k : Int) < (l.length : Int)) = false := decide_eq_false (by omega)
      have HN := Lib.hid (show (flat (hs.map Hd.xs)).length ≤ 90000 by have := HT.out.small (n := 80) (by have := HLK.out; have := HL.out; omega); omega)
      go_wp2_with (first
        | (go_at_call 17; refine (force_calls w p q (flat (hs.map Hd.xs)) [] _ none 0 _ HD.out HG.out HP.out HB.out (Kd.C_nil _ _) (Nat.le_refl _) (by decide) (by decide) HN.out).mono ?_; rintro e w3 ⟨rfl, _, _, hb, _⟩; have HB3 := Lib.hid hb; clear hb)
        | fail)
      exact bodyPost_ret (v := .bool true) (by simp [results, Try.results6, go_sem]) rfl ⟨rfl, HB3.out⟩
set_option maxRecDepth 100000 in
theorem keeps_long (A0 : Option Addr) (c0 n0 : Nat) (w : World) (hl : 80 < n0) :
    Calls Try.prog 6 #[.slice A0 n0 c0] w fun e w' => e = .returned (.bool true) ∧ Below w.heap.size w w' := by
  have d1 : decide ((80 : Int) < (n0 : Int)) = true := decide_eq_true (by omega)
  clear hl
  go_enter Try.func6, Try.ntmps6
  go_wp2_with (first
    | (go_at_call 8; refine (new_calls _).mono ?_; rintro e w1 ⟨p, rfl, hp, hd, hb⟩; have HP := Lib.hid hp; have HD1 := Lib.hid (show Dq w1 w.heap.size p [] 0 from ⟨none, 0, hd, .inl (Kd.R_nil _ _ _ _ _)⟩); have HB1 := Lib.hid hb; clear hp hd hb)
    | (go_at_call 19; refine (open_whole w p [] 0 [] 0 _ HD1.out HP.out HB1.out rfl (by simp) scan_nil).mono ?_; rintro e w2 ⟨q, v2, rfl, hq, hlg, hd, hs, hb, _⟩; have HG2 := Lib.hid hlg; have HD2 := Lib.hid hd; have HB2 := Lib.hid hb; clear hq hlg hd hs hb))
  exact bodyPost_ret (v := .bool true) (by simp [results, Try.results6, go_sem]) rfl ⟨rfl, HB2.out⟩
theorem keeps_all (A0 : Option Addr) (c0 : Nat) (l : List Ac) (w : World) (h0 : Acts w A0 l) :
    Calls Try.prog 6 #[.slice A0 l.length c0] w fun e w' => e = .returned (.bool true) ∧ Below w.heap.size w w' := by
  by_cases hl : l.length ≤ 80
  · exact keeps_walk A0 c0 l w h0 hl
  · exact keeps_long A0 c0 _ w (by omega)
end Go.Proofs.Ytkckmikpmjecdaa.H
