/- What Hex, Put and Filter answer: contracts. Condition: texts of at most a thousand million bytes. -/
import Derived.Test.YtmhjplbloeamiaaDoorClo
import Derived.Test.YtmhjplbloeamiaaDoorCnt
import Derived.Test.YtmhjplbloeamiaaDoorShelf
import Derived.WalkLawsBesides
import Derived.WalkSpells
namespace Go.Proofs.YtmhjplbloeamiaaDoor.H
open Go.RowKit Go.Proofs.YtmhjplbloeamiaaDoor.M Go.Proofs.YtmhjplbloeamiaaDoor.PEsc Go.Proofs.YtmhjplbloeamiaaDoorW.PrintWords Go.Proofs.YtmhjplbloeamiaaDoorW.PrintLast Go.Proofs.YtmhjplbloeamiaaDoorW.PrintMore
set_option linter.unusedVariables false
set_option linter.unusedSimpArgs false
abbrev IsB (b : Nat) (B : Nat) (l : Bs) (w : World) : Prop := Lib.IsBuilder 42 5 B b (Lib.byteCells l) w
theorem isb_new (w : World) (B : Nat) (hB : B ≤ w.heap.size) : IsB w.heap.size B [] (w.alloc (.cells #[.pointer none, .slice none 0 0] 42)) :=
  .inl ⟨hB, .slice none 0 0, blk_new w _, own_nil _ _ _ _, by simp [Value.ownBlock]⟩
theorem isb_drew {b B n : Nat} {l : Bs} {w : World} (h : IsB b B l w) : IsB b B l (w.drewN n) := h
theorem ws_calls (B b : Nat) (l m : Bs) (w : World) (h : IsB b B l w) (hlen : l.length + m.length ≤ 140737488355328) (hBw : B ≤ w.heap.size) :
    Calls Tryd.prog 23 #[.pointer (some ⟨b, 0, none⟩), .string (mk m)] w fun e w' => e = .returned (.tuple #[.int .i64 m.length, .nilIface]) ∧ IsB b B (l ++ m) w' ∧ Below B w w' := by
  refine (Any.Builder_WriteString Tryd.bld166 Tryd.bldExtra B b (Lib.byteCells l) (mk m) w h (by rw [Lib.byteCells_length, mk_size]; exact hlen) hBw).mono ?_
  rintro e w' ⟨rfl, h1, h2⟩
  refine ⟨by rw [mk_size], .inr ?_, h2⟩
  rw [Lib.byteCells_append]
  rw [Lib.strCells_eq] at h1
  exact h1
theorem wb_calls (B b : Nat) (l : Bs) (c : UInt8) (n : Int) (w : World) (hn : (c.toNat : Int) = n) (h : IsB b B l w) (hlen : l.length + 1 ≤ 140737488355328) (hBw : B ≤ w.heap.size) :
    Calls Tryd.prog 27 #[.pointer (some ⟨b, 0, none⟩), .int .u8 n] w fun e w' => e = .returned .nilIface ∧ IsB b B (l ++ [c]) w' ∧ Below B w w' := by
  subst hn
  refine (Any.Builder_WriteByte Tryd.bld167 Tryd.bldExtra B b (Lib.byteCells l) _ w h (by rw [Lib.byteCells_length]; exact hlen) hBw).mono ?_
  rintro e w' ⟨rfl, h1, h2⟩
  refine ⟨rfl, .inr ?_, h2⟩
  rw [Lib.byteCells_append]
  exact h1
theorem str_calls (B b : Nat) (l : Bs) (w : World) (h : IsB b B l w) (hBw : B ≤ w.heap.size) :
    Calls Tryd.prog 25 #[.pointer (some ⟨b, 0, none⟩)] w fun e w' => e = .returned (.string (mk l)) ∧ Below B w w' := Tryd.Builder_String_any B b l w h hBw
theorem right_calls (l : Bs) (w : World) (hl : l.length ≤ 4000000000) :
    Calls Tryd.prog 10 #[.string (mk l)] w fun e w' => e = .returned (.bool (right l).isSome) ∧ Drawn0 w w' := by
  obtain ⟨k, hk⟩ := (right_f l hl).rounds
  exact fold_Right.calls k _ _ w hk
def dig (n : Nat) : UInt8 := b8 (if n < 10 then 48 + n else 87 + n)
def two2 (c : UInt8) : Bs := [dig (c.toNat / 16), dig (c.toNat % 16)]
theorem two_all : ∀ n : Fin 256, escape_two.f (n.val : Int) = some (mk (two2 (UInt8.ofNat n.val))) := by decide +kernel
theorem two_f (c : UInt8) : escape_two.f (c.toNat : Int) = some (mk (two2 c)) := by
  have := two_all ⟨c.toNat, c.toNat_lt⟩
  simpa using this
theorem two_calls (c : UInt8) (n : Int) (w : World) (hn : (c.toNat : Int) = n) :
    Calls Tryd.prog 24 #[.int .u8 n] w fun e w' => e = .returned (.string (mk (two2 c))) ∧ Below w.heap.size w w' := by
  subst hn
  exact escape_two.calls _ _ w (two_f c)
theorem two_len (c : UInt8) : (two2 c).length = 2 := rfl
/-- What stands for the first bytes of a text, each by itself. -/
def pre (g : Nat → UInt8 → Bs) (l : Bs) : Nat → Bs
  | 0 => []
  | i + 1 => pre g l i ++ g i (l.getD i 0)
theorem pre_len {g : Nat → UInt8 → Bs} {l : Bs} (h : ∀ i c, (g i c).length ≤ 3) : ∀ i, (pre g l i).length ≤ 3 * i
  | 0 => by simp [pre]
  | i + 1 => by
    have := pre_len h (l := l) i
    have := h i (l.getD i 0)
    simp only [pre, List.length_append]
    omega
theorem at_bt {l : Bs} {i : Nat} (h : i < l.length) : bt (mk l) (i : Int) = ((l.getD i 0).toNat : Int) := by
  refine bt_mk ?_
  rw [List.getD_eq_getElem?_getD, List.getElem?_eq_getElem h]
  rfl
theorem isb_below {b B : Nat} {l : Bs} {w w' : World} (h : IsB b B l w) (hb : Below w.heap.size w w') : IsB b B l w' := by
  have key : ∀ p, Lib.BuilderAt 42 5 B b p (Lib.byteCells l) w → Lib.BuilderAt 42 5 B b p (Lib.byteCells l) w' := by
    intro p hp
    have hlt := hp.lt
    obtain ⟨h0, v, hv, ho, hn⟩ := hp
    exact ⟨h0, v, (hb.block b hlt).trans hv, pw_own_below ho hb, hn⟩
  exact h.imp (key _) (key _)
theorem meas {n i : Nat} {z : Int} (hz : z = ((i + 1 : Nat) : Int)) (h : i < n) : n - (intOf (.int .i64 z)).toNat < n - (intOf (.int .i64 (i : Int))).toNat := by
  subst hz
  show n - ((i + 1 : Nat) : Int).toNat < n - (i : Int).toNat
  rw [Int.toNat_natCast, Int.toNat_natCast]
  omega
def hexs (l : Bs) : Bs := pre (fun _ c => two2 c) l l.length
set_option maxHeartbeats 2000000 in
theorem hex_walk (l : Bs) (w : World) (hl : l.length ≤ 1000000000) :
    Calls Tryd.prog 9 #[.string (mk l)] w fun e w' => e = .returned (.string (mk (hexs l))) ∧ Below w.heap.size w w' := by
  have HL := Lib.hid hl
  have HZ := Lib.hid (mk_size l)
  have HBT := Lib.hid (fun (i : Nat) (h : i < l.length) => at_bt h)
  generalize hS : mk l = S at *
  clear hl hS
  go_enter Tryd.func9, Tryd.ntmps9
  go_wp2
  have hI0 : IsB w.heap.size w.heap.size [] (w.alloc (.cells #[.pointer none, .slice none 0 0] 42)) := isb_new w w.heap.size (Nat.le_refl _)
  have hB0 : Below w.heap.size w (w.alloc (.cells #[.pointer none, .slice none 0 0] 42)) := below_alloc (Below.refl _ _) _
  generalize w.alloc (.cells #[.pointer none, .slice none 0 0] 42) = W0 at *
  have HI0 := Lib.hid hI0
  have HB0 := Lib.hid hB0
  clear hI0 hB0
  go_loopw [7] (fun v7 wr => ∃ i : Nat, v7 = .int .i64 (i : Int) ∧ Hid (i ≤ l.length) ∧ Hid (IsB w.heap.size w.heap.size (pre (fun _ c => two2 c) l i) wr) ∧ Hid (Below w.heap.size w wr)) (fun v7 _ => l.length - (intOf v7).toNat)
  case atStart => exact ⟨0, rfl, Lib.hid (Nat.zero_le _), HI0, HB0⟩
  case round =>
    clear HI0 HB0
    obtain ⟨i, rfl, HN, HI, HB⟩ := hrel
    by_cases c : i < l.length
    · have c1 : decide ((i : Int) < (S.size : Int)) = true := by rw [HZ.out, decide_eq_true_eq]; omega
      have p1 : (0 ≤ (i : Int)) = True := eq_true (by omega)
      have p2 : ((i : Int) < (S.size : Int)) = True := eq_true (by rw [HZ.out]; omega)
      have p3 : i < S.size := by rw [HZ.out]; exact c
      have hx : ∀ h : i < S.size, (((S[i]'h).toNat : Nat) : Int) = ((l.getD i 0).toNat : Int) := by
        intro h
        rw [← HBT.out i c, ← bt_at S (i : Int) (by simpa using h)]
        rfl
      generalize hc : l.getD i 0 = x at hx
      have HX := Lib.hid (rfl : (x.toNat : Int) = (x.toNat : Int))
      have HC := Lib.hid hc
      have hlen : (pre (fun _ c => two2 c) l i).length ≤ 3 * i := pre_len (by intro i c; rw [two_len]; omega) i
      have HLN := Lib.hid (show (pre (fun _ c => two2 c) l i).length + 2 ≤ 140737488355328 by have := HL.out; omega)
      have hw : wrap64 ((i : Int) + 1) = ((i + 1 : Nat) : Int) := by have := HL.out; unfold wrap64; omega
      have HW := Lib.hid hw
      clear hc hlen hw
      go_wp2_with (first | (go_at_call 24; refine (two_calls x _ _ HX.out).mono ?_; rintro e w1 ⟨rfl, hb⟩; have HB1 := Lib.hid (below_step (by exact HB.out) hb); have HI1 := Lib.hid (isb_below (by exact HI.out) hb); clear hb) | (go_at_call 23; refine (ws_calls w.heap.size w.heap.size _ (two2 x) _ (by exact HI1.out) HLN.out (by exact HB1.out.size)).mono ?_; rintro e w2 ⟨rfl, hi, hb⟩; have HB2 := Lib.hid (HB1.out.trans hb); have HI2 := Lib.hid hi; clear hb hi))
      go_roundw
      case rel => exact ⟨i + 1, by first | exact congrArg (Value.int .i64) HW.out | (simp only [HW.out]; done) | go_num, Lib.hid (by omega), Lib.hid (by rw [pre, HC.out]; exact HI2.out), HB2⟩
      case measure => exact meas HW.out c
    · have c1 : decide ((i : Int) < (S.size : Int)) = false := by rw [HZ.out, decide_eq_false_iff_not]; omega
      have hi : i = l.length := by have := HN.out; omega
      subst hi
      have p3 : ¬ (l.length < S.size) := by rw [HZ.out]; omega
      have p4 : decide (l.length < S.size) = false := decide_eq_false p3
      go_wp2_with (go_at_call 25; refine (str_calls w.heap.size w.heap.size _ _ (by exact HI.out) HB.out.size).mono ?_; rintro e w3 ⟨rfl, hb⟩; have HB3 := Lib.hid (HB.out.trans hb); clear hb)
      go_ret
      exact ⟨rfl, HB3.out⟩
/-- What stands for a byte in a name. -/
def gput (r : Bool) (last : Int) (i : Nat) (c : UInt8) : Bs := if p14 r c = true then 92 :: two2 c else if p15 (i : Int) last c = true then [92, c] else [c]
/-- .. in a filter. -/
def gfil (r : Bool) (i : Nat) (c : UInt8) : Bs := if p17 r c = true then 92 :: two2 c else [c]
set_option maxHeartbeats 2000000 in
theorem esc_put (l : Bs) (r : Bool) (last : Int) (bR bL : Nat) (w : World) (hl : l.length ≤ 1000000000) (hr : w.cell? ⟨bR, 0, none⟩ = some (.bool r)) (hla : w.cell? ⟨bL, 0, none⟩ = some (.int .i64 last)) :
    Calls Tryd.prog 11 #[.string (mk l), .func (Fn.func 12) #[] #[.pointer (some ⟨bR, 0, none⟩)], .func (Fn.func 13) #[] #[.pointer (some ⟨bL, 0, none⟩)]] w fun e w' => e = .returned (.string (mk (pre (gput r last) l l.length))) ∧ Below w.heap.size w w' := by
  have HR := Lib.hid hr
  have HLA := Lib.hid hla
  have HBR := Lib.hid (block_lt_of_cell hr)
  have HBL := Lib.hid (block_lt_of_cell hla)
  clear hr hla
  have HL := Lib.hid hl
  have HZ := Lib.hid (mk_size l)
  have HBT := Lib.hid (fun (i : Nat) (h : i < l.length) => at_bt h)
  generalize hS : mk l = S at *
  clear hl hS
  go_enter Tryd.func11, Tryd.ntmps11
  go_wp2
  have hI0 : IsB w.heap.size w.heap.size [] (w.alloc (.cells #[.pointer none, .slice none 0 0] 42)) := isb_new w w.heap.size (Nat.le_refl _)
  have hB0 : Below w.heap.size w (w.alloc (.cells #[.pointer none, .slice none 0 0] 42)) := below_alloc (Below.refl _ _) _
  generalize w.alloc (.cells #[.pointer none, .slice none 0 0] 42) = W0 at *
  have HI0 := Lib.hid hI0
  have HB0 := Lib.hid hB0
  clear hI0 hB0
  go_loopw [12] (fun v7 wr => ∃ i : Nat, v7 = .int .i64 (i : Int) ∧ Hid (i ≤ l.length) ∧ Hid (IsB w.heap.size w.heap.size (pre (gput r last) l i) wr) ∧ Hid (Below w.heap.size w wr)) (fun v7 _ => l.length - (intOf v7).toNat)
  case atStart => exact ⟨0, rfl, Lib.hid (Nat.zero_le _), HI0, HB0⟩
  case round =>
    clear HI0 HB0
    obtain ⟨i, rfl, HN, HI, HB⟩ := hrel
    by_cases c : i < l.length
    · have c1 : decide ((i : Int) < (S.size : Int)) = true := by rw [HZ.out, decide_eq_true_eq]; omega
      have p1 : (0 ≤ (i : Int)) = True := eq_true (by omega)
      have p2 : ((i : Int) < (S.size : Int)) = True := eq_true (by rw [HZ.out]; omega)
      have p3 : i < S.size := by rw [HZ.out]; exact c
      have hx : ∀ h : i < S.size, (((S[i]'h).toNat : Nat) : Int) = ((l.getD i 0).toNat : Int) := by
        intro h
        rw [← HBT.out i c, ← bt_at S (i : Int) (by simpa using h)]
        rfl
      generalize hc : l.getD i 0 = x at hx
      have HC := Lib.hid hc
      have hlen : (pre (gput r last) l i).length ≤ 3 * i := pre_len (by intro i c; unfold gput; (repeat' split) <;> simp [two_len]) i
      have HLN := Lib.hid (show (pre (gput r last) l i).length + 1 + 1 + 1 ≤ 140737488355328 by have := HL.out; omega)
      have hw : wrap64 ((i : Int) + 1) = ((i + 1 : Nat) : Int) := by have := HL.out; unfold wrap64; omega
      have HW := Lib.hid hw
      clear hc hlen hw
      cases h1 : p14 r x
      · have H1 := Lib.hid h1
        cases h2 : p15 (i : Int) last x
        · have H2 := Lib.hid h2
          clear h1 h2
          go_wp2_with (first | (go_at_call 12; refine (put1_calls _ x r bR _ (by exact (HB.out.cell HBR.out).trans HR.out)).mono ?_; rintro e w1 ⟨rfl, ⟨n1, rfl⟩⟩; rw [H1.out]) | (go_at_call 13; refine (put2_calls _ last x bL _ (by exact (HB.out.cell HBL.out).trans HLA.out)).mono ?_; rintro e w2 ⟨rfl, ⟨n2, rfl⟩⟩; rw [H2.out]) | (go_at_call 27; refine (wb_calls w.heap.size w.heap.size _ x _ _ rfl (by exact HI.out) (by have := HLN.out; omega) (by exact HB.out.size)).mono ?_; rintro e w7 ⟨rfl, hi, hb⟩; have HI3 := Lib.hid hi; have HB3 := Lib.hid (Below.trans (by repeat (first | exact HB.out | apply pw_below_drewN | apply below_drew)) hb); clear hi hb))
          go_roundw
          case rel => exact ⟨i + 1, by first | exact congrArg (Value.int .i64) HW.out | (simp only [HW.out]; done) | go_num, Lib.hid (by omega), Lib.hid (by have h := HI3.out; rw [pre, HC.out, show gput r last i x = [x] by unfold gput; simp only [H1.out, H2.out, Bool.false_eq_true, if_false]]; simpa using h), HB3⟩
          case measure => exact meas HW.out c
        · have H2 := Lib.hid h2
          clear h1 h2
          go_wp2_with (first | (go_at_call 12; refine (put1_calls _ x r bR _ (by exact (HB.out.cell HBR.out).trans HR.out)).mono ?_; rintro e w1 ⟨rfl, ⟨n1, rfl⟩⟩; rw [H1.out]) | (go_at_call 13; refine (put2_calls _ last x bL _ (by exact (HB.out.cell HBL.out).trans HLA.out)).mono ?_; rintro e w2 ⟨rfl, ⟨n2, rfl⟩⟩; rw [H2.out]) | (go_at_call 27; have hx_ := HI1.out; clear hx_; refine (wb_calls w.heap.size w.heap.size _ x _ _ rfl (by exact HI1.out) (by have := HLN.out; rw [List.length_append, List.length_singleton]; omega) (by exact HB1.out.size)).mono ?_; rintro e w7 ⟨rfl, hi, hb⟩; have HI3 := Lib.hid hi; have HB3 := Lib.hid (Below.trans HB1.out hb); clear hi hb) | (go_at_call 27; refine (wb_calls w.heap.size w.heap.size _ 92 _ _ rfl (by exact HI.out) (by have := HLN.out; omega) (by exact HB.out.size)).mono ?_; rintro e w5 ⟨rfl, hi, hb⟩; have HI1 := Lib.hid hi; have HB1 := Lib.hid (Below.trans (by repeat (first | exact HB.out | apply pw_below_drewN | apply below_drew)) hb); clear hi hb))
          go_roundw
          case rel => exact ⟨i + 1, by first | exact congrArg (Value.int .i64) HW.out | (simp only [HW.out]; done) | go_num, Lib.hid (by omega), Lib.hid (by have h := HI3.out; rw [pre, HC.out, show gput r last i x = [92, x] by unfold gput; simp only [H1.out, H2.out, Bool.false_eq_true, if_false, if_true]]; simpa using h), HB3⟩
          case measure => exact meas HW.out c
      · have H1 := Lib.hid h1
        clear h1
        go_wp2_with (first | (go_at_call 12; refine (put1_calls _ x r bR _ (by exact (HB.out.cell HBR.out).trans HR.out)).mono ?_; rintro e w1 ⟨rfl, ⟨n1, rfl⟩⟩; rw [H1.out]) | (go_at_call 23; refine (ws_calls w.heap.size w.heap.size _ (two2 x) _ (by exact HI2.out) (by rw [List.length_append, two_len]; have := HLN.out; simp only [List.length_singleton]; omega) (by exact HB2.out.size)).mono ?_; rintro e w7 ⟨rfl, hi, hb⟩; have HI3 := Lib.hid hi; have HB3 := Lib.hid (HB2.out.trans hb); clear hb hi) | (go_at_call 24; refine (two_calls x _ _ rfl).mono ?_; rintro e w6 ⟨rfl, hb⟩; have HB2 := Lib.hid (below_step (by exact HB1.out) hb); have HI2 := Lib.hid (isb_below (by exact HI1.out) hb); clear hb) | (go_at_call 27; refine (wb_calls w.heap.size w.heap.size _ 92 _ _ rfl (by exact HI.out) (by have := HLN.out; omega) (by exact HB.out.size)).mono ?_; rintro e w5 ⟨rfl, hi, hb⟩; have HI1 := Lib.hid hi; have HB1 := Lib.hid (Below.trans (by repeat (first | exact HB.out | apply pw_below_drewN | apply below_drew)) hb); clear hi hb))
        go_roundw
        case rel => exact ⟨i + 1, by first | exact congrArg (Value.int .i64) HW.out | (simp only [HW.out]; done) | go_num, Lib.hid (by omega), Lib.hid (by have h := HI3.out; rw [pre, HC.out, show gput r last i x = 92 :: two2 x by unfold gput; simp only [H1.out, if_true]]; simpa using h), HB3⟩
        case measure => exact meas HW.out c
    · have c1 : decide ((i : Int) < (S.size : Int)) = false := by rw [HZ.out, decide_eq_false_iff_not]; omega
      have hi : i = l.length := by have := HN.out; omega
      subst hi
      have p3 : ¬ (l.length < S.size) := by rw [HZ.out]; omega
      have p4 : decide (l.length < S.size) = false := decide_eq_false p3
      go_wp2_with (go_at_call 25; refine (str_calls w.heap.size w.heap.size _ _ (by exact HI.out) HB.out.size).mono ?_; rintro e w3 ⟨rfl, hb⟩; have HB3 := Lib.hid (HB.out.trans hb); clear hb)
      go_ret
      exact ⟨rfl, HB3.out⟩
set_option maxHeartbeats 2000000 in
theorem esc_fil (l : Bs) (r : Bool) (bR : Nat) (w : World) (hl : l.length ≤ 1000000000) (hr : w.cell? ⟨bR, 0, none⟩ = some (.bool r)) :
    Calls Tryd.prog 11 #[.string (mk l), .func (Fn.func 20) #[] #[.pointer (some ⟨bR, 0, none⟩)], .func (Fn.func 21) #[] #[]] w fun e w' => e = .returned (.string (mk (pre (gfil r) l l.length))) ∧ Below w.heap.size w w' := by
  have HR := Lib.hid hr
  have HBR := Lib.hid (block_lt_of_cell hr)
  clear hr
  have HL := Lib.hid hl
  have HZ := Lib.hid (mk_size l)
  have HBT := Lib.hid (fun (i : Nat) (h : i < l.length) => at_bt h)
  generalize hS : mk l = S at *
  clear hl hS
  go_enter Tryd.func11, Tryd.ntmps11
  go_wp2
  have hI0 : IsB w.heap.size w.heap.size [] (w.alloc (.cells #[.pointer none, .slice none 0 0] 42)) := isb_new w w.heap.size (Nat.le_refl _)
  have hB0 : Below w.heap.size w (w.alloc (.cells #[.pointer none, .slice none 0 0] 42)) := below_alloc (Below.refl _ _) _
  generalize w.alloc (.cells #[.pointer none, .slice none 0 0] 42) = W0 at *
  have HI0 := Lib.hid hI0
  have HB0 := Lib.hid hB0
  clear hI0 hB0
  go_loopw [12] (fun v7 wr => ∃ i : Nat, v7 = .int .i64 (i : Int) ∧ Hid (i ≤ l.length) ∧ Hid (IsB w.heap.size w.heap.size (pre (gfil r) l i) wr) ∧ Hid (Below w.heap.size w wr)) (fun v7 _ => l.length - (intOf v7).toNat)
  case atStart => exact ⟨0, rfl, Lib.hid (Nat.zero_le _), HI0, HB0⟩
  case round =>
    clear HI0 HB0
    obtain ⟨i, rfl, HN, HI, HB⟩ := hrel
    by_cases c : i < l.length
    · have c1 : decide ((i : Int) < (S.size : Int)) = true := by rw [HZ.out, decide_eq_true_eq]; omega
      have p1 : (0 ≤ (i : Int)) = True := eq_true (by omega)
      have p2 : ((i : Int) < (S.size : Int)) = True := eq_true (by rw [HZ.out]; omega)
      have p3 : i < S.size := by rw [HZ.out]; exact c
      have hx : ∀ h : i < S.size, (((S[i]'h).toNat : Nat) : Int) = ((l.getD i 0).toNat : Int) := by
        intro h
        rw [← HBT.out i c, ← bt_at S (i : Int) (by simpa using h)]
        rfl
      generalize hc : l.getD i 0 = x at hx
      have HC := Lib.hid hc
      have hlen : (pre (gfil r) l i).length ≤ 3 * i := pre_len (by intro i c; unfold gfil; (repeat' split) <;> simp [two_len]) i
      have HLN := Lib.hid (show (pre (gfil r) l i).length + 1 + 1 + 1 ≤ 140737488355328 by have := HL.out; omega)
      have hw : wrap64 ((i : Int) + 1) = ((i + 1 : Nat) : Int) := by have := HL.out; unfold wrap64; omega
      have HW := Lib.hid hw
      clear hc hlen hw
      cases h1 : p17 r x
      · have H1 := Lib.hid h1
        clear h1
        go_wp2_with (first | (go_at_call 20; refine (fil1_calls _ x r bR _ (by exact (HB.out.cell HBR.out).trans HR.out)).mono ?_; rintro e w1 ⟨rfl, ⟨n1, rfl⟩⟩; rw [H1.out]) | (go_at_call 21; refine (fil2_calls _ x _).mono ?_; rintro e w2 ⟨rfl, ⟨n2, rfl⟩⟩) | (go_at_call 27; refine (wb_calls w.heap.size w.heap.size _ x _ _ rfl (by exact HI.out) (by have := HLN.out; omega) (by exact HB.out.size)).mono ?_; rintro e w7 ⟨rfl, hi, hb⟩; have HI3 := Lib.hid hi; have HB3 := Lib.hid (Below.trans (by repeat (first | exact HB.out | apply pw_below_drewN | apply below_drew)) hb); clear hi hb))
        go_roundw
        case rel => exact ⟨i + 1, by first | exact congrArg (Value.int .i64) HW.out | (simp only [HW.out]; done) | go_num, Lib.hid (by omega), Lib.hid (by have h := HI3.out; rw [pre, HC.out, show gfil r i x = [x] by unfold gfil; simp only [H1.out, Bool.false_eq_true, if_false]]; simpa using h), HB3⟩
        case measure => exact meas HW.out c
      · have H1 := Lib.hid h1
        clear h1
        go_wp2_with (first | (go_at_call 20; refine (fil1_calls _ x r bR _ (by exact (HB.out.cell HBR.out).trans HR.out)).mono ?_; rintro e w1 ⟨rfl, ⟨n1, rfl⟩⟩; rw [H1.out]) | (go_at_call 23; refine (ws_calls w.heap.size w.heap.size _ (two2 x) _ (by exact HI2.out) (by rw [List.length_append, two_len]; have := HLN.out; simp only [List.length_singleton]; omega) (by exact HB2.out.size)).mono ?_; rintro e w7 ⟨rfl, hi, hb⟩; have HI3 := Lib.hid hi; have HB3 := Lib.hid (HB2.out.trans hb); clear hb hi) | (go_at_call 24; refine (two_calls x _ _ rfl).mono ?_; rintro e w6 ⟨rfl, hb⟩; have HB2 := Lib.hid (below_step (by exact HB1.out) hb); have HI2 := Lib.hid (isb_below (by exact HI1.out) hb); clear hb) | (go_at_call 27; refine (wb_calls w.heap.size w.heap.size _ 92 _ _ rfl (by exact HI.out) (by have := HLN.out; omega) (by exact HB.out.size)).mono ?_; rintro e w5 ⟨rfl, hi, hb⟩; have HI1 := Lib.hid hi; have HB1 := Lib.hid (Below.trans (by repeat (first | exact HB.out | apply pw_below_drewN | apply below_drew)) hb); clear hi hb))
        go_roundw
        case rel => exact ⟨i + 1, by first | exact congrArg (Value.int .i64) HW.out | (simp only [HW.out]; done) | go_num, Lib.hid (by omega), Lib.hid (by have h := HI3.out; rw [pre, HC.out, show gfil r i x = 92 :: two2 x by unfold gfil; simp only [H1.out, if_true]]; simpa using h), HB3⟩
        case measure => exact meas HW.out c
    · have c1 : decide ((i : Int) < (S.size : Int)) = false := by rw [HZ.out, decide_eq_false_iff_not]; omega
      have hi : i = l.length := by have := HN.out; omega
      subst hi
      have p3 : ¬ (l.length < S.size) := by rw [HZ.out]; omega
      have p4 : decide (l.length < S.size) = false := decide_eq_false p3
      go_wp2_with (go_at_call 25; refine (str_calls w.heap.size w.heap.size _ _ (by exact HI.out) HB.out.size).mono ?_; rintro e w3 ⟨rfl, hb⟩; have HB3 := Lib.hid (HB.out.trans hb); clear hb)
      go_ret
      exact ⟨rfl, HB3.out⟩
end Go.Proofs.YtmhjplbloeamiaaDoor.H
