/- What log.Open answers: contracts. Condition: a disk that was made, that any number of calls may write. What log.Open answers where the end is torn: a contract. Condition: a disk that was made, that any number of calls may write. What log.Write, Force and Records answer: contracts. Condition: a disk that was made, that any number of calls may write. What log.Force and Records answer: contracts. Condition: a disk that was made, that any number of calls may write. What same answers of rows that are alike: a contract. How much a crash keeps; what is scanned of torn bytes. Plain Lean. What log.Open answers of frames and a torn end: a contract. -/
import Derived.Test.YtkckmikpmjecdaaCutC
import Derived.Test.YtkckmikpmjecdaaBackP
import Derived.Test.YtkckmikpmjecdaaWApart
namespace Go.Proofs.Ytkckmikpmjecdaa.H
open Go.RowKit Go.Proofs.YtkckmikpmjecdaaW.PrintWords Go.Proofs.YtkckmikpmjecdaaW.PrintLast Go.Proofs.YtkckmikpmjecdaaW.PrintMore
set_option linter.unusedVariables false
set_option linter.unusedSimpArgs false
/-- A disk in memory: its bytes, and how many are flushed. -/
def Dq (w : World) (B p : Nat) (xs : List Int) (s : Nat) : Prop := ∃ A c, Dk w p (.slice A xs.length c) s ∧ Br w B (.slice A xs.length c) xs
theorem Dq.below {w w' : World} {B p : Nat} {xs : List Int} {s : Nat} (h : Dq w B p xs s) (hb : Below w.heap.size w w') : Dq w' B p xs s := by
  obtain ⟨A, c, h1, h2⟩ := h
  exact ⟨A, c, blk_below h1 hb, h2.below hb⟩
theorem Dq.lt {w : World} {B p : Nat} {xs : List Int} {s : Nat} (h : Dq w B p xs s) : p < w.heap.size := by
  obtain ⟨A, c, h1, h2⟩ := h
  exact blk_lt h1
/-- A log over a disk. -/
def Lg (w : World) (q p : Nat) : Prop := w.heap[q]? = some (.cells #[.pointer (some ⟨p, 0, none⟩)] 34 (0, 0))
abbrev KL : Kd (List Int) := Kd.slice 5 (Kd.int .u8)
set_option maxHeartbeats 1000000 in
theorem open_whole (w0 : World) (p : Nat) (xs : List Int) (s : Nat) (rows : List (List Int)) (u : Nat) (w : World) (h : Dq w w0.heap.size p xs s) (hp : w0.heap.size ≤ p) (hB : Below w0.heap.size w0 w) (hb : okb xs = true) (hx : xs.length ≤ 100000)
    (hsc : scan xs = (rows, u, 0)) :
    Calls Try.prog 19 #[.pointer (some ⟨p, 0, none⟩)] w fun e w' => ∃ q v, e = .returned (.tuple #[.pointer (some ⟨q, 0, none⟩), v, .int .i64 0]) ∧ w.heap.size ≤ q ∧ Lg w' q p ∧ Dq w' w0.heap.size p xs s ∧ Kd.S KL 22 w' w.heap.size (fun _ => True) v rows ∧ Below w0.heap.size w0 w' ∧ Below w.heap.size w w' := by
  obtain ⟨A, c, hD, hR⟩ := h
  obtain ⟨_, _, e, hc, hC⟩ := hR.reads (by omega)
  injection e with eA _ ec
  subst eA ec
  have HD := Lib.hid hD
  have HR := Lib.hid hR
  have HC := Lib.hid hC
  have HB := Lib.hid hB
  have HP := Lib.hid hp
  have HO := Lib.hid hb
  have HX := Lib.hid hx
  have HS := Lib.hid hsc
  have HW := Lib.hid hB.size
  clear hD hR hC hB hp hb hx hsc hc
  go_enter Try.func19, Try.ntmps19
  go_wp2_with (first
    | (go_at_call 34; refine (cut_bad_calls p _ s (-1) _ HD.out (by decide)).mono ?_; rintro e w1 ⟨rfl, hb⟩; have HD1 := Lib.hid (show Dk w1 p _ s from blk_below HD.out hb); have HC1 := Lib.hid (Kd.C_below HC.out hb); have HB1 := Lib.hid hb; clear hb)
    | (go_at_call 14; refine (bytes_calls p A xs.length c s xs _ HD1.out HC1.out HX.out).mono ?_; rintro e w2 ⟨v2, rfl, hr, hb⟩; obtain ⟨A2, c2, e2, hl2, hC2⟩ := Kd.R_reads hr; subst e2; have HC2 := Lib.hid hC2; have HL2 := Lib.hid hl2; have HB2 := Lib.hid (below_then HB1.out HB1.out.size hb); clear hr hb hl2 hC2)
    | (go_at_call 36; refine (scan_calls A2 c2 xs _ HC2.out HL2.out HO.out (by have := HX.out; omega)).mono ?_; rintro e w3 ⟨v3, rfl, hs, hb⟩; rw [HS.out] at hs ⊢; have HS3 := Lib.hid hs; have HB3 := Lib.hid (below_then HB2.out HB2.out.size hb); have HW2 := Lib.hid HB2.out.size; clear hs hb)
    | ((with_reducible refine gate_dst (N := 28) rfl ?_); refine box_event ?hg28 (N := 28) ?hd28 (cs := #[.pointer (some ⟨p, 0, none⟩)]) (t := 34) ?hr28 ?_; (case hd28 => rfl); (case hg28 => rfl); (case hr28 => first | (go_simp; done) | (go_simp; rfl)); intro q hq w4 hbox hb; have HQ4 := Lib.hid (show w.heap.size ≤ q by (have := HB3.out.size; omega)); have HL4 := Lib.hid (show Lg w4 q p from hbox); have HB4 := Lib.hid (below_then HB3.out HB3.out.size hb); have HS4 := Lib.hid (Kd.S_below HS3.out hb); clear hbox hb hq))
  exact bodyPost_ret (v := .tuple #[.pointer (some ⟨q, 0, none⟩), v3, .int .i64 0]) (by simp [results, Try.results19, go_sem]) rfl ⟨q, v3, rfl, HQ4.out, HL4.out, ⟨A, c, blk_below HD.out HB4.out, HR.out.below HB4.out⟩, Kd.S_lower HS4.out HW2.out, below_then HB.out HB.out.size HB4.out, HB4.out⟩
end Go.Proofs.Ytkckmikpmjecdaa.H
namespace Go.Proofs.Ytkckmikpmjecdaa.H
open Go.RowKit Go.Proofs.YtkckmikpmjecdaaW.PrintWords Go.Proofs.YtkckmikpmjecdaaW.PrintLast Go.Proofs.YtkckmikpmjecdaaW.PrintMore
set_option linter.unusedVariables false
set_option linter.unusedSimpArgs false
set_option maxHeartbeats 1000000 in
theorem open_torn (w0 : World) (p : Nat) (xs : List Int) (s : Nat) (rows : List (List Int)) (u : Nat) (w : World) (h : Dq w w0.heap.size p xs s) (hp : w0.heap.size ≤ p) (hB : Below w0.heap.size w0 w) (hb : okb xs = true) (hx : xs.length ≤ 100000)
    (hsc : scan xs = (rows, u, 10)) (hu : u ≤ xs.length) :
    Calls Try.prog 19 #[.pointer (some ⟨p, 0, none⟩)] w fun e w' => ∃ q v, e = .returned (.tuple #[.pointer (some ⟨q, 0, none⟩), v, .int .i64 0]) ∧ w.heap.size ≤ q ∧ Lg w' q p ∧ Dq w' w0.heap.size p (xs.take u) u ∧ Kd.S KL 22 w' w.heap.size (fun _ => True) v rows ∧ Below w0.heap.size w0 w' ∧ KeepBut w w' p none := by
  have hpl := h.lt
  obtain ⟨A, c, hD, hR⟩ := h
  obtain ⟨_, _, e, hc, hC⟩ := hR.reads (by omega)
  injection e with eA _ ec
  subst eA ec
  have HD := Lib.hid hD
  have HR := Lib.hid hR
  have HC := Lib.hid hC
  have HB := Lib.hid hB
  have HP := Lib.hid hp
  have HO := Lib.hid hb
  have HX := Lib.hid hx
  have HS := Lib.hid hsc
  have HU := Lib.hid hu
  have HPL := Lib.hid hpl
  have HW := Lib.hid hB.size
  clear hD hR hC hB hp hb hx hsc hc hu hpl
  go_enter Try.func19, Try.ntmps19
  go_wp2_with (first
    | (go_at_call 34; refine (cut_ok_calls w0 p u A xs.length c s xs _ (show Dk w3 p _ s from blk_below HD.out HB3.out) (HR.out.below HB3.out) HP.out (below_then HB.out HB.out.size HB3.out) HU.out HX.out).mono ?_; rintro e w5 ⟨rfl, hd, hr, hb, hk⟩; have HD5 := Lib.hid hd; have HR5 := Lib.hid hr; have HB5 := Lib.hid hb; have HK5 := Lib.hid ((KeepBut.of_below HB3.out p none).trans hk (.inl rfl)); have HS5 := Lib.hid (Kd.S_keep (Kd.S_mono (Kd.S_bound HS3.out) (fun k hk => hk)) hk (fun k hk => by have := hk.2.1; have := HPL.out; omega)); clear hd hr hb hk)
    | (go_at_call 34; refine (cut_bad_calls p _ s (-1) _ HD.out (by decide)).mono ?_; rintro e w1 ⟨rfl, hb⟩; have HD1 := Lib.hid (show Dk w1 p _ s from blk_below HD.out hb); have HC1 := Lib.hid (Kd.C_below HC.out hb); have HB1 := Lib.hid hb; clear hb)
    | (go_at_call 14; refine (bytes_calls p A xs.length c s xs _ HD1.out HC1.out HX.out).mono ?_; rintro e w2 ⟨v2, rfl, hr, hb⟩; obtain ⟨A2, c2, e2, hl2, hC2⟩ := Kd.R_reads hr; subst e2; have HC2 := Lib.hid hC2; have HL2 := Lib.hid hl2; have HB2 := Lib.hid (below_then HB1.out HB1.out.size hb); clear hr hb hl2 hC2)
    | (go_at_call 36; refine (scan_calls A2 c2 xs _ HC2.out HL2.out HO.out (by have := HX.out; omega)).mono ?_; rintro e w3 ⟨v3, rfl, hs, hb⟩; rw [HS.out] at hs ⊢; have HW2 := Lib.hid HB2.out.size; have HS3 := Lib.hid (Kd.S_lower hs HW2.out); have HB3 := Lib.hid (below_then HB2.out HB2.out.size hb); clear hs hb)
    | ((with_reducible refine gate_dst (N := 28) rfl ?_); refine box_event ?hg28 (N := 28) ?hd28 (cs := #[.pointer (some ⟨p, 0, none⟩)]) (t := 34) ?hr28 ?_; (case hd28 => rfl); (case hg28 => rfl); (case hr28 => first | (go_simp; done) | (go_simp; rfl)); intro q hq w4 hbox hb; have HQ4 := Lib.hid (show w.heap.size ≤ q by (have := HK5.out.1; omega)); have HL4 := Lib.hid (show Lg w4 q p from hbox); have HB4 := Lib.hid (below_then HB5.out HB5.out.size hb); have HK4 := Lib.hid (HK5.out.trans (KeepBut.of_below hb p none) (.inl rfl)); have HD4 := Lib.hid (show Dk w4 p _ _ from blk_below HD5.out hb); have HR4 := Lib.hid (HR5.out.below hb); have HS4 := Lib.hid (Kd.S_mono (Kd.S_below HS5.out hb) (fun _ _ => trivial)); clear hbox hb hq))
  have hul : (xs.take u).length = u := by rw [List.length_take]; have := HU.out; omega
  exact bodyPost_ret (v := .tuple #[.pointer (some ⟨q, 0, none⟩), v3, .int .i64 0]) (by simp [results, Try.results19, go_sem]) rfl ⟨q, v3, rfl, HQ4.out, HL4.out, ⟨A, u, by rw [hul]; exact HD4.out, by rw [hul]; exact HR4.out⟩, HS4.out, HB4.out, HK4.out⟩
end Go.Proofs.Ytkckmikpmjecdaa.H
namespace Go.Proofs.Ytkckmikpmjecdaa.H
open Go.RowKit Go.Proofs.YtkckmikpmjecdaaW.PrintWords Go.Proofs.YtkckmikpmjecdaaW.PrintLast Go.Proofs.YtkckmikpmjecdaaW.PrintMore
set_option linter.unusedVariables false
set_option linter.unusedSimpArgs false
theorem Br.typed {w : World} {B : Nat} {v : Value} {xs : List Int} (h : Br w B v xs) : ∀ k, v.ownBlock = some k → ∃ cells, w.heap[k]? = some (.cells cells 5 (0, 0)) := by
  rcases h with h | ⟨g, cur, rfl, hb, hh, hs, ht⟩
  · exact Kd.R_typed h
  · intro k hk
    have : g = k := by simpa [Value.ownBlock] using hk
    subst this
    exact ⟨cur, hh⟩
/-- What else stays behind a call that writes to a disk: all but the disk and its row of bytes. -/
def Stays (w w' : World) (p : Nat) : Prop := ∃ row, KeepBut w w' p row ∧ ∀ k, row = some k → ∃ cells, w.heap[k]? = some (.cells cells 5 (0, 0))
theorem Stays.blk {w w' : World} {p : Nat} (h : Stays w w' p) {g t : Nat} {cs : Array Value} (hb : w.heap[g]? = some (.cells cs t (0, 0))) (hg : g ≠ p) (ht : t ≠ 5) : w'.heap[g]? = some (.cells cs t (0, 0)) := by
  obtain ⟨row, hk, hr⟩ := h
  refine hk.blk hb hg (fun e => ?_)
  obtain ⟨cells, hc⟩ := hr g e.symm
  rw [hb] at hc
  injection hc with hc
  injection hc with _ hc
  exact ht hc
set_option maxHeartbeats 1000000 in
theorem write_calls (w0 : World) (p q : Nat) (xs ys : List Int) (s : Nat) (D : Option Addr) (k : Nat) (w : World) (h : Dq w w0.heap.size p xs s) (hL : Lg w q p) (hp : w0.heap.size ≤ p) (hB : Below w0.heap.size w0 w)
    (hY : Kd.C (Kd.int .u8) w D ys.length ys) (hk : ys.length ≤ k) (hb : okb ys = true) (hy : ys.length ≤ 300) (hx : xs.length ≤ 90000) :
    Calls Try.prog 16 #[.pointer (some ⟨q, 0, none⟩), .slice D ys.length k] w fun e w' => e = .returned (.int .i64 0) ∧ Dq w' w0.heap.size p (xs ++ sealed ys) s ∧ Lg w' q p ∧ Below w0.heap.size w0 w' ∧ Stays w w' p := by
  have hqp : q ≠ p := by
    obtain ⟨A, c, hD, _⟩ := h
    exact blk_ne hL hD (by decide)
  obtain ⟨A, c, hD, hR⟩ := h
  have hl0 := (blk_cell hL 0).trans (show (#[.pointer (some ⟨p, 0, none⟩)] : Array Value)[0]? = some (.pointer (some ⟨p, 0, none⟩)) from rfl)
  have HD := Lib.hid hD
  have HR := Lib.hid hR
  have HL := Lib.hid hL
  have HB := Lib.hid hB
  have HP := Lib.hid hp
  have HY := Lib.hid hY
  have HO := Lib.hid hb
  have HX := Lib.hid hx
  have HK := Lib.hid hk
  have HQ := Lib.hid hqp
  have HYL := Lib.hid hy
  have hsl : (sealed ys).length = ys.length + 8 := by unfold sealed; simp [hdr, tail4] <;> omega
  have HSL := Lib.hid hsl
  clear hD hR hL hB hp hY hb hx hk hqp hy hsl
  go_enter Try.func16, Try.ntmps16
  go_wp2_with (first
    | (go_at_call 34; refine (cut_bad_calls p _ s (-1) _ HD.out (by decide)).mono ?_; rintro e w1 ⟨rfl, hb⟩; have HD1 := Lib.hid (show Dk w1 p _ s from blk_below HD.out hb); have HY1 := Lib.hid (Kd.C_below HY.out hb); have HB1 := Lib.hid hb; clear hb)
    | (go_at_call 35; refine (seal_calls D k ys _ HY1.out HK.out HO.out (by have := HYL.out; omega)).mono ?_; rintro e w2 ⟨v2, rfl, hr, hb⟩; obtain ⟨A2, c2, e2, hl2, hC2⟩ := Kd.R_reads hr; subst e2; have HC2 := Lib.hid hC2; have HB2 := Lib.hid (below_then HB1.out HB1.out.size hb); have l2 := (blk_cell (blk_below HL.out HB2.out) 0).trans (show (#[.pointer (some ⟨p, 0, none⟩)] : Array Value)[0]? = some (.pointer (some ⟨p, 0, none⟩)) from rfl); clear hr hb hl2 hC2)
    | (go_at_call 9; refine (append_calls w0 p A A2 xs.length c (sealed ys).length c2 s xs (sealed ys) _ (show Dk w2 p _ s from blk_below HD.out HB2.out) (HR.out.below HB2.out) HP.out (below_then HB.out HB.out.size HB2.out) HC2.out (by have := HSL.out; have := HX.out; have := HYL.out; omega)).mono ?_; rintro e w3 ⟨rfl, A3, c3, hd, hr, hb, hk⟩; have HD3 := Lib.hid hd; have HR3 := Lib.hid hr; have HB3 := Lib.hid hb; have HK3 := Lib.hid ((KeepBut.of_below HB2.out p (Value.slice A xs.length c).ownBlock).trans hk (.inl rfl)); clear hd hr hb hk))
  go_ret
  have HST : Stays w _ p := ⟨_, HK3.out, HR.out.typed⟩
  exact ⟨rfl, ⟨A3, c3, HD3.out, HR3.out⟩, HST.blk HL.out HQ.out (by decide), HB3.out, HST⟩
end Go.Proofs.Ytkckmikpmjecdaa.H
namespace Go.Proofs.Ytkckmikpmjecdaa.H
open Go.RowKit Go.Proofs.YtkckmikpmjecdaaW.PrintWords Go.Proofs.YtkckmikpmjecdaaW.PrintLast Go.Proofs.YtkckmikpmjecdaaW.PrintMore
set_option linter.unusedVariables false
set_option linter.unusedSimpArgs false
theorem Stays.then {w w1 w2 : World} {p : Nat} (h : Stays w w1 p) (k : KeepBut w1 w2 p none) : Stays w w2 p := by
  obtain ⟨row, hk, hr⟩ := h
  exact ⟨row, hk.trans ⟨k.1, fun i hi hg _ => k.2 i hi hg (by simp)⟩ (.inl rfl), hr⟩
set_option maxHeartbeats 1000000 in
theorem force_calls (w0 : World) (p q : Nat) (xs ys : List Int) (s : Nat) (D : Option Addr) (k : Nat) (w : World) (h : Dq w w0.heap.size p xs s) (hL : Lg w q p) (hp : w0.heap.size ≤ p) (hB : Below w0.heap.size w0 w)
    (hY : Kd.C (Kd.int .u8) w D ys.length ys) (hk : ys.length ≤ k) (hb : okb ys = true) (hy : ys.length ≤ 300) (hx : xs.length ≤ 90000) :
    Calls Try.prog 17 #[.pointer (some ⟨q, 0, none⟩), .slice D ys.length k] w fun e w' => e = .returned (.int .i64 0) ∧ Dq w' w0.heap.size p (xs ++ sealed ys) (xs ++ sealed ys).length ∧ Lg w' q p ∧ Below w0.heap.size w0 w' ∧ Stays w w' p := by
  have H := Lib.hid h
  have HL := Lib.hid hL
  have HP := Lib.hid hp
  have HB := Lib.hid hB
  have HY := Lib.hid hY
  have HK := Lib.hid hk
  have HO := Lib.hid hb
  have HYL := Lib.hid hy
  have HX := Lib.hid hx
  clear h hL hp hB hY hk hb hy hx
  go_enter Try.func17, Try.ntmps17
  go_wp2_with (first
    | (go_at_call 16; refine (write_calls w0 p q xs ys s D k _ H.out HL.out HP.out HB.out HY.out HK.out HO.out HYL.out HX.out).mono ?_; rintro e w1 ⟨rfl, ⟨A1, c1, hd, hr⟩, hl, hb, hs⟩; have HD1 := Lib.hid hd; have HR1 := Lib.hid hr; have HL1 := Lib.hid hl; have HB1 := Lib.hid hb; have HS1 := Lib.hid hs; have l1 := (blk_cell hl 0).trans (show (#[.pointer (some ⟨p, 0, none⟩)] : Array Value)[0]? = some (.pointer (some ⟨p, 0, none⟩)) from rfl); clear hd hr hl hb hs)
    | (go_at_call 10; refine (sync_calls w0 p A1 (xs ++ sealed ys).length c1 s (xs ++ sealed ys) _ HD1.out HR1.out HP.out HB1.out).mono ?_; rintro e w2 ⟨rfl, hd, hr, hb, hk⟩; have HD2 := Lib.hid hd; have HR2 := Lib.hid hr; have HB2 := Lib.hid hb; have HK2 := Lib.hid hk; clear hd hr hb hk))
  go_ret
  exact ⟨rfl, ⟨A1, c1, HD2.out, HR2.out⟩, HK2.out.blk HL1.out (blk_ne HL1.out HD1.out (by decide)) (by simp), HB2.out, HS1.out.then HK2.out⟩
set_option maxHeartbeats 1000000 in
theorem records_calls (B : Nat) (p q : Nat) (xs : List Int) (s : Nat) (w : World) (h : Dq w B p xs s) (hL : Lg w q p) (hb : okb xs = true) (hx : xs.length ≤ 100000) :
    Calls Try.prog 18 #[.pointer (some ⟨q, 0, none⟩)] w fun e w' => ∃ v, e = .returned v ∧ Kd.S KL 22 w' w.heap.size (fun _ => True) v (scan xs).1 ∧ Below w.heap.size w w' := by
  obtain ⟨A, c, hD, hR⟩ := h
  obtain ⟨_, _, e, hc, hC⟩ := hR.reads (by omega)
  injection e with eA _ ec
  subst eA ec
  have HD := Lib.hid hD
  have HC := Lib.hid hC
  have HO := Lib.hid hb
  have HX := Lib.hid hx
  have l0 := (blk_cell hL 0).trans (show (#[.pointer (some ⟨p, 0, none⟩)] : Array Value)[0]? = some (.pointer (some ⟨p, 0, none⟩)) from rfl)
  clear hD hR hC hb hx hc hL
  go_enter Try.func18, Try.ntmps18
  go_wp2_with (first
    | (go_at_call 14; refine (bytes_calls p A xs.length c s xs _ HD.out HC.out HX.out).mono ?_; rintro e w2 ⟨v2, rfl, hr, hb⟩; obtain ⟨A2, c2, e2, hl2, hC2⟩ := Kd.R_reads hr; subst e2; have HC2 := Lib.hid hC2; have HL2 := Lib.hid hl2; have HB2 := Lib.hid hb; clear hr hb hl2 hC2)
    | (go_at_call 36; refine (scan_calls A2 c2 xs _ HC2.out HL2.out HO.out (by have := HX.out; omega)).mono ?_; rintro e w3 ⟨v3, rfl, hs, hb⟩; have HS3 := Lib.hid (Kd.S_lower hs HB2.out.size); have HB3 := Lib.hid (below_then HB2.out HB2.out.size hb); clear hs hb))
  go_ret
  exact ⟨v3, rfl, HS3.out, HB3.out⟩
end Go.Proofs.Ytkckmikpmjecdaa.H
namespace Go.Proofs.Ytkckmikpmjecdaa.H
open Go.RowKit Go.Proofs.YtkckmikpmjecdaaW.PrintWords Go.Proofs.YtkckmikpmjecdaaW.PrintLast Go.Proofs.YtkckmikpmjecdaaW.PrintMore
set_option linter.unusedVariables false
set_option linter.unusedSimpArgs false
theorem row_at {w : World} {A : Option Addr} {l : List (List Int)} (h : Kd.C KL w A l.length l) (i : Nat) (hi : i < l.length) :
    ∃ ad B d, A = some ad ∧ w.cell? (ad.add i) = some (.slice B (l.getD i []).length d) ∧ Kd.C (Kd.int .u8) w B (l.getD i []).length (l.getD i []) := by
  obtain ⟨ad, c, hA, hl, hK, hc⟩ := Kd.C_get h [] (i : Int) (by omega) (by omega)
  simp only [Int.toNat_natCast] at hK hc
  obtain ⟨B, d, hcs, _, hC⟩ := hK
  subst hcs
  have := hc 0 _ rfl
  rw [show i * KL.sz + 0 = i by show i * 1 + 0 = i; omega] at this
  exact ⟨ad, B, d, hA, this, hC⟩
set_option maxHeartbeats 1000000 in
theorem same_calls (A0 A1 : Option Addr) (c0 c1 : Nat) (l : List (List Int)) (w : World) (h0 : Kd.C KL w A0 l.length l) (hc0 : l.length ≤ c0) (h1 : Kd.C KL w A1 l.length l) (hc1 : l.length ≤ c1) (hl : l.length ≤ 1000000) :
    Calls Try.prog 20 #[.slice A0 l.length c0, .slice A1 l.length c1] w fun e w' => e = .returned (.bool true) ∧ Below w.heap.size w w' := by
  have H0 := Lib.hid h0
  have H1 := Lib.hid h1
  have HL := Lib.hid hl
  clear h0 h1 hc0 hc1 hl
  have t0 : ((l.length : Int) != (l.length : Int)) = false := by simp
  go_enter Try.func20, Try.ntmps20
  go_wp2_with fail
  go_loopw [5] (fun i wr => ∃ k : Nat, k ≤ l.length ∧ i = .int .i64 k ∧ Hid (Below w.heap.size w wr)) (fun i _ => l.length - (intOf i).toNat)
  case atStart => exact ⟨0, Nat.zero_le _, rfl, Lib.hid (Below.refl _ _)⟩
  case round =>
    obtain ⟨k, hk, rfl, HB⟩ := hrel
    by_cases hlt : k < l.length
    · obtain ⟨a0, B0, d0, hA0, e0, hC0⟩ := row_at (Kd.C_below H0.out HB.out) k hlt
      obtain ⟨a1, B1, d1, hA1, e1, hC1⟩ := row_at (Kd.C_below H1.out HB.out) k hlt
      subst hA0 hA1
      generalize l.getD k [] = x at e0 hC0 e1 hC1
      have cv0 := Kd.C_string (P := Try.prog) (c := d0) Try.underlying22 Try.underlying5 Try.underlying9 hC0
      have cv1 := Kd.C_string (P := Try.prog) (c := d1) Try.underlying22 Try.underlying5 Try.underlying9 hC1
      have f1 : ((strOfNums x).toList != (strOfNums x).toList) = false := by simp
      have g0 : decide ((k : Int) < (l.length : Int)) = true := decide_eq_true (by omega)
      have hkb : k < 1000000 := by have := HL.out; omega
      go_wp2_with fail
      refine start_ (n := 11) (S := fun w' => (w'.cell? (a0.add k) = some (.slice B0 x.length d0)) ∧ (w'.cell? (a1.add k) = some (.slice B1 x.length d1)) ∧ (Kd.C (Kd.int .u8) w' B0 x.length x) ∧ (Kd.C (Kd.int .u8) w' B1 x.length x)) (ds := []) #[false, false, false, false, false, false, false, false, false, false, false] (by kernel_rfl) rfl rfl ⟨e0, e1, (Kd.C_drew hC0), (Kd.C_drew hC1)⟩ (fun hHeld => ?_)
      refine pure_ (i := 0) (N := some 17) (v := ?_) (a' := ?_) #[true, false, false, false, false, false, false, false, false, false, false] rfl rfl (by kernel_rfl) (fun _ _ _ h => h) (Or.inl ⟨by rfl, ?_⟩) ?_ ?_
      rotate_left
      · intro w'
        go_simp
        with_reducible rfl
      rotate_left
      · simp only [Act.put, List.setIfInBounds_toArray, List.set_cons_zero, List.set_cons_succ, i64_w, i32_w]
        rfl
      refine pure_ (i := 1) (N := some 18) (v := ?_) (a' := ?_) #[true, true, false, false, false, false, false, false, false, false, false] rfl rfl (by kernel_rfl) (fun _ _ _ h => h) (Or.inl ⟨by rfl, ?_⟩) ?_ ?_
      rotate_left
      · intro w'
        go_simp
        with_reducible rfl
      rotate_left
      · simp only [Act.put, List.setIfInBounds_toArray, List.set_cons_zero, List.set_cons_succ, i64_w, i32_w]
        rfl
      refine pure_ (i := 2) (N := some 19) (v := ?_) (a' := ?_) #[true, true, true, false, false, false, false, false, false, false, false] rfl rfl (by kernel_rfl) (fun _ _ _ h => h) (Or.inl ⟨by rfl, ?_⟩) ?_ ?_
      rotate_left
      · intro w'
        go_simp
        with_reducible rfl
      rotate_left
      · simp only [Act.put, List.setIfInBounds_toArray, List.set_cons_zero, List.set_cons_succ, i64_w, i32_w]
        rfl
      refine pure_ (i := 5) (N := some 22) (v := ?_) (a' := ?_) #[true, true, true, false, false, true, false, false, false, false, false] rfl rfl (by kernel_rfl) (fun _ _ _ h => h) (Or.inl ⟨by rfl, ?_⟩) ?_ ?_
      rotate_left
      · intro w'
        go_simp
        with_reducible rfl
      rotate_left
      · simp only [Act.put, List.setIfInBounds_toArray, List.set_cons_zero, List.set_cons_succ, i64_w, i32_w]
        rfl
      refine pure_ (i := 6) (N := some 23) (v := ?_) (a' := ?_) #[true, true, true, false, false, true, true, false, false, false, false] rfl rfl (by kernel_rfl) (fun _ _ _ h => h) (Or.inl ⟨by rfl, ?_⟩) ?_ ?_
      rotate_left
      · intro w'
        go_simp
        with_reducible rfl
      rotate_left
      · simp only [Act.put, List.setIfInBounds_toArray, List.set_cons_zero, List.set_cons_succ, i64_w, i32_w]
        rfl
      refine pure_ (i := 7) (N := some 24) (v := ?_) (a' := ?_) #[true, true, true, false, false, true, true, true, false, false, false] rfl rfl (by kernel_rfl) (fun _ _ _ h => h) (Or.inl ⟨by rfl, ?_⟩) ?_ ?_
      rotate_left
      · intro w'
        go_simp
        with_reducible rfl
      rotate_left
      · simp only [Act.put, List.setIfInBounds_toArray, List.set_cons_zero, List.set_cons_succ, i64_w, i32_w]
        rfl
      refine take_ (i := 3) (N := some 20) (v := ?_) (a' := ?_) #[true, true, true, true, false, true, true, true, false, false, false] rfl rfl (by kernel_rfl) (fun _ _ _ h => h) (Or.inl ⟨by rfl, ?_⟩) hHeld ?_ ?_
      rotate_left
      · rintro w' ⟨s0, s1, hC0, hC1⟩
        go_simp
        with_reducible rfl
      rotate_left
      · simp only [Act.put, List.setIfInBounds_toArray, List.set_cons_zero, List.set_cons_succ, i64_w, i32_w]
        rfl
      refine take_ (i := 4) (N := some 21) (v := ?_) (a' := ?_) #[true, true, true, true, true, true, true, true, false, false, false] rfl rfl (by kernel_rfl) (fun _ _ _ h => h) (Or.inl ⟨by rfl, ?_⟩) hHeld ?_ ?_
      rotate_left
      · rintro w' ⟨s0, s1, hC0, hC1⟩
        have cv0 := Kd.C_string (P := Try.prog) (c := d0) Try.underlying22 Try.underlying5 Try.underlying9 hC0
        go_simp
        with_reducible rfl
      rotate_left
      · simp only [Act.put, List.setIfInBounds_toArray, List.set_cons_zero, List.set_cons_succ, i64_w, i32_w]
        rfl
      refine take_ (i := 8) (N := some 25) (v := ?_) (a' := ?_) #[true, true, true, true, true, true, true, true, true, false, false] rfl rfl (by kernel_rfl) (fun _ _ _ h => h) (Or.inl ⟨by rfl, ?_⟩) hHeld ?_ ?_
      rotate_left
      · rintro w' ⟨s0, s1, hC0, hC1⟩
        go_simp
        with_reducible rfl
      rotate_left
      · simp only [Act.put, List.setIfInBounds_toArray, List.set_cons_zero, List.set_cons_succ, i64_w, i32_w]
        rfl
      refine take_ (i := 9) (N := some 26) (v := ?_) (a' := ?_) #[true, true, true, true, true, true, true, true, true, true, false] rfl rfl (by kernel_rfl) (fun _ _ _ h => h) (Or.inl ⟨by rfl, ?_⟩) hHeld ?_ ?_
      rotate_left
      · rintro w' ⟨s0, s1, hC0, hC1⟩
        have cv1 := Kd.C_string (P := Try.prog) (c := d1) Try.underlying22 Try.underlying5 Try.underlying9 hC1
        go_simp
        with_reducible rfl
      rotate_left
      · simp only [Act.put, List.setIfInBounds_toArray, List.set_cons_zero, List.set_cons_succ, i64_w, i32_w]
        rfl
      refine pure_ (i := 10) (N := some 27) (v := ?_) (a' := ?_) #[true, true, true, true, true, true, true, true, true, true, true] rfl rfl (by kernel_rfl) (fun _ _ _ h => h) (Or.inl ⟨by rfl, ?_⟩) ?_ ?_
      rotate_left
      · intro w'
        go_simp
        with_reducible rfl
      rotate_left
      · simp only [Act.put, List.setIfInBounds_toArray, List.set_cons_zero, List.set_cons_succ, i64_w, i32_w]
        rfl
      refine done_ (by kernel_rfl) ?_
      go_wp2_with fail
      go_roundw
      case rel => exact ⟨k + 1, by omega, by go_num, Lib.hid (below_drew HB.out)⟩
      case measure => simp [intOf]; omega
    · have g0 : decide ((k : Int) < (l.length : Int)) = false := decide_eq_false (by omega)
      go_wp2_with fail
      go_ret
      exact ⟨rfl, HB.out⟩
end Go.Proofs.Ytkckmikpmjecdaa.H
namespace Go.Proofs.Ytkckmikpmjecdaa.H
open Go.RowKit Go.Proofs.YtkckmikpmjecdaaW.PrintWords Go.Proofs.YtkckmikpmjecdaaW.PrintLast Go.Proofs.YtkckmikpmjecdaaW.PrintMore
set_option linter.unusedVariables false
set_option linter.unusedSimpArgs false
theorem kk_all (s n : Nat) (h : s ≤ n) (hn : n ≤ 100000) : kk (s : Int) ((n : Int) - (s : Int) + 1) (-1) = (n : Int) := by
  unfold kk
  obtain ⟨d, rfl⟩ : ∃ d, n = s + d := ⟨n - s, by omega⟩
  have e : ((s + d : Nat) : Int) - (s : Int) + 1 = ((d + 1 : Nat) : Int) := by omega
  rw [e, Int.neg_tmod]
  rcases Nat.eq_zero_or_pos d with h0 | h0
  · subst h0
    have e1 : (1 : Int).tmod ((0 + 1 : Nat) : Int) = 0 := by decide
    rw [e1]
    have e2 : wrap64 (-0 + ((0 + 1 : Nat) : Int)) = 1 := by unfold wrap64; omega
    rw [e2, show (1 : Int).tmod ((0 + 1 : Nat) : Int) = 0 by decide]
    unfold wrap64
    omega
  · have e1 : (1 : Int).tmod ((d + 1 : Nat) : Int) = 1 := Int.tmod_eq_of_lt (by omega) (by omega)
    rw [e1]
    have e2 : wrap64 (-1 + ((d + 1 : Nat) : Int)) = (d : Int) := by unfold wrap64; omega
    rw [e2, Int.tmod_eq_of_lt (by omega) (by omega)]
    unfold wrap64
    omega
theorem kk_none (s n : Nat) (h : s ≤ n) (hn : n ≤ 100000) : kk (s : Int) ((n : Int) - (s : Int) + 1) 0 = (s : Int) := by
  unfold kk
  obtain ⟨d, rfl⟩ : ∃ d, n = s + d := ⟨n - s, by omega⟩
  have e : ((s + d : Nat) : Int) - (s : Int) + 1 = ((d + 1 : Nat) : Int) := by omega
  rw [e, Int.zero_tmod]
  have e2 : wrap64 (0 + ((d + 1 : Nat) : Int)) = ((d + 1 : Nat) : Int) := by unfold wrap64; omega
  rw [e2, Int.tmod_self]
  unfold wrap64
  omega
theorem opened_torn {t : List Int} (h : t.length ≤ 3) : opened t = ([], 0, 10) := by
  unfold opened
  rw [if_pos (by omega)]
theorem scan_rows {l : List (List Int)} (h : ∀ r ∈ l, okb r = true) (hl : ∀ r ∈ l, r.length ≤ 300) (t : List Int) (ht : t.length ≤ 3) : scan (flat l ++ t) = (l, (flat l).length, if t = [] then 0 else 10) := by
  have := scan_flat (rows := l) (t := t) (fun r hr => ⟨h r hr, by have := hl r hr; omega⟩) (fun _ => by rw [opened_torn ht]; decide)
  rw [opened_torn ht] at this
  exact this
end Go.Proofs.Ytkckmikpmjecdaa.H
namespace Go.Proofs.Ytkckmikpmjecdaa.H
open Go.RowKit Go.Proofs.YtkckmikpmjecdaaW.PrintWords Go.Proofs.YtkckmikpmjecdaaW.PrintLast Go.Proofs.YtkckmikpmjecdaaW.PrintMore
set_option linter.unusedVariables false
set_option linter.unusedSimpArgs false
theorem open_rows (w0 : World) (p : Nat) (l : List (List Int)) (t : List Int) (w : World) (h : Dq w w0.heap.size p (flat l ++ t) (flat l ++ t).length) (hp : w0.heap.size ≤ p) (hB : Below w0.heap.size w0 w) (hb : ∀ r ∈ l, okb r = true) (hbt : okb t = true) (hl : ∀ r ∈ l, r.length ≤ 300) (ht : t.length ≤ 3) (hx : (flat l ++ t).length ≤ 100000) :
    Calls Try.prog 19 #[.pointer (some ⟨p, 0, none⟩)] w fun e w' => ∃ q v, e = .returned (.tuple #[.pointer (some ⟨q, 0, none⟩), v, .int .i64 0]) ∧ w.heap.size ≤ q ∧ Lg w' q p ∧ Dq w' w0.heap.size p (flat l) (flat l).length ∧ Kd.S KL 22 w' w.heap.size (fun _ => True) v l ∧ Below w0.heap.size w0 w' ∧ KeepBut w w' p none := by
  have hok : okb (flat l ++ t) = true := okb_app (flat_okb hb) hbt
  have hs := scan_rows hb hl t ht
  by_cases h0 : t = []
  · subst h0
    rw [if_pos rfl] at hs
    rw [List.append_nil] at h hx hok hs
    refine (open_whole w0 p (flat l) _ l _ w h hp hB hok hx hs).mono ?_
    rintro e w' ⟨q, v, he, hq, hlg, hd, hS, hb1, hb2⟩
    exact ⟨q, v, he, hq, hlg, hd, hS, hb1, KeepBut.of_below hb2 p none⟩
  · rw [if_neg h0] at hs
    refine (open_torn w0 p (flat l ++ t) _ l _ w h hp hB hok hx hs (by rw [List.length_append]; omega)).mono ?_
    rintro e w' ⟨q, v, he, hq, hlg, hd, hS, hb1, hk⟩
    rw [List.take_left] at hd
    exact ⟨q, v, he, hq, hlg, hd, hS, hb1, hk⟩
theorem Dq.len {w : World} {B p : Nat} {xs : List Int} {s : Nat} (h : Dq w B p xs s) : Calls Try.prog 12 #[.pointer (some ⟨p, 0, none⟩)] w fun e w' => e = .returned (.int .i64 xs.length) ∧ w = w' := by
  obtain ⟨A, c, hD, _⟩ := h
  exact len_calls p A xs.length c s w hD
theorem Dq.crash {w0 w : World} {p : Nat} {xs : List Int} {s : Nat} (h : Dq w w0.heap.size p xs s) (hB : Below w0.heap.size w0 w) (hs : s ≤ xs.length) (hx : xs.length ≤ 100000) (x : Int) (k : Nat) (hk : kk s ((xs.length : Int) - s + 1) x = k) :
    Calls Try.prog 13 #[.pointer (some ⟨p, 0, none⟩), .int .i64 x] w fun e w' => ∃ p2, e = .returned (.pointer (some ⟨p2, 0, none⟩)) ∧ w.heap.size ≤ p2 ∧ Dq w' w0.heap.size p2 (xs.take k) k ∧ Below w.heap.size w w' := by
  obtain ⟨A, c, hD, hR⟩ := h
  obtain ⟨_, _, e, hc, hC⟩ := hR.reads (by omega)
  injection e with eA _ ec
  subst eA ec
  have hkr := kk_range (s := (s : Int)) (N := (xs.length : Int) - s + 1) (x := x) (by omega) (by omega) (by omega) (by omega)
  refine (crash_calls p A xs.length c s k x xs w hD hC hc hs hx hk).mono ?_
  rintro e w' ⟨p2, A', c', rfl, hp2, hd, hr, hb⟩
  have hkl : (xs.take k).length = k := by rw [List.length_take]; omega
  exact ⟨p2, rfl, hp2, ⟨A', c', by rw [hkl]; exact hd, by rw [hkl]; exact .inl (Kd.R_lower hr hB.size)⟩, hb⟩
theorem Dq.append {w0 w : World} {p : Nat} {xs ys : List Int} {s : Nat} {D : Option Addr} {k : Nat} (h : Dq w w0.heap.size p xs s) (hp : w0.heap.size ≤ p) (hB : Below w0.heap.size w0 w) (hY : Kd.C (Kd.int .u8) w D ys.length ys) (hx : xs.length + ys.length ≤ 100000) :
    Calls Try.prog 9 #[.pointer (some ⟨p, 0, none⟩), .slice D ys.length k] w fun e w' => e = .returned (.int .i64 0) ∧ Dq w' w0.heap.size p (xs ++ ys) s ∧ Below w0.heap.size w0 w' ∧ Stays w w' p := by
  obtain ⟨A, c, hD, hR⟩ := h
  refine (append_calls w0 p A D xs.length c ys.length k s xs ys w hD hR hp hB hY hx).mono ?_
  rintro e w' ⟨rfl, A', c', hd, hr, hb, hk⟩
  exact ⟨rfl, ⟨A', c', hd, hr⟩, hb, ⟨_, hk, hR.typed⟩⟩
end Go.Proofs.Ytkckmikpmjecdaa.H
