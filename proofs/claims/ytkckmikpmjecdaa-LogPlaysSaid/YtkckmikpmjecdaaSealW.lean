/- What Sum, Clone and Seal answer: contracts. Condition: bytes. -/
import Derived.Test.YtkckmikpmjecdaaSum32
import Derived.Laws.MakeOwn
import Derived.Lib.SliceRun
namespace Go.Proofs.Ytkckmikpmjecdaa.H
open Go.RowKit Go.Proofs.YtkckmikpmjecdaaW.PrintWords Go.Proofs.YtkckmikpmjecdaaW.PrintLast Go.Proofs.YtkckmikpmjecdaaW.PrintMore
set_option linter.unusedVariables false
set_option linter.unusedSimpArgs false
section
variable {P : Program} {ops : Array Oper} {rest : List Oper} {o : Oper} {a : Act} {Q : Exit → Act → World → Prop}
/-- make([]byte, 0, n). -/
theorem make_cap {W : World} (hgd : o.guard = none) {N : Tmp} (hd : o.dst = some N) (t e : TypeId) (x y : Operand) (ho : o.op = .makeSlice t x y) (n : Int) (hx : a.eval x = .int .i64 0) (hy : a.eval y = .int .i64 n) (ht : P.underlying t = some (.slice e))
    (hinfo : (P.info? e).map (fun i => (i.zero, i.size, i.bytes)) = some (some (.int .u8 0), 1, 1)) (h0 : 0 ≤ n) (hn : n ≤ 281474976710656)
    (h : ∀ v1 w1, Kd.R (Kd.int .u8) e w1 W.heap.size (fun _ => True) v1 [] → Below W.heap.size W w1 → wpList P ops Q rest (a.put o.dst v1) w1) : wpList P ops Q (o :: rest) a W := by
  obtain ⟨m, rfl⟩ := Int.eq_ofNat_of_zero_le h0
  obtain ⟨i0, hi, hzz⟩ := Option.map_eq_some_iff.1 hinfo
  simp only [Prod.mk.injEq] at hzz
  obtain ⟨hz0, hz1, hz2⟩ := hzz
  have hr := run_make (P := P) W t e i0 _ ht hi hz0 .i64 .i64 0 (m : Int) (by omega) (by omega) (by rw [hz2]; omega) (by omega)
  simp only [Int.toNat_natCast, Int.toNat_zero] at hr
  have hown := World.ownsRow_made (base := W.heap.size) (e := e) (size := 1) W (madeCells (Value.int .u8 0).cells (m * i0.size)) m (Nat.le_refl _) (by unfold maxLen; omega) (by rw [size_madeCells, hz1])
  refine Kd.event_run hgd (v := .slice (some ⟨W.heap.size, 0, none⟩) 0 m) (w1 := W.alloc (.cells (madeCells (Value.int .u8 0).cells (m * i0.size)) e)) ?_ (h _ _ ⟨fun _ _ => trivial, [], hown, Reps.none _ _⟩ (below_alloc (Below.refl _ _) _))
  simp [execOp, ho, hx, hy, hr]
end
theorem sum_calls (A : Option Addr) (c : Nat) (l : List Int) (w : World) (hr : Kd.C (Kd.int .u8) w A l.length l) (hc : l.length ≤ c) (hb : okb l = true) :
    Calls Try.prog 43 #[.slice A l.length c] w fun e w' => e = .returned (.int .u32 (more 0 l)) ∧ Below w.heap.size w w' := by
  have HR := Lib.hid hr
  have HB := Lib.hid hb
  clear hr hb
  go_enter Try.func43, Try.ntmps43
  go_wp2_with (go_at_call 47; refine (frame_More.calls 0 A c l (more 0 l) _ HR.out hc (sum_some HB.out)).mono ?_; rintro e w1 ⟨rfl, hb⟩)
  go_ret
  exact ⟨rfl, hb⟩
theorem c_none {n : Nat} {l : List Int} {w : World} (h : Kd.C (Kd.int .u8) w none n l) : n = 0 ∧ l = [] := by
  have h1 := h.1
  have h2 := h.2.2
  rcases Nat.eq_zero_or_pos n with e | e
  · subst e
    exact ⟨rfl, List.length_eq_zero_iff.1 (by omega)⟩
  · obtain ⟨ad, e2, _⟩ := h2 e
    cases e2

set_option maxHeartbeats 1000000 in
theorem clone_calls (A : Option Addr) (c : Nat) (l : List Int) (w : World) (hr : Kd.C (Kd.int .u8) w A l.length l) (hc : l.length ≤ c) (hl : l.length ≤ 1000000000) :
    Calls Try.prog 48 #[.slice A l.length c] w fun e w' => ∃ v, e = .returned v ∧ Kd.R (Kd.int .u8) 5 w' w.heap.size (fun _ => True) v l ∧ Below w.heap.size w w' := by
  have q22 : ∀ (w : World) (a : Option Addr) (n c n' c' : Nat), (binOp .eql 22 (.slice a n c) (.slice none n' c')).run Try.prog w = .ok (.bool a.isNone) w := fun w a n c n' c' => Lib.run_eql_slice_nil w _ _ a n c n' c' Try.underlying22
  cases A with
  | none =>
    obtain ⟨h1, h2⟩ := c_none hr
    subst h2
    go_enter Try.func48, Try.ntmps48
    go_wp2_with fail
    go_ret
    exact ⟨_, rfl, Kd.R_nil _ _ _ _ _, Below.refl _ _⟩
  | some ad =>
    have HR := Lib.hid hr
    clear hr
    go_enter Try.func48, Try.ntmps48
    go_wp2_with (first | ((with_reducible refine gate_dst (N := 5) rfl ?_); refine Kd.R_lit (Kd.int .u8) (w0 := w) w.heap.size 5 ?hg5 (N := 5) ?hd5 (xs := ([] : List Int)) (inner := []) (ok := fun _ => True) (okp := fun _ => True) ?hr5 ?hp5 (fun _ hk => hk) trivial (Below.refl _ _) (Nat.le_refl _) (by simp) ?_; (case hd5 => rfl); (case hg5 => rfl); (case hr5 => first | (go_simp; done) | (go_simp; rfl)); (case hp5 => exact (Reps.none _ _)); intro v5 w5 ho hb hg hnew; clear hg hnew; have Pv5 := Lib.hid ho; have Hv5 := Lib.hid hb; clear ho hb) | ((with_reducible refine gate_builtin (b := .append) (xs := #[.tmp 5, .tmp 6]) rfl ?_); at_builtin; refine Kd.R_append_rows (Kd.int .u8) (w0 := w) w.heap.size rfl (.tmp 5) (.tmp 6) 22 5 (.int .u8 0) 1 rfl Try.underlying22 info5 rfl (by decide) (by omega) v5 [] l (some ad) l.length c (fun _ => True) (fun _ => False) rfl rfl Pv5.out (Kd.C_below HR.out Hv5.out) (fun _ _ h => h) (fun _ h => h.elim) (fun _ _ => trivial) Hv5.out Hv5.out.size (by simp; omega) ?_; intro v7 w7 ho hb hg hat; clear hg hat; skip; have Pv7 := Lib.hid ho; have Hv7 := Lib.hid hb; clear ho hb Pv5 Hv5))
    go_ret
    refine ⟨_, rfl, ?_, Hv7.out⟩
    have h := Pv7.out
    rwa [List.nil_append] at h
/-- A frame's first four bytes. -/
def hdr (n : Int) : List Int := [n / 16777216 % 256, n / 65536 % 256, n / 256 % 256, n % 256]
/-- The last four. -/
def tail4 (s : Int) : List Int := [s % 256, s / 256 % 256, s / 65536 % 256, s / 16777216 % 256]
def sealed (l : List Int) : List Int := hdr l.length ++ l ++ tail4 (more 0 (hdr l.length ++ l))
theorem hdr_okb (n : Int) : okb (hdr n) = true := by
  simp [okb, hdr]
  omega
theorem tail_okb (n : Int) : okb (tail4 n) = true := by
  simp [okb, tail4]
  omega
theorem okb_app {a b : List Int} (ha : okb a = true) (hb : okb b = true) : okb (a ++ b) = true := okb_append ha hb
set_option maxHeartbeats 1000000 in
theorem seal_big (A : Option Addr) (c : Nat) (l : List Int) (w : World) (hl : 65536 < l.length) :
    Calls Try.prog 35 #[.slice A l.length c] w fun e w' => e = .returned (.tuple #[.slice none 0 0, .int .i64 3]) ∧ w' = w := by
  have t1 : decide ((65536 : Int) < (l.length : Int)) = true := by simp; omega
  go_enter Try.func35, Try.ntmps35
  go_wp2
  exact bodyPost_ret (v := .tuple #[.slice none 0 0, .int .i64 3]) (by simp [results, Try.results35, go_sem]) rfl ⟨rfl, rfl⟩

theorem hdr_take (n : Int) (k : Nat) (h : k < 4) : (hdr n).take (k + 1) = (hdr n).take k ++ [(hdr n).getD k 0] := by
  rcases (by omega : k = 0 ∨ k = 1 ∨ k = 2 ∨ k = 3) with rfl | rfl | rfl | rfl <;> rfl
theorem tail_take (n : Int) (k : Nat) (h : k < 4) : (tail4 n).take (k + 1) = (tail4 n).take k ++ [(tail4 n).getD k 0] := by
  rcases (by omega : k = 0 ∨ k = 1 ∨ k = 2 ∨ k = 3) with rfl | rfl | rfl | rfl <;> rfl
theorem cast_len {P : Program} {f : FuncId} {A : Option Addr} {n n' c : Nat} {w : World} {Q : Ending → World → Prop} (h : n = n') (k : Calls P f #[.slice A n' c] w Q) : Calls P f #[.slice A n c] w Q := h ▸ k
set_option maxHeartbeats 4000000 in
theorem seal_calls (A : Option Addr) (c : Nat) (l : List Int) (w : World) (hr : Kd.C (Kd.int .u8) w A l.length l) (hc : l.length ≤ c) (hb : okb l = true) (hl : l.length ≤ 65536) :
    Calls Try.prog 35 #[.slice A l.length c] w fun e w' => ∃ v, e = .returned (.tuple #[v, .int .i64 0]) ∧ Kd.R (Kd.int .u8) 5 w' w.heap.size (fun _ => True) v (sealed l) ∧ Below w.heap.size w w' := by
  have HR := Lib.hid hr
  have HL := Lib.hid hb
  clear hr hb
  have t1 : decide ((65536 : Int) < (l.length : Int)) = false := by simp; omega
  go_enter Try.func35, Try.ntmps35
  go_wp2_with ((with_reducible refine gate_dst (N := 14) rfl ?_); refine make_cap rfl (N := 14) rfl 22 5 _ _ rfl ((l.length : Int) + 8) rfl rfl Try.underlying22 info5 (by omega) (by omega) ?_; intro v14 w14 ho hb; have Pv := Lib.hid ho; have Hv := Lib.hid hb; clear ho hb)
  go_loopw [4, 5] (fun v i wr => ∃ k : Nat, k ≤ 4 ∧ i = .int .i64 (3 - (k : Int)) ∧ Hid (Kd.R (Kd.int .u8) 5 wr w.heap.size (fun _ => True) v ((hdr l.length).take k)) ∧ Hid (Below w.heap.size w wr)) (fun _ i _ => (intOf i + 1).toNat)
  case atStart => exact ⟨0, by omega, rfl, Pv, Hv⟩
  case round =>
    obtain ⟨k, hk, rfl, HO, HB⟩ := hrel
    by_cases hlt : k < 4
    · have HT := Lib.hid (hdr_take l.length k hlt)
      rcases (by omega : k = 0 ∨ k = 1 ∨ k = 2 ∨ k = 3) with rfl | rfl | rfl | rfl
      · go_wp2_with (((with_reducible refine gate_builtin (b := .append) (xs := #[.tmp 19, .tmp 26]) rfl ?_); at_builtin; refine Kd.R_append (Kd.int .u8) (w0 := w) w.heap.size rfl (.tmp 19) (.tmp 26) 22 5 (.int .u8 0) 1 rfl Try.underlying22 info5 rfl (by decide) (by omega) _ _ ((l.length : Int) / 16777216) [.int .u8 ((l.length : Int) / 16777216)] (fun _ => True) (fun _ => False) rfl rfl ?aP26 (fun _ hk => hk.elim) (fun _ _ => trivial) HO.out HB.out HB.out.size ?aL26 ?_; (case aP26 => exact rfl); (case aL26 => simp [hdr]); intro v27 w27 ho hb hg hat; clear hg hat; skip; have Pv27 := Lib.hid ho; have Hv27 := Lib.hid hb; clear ho hb))
        go_roundw
        case rel => exact ⟨1, by omega, by go_num, Lib.hid (by have h := Pv27.out; rw [HT.out]; rw [show (hdr (l.length : Int)).getD 0 0 = (l.length : Int) / 16777216 by simp [hdr] <;> omega]; exact h), Hv27⟩
        case measure => simp [intOf]
      · go_wp2_with (((with_reducible refine gate_builtin (b := .append) (xs := #[.tmp 19, .tmp 26]) rfl ?_); at_builtin; refine Kd.R_append (Kd.int .u8) (w0 := w) w.heap.size rfl (.tmp 19) (.tmp 26) 22 5 (.int .u8 0) 1 rfl Try.underlying22 info5 rfl (by decide) (by omega) _ _ ((l.length : Int) / 65536) [.int .u8 ((l.length : Int) / 65536)] (fun _ => True) (fun _ => False) rfl rfl ?aP26 (fun _ hk => hk.elim) (fun _ _ => trivial) HO.out HB.out HB.out.size ?aL26 ?_; (case aP26 => exact rfl); (case aL26 => simp [hdr]); intro v27 w27 ho hb hg hat; clear hg hat; skip; have Pv27 := Lib.hid ho; have Hv27 := Lib.hid hb; clear ho hb))
        go_roundw
        case rel => exact ⟨2, by omega, by go_num, Lib.hid (by have h := Pv27.out; rw [HT.out]; rw [show (hdr (l.length : Int)).getD 1 0 = (l.length : Int) / 65536 by simp [hdr] <;> omega]; exact h), Hv27⟩
        case measure => simp [intOf]
      · go_wp2_with (((with_reducible refine gate_builtin (b := .append) (xs := #[.tmp 19, .tmp 26]) rfl ?_); at_builtin; refine Kd.R_append (Kd.int .u8) (w0 := w) w.heap.size rfl (.tmp 19) (.tmp 26) 22 5 (.int .u8 0) 1 rfl Try.underlying22 info5 rfl (by decide) (by omega) _ _ ((l.length : Int) / 256 % 256) [.int .u8 ((l.length : Int) / 256 % 256)] (fun _ => True) (fun _ => False) rfl rfl ?aP26 (fun _ hk => hk.elim) (fun _ _ => trivial) HO.out HB.out HB.out.size ?aL26 ?_; (case aP26 => exact rfl); (case aL26 => simp [hdr]); intro v27 w27 ho hb hg hat; clear hg hat; skip; have Pv27 := Lib.hid ho; have Hv27 := Lib.hid hb; clear ho hb))
        go_roundw
        case rel => exact ⟨3, by omega, by go_num, Lib.hid (by have h := Pv27.out; rw [HT.out]; rw [show (hdr (l.length : Int)).getD 2 0 = (l.length : Int) / 256 % 256 by simp [hdr] <;> omega]; exact h), Hv27⟩
        case measure => simp [intOf]
      · go_wp2_with (((with_reducible refine gate_builtin (b := .append) (xs := #[.tmp 19, .tmp 26]) rfl ?_); at_builtin; refine Kd.R_append (Kd.int .u8) (w0 := w) w.heap.size rfl (.tmp 19) (.tmp 26) 22 5 (.int .u8 0) 1 rfl Try.underlying22 info5 rfl (by decide) (by omega) _ _ ((l.length : Int) % 256) [.int .u8 ((l.length : Int) % 256)] (fun _ => True) (fun _ => False) rfl rfl ?aP26 (fun _ hk => hk.elim) (fun _ _ => trivial) HO.out HB.out HB.out.size ?aL26 ?_; (case aP26 => exact rfl); (case aL26 => simp [hdr]); intro v27 w27 ho hb hg hat; clear hg hat; skip; have Pv27 := Lib.hid ho; have Hv27 := Lib.hid hb; clear ho hb))
        go_roundw
        case rel => exact ⟨4, by omega, by go_num, Lib.hid (by have h := Pv27.out; rw [HT.out]; rw [show (hdr (l.length : Int)).getD 3 0 = (l.length : Int) % 256 by simp [hdr] <;> omega]; exact h), Hv27⟩
        case measure => simp [intOf]
    · obtain rfl : k = 4 := by omega
      have HO4 := Lib.hid (show Kd.R (Kd.int .u8) 5 wr w.heap.size (fun _ => True) _ (hdr l.length) from HO.out)
      clear Pv Hv HO
      go_wp2_with (first | ((with_reducible refine gate_builtin (b := .append) (xs := #[.tmp 28, .tmp 29]) rfl ?_); at_builtin; refine Kd.R_append_rows (Kd.int .u8) (w0 := w) w.heap.size rfl (.tmp 28) (.tmp 29) 22 5 (.int .u8 0) 1 rfl Try.underlying22 info5 rfl (by decide) (by omega) _ (hdr l.length) l A l.length c (fun _ => True) (fun _ => False) rfl rfl HO4.out (Kd.C_below HR.out HB.out) (fun _ _ h => h) (fun _ h => h.elim) (fun _ _ => trivial) HB.out HB.out.size (by simp [hdr]; omega) ?_; intro v30 w30 ho hb hg hat; clear hg hat; skip; have Pv30 := Lib.hid ho; have Hv30 := Lib.hid hb; clear ho hb) | (go_at_call 43; (obtain ⟨A30, c30, e_⟩ := Kd.R_slice Pv30.out); subst e_; refine cast_len (n' := (hdr l.length ++ l).length) (by first | rfl | simp) ?_; refine (sum_calls A30 c30 (hdr l.length ++ l) _ (Kd.R_reads' Pv30.out).2.2 (Kd.R_reads' Pv30.out).2.1 (okb_app (hdr_okb _) HL.out)).mono ?_; rintro e w32 ⟨rfl, hb⟩; have Pv32 := Lib.hid (Kd.R_below Pv30.out hb); have Hv32 := Lib.hid (below_step Hv30.out hb); clear hb Pv30 Hv30))
      have HS := Lib.hid (more_range 0 (hdr l.length ++ l))
      have HSD := Lib.hid (show sealed l = hdr l.length ++ l ++ tail4 (more 0 (hdr l.length ++ l)) from rfl)
      generalize more 0 (hdr l.length ++ l) = S at *
      have s0 := HS.out.1
      have s1 := HS.out.2
      go_loopw [4, 7, 33] (fun v _ i wr => ∃ k : Nat, k ≤ 4 ∧ i = .int .i64 (k : Int) ∧ Hid (Kd.R (Kd.int .u8) 5 wr w.heap.size (fun _ => True) v (hdr l.length ++ l ++ (tail4 S).take k)) ∧ Hid (Below w.heap.size w wr)) (fun _ _ i _ => (4 - intOf i).toNat)
      case atStart => exact ⟨0, by omega, rfl, Lib.hid (by have h := Pv32.out; simpa using h), Hv32⟩
      case round =>
      obtain ⟨k, hk, rfl, HO, HB⟩ := hrel
      by_cases hlt : k < 4
      · have HT := Lib.hid (tail_take S k hlt)
        rcases (by omega : k = 0 ∨ k = 1 ∨ k = 2 ∨ k = 3) with rfl | rfl | rfl | rfl
        · go_wp2_with (((with_reducible refine gate_builtin (b := .append) (xs := #[.tmp 36, .tmp 42]) rfl ?_); at_builtin; refine Kd.R_append (Kd.int .u8) (w0 := w) w.heap.size rfl (.tmp 36) (.tmp 42) 22 5 (.int .u8 0) 1 rfl Try.underlying22 info5 rfl (by decide) (by omega) _ _ (S % 256) [.int .u8 (S % 256)] (fun _ => True) (fun _ => False) rfl rfl ?aP42 (fun _ hk => hk.elim) (fun _ _ => trivial) HO.out HB.out HB.out.size ?aL42 ?_; (case aP42 => exact rfl); (case aL42 => simp [tail4, hdr]; omega); intro v43 w43 ho hb hg hat; clear hg hat; skip; have Pv43 := Lib.hid ho; have Hv43 := Lib.hid hb; clear ho hb))
          go_roundw
          case rel => exact ⟨1, by omega, by go_num, Lib.hid (by have h := Pv43.out; rw [HT.out, ← List.append_assoc]; rw [show (tail4 S).getD 0 0 = S % 256 by simp [tail4] <;> omega]; exact h), Hv43⟩
          case measure => simp [intOf]
        · go_wp2_with (((with_reducible refine gate_builtin (b := .append) (xs := #[.tmp 36, .tmp 42]) rfl ?_); at_builtin; refine Kd.R_append (Kd.int .u8) (w0 := w) w.heap.size rfl (.tmp 36) (.tmp 42) 22 5 (.int .u8 0) 1 rfl Try.underlying22 info5 rfl (by decide) (by omega) _ _ (S / 256 % 256) [.int .u8 (S / 256 % 256)] (fun _ => True) (fun _ => False) rfl rfl ?aP42 (fun _ hk => hk.elim) (fun _ _ => trivial) HO.out HB.out HB.out.size ?aL42 ?_; (case aP42 => exact rfl); (case aL42 => simp [tail4, hdr]; omega); intro v43 w43 ho hb hg hat; clear hg hat; skip; have Pv43 := Lib.hid ho; have Hv43 := Lib.hid hb; clear ho hb))
          go_roundw
          case rel => exact ⟨2, by omega, by go_num, Lib.hid (by have h := Pv43.out; rw [HT.out, ← List.append_assoc]; rw [show (tail4 S).getD 1 0 = S / 256 % 256 by simp [tail4] <;> omega]; exact h), Hv43⟩
          case measure => simp [intOf]
        · go_wp2_with (((with_reducible refine gate_builtin (b := .append) (xs := #[.tmp 36, .tmp 42]) rfl ?_); at_builtin; refine Kd.R_append (Kd.int .u8) (w0 := w) w.heap.size rfl (.tmp 36) (.tmp 42) 22 5 (.int .u8 0) 1 rfl Try.underlying22 info5 rfl (by decide) (by omega) _ _ (S / 65536 % 256) [.int .u8 (S / 65536 % 256)] (fun _ => True) (fun _ => False) rfl rfl ?aP42 (fun _ hk => hk.elim) (fun _ _ => trivial) HO.out HB.out HB.out.size ?aL42 ?_; (case aP42 => exact rfl); (case aL42 => simp [tail4, hdr]; omega); intro v43 w43 ho hb hg hat; clear hg hat; skip; have Pv43 := Lib.hid ho; have Hv43 := Lib.hid hb; clear ho hb))
          go_roundw
          case rel => exact ⟨3, by omega, by go_num, Lib.hid (by have h := Pv43.out; rw [HT.out, ← List.append_assoc]; rw [show (tail4 S).getD 2 0 = S / 65536 % 256 by simp [tail4] <;> omega]; exact h), Hv43⟩
          case measure => simp [intOf]
        · go_wp2_with (((with_reducible refine gate_builtin (b := .append) (xs := #[.tmp 36, .tmp 42]) rfl ?_); at_builtin; refine Kd.R_append (Kd.int .u8) (w0 := w) w.heap.size rfl (.tmp 36) (.tmp 42) 22 5 (.int .u8 0) 1 rfl Try.underlying22 info5 rfl (by decide) (by omega) _ _ (S / 16777216) [.int .u8 (S / 16777216)] (fun _ => True) (fun _ => False) rfl rfl ?aP42 (fun _ hk => hk.elim) (fun _ _ => trivial) HO.out HB.out HB.out.size ?aL42 ?_; (case aP42 => exact rfl); (case aL42 => simp [tail4, hdr]; omega); intro v43 w43 ho hb hg hat; clear hg hat; skip; have Pv43 := Lib.hid ho; have Hv43 := Lib.hid hb; clear ho hb))
          go_roundw
          case rel => exact ⟨4, by omega, by go_num, Lib.hid (by have h := Pv43.out; rw [HT.out, ← List.append_assoc]; rw [show (tail4 S).getD 3 0 = S / 16777216 by simp [tail4] <;> omega]; exact h), Hv43⟩
          case measure => simp [intOf]
      · obtain rfl : k = 4 := by omega
        have HO5 := Lib.hid (show Kd.R (Kd.int .u8) 5 _ w.heap.size (fun _ => True) _ (hdr l.length ++ l ++ tail4 S) from HO.out)
        clear HO
        go_wp2
        exact bodyPost_ret (v := .tuple #[_, .int .i64 0]) (by simp [results, Try.results35, go_sem]; rfl) rfl ⟨_, rfl, by rw [HSD.out]; exact HO5.out, HB.out⟩
end Go.Proofs.Ytkckmikpmjecdaa.H
