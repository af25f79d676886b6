/- What is parsed of any bytes is put, and parsed as it was: the walk. No condition. -/
import Derived.Test.YtkhghgmonjebnaaPlainB
import Derived.Test.YtkhghgmonjebnaaSameW
namespace Go.Proofs.Ytkhghgmonjebnaa.B
open Go.RowKit Go.Proofs.YtkhghgmonjebnaaW.PrintWords Go.Proofs.YtkhghgmonjebnaaW.PrintLast Go.Proofs.YtkhghgmonjebnaaW.PrintMore
open Go.Proofs.Ytkhghgmonjebnaa.H Go.Proofs.Ytkhghgmonjebnaa.K
set_option linter.unusedVariables false
set_option linter.unusedSimpArgs false

theorem parseF_wrong {l : List Int} {n : Int} (hb : okb l = true) (h : parseF l = .error n) : n ≠ 0 := by
  unfold parseF at h
  split at h
  · rename_i h1
    injection h with h
    rw [← h]
    exact h1
  · split at h
    · injection h with h; omega
    · split at h
      · rename_i e he
        injection h with h
        subst h
        have := elemF_wrong hb (by rw [cont_len]; omega) he
        omega
      · cases h
theorem parse_lit : parseF [4, 1, 7] = .ok (⟨⟨0, false, 4⟩, [7], []⟩, 3) := by kernel_rfl
theorem C_lit3 (W : World) (n : Nat) (hn : n = W.heap.size) : Kd.C (Kd.int .u8) (W.alloc (.cells #[.int .u8 4, .int .u8 1, .int .u8 7] 5)) (some ⟨n, 0, none⟩) 3 [4, 1, 7] := by
  subst hn
  refine Kd.C_of_reads (d := (0 : Int)) ⟨rfl, by decide, fun _ => ⟨_, rfl, fun j hj => ?_⟩⟩
  have hj' : j < 3 := hj
  have ha : (⟨W.heap.size, 0, none⟩ : Addr).add j = ⟨W.heap.size, j, none⟩ := by unfold Addr.add; split <;> simp_all
  rw [ha]
  have hb := blk_new W (.cells #[.int .u8 4, .int .u8 1, .int .u8 7] 5)
  rcases (by omega : j = 0 ∨ j = 1 ∨ j = 2) with rfl | rfl | rfl
  · exact blk_cell hb 0
  · exact blk_cell hb 1
  · exact blk_cell hb 2
theorem lies_R {w : World} {base base' : Nat} {x : S27} {A3 A4 : Option Addr} {c3 c4 : Nat} (h3 : Kd.R (Kd.int .u8) 5 w base (fun _ => True) (.slice A3 x.f1.length c3) x.f1) (h4 : Kd.R k27 27 w base' (fun _ => True) (.slice A4 x.f2.length c4) x.f2) : Lies w x A3 c3 A4 c4 := by
  obtain ⟨B3, d3, e3, l3, g3⟩ := Kd.R_reads h3
  obtain ⟨B4, d4, e4, l4, g4⟩ := Kd.R_reads h4
  injection e3 with a1 _ a3
  injection e4 with b1 _ b3
  subst a1 a3 b1 b3
  exact ⟨l3, g3, l4, g4⟩

set_option maxRecDepth 100000 in
set_option maxHeartbeats 20000000 in
theorem again_short (A : Option Addr) (c : Nat) (l : List Int) (w : World) (hC : Kd.C (Kd.int .u8) w A l.length l) (hc : l.length ≤ c) (hb : okb l = true) (hl : l.length ≤ 20000) :
    Calls Try.prog 7 #[.slice A l.length c] w fun e w' => e = .returned (.bool true) ∧ Below w.heap.size w w' := by
  have HP1 : Hid (∀ W, Below w.heap.size w W → Calls Try.prog 17 #[.slice A l.length c] W fun e w' => ParseQ W (parseF l) e w') := Lib.hid (fun W hW => parse_calls l A c W (Kd.C_below hC hW) hc hb (by omega))
  cases hp : parseF l with
  | error e0 =>
    have he0 : (e0 != 0) = true := by have := parseF_wrong hb hp; simpa using this
    have hdl : decide ((20000 : Int) < (l.length : Int)) = false := decide_eq_false (by omega)
    clear hC hb hc hl
    go_enter Try.func7, Try.ntmps7
    go_wp2_with (first | (go_at_call 17; with_reducible refine (HP1.out _ (Below.refl _ _)).mono ?_; unfold ParseQ; rw [hp]; rintro e w1 ⟨hb1, rfl⟩; have HB1 := Lib.hid hb1; clear hb1) | (go_at_call 17; refine (parse_calls [4, 1, 7] _ 3 _ (C_lit3 _ _ (by simp)) (by decide) (by decide) (by decide)).mono ?_; unfold ParseQ; rw [parse_lit]; rintro e w2 ⟨hb2, A3, c3, A4, c4, rfl, h3, h4⟩; have HB2 := Lib.hid (below_then (below_alloc (below_alloc HB1.out _) _) (by simp; have := HB1.out.size; omega) hb2 : Below w.heap.size w w2); have hL := lies_R h3 h4; have hcv : ∀ o, (convert 24 9 (.slice A3 1 c3)).run Try.prog (w2.alloc o) = .ok (.string (strOfNums [7])) (w2.alloc o) := fun o => Kd.C_string (P := Try.prog) (c := c3) Try.underlying24 Try.underlying5 Try.underlying9 (Kd.C_below hL.g3 (below_alloc (Below.refl _ _) o)); clear h3 h4 hb2 hL))
    have hs7 : ((strOfNums [7]).toList == [7]) = true := by decide +kernel
    go_ret
    exact ⟨congrArg (fun b => Ending.returned (Value.bool b)) hs7, below_alloc HB2.out _⟩
  | ok r =>
    obtain ⟨x, n⟩ := r
    obtain ⟨g1, g2, g3, g4⟩ := good_parse hb (by omega) hp
    have HGD := Lib.hid g1
    have hel : ((encE x).length : Int) ≤ n := by have := g1.few; omega
    have HEL : Hid (((encE x).length : Int) < 1000000000) := Lib.hid (by omega)
    have HPR : Hid (putR x = (encE x, 0)) := Lib.hid (by rw [putR_eq, if_neg (by rw [g1.right]; simp), if_neg (by have := g1.deep; omega), if_neg (by omega)])
    have HOKE := Lib.hid (enc_okb x g1.fit (by omega))
    have HBK : Hid (parseF (encE x) = .ok (x, ((encE x).length : Int))) := Lib.hid (by have h := parse_back (x := x) (behind := []) g1.right (by omega) (by have := g1.deep; omega); rwa [List.append_nil] at h)
    have hdl : decide ((20000 : Int) < (l.length : Int)) = false := decide_eq_false (by omega)
    have hd1 : decide (n ≤ (l.length : Int)) = true := decide_eq_true g3
    have hd2 : decide (((encE x).length : Int) ≤ n) = true := decide_eq_true hel
    clear hC hb hc hl hel g1 g2 g3 g4
    go_enter Try.func7, Try.ntmps7
    go_wp2_with (first | (go_at_call 17; with_reducible refine (parse_calls (encE x) A9 c9 _ HC9.out HL9.out HOKE.out HEL.out).mono ?_; unfold ParseQ; rw [HBK.out]; rintro e w3 ⟨hb3, B3, d3, B4, d4, rfl, h3, h4⟩; have HB3 := Lib.hid (below_then HB2.out HB2.out.size hb3 : Below w.heap.size w w3); have HL3 := Lib.hid (HL2.out.below hb3); have HX3 := Lib.hid (blk_below HX2.out hb3); have HM3 := Lib.hid (lies_R h3 h4); have x0 : ∀ o, (w3.alloc o).cell? ⟨w1.heap.size, 0, none⟩ = some (.int .i64 x.f0.f0) := fun o => (blk_cell (blk_below HX3.out (below_alloc (Below.refl _ _) o)) 0).trans rfl; have x1 : ∀ o, (w3.alloc o).cell? ⟨w1.heap.size, 1, none⟩ = some (.bool x.f0.f1) := fun o => (blk_cell (blk_below HX3.out (below_alloc (Below.refl _ _) o)) 1).trans rfl; have x2 : ∀ o, (w3.alloc o).cell? ⟨w1.heap.size, 2, none⟩ = some (.int .i64 x.f0.f2) := fun o => (blk_cell (blk_below HX3.out (below_alloc (Below.refl _ _) o)) 2).trans rfl; have x3 : ∀ o, (w3.alloc o).cell? ⟨w1.heap.size, 3, none⟩ = some (.slice A3 x.f1.length c3) := fun o => (blk_cell (blk_below HX3.out (below_alloc (Below.refl _ _) o)) 3).trans rfl; have x4 : ∀ o, (w3.alloc o).cell? ⟨w1.heap.size, 4, none⟩ = some (.slice A4 x.f2.length c4) := fun o => (blk_cell (blk_below HX3.out (below_alloc (Below.refl _ _) o)) 4).trans rfl; clear h3 h4 hb3) | (go_at_call 10; refine (put_calls x HGD.out.fit HGD.out.thin A3 c3 A4 c4 _ (HL1.out.below (below_alloc (Below.refl _ _) _))).mono ?_; unfold PutQ; rw [HPR.out]; rintro e w2 ⟨v9, rfl, h9, hb2⟩; (obtain ⟨A9, c9, hv9, hl9, hC9⟩ := Kd.R_reads h9); subst hv9; have HC9 := Lib.hid hC9; have HL9 := Lib.hid hl9; have HB2 := Lib.hid (below_then (below_alloc HB1.out _) (by simp; have := HB1.out.size; omega) hb2 : Below w.heap.size w w2); have HL2 := Lib.hid (HL1.out.below (below_then (below_alloc (Below.refl _ _) _) (by simp) hb2 : Below w1.heap.size w1 w2)); have HX2 := Lib.hid (blk_below (blk_new w1 (.cells #[.int .i64 x.f0.f0, .bool x.f0.f1, .int .i64 x.f0.f2, .slice A3 x.f1.length c3, .slice A4 x.f2.length c4] 27)) hb2); clear h9 hb2 hl9 hC9) | (go_at_call 12; refine (same_walk x x HGD.out.fit HGD.out.fit A3 c3 A4 c4 B3 d3 B4 d4 _ (HL3.out.below (below_alloc (Below.refl _ _) _)) (HM3.out.below (below_alloc (Below.refl _ _) _))).mono ?_; rw [same_refl]; rintro e w4 ⟨rfl, hb4⟩; have HB4 := Lib.hid (below_then (below_alloc HB3.out _) (by simp; have := HB3.out.size; omega) hb4 : Below w.heap.size w w4); clear hb4) | (go_at_call 17; with_reducible refine (HP1.out _ (Below.refl _ _)).mono ?_; unfold ParseQ; rw [hp]; rintro e w1 ⟨hb1, A3, c3, A4, c4, rfl, h3, h4⟩; have H3 := Lib.hid h3; have H4 := Lib.hid h4; have HB1 := Lib.hid hb1; have HL1 := Lib.hid (lies_R h3 h4); clear h3 h4 hb1))
    go_ret
    exact ⟨rfl, HB4.out⟩
set_option maxRecDepth 100000 in
set_option maxHeartbeats 20000000 in
theorem again_long (A : Option Addr) (c ln : Nat) (l2 : List Int) (w : World) (hC : Kd.C (Kd.int .u8) w A l2.length l2) (hc : l2.length ≤ c) (hb : okb l2 = true) (hl : l2.length ≤ 20000) (hln : 20000 < ln)
    (hcut : ∀ W : World, (Instr.slice 24 (.slice A ln c) none (some (.int .i64 20000)) none).run Try.prog W = .ok (.slice A l2.length c) W) :
    Calls Try.prog 7 #[.slice A ln c] w fun e w' => e = .returned (.bool true) ∧ Below w.heap.size w w' := by
  have HP1 : Hid (∀ W, Below w.heap.size w W → Calls Try.prog 17 #[.slice A l2.length c] W fun e w' => ParseQ W (parseF l2) e w') := Lib.hid (fun W hW => parse_calls l2 A c W (Kd.C_below hC hW) hc hb (by omega))
  cases hp : parseF l2 with
  | error e0 =>
    have he0 : (e0 != 0) = true := by have := parseF_wrong hb hp; simpa using this
    have hdl : decide ((20000 : Int) < (ln : Int)) = true := decide_eq_true (by omega)
    clear hC hb hc hl hln
    go_enter Try.func7, Try.ntmps7
    go_wp2_with (first | (go_at_call 17; with_reducible refine (HP1.out _ (Below.refl _ _)).mono ?_; unfold ParseQ; rw [hp]; rintro e w1 ⟨hb1, rfl⟩; have HB1 := Lib.hid hb1; clear hb1) | (go_at_call 17; refine (parse_calls [4, 1, 7] _ 3 _ (C_lit3 _ _ (by simp)) (by decide) (by decide) (by decide)).mono ?_; unfold ParseQ; rw [parse_lit]; rintro e w2 ⟨hb2, A3, c3, A4, c4, rfl, h3, h4⟩; have HB2 := Lib.hid (below_then (below_alloc (below_alloc HB1.out _) _) (by simp; have := HB1.out.size; omega) hb2 : Below w.heap.size w w2); have hL := lies_R h3 h4; have hcv : ∀ o, (convert 24 9 (.slice A3 1 c3)).run Try.prog (w2.alloc o) = .ok (.string (strOfNums [7])) (w2.alloc o) := fun o => Kd.C_string (P := Try.prog) (c := c3) Try.underlying24 Try.underlying5 Try.underlying9 (Kd.C_below hL.g3 (below_alloc (Below.refl _ _) o)); clear h3 h4 hb2 hL))
    have hs7 : ((strOfNums [7]).toList == [7]) = true := by decide +kernel
    go_ret
    exact ⟨congrArg (fun b => Ending.returned (Value.bool b)) hs7, below_alloc HB2.out _⟩
  | ok r =>
    obtain ⟨x, n⟩ := r
    obtain ⟨g1, g2, g3, g4⟩ := good_parse hb (by omega) hp
    have HGD := Lib.hid g1
    have hel : ((encE x).length : Int) ≤ n := by have := g1.few; omega
    have HEL : Hid (((encE x).length : Int) < 1000000000) := Lib.hid (by omega)
    have HPR : Hid (putR x = (encE x, 0)) := Lib.hid (by rw [putR_eq, if_neg (by rw [g1.right]; simp), if_neg (by have := g1.deep; omega), if_neg (by omega)])
    have HOKE := Lib.hid (enc_okb x g1.fit (by omega))
    have HBK : Hid (parseF (encE x) = .ok (x, ((encE x).length : Int))) := Lib.hid (by have h := parse_back (x := x) (behind := []) g1.right (by omega) (by have := g1.deep; omega); rwa [List.append_nil] at h)
    have hdl : decide ((20000 : Int) < (ln : Int)) = true := decide_eq_true (by omega)
    have hd1 : decide (n ≤ (l2.length : Int)) = true := decide_eq_true g3
    have hd2 : decide (((encE x).length : Int) ≤ n) = true := decide_eq_true hel
    clear hC hb hc hl hln hel g1 g2 g3 g4
    go_enter Try.func7, Try.ntmps7
    go_wp2_with (first | (go_at_call 17; with_reducible refine (parse_calls (encE x) A9 c9 _ HC9.out HL9.out HOKE.out HEL.out).mono ?_; unfold ParseQ; rw [HBK.out]; rintro e w3 ⟨hb3, B3, d3, B4, d4, rfl, h3, h4⟩; have HB3 := Lib.hid (below_then HB2.out HB2.out.size hb3 : Below w.heap.size w w3); have HL3 := Lib.hid (HL2.out.below hb3); have HX3 := Lib.hid (blk_below HX2.out hb3); have HM3 := Lib.hid (lies_R h3 h4); have x0 : ∀ o, (w3.alloc o).cell? ⟨w1.heap.size, 0, none⟩ = some (.int .i64 x.f0.f0) := fun o => (blk_cell (blk_below HX3.out (below_alloc (Below.refl _ _) o)) 0).trans rfl; have x1 : ∀ o, (w3.alloc o).cell? ⟨w1.heap.size, 1, none⟩ = some (.bool x.f0.f1) := fun o => (blk_cell (blk_below HX3.out (below_alloc (Below.refl _ _) o)) 1).trans rfl; have x2 : ∀ o, (w3.alloc o).cell? ⟨w1.heap.size, 2, none⟩ = some (.int .i64 x.f0.f2) := fun o => (blk_cell (blk_below HX3.out (below_alloc (Below.refl _ _) o)) 2).trans rfl; have x3 : ∀ o, (w3.alloc o).cell? ⟨w1.heap.size, 3, none⟩ = some (.slice A3 x.f1.length c3) := fun o => (blk_cell (blk_below HX3.out (below_alloc (Below.refl _ _) o)) 3).trans rfl; have x4 : ∀ o, (w3.alloc o).cell? ⟨w1.heap.size, 4, none⟩ = some (.slice A4 x.f2.length c4) := fun o => (blk_cell (blk_below HX3.out (below_alloc (Below.refl _ _) o)) 4).trans rfl; clear h3 h4 hb3) | (go_at_call 10; refine (put_calls x HGD.out.fit HGD.out.thin A3 c3 A4 c4 _ (HL1.out.below (below_alloc (Below.refl _ _) _))).mono ?_; unfold PutQ; rw [HPR.out]; rintro e w2 ⟨v9, rfl, h9, hb2⟩; (obtain ⟨A9, c9, hv9, hl9, hC9⟩ := Kd.R_reads h9); subst hv9; have HC9 := Lib.hid hC9; have HL9 := Lib.hid hl9; have HB2 := Lib.hid (below_then (below_alloc HB1.out _) (by simp; have := HB1.out.size; omega) hb2 : Below w.heap.size w w2); have HL2 := Lib.hid (HL1.out.below (below_then (below_alloc (Below.refl _ _) _) (by simp) hb2 : Below w1.heap.size w1 w2)); have HX2 := Lib.hid (blk_below (blk_new w1 (.cells #[.int .i64 x.f0.f0, .bool x.f0.f1, .int .i64 x.f0.f2, .slice A3 x.f1.length c3, .slice A4 x.f2.length c4] 27)) hb2); clear h9 hb2 hl9 hC9) | (go_at_call 12; refine (same_walk x x HGD.out.fit HGD.out.fit A3 c3 A4 c4 B3 d3 B4 d4 _ (HL3.out.below (below_alloc (Below.refl _ _) _)) (HM3.out.below (below_alloc (Below.refl _ _) _))).mono ?_; rw [same_refl]; rintro e w4 ⟨rfl, hb4⟩; have HB4 := Lib.hid (below_then (below_alloc HB3.out _) (by simp; have := HB3.out.size; omega) hb4 : Below w.heap.size w w4); clear hb4) | (go_at_call 17; with_reducible refine (HP1.out _ (Below.refl _ _)).mono ?_; unfold ParseQ; rw [hp]; rintro e w1 ⟨hb1, A3, c3, A4, c4, rfl, h3, h4⟩; have H3 := Lib.hid h3; have H4 := Lib.hid h4; have HB1 := Lib.hid hb1; have HL1 := Lib.hid (lies_R h3 h4); clear h3 h4 hb1))
    go_ret
    exact ⟨rfl, HB4.out⟩
theorem okb_wf {l : List Int} (h : ∀ n ∈ l, (Lit.int .u8 n).wf = true) : okb l = true := by
  unfold okb
  rw [List.all_eq_true]
  intro v hv
  have := h v hv
  simp [Lit.wf, IntKind.min, IntKind.max, IntKind.signed, IntKind.bits] at this
  simp
  omega
/-- What comes in as a row of bytes. -/
def InRow (w : World) (a : Option Addr) (len cap : Nat) (zs : List Int) : Prop := (a = none ∧ len = 0 ∧ cap = 0 ∧ zs = []) ∨ ∃ x, a = some x ∧ len ≤ cap ∧ cap ≤ maxLen ∧ zs.length = cap ∧ (∀ i, i < zs.length → w.cell? (x.add i) = some (.int .u8 (zs.getD i 0))) ∧ ∀ n ∈ zs, (Lit.int .u8 n).wf = true
theorem again_walk (a0 : Option Addr) (len0 cap0 : Nat) (z0 : List Int) (w : World) (w0 : InRow w a0 len0 cap0 z0) :
    Calls Try.prog 7 #[.slice a0 len0 cap0] w fun e w' => e = .returned (.bool true) ∧ Below w.heap.size w w' := by
  obtain ⟨l, rfl, hr0, hm0, hw0, hc0⟩ := ReadsInt.ofRowC w0
  have hok := okb_wf hw0
  have hX : Kd.C (Kd.int .u8) w a0 l.length l := Kd.C_of_reads (d := (0 : Int)) (h1 := fun _ => rfl) hr0
  by_cases hl : l.length ≤ 20000
  · exact again_short a0 cap0 l w hX hc0 hok hl
  · obtain ⟨i5, hi5, _, hsz5, _⟩ := info_parts info5
    obtain ⟨hcut, hA, hcA⟩ := print_take_of (P := Try.prog) (Value.int .u8) 0 24 5 .i64 Try.underlying24 hi5 hsz5 a0 cap0 l 20000 (by omega) (by omega) hc0
    exact again_long a0 cap0 l.length (l.take 20000) w (Kd.C_of_reads (h1 := fun _ => rfl) (hA w hr0)) hcA (okb_take hok _) (by rw [List.length_take]; omega) (by omega) hcut
end Go.Proofs.Ytkhghgmonjebnaa.B
