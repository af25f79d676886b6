/- What ber.Same answers for two elements: the walk. Condition: what lies in a memory (fitE). -/
import Derived.Test.YtkhghgmonjebnaaBerA
import Derived.Test.YtkhghgmonjebnaaPClx1
import Derived.Lib.Bytes
namespace Go.Proofs.Ytkhghgmonjebnaa.B
open Go.RowKit Go.Proofs.YtkhghgmonjebnaaW.PrintWords Go.Proofs.YtkhghgmonjebnaaW.PrintLast Go.Proofs.YtkhghgmonjebnaaW.PrintMore
open Go.Proofs.Ytkhghgmonjebnaa.H Go.Proofs.Ytkhghgmonjebnaa.K
set_option linter.unusedVariables false
set_option linter.unusedSimpArgs false

theorem str_one {xs ys : List Int} (hx : okb xs = true) (hy : okb ys = true) : (strOfNums xs).toList = (strOfNums ys).toList ↔ xs = ys := by
  constructor
  · intro h
    rw [Go.Lib.strOfNums_toList, Go.Lib.strOfNums_toList] at h
    induction xs generalizing ys with
    | nil => cases ys with
      | nil => rfl
      | cons y ys => simp [Go.Lib.bytesOf] at h
    | cons x xs ih =>
      cases ys with
      | nil => simp [Go.Lib.bytesOf] at h
      | cons y ys =>
        have hx1 := okb_mem hx (x := x) (by simp)
        have hy1 := okb_mem hy (x := y) (by simp)
        simp only [Go.Lib.bytesOf, List.map_cons, List.cons.injEq] at h
        have e : x = y := by
          have := congrArg UInt8.toNat h.1
          simp at this
          omega
        rw [e, ih (okb_sub hx fun z hz => by simp [hz]) (okb_sub hy fun z hz => by simp [hz]) h.2]
  · rintro rfl
    rfl
theorem str_beq {xs ys : List Int} (hx : okb xs = true) (hy : okb ys = true) : ((strOfNums xs).toList == (strOfNums ys).toList) = (xs == ys) := by
  rw [Bool.eq_iff_iff]
  simp only [beq_iff_eq]
  exact str_one hx hy

theorem sameL_iff : ∀ xs ys : List S27, sameL xs ys = true ↔ xs.length = ys.length ∧ ∀ i (h : i < xs.length) (h' : i < ys.length), sameE xs[i] ys[i] = true
  | [], [] => by simp [sameL]
  | [], _ :: _ => by simp [sameL]
  | _ :: _, [] => by simp [sameL]
  | x :: xs, y :: ys => by
    simp only [sameL, Bool.and_eq_true, sameL_iff xs ys, List.length_cons, Nat.add_right_cancel_iff]
    constructor
    · rintro ⟨h0, hl, h⟩
      refine ⟨hl, fun i hi hi' => ?_⟩
      cases i with
      | zero => exact h0
      | succ i => exact h i (by omega) (by omega)
    · rintro ⟨hl, h⟩
      exact ⟨h 0 (by omega) (by omega), hl, fun i hi hi' => h (i + 1) (by omega) (by omega)⟩

theorem eqA23 (d : Nat) (w : World) (x0 y0 : Int) (x1 y1 : Bool) (x2 y2 : Int) :
    (Op.equalIn (d + 2) 23 (.agg #[.int .i64 x0, .bool x1, .int .i64 x2]) (.agg #[.int .i64 y0, .bool y1, .int .i64 y2])).run Try.prog w = .ok (x0 == y0 && (x1 == y1 && (x2 == y2))) w := by
  refine eqA_of Try.underlying23 (by kernel_rfl) ?_
  refine eqf_cons (by rfl) (by go_simp; rfl) (by go_simp; rfl) (by go_simp) ?_
  refine eqf_cons (by rfl) (by go_simp; rfl) (by go_simp; rfl) (by go_simp) ?_
  exact eqf_last (by rfl) (by go_simp; rfl) (by go_simp; rfl) (by go_simp)
attribute [local go_sem high] eqA23

def SameP (x y : S27) : Prop := ∀ A3 c3 A4 c4 B3 d3 B4 d4 w, Lies w x A3 c3 A4 c4 → Lies w y B3 d3 B4 d4 → Calls Try.prog 12 #[ev x A3 c3 A4 c4, ev y B3 d3 B4 d4] w fun e w' => e = .returned (.bool (sameE x y)) ∧ Below w.heap.size w w'

set_option maxHeartbeats 4000000 in
theorem equal12 (xs ys : List S27) (A B : Option Addr) (c d : Nat) (w : World) (hC : Kd.C k27 w A xs.length xs) (hD : Kd.C k27 w B ys.length ys) (h : ∀ x ∈ xs, ∀ y ∈ ys, SameP x y) (hl : xs.length ≤ 9223372036854775807) :
    Calls Try.prog 26 #[.slice A xs.length c, .slice B ys.length d, .func (Fn.func 12) #[] #[]] w fun e w' => e = .returned (.bool (sameL xs ys)) ∧ Below w.heap.size w w' := by
  have HC := Lib.hid hC
  have HD := Lib.hid hD
  have HR := Lib.hid h
  clear hC h hD
  by_cases hne0 : (xs.length : Int) = (ys.length : Int)
  · have hlen : ys.length = xs.length := by omega
    rw [hlen] at HD ⊢
    generalize hxn : xs.length = n at HC HD hl ⊢
    rw [hxn] at hlen
    have HX := Lib.hid hxn
    have HY := Lib.hid hlen
    clear hne0 hlen hxn
    go_enter Try.func26, Try.ntmps26
    go_wp2_with fail
    go_loopw [17] (fun v8 wr => ∃ k : Nat, k ≤ n ∧ v8 = .int .i64 k ∧ Hid (∀ i (h : i < xs.length) (h' : i < ys.length), i < k → sameE xs[i] ys[i] = true) ∧ Hid (Below w.heap.size w wr)) (fun v8 _ => n - (intOf v8).toNat)
    case atStart => exact ⟨0, Nat.zero_le _, rfl, Lib.hid (by omega), Lib.hid (Below.refl _ _)⟩
    case round =>
      obtain ⟨k, hk, rfl, HK, HB⟩ := hrel
      by_cases hkn : k < n
      · have hlt : k < xs.length := by have := HX.out; omega
        have hlt' : k < ys.length := by have := HY.out; omega
        obtain ⟨ad, A3, c3, A4, c4, rfl, hL, h0, h1, h2, h3, h4⟩ := at_ (Kd.C_below HC.out HB.out) k hlt HX.out.symm
        obtain ⟨bd, B3, d3, B4, d4, rfl, hM, g0, g1, g2, g3, g4⟩ := at_ (Kd.C_below HD.out HB.out) k hlt' HY.out.symm
        have HL := Lib.hid hL
        have HM := Lib.hid hM
        have HZ := Lib.hid (HR.out xs[k] (List.getElem_mem hlt) ys[k] (List.getElem_mem hlt'))
        have HS := Lib.hid (show sameE xs[k] ys[k] = true → ∀ i (h : i < xs.length) (h' : i < ys.length), i < k + 1 → sameE xs[i] ys[i] = true from fun hs i h h' hi => by
          rcases (by omega : i < k ∨ i = k) with hi | rfl
          · exact HK.out i h h' hi
          · exact hs)
        have HF := Lib.hid (show sameE xs[k] ys[k] = false → sameL xs ys = false from fun hs => by
          rw [Bool.eq_false_iff]
          intro hh
          have := ((sameL_iff xs ys).1 hh).2 k hlt hlt'
          rw [hs] at this
          cases this)
        clear hL hM
        generalize xs[k] = x at h0 h1 h2 h3 h4 HL HZ HS HF
        generalize ys[k] = y at g0 g1 g2 g3 g4 HM HZ HS HF
        have q0 := fun o => pw_cell_below (below_alloc (Below.refl wr.heap.size wr) o) g0
        have q1 := fun o => pw_cell_below (below_alloc (Below.refl wr.heap.size wr) o) g1
        have q2 := fun o => pw_cell_below (below_alloc (Below.refl wr.heap.size wr) o) g2
        have q3 := fun o => pw_cell_below (below_alloc (Below.refl wr.heap.size wr) o) g3
        have q4 := fun o => pw_cell_below (below_alloc (Below.refl wr.heap.size wr) o) g4
        cases hs : sameE x y
        · go_wp2_with (go_at_call 12; refine (HZ.out _ _ _ _ _ _ _ _ _ (HL.out.below ?ha) (HM.out.below ?hb)).mono ?_; (case ha => exact below_alloc (below_alloc (Below.refl _ _) _) _); (case hb => exact below_alloc (below_alloc (Below.refl _ _) _) _); rintro e w1 ⟨rfl, hb1⟩; rw [hs]; have HB1 := Lib.hid (below_then (below_alloc (below_alloc HB.out _) _) (by simp; have := HB.out.size; omega) hb1); clear hb1)
          go_ret
          exact ⟨by rw [HF.out hs]; rfl, HB1.out⟩
        · go_wp2_with (go_at_call 12; refine (HZ.out _ _ _ _ _ _ _ _ _ (HL.out.below ?ha) (HM.out.below ?hb)).mono ?_; (case ha => exact below_alloc (below_alloc (Below.refl _ _) _) _); (case hb => exact below_alloc (below_alloc (Below.refl _ _) _) _); rintro e w1 ⟨rfl, hb1⟩; rw [hs]; have HB1 := Lib.hid (below_then (below_alloc (below_alloc HB.out _) _) (by simp; have := HB.out.size; omega) hb1); clear hb1)
          go_roundw
          case rel => exact ⟨k + 1, by omega, by go_num, Lib.hid (HS.out hs), HB1⟩
          case measure => simp [intOf]; omega
      · have hkl : k = n := by omega
        subst hkl
        go_wp2_with fail
        go_ret
        exact ⟨by rw [((sameL_iff xs ys).2 ⟨HX.out.trans HY.out.symm, fun i h h' => HK.out i h h' (by have := HX.out; omega)⟩)]; rfl, HB.out⟩
  · have hF : sameL xs ys = false := by
      rw [Bool.eq_false_iff]
      intro hh
      exact hne0 (by rw [((sameL_iff xs ys).1 hh).1])
    have hne : ((xs.length : Int) != (ys.length : Int)) = true := by simp; omega
    rw [hF]
    go_enter Try.func26, Try.ntmps26
    go_wp2_with fail
    go_ret
    exact ⟨rfl, Below.refl _ _⟩
set_option maxHeartbeats 4000000 in
theorem same_walk (x : S27) : ∀ y, fitE x → fitE y → SameP x y := by
  refine ind (P := fun x => ∀ y, fitE x → fitE y → SameP x y) ?_ x
  rintro ⟨t0, t1, t2⟩ b k ih ⟨⟨u0, u1, u2⟩, c, m⟩ hf hg A3 c3 A4 c4 B3 d3 B4 d4 w hL hM
  simp only [fitE] at hf hg
  have hx : ∀ x ∈ k, ∀ y ∈ m, SameP x y := fun x hx y hy => ih x hx y ((fitL_iff k).1 hf.2.2.2 x hx) ((fitL_iff m).1 hg.2.2.2 y hy)
  have HE := Lib.hid (fun w' (hb : Below w.heap.size w w') => equal12 k m A4 B4 c4 d4 w' (Kd.C_below hL.g4 hb) (Kd.C_below hM.g4 hb) hx hf.2.2.1)
  have HEQ := Lib.hid (str_beq hf.1 hg.1)
  have HL : Hid (Lies w ⟨⟨t0, t1, t2⟩, b, k⟩ A3 c3 A4 c4) := Lib.hid hL
  have HM : Hid (Lies w ⟨⟨u0, u1, u2⟩, c, m⟩ B3 d3 B4 d4) := Lib.hid hM
  clear hx ih hL hM hf hg
  simp only [sameE]
  have e0 : ev ⟨⟨t0, t1, t2⟩, b, k⟩ A3 c3 A4 c4 = .agg #[.int .i64 t0, .bool t1, .int .i64 t2, .slice A3 b.length c3, .slice A4 k.length c4] := rfl
  have e1 : ev ⟨⟨u0, u1, u2⟩, c, m⟩ B3 d3 B4 d4 = .agg #[.int .i64 u0, .bool u1, .int .i64 u2, .slice B3 c.length d3, .slice B4 m.length d4] := rfl
  rw [e0, e1]
  clear e0 e1
  generalize hkn : k.length = kn at HE ⊢
  generalize hmn : m.length = mn at HE ⊢
  clear hkn hmn
  have HBa : Hid (Below w.heap.size w ((w.alloc (.cells #[.int .i64 t0, .bool t1, .int .i64 t2, .slice A3 b.length c3, .slice A4 kn c4] 27)).alloc (.cells #[.int .i64 u0, .bool u1, .int .i64 u2, .slice B3 c.length d3, .slice B4 mn d4] 27))) := Lib.hid (below_alloc (below_alloc (Below.refl _ _) _) _)
  have BLA : Hid (((w.alloc (.cells #[.int .i64 t0, .bool t1, .int .i64 t2, .slice A3 b.length c3, .slice A4 kn c4] 27)).alloc (.cells #[.int .i64 u0, .bool u1, .int .i64 u2, .slice B3 c.length d3, .slice B4 mn d4] 27)).heap[w.heap.size]? = some (.cells #[.int .i64 t0, .bool t1, .int .i64 t2, .slice A3 b.length c3, .slice A4 kn c4] 27)) := Lib.hid (blk_below (blk_new w _) (below_alloc (Below.refl _ _) _))
  have BLB : Hid (((w.alloc (.cells #[.int .i64 t0, .bool t1, .int .i64 t2, .slice A3 b.length c3, .slice A4 kn c4] 27)).alloc (.cells #[.int .i64 u0, .bool u1, .int .i64 u2, .slice B3 c.length d3, .slice B4 mn d4] 27)).heap[w.heap.size + 1]? = some (.cells #[.int .i64 u0, .bool u1, .int .i64 u2, .slice B3 c.length d3, .slice B4 mn d4] 27)) := Lib.hid (by have h := blk_new (w.alloc (.cells #[.int .i64 t0, .bool t1, .int .i64 t2, .slice A3 b.length c3, .slice A4 kn c4] 27)) (.cells #[.int .i64 u0, .bool u1, .int .i64 u2, .slice B3 c.length d3, .slice B4 mn d4] 27); have hs : (w.alloc (.cells #[.int .i64 t0, .bool t1, .int .i64 t2, .slice A3 b.length c3, .slice A4 kn c4] 27)).heap.size = w.heap.size + 1 := (by simp); (rw [hs] at h); exact h)
  cases ht : (t0 == u0 && (t1 == u1 && (t2 == u2)))
  · have ht2 : (t0 == u0 && t1 == u1 && t2 == u2) = false := by rw [← ht, Bool.and_assoc]
    rw [ht2]
    clear ht2
    go_enter Try.func12, Try.ntmps12
    go_wp2_with fail
    go_ret
    exact ⟨by simp, HBa.out⟩
  · have ht2 : (t0 == u0 && t1 == u1 && t2 == u2) = true := by rw [← ht, Bool.and_assoc]
    rw [ht2]
    clear ht2
    cases hq : (b == c)
    · rw [hq] at HEQ
      go_enter Try.func12, Try.ntmps12
      go_wp2_with (go_at_call 25; refine (PCl.bytes_Equal.calls A3 c3 b B3 d3 c _ _ (Kd.C_below HL.out.g3 HBa.out) HL.out.l3 (Kd.C_below HM.out.g3 HBa.out) HM.out.l3 rfl).mono ?_; rintro e w1 ⟨rfl, hd⟩; rw [HEQ.out]; have hb1 := hd.below; have HB1 := Lib.hid (below_then HBa.out HBa.out.size hb1); have B1 := blk_below BLA.out hb1; have B2 := blk_below BLB.out hb1; have r4 : w1.cell? ⟨w.heap.size, 4, none⟩ = some (.slice A4 kn c4) := blk_cell B1 4; have s4 : w1.cell? ⟨w.heap.size + 1, 4, none⟩ = some (.slice B4 mn d4) := blk_cell B2 4; clear hb1 hd B1 B2)
      go_ret
      exact ⟨by simp, HB1.out⟩
    · rw [hq] at HEQ
      go_enter Try.func12, Try.ntmps12
      go_wp2_with (first | (go_at_call 25; refine (PCl.bytes_Equal.calls A3 c3 b B3 d3 c _ _ (Kd.C_below HL.out.g3 HBa.out) HL.out.l3 (Kd.C_below HM.out.g3 HBa.out) HM.out.l3 rfl).mono ?_; rintro e w1 ⟨rfl, hd⟩; rw [HEQ.out]; have hb1 := hd.below; have HB1 := Lib.hid (below_then HBa.out HBa.out.size hb1); have B1 := blk_below BLA.out hb1; have B2 := blk_below BLB.out hb1; have r4 : w1.cell? ⟨w.heap.size, 4, none⟩ = some (.slice A4 kn c4) := blk_cell B1 4; have s4 : w1.cell? ⟨w.heap.size + 1, 4, none⟩ = some (.slice B4 mn d4) := blk_cell B2 4; clear hb1 hd B1 B2) | (go_at_call 26; refine (HE.out _ HB1.out).mono ?_; rintro e w2 ⟨rfl, hb2⟩))
      go_ret
      exact ⟨by simp, below_then HB1.out HB1.out.size hb2⟩
end Go.Proofs.Ytkhghgmonjebnaa.B
