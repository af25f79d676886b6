/- What ber.element answers for a beginning and bytes: the walk. Condition: the slice holds bytes, and the element's bytes are all there. -/
import Derived.Test.YtkhghgmonjebnaaBeginW
import Derived.Test.YtkhghgmonjebnaaGrow
namespace Go.Proofs.Ytkhghgmonjebnaa.B
open Go.RowKit Go.Proofs.YtkhghgmonjebnaaW.PrintWords Go.Proofs.YtkhghgmonjebnaaW.PrintLast Go.Proofs.YtkhghgmonjebnaaW.PrintMore
open Go.Proofs.Ytkhghgmonjebnaa.H Go.Proofs.Ytkhghgmonjebnaa.K
set_option linter.unusedVariables false
set_option linter.unusedSimpArgs false

theorem info27 : (Try.prog.info? 27).map (fun i => (i.zero, i.size, i.bytes)) = some (some (.agg #[.int .i64 0, .bool false, .int .i64 0, .slice none 0 0, .slice none 0 0]), 5, 72) := by kernel_rfl
/-- An element's content, of bytes that begin with it. -/
def cont (l : List Int) : List Int := (l.take (begin6 l).1.2.2.2.2.toNat).drop (begin6 l).1.2.2.2.1.toNat
def mkE (l : List Int) (ks : List S27) : S27 := ⟨⟨(begin6 l).1.1, (begin6 l).1.2.1, (begin6 l).1.2.2.1⟩, if (begin6 l).1.2.1 then [] else cont l, ks⟩
/-- The elements that bytes are, one behind the other, in so many others; or what is wrong. -/
def kidsF : Nat → Nat → List Int → Except Int (List S27)
  | 0, _, _ => .error 0
  | f + 1, d, l =>
    if l.length = 0 then .ok [] else if 24 ≤ d then .error 15 else
    if (begin6 l).2 ≠ 0 ∨ (l.length : Int) < (begin6 l).1.2.2.2.2 then .error 11 else
    match (if (begin6 l).1.2.1 then kidsF f (d + 1) (cont l) else .ok []) with
    | .error e => .error e
    | .ok ks => match kidsF f d (l.drop (begin6 l).1.2.2.2.2.toNat) with
      | .error e => .error e
      | .ok r => .ok (mkE l ks :: r)
/-- The element that bytes begin with. -/
def elemF (f d : Nat) (l : List Int) : Except Int S27 :=
  match (if (begin6 l).1.2.1 then kidsF f (d + 1) (cont l) else .ok []) with
  | .error e => .error e
  | .ok ks => .ok (mkE l ks)
def joinF (ks : List S27) : Except Int (List S27) → Except Int (List S27)
  | .error e => .error e
  | .ok r => .ok (ks ++ r)
def wrapF (l : List Int) : Except Int (List S27) → Except Int S27
  | .error e => .error e
  | .ok r => .ok (mkE l r)
theorem kidsF_nil (f d : Nat) (l : List Int) (h : l.length = 0) : kidsF (f + 1) d l = .ok [] := by rw [kidsF, if_pos h]
theorem kidsF_deep (f d : Nat) (l : List Int) (h : ¬ l.length = 0) (hd : 24 ≤ d) : kidsF (f + 1) d l = .error 15 := by rw [kidsF, if_neg h, if_pos hd]
theorem kidsF_form (f d : Nat) (l : List Int) (h : ¬ l.length = 0) (hd : ¬ 24 ≤ d) (hb : (begin6 l).2 ≠ 0 ∨ (l.length : Int) < (begin6 l).1.2.2.2.2) : kidsF (f + 1) d l = .error 11 := by rw [kidsF, if_neg h, if_neg hd, if_pos hb]
theorem kidsF_bad {f d : Nat} {l : List Int} (h : ¬ l.length = 0) (hd : ¬ 24 ≤ d) (hb : ¬ ((begin6 l).2 ≠ 0 ∨ (l.length : Int) < (begin6 l).1.2.2.2.2)) {n : Int} (he : elemF f d l = .error n) : kidsF (f + 1) d l = .error n := by
  rw [kidsF, if_neg h, if_neg hd, if_neg hb]
  unfold elemF at he
  split at he
  · rename_i e h1
    exact congrArg _ (Except.error.inj he)
  · cases he
theorem kidsF_step {f d : Nat} {l : List Int} (h : ¬ l.length = 0) (hd : ¬ 24 ≤ d) (hb : ¬ ((begin6 l).2 ≠ 0 ∨ (l.length : Int) < (begin6 l).1.2.2.2.2)) {x : S27} (he : elemF f d l = .ok x) (ks : List S27) :
    joinF ks (kidsF (f + 1) d l) = joinF (ks ++ [x]) (kidsF f d (l.drop (begin6 l).1.2.2.2.2.toNat)) := by
  rw [kidsF, if_neg h, if_neg hd, if_neg hb]
  unfold elemF at he
  split at he
  · cases he
  · rename_i k h1
    obtain rfl := Except.ok.inj he
    cases kidsF f d (l.drop (begin6 l).1.2.2.2.2.toNat) with
    | error e => rfl
    | ok r => simp [joinF]

abbrev chainN (n : Int) : List PanicEntry := [{ v := .iface 80 (.agg #[.int .i64 n]), recovered := false }]
abbrev kv (x : S27) (v3 v4 : Value) : Value := .agg #[.int .i64 x.f0.f0, .bool x.f0.f1, .int .i64 x.f0.f2, v3, v4]
def ElemQ (w : World) (r : Except Int S27) (e : Ending) (w' : World) : Prop := Below w.heap.size w w' ∧ match r with
  | .ok x => ∃ v3 v4, e = .returned (kv x v3 v4) ∧ Kd.R (Kd.int .u8) 5 w' w.heap.size (fun _ => True) v3 x.f1 ∧ Kd.R k27 27 w' w.heap.size (fun _ => True) v4 x.f2
  | .error n => e = .panicked (chainN n)
def ElemP (f : Nat) : Prop := ∀ (l : List Int) (deep : Nat) (A : Option Addr) (c : Nat) (w : World), Kd.C (Kd.int .u8) w A l.length l → l.length ≤ c → okb l = true → (l.length : Int) < 1000000000 → (begin6 l).2 = 0 → (begin6 l).1.2.2.2.2 ≤ l.length → (cont l).length < f → deep < 24 →
  Calls Try.prog 45 #[bv (begin6 l).1, .slice A l.length c, .int .i64 (deep : Int)] w fun e w' => ElemQ w (elemF f deep l) e w'

/-- Five cells turned. -/
abbrev set5v (W : World) (b : Nat) (v0 v1 v2 v3 v4 : Value) : World := ((((W.setCell ⟨b, 0, none⟩ v0).setCell ⟨b, 1, none⟩ v1).setCell ⟨b, 2, none⟩ v2).setCell ⟨b, 3, none⟩ v3).setCell ⟨b, 4, none⟩ v4
theorem set5v_blk {W : World} {b t : Nat} {z0 z1 z2 z3 z4 : Value} (h : W.heap[b]? = some (.cells #[z0, z1, z2, z3, z4] t (0, 0))) (v0 v1 v2 v3 v4 : Value) :
    (set5v W b v0 v1 v2 v3 v4).heap[b]? = some (.cells #[v0, v1, v2, v3, v4] t (0, 0)) :=
  blk_put (blk_put (blk_put (blk_put (blk_put h 0 _ rfl) 1 _ rfl) 2 _ rfl) 3 _ rfl) 4 _ rfl
theorem set5v_cells {W : World} {b t : Nat} {z0 z1 z2 z3 z4 : Value} (h : W.heap[b]? = some (.cells #[z0, z1, z2, z3, z4] t (0, 0))) (v0 v1 v2 v3 v4 : Value) :
    (set5v W b v0 v1 v2 v3 v4).cell? ⟨b, 0, none⟩ = some v0 ∧ (set5v W b v0 v1 v2 v3 v4).cell? ⟨b, 1, none⟩ = some v1 ∧ (set5v W b v0 v1 v2 v3 v4).cell? ⟨b, 2, none⟩ = some v2 ∧ (set5v W b v0 v1 v2 v3 v4).cell? ⟨b, 3, none⟩ = some v3 ∧ (set5v W b v0 v1 v2 v3 v4).cell? ⟨b, 4, none⟩ = some v4 :=
  have hB := set5v_blk h v0 v1 v2 v3 v4
  ⟨blk_cell hB 0, blk_cell hB 1, blk_cell hB 2, blk_cell hB 3, blk_cell hB 4⟩
theorem set5v_below {B b : Nat} {w W : World} (h : Below B w W) (hb : B ≤ b) (v0 v1 v2 v3 v4 : Value) : Below B w (set5v W b v0 v1 v2 v3 v4) :=
  Below.setCell (Below.setCell (Below.setCell (Below.setCell (Below.setCell h hb _) hb _) hb _) hb _) hb _
theorem set5v_keep {W : World} {b : Nat} (v0 v1 v2 v3 v4 : Value) : KeepBut W (set5v W b v0 v1 v2 v3 v4) b none := KeepBut.set_ (KeepBut.set_ (KeepBut.set_ (KeepBut.set_ (KeepBut.set_ (KeepBut.refl _ _ _) 0 _) 1 _) 2 _) 3 _) 4 _
/-- A row above a block stays where that block turns. -/
theorem R_up {α : Type} {d : Kd α} {t g base : Nat} {w w' : World} {v : Value} {xs : List α} (h : Kd.R d t w base (fun _ => True) v xs) (hk : KeepBut w w' g none) (hg : g < base) : Kd.R d t w' base (fun _ => True) v xs :=
  Kd.R_mono (Kd.R_keep (Kd.R_mono (Kd.R_bound h) (fun k hk => (⟨trivial, by have := hk.2.1; omega⟩ : True ∧ k ≠ g))) hk (fun _ h => h.2)) (fun _ _ => trivial)
/-- A call that may panic, in a region that draws its order. -/
theorem goesP_ {P : Program} {ops : Array Oper} {Q : Exit → Act → World → Prop} {oi : Oper} {N : Option Tmp} {a : Act} {w : World} {K : Act → World → Prop} {f : FuncId} {fn : Func} {ags : Array Operand} {ts : Array TypeId} (hf : P.funcs[f]? = some fn) (hname : (fn.name == "runtime.NumGoroutine") = false) (hb : fn.body.isSome = true) (args : Array Value)
    (hw : Region.wanted oi (yielded ops a.tmps) = true) (hN : oi.dst = N) (hop : oi.op = .call { callee := .value (.func f), args := ags, argTypes := ts }) (hargs : ags.map a.eval = args)
    (h : Calls P f args w fun e w' => ∃ chain, e = .panicked chain ∧ Q (Exit.panic chain) a w') : if Region.wanted oi (yielded ops a.tmps) = true then Oper.wp P oi a w K Q else K (a.put N undef) w := by
  rw [if_pos hw]
  subst hN
  have he := enters_ hf hname hb args w
  have hrun : (execOp a.eval oi).run P w = .ok (.enter f args) w := by
    unfold execOp
    simp [hop, resolve, Deferred.ofValue, invoke, Act.eval, hargs, he]
  unfold Oper.wp
  rw [hrun, Oper.upon_enter]
  refine h.mono fun e w'' hh => ?_
  obtain ⟨chain, rfl, hk⟩ := hh
  exact hk

set_option maxRecDepth 100000 in
set_option maxHeartbeats 20000000 in
theorem elem_step (f : Nat) (ih : ∀ g, g < f → ElemP g) : ElemP f := by
  intro l deep A c w hC hc hb hl hok hall hf hd
  obtain ⟨k0, k1, k2, k3⟩ := begin_ok hb hok
  obtain ⟨i5, hi5, _, hsz5, _⟩ := info_parts info5
  obtain ⟨A', hcut0, hA, hcA0⟩ := print_mid_of (P := Try.prog) (Value.int .u8) 0 24 5 .i64 .i64 Try.underlying24 hi5 hsz5 A c l (begin6 l).1.2.2.2.1 (begin6 l).1.2.2.2.2 (by omega) k1 hall hc
  have hcut : ∀ W : World, (Instr.slice 24 (.slice A l.length c) (some (.int .i64 (begin6 l).1.2.2.2.1)) (some (.int .i64 (begin6 l).1.2.2.2.2)) none).run Try.prog W = .ok (.slice A' (cont l).length (c - (begin6 l).1.2.2.2.1.toNat)) W := hcut0
  have hcA : (cont l).length ≤ c - (begin6 l).1.2.2.2.1.toNat := hcA0
  have HCC : Hid (Kd.C (Kd.int .u8) w A' (cont l).length (cont l)) := Lib.hid (Kd.C_of_reads (h1 := fun _ => rfl) (hA w (Kd.reads_of_C hC)))
  have HOC : Hid (okb (cont l) = true) := Lib.hid (okb_drop (okb_take hb _) _)
  have hcl : (cont l).length + 2 ≤ l.length := by
    unfold cont
    rw [List.length_drop, List.length_take]
    omega
  have IH := Lib.hid ih
  obtain ⟨res, hres⟩ : ∃ r, r = elemF f deep l := ⟨_, rfl⟩
  rw [← hres]
  have HRES : Hid (res = wrapF l (if (begin6 l).1.2.1 then kidsF f (deep + 1) (cont l) else .ok [])) := Lib.hid (by
    rw [hres]
    unfold elemF
    cases (if (begin6 l).1.2.1 then kidsF f (deep + 1) (cont l) else .ok []) <;> rfl)
  obtain ⟨mk, hmk⟩ : ∃ m : List S27 → S27, m = mkE l := ⟨_, rfl⟩
  have HMK : Hid (∀ ks, mk ks = ⟨⟨(begin6 l).1.1, (begin6 l).1.2.1, (begin6 l).1.2.2.1⟩, if (begin6 l).1.2.1 then [] else cont l, ks⟩) := Lib.hid (fun ks => by rw [hmk]; rfl)
  have HWR : Hid (∀ r, wrapF l r = match r with | .error e => .error e | .ok r => .ok (mk r)) := Lib.hid (fun r => by rw [hmk]; cases r <;> rfl)
  clear hcut0 hcA0 hmk hres ih hA hi5 hsz5 hC hb hok hall k0 k1 k2 k3
  generalize cont l = ct at *
  generalize begin6 l = r at *
  obtain ⟨⟨cl, md, nn, h0, al⟩, er⟩ := r
  simp only [] at hcut hcA HRES HMK ⊢
  generalize c - h0.toNat = cc at hcut hcA
  have HAR : Hid ((l.length : Int) < 1000000000 ∧ ct.length + 2 ≤ l.length ∧ ct.length < f ∧ ct.length ≤ cc) := Lib.hid ⟨hl, hcl, hf, hcA⟩
  clear hl hcl hf hcA hc
  generalize l.length = ln at HAR hcut ⊢
  cases md
  · simp only [Bool.false_eq_true, if_false] at HRES HMK
    have HB3 : Hid (Below w.heap.size w (((w.alloc (.cells #[.int .i64 cl, .bool false, .int .i64 nn, .int .i64 h0, .int .i64 al] 67)).alloc (.cells #[.int .i64 0, .bool false, .int .i64 0, .slice none 0 0, .slice none 0 0] 27)).alloc (.cells #[.int .i64 cl, .bool false, .int .i64 nn, .slice none 0 0, .slice none 0 0] 27))) := Lib.hid (below_alloc (below_alloc (below_alloc (Below.refl _ _) _) _) _)
    have hs1 : (w.alloc (.cells #[.int .i64 cl, .bool false, .int .i64 nn, .int .i64 h0, .int .i64 al] 67)).heap.size = w.heap.size + 1 := by simp
    have hs2 : ((w.alloc (.cells #[.int .i64 cl, .bool false, .int .i64 nn, .int .i64 h0, .int .i64 al] 67)).alloc (.cells #[.int .i64 0, .bool false, .int .i64 0, .slice none 0 0, .slice none 0 0] 27)).heap.size = w.heap.size + 1 + 1 := by simp
    have HO3 : Hid ((((w.alloc (.cells #[.int .i64 cl, .bool false, .int .i64 nn, .int .i64 h0, .int .i64 al] 67)).alloc (.cells #[.int .i64 0, .bool false, .int .i64 0, .slice none 0 0, .slice none 0 0] 27)).alloc (.cells #[.int .i64 cl, .bool false, .int .i64 nn, .slice none 0 0, .slice none 0 0] 27)).heap[w.heap.size + 1 + 1]? = some (.cells #[.int .i64 cl, .bool false, .int .i64 nn, .slice none 0 0, .slice none 0 0] 27 (0, 0))) := Lib.hid (by have h := blk_new ((w.alloc (.cells #[.int .i64 cl, .bool false, .int .i64 nn, .int .i64 h0, .int .i64 al] 67)).alloc (.cells #[.int .i64 0, .bool false, .int .i64 0, .slice none 0 0, .slice none 0 0] 27)) (.cells #[.int .i64 cl, .bool false, .int .i64 nn, .slice none 0 0, .slice none 0 0] 27); rw [hs2] at h; exact h)
    have HZ3 : Hid ((((w.alloc (.cells #[.int .i64 cl, .bool false, .int .i64 nn, .int .i64 h0, .int .i64 al] 67)).alloc (.cells #[.int .i64 0, .bool false, .int .i64 0, .slice none 0 0, .slice none 0 0] 27)).alloc (.cells #[.int .i64 cl, .bool false, .int .i64 nn, .slice none 0 0, .slice none 0 0] 27)).heap[w.heap.size + 1]? = some (.cells #[.int .i64 0, .bool false, .int .i64 0, .slice none 0 0, .slice none 0 0] 27 (0, 0))) := Lib.hid (by have h := blk_new (w.alloc (.cells #[.int .i64 cl, .bool false, .int .i64 nn, .int .i64 h0, .int .i64 al] 67)) (.cells #[.int .i64 0, .bool false, .int .i64 0, .slice none 0 0, .slice none 0 0] 27); rw [hs1] at h; exact blk_below h (below_alloc (Below.refl _ _) _))
    have hs3 : (((w.alloc (.cells #[.int .i64 cl, .bool false, .int .i64 nn, .int .i64 h0, .int .i64 al] 67)).alloc (.cells #[.int .i64 0, .bool false, .int .i64 0, .slice none 0 0, .slice none 0 0] 27)).alloc (.cells #[.int .i64 cl, .bool false, .int .i64 nn, .slice none 0 0, .slice none 0 0] 27)).heap.size = w.heap.size + 3 := by simp
    clear hs1 hs2
    go_enter Try.func45, Try.ntmps45
    go_wp2_with (go_at_call 37; refine (clone_calls A' _ ct _ (Kd.C_below HCC.out HB3.out) HAR.out.2.2.2 (by have := HAR.out; omega)).mono ?_; rintro e w1 ⟨v3, rfl, ho, hb1⟩; (obtain ⟨A3, c3, hv3⟩ := Kd.R_slice ho); subst hv3; rw [hs3] at ho; have HR := Lib.hid ho; have HO := Lib.hid (blk_below HO3.out hb1); have HZ := Lib.hid (blk_below HZ3.out hb1); have HB1 := Lib.hid (below_then HB3.out HB3.out.size hb1); have ho0 : w1.cell? ⟨w.heap.size + 1 + 1, 0, none⟩ = some (.int .i64 cl) := blk_cell HO.out 0; have hfo0 : w1.frozen? ⟨w.heap.size + 1 + 1, 0, none⟩ = false := blk_frozen HO.out 0; have hz0 : w1.cell? ⟨w.heap.size + 1, 0, none⟩ = some (.int .i64 0) := blk_cell HZ.out 0; have hfz0 : w1.frozen? ⟨w.heap.size + 1, 0, none⟩ = false := blk_frozen HZ.out 0; have ho1 : w1.cell? ⟨w.heap.size + 1 + 1, 1, none⟩ = some (.bool false) := blk_cell HO.out 1; have hfo1 : w1.frozen? ⟨w.heap.size + 1 + 1, 1, none⟩ = false := blk_frozen HO.out 1; have hz1 : w1.cell? ⟨w.heap.size + 1, 1, none⟩ = some (.bool false) := blk_cell HZ.out 1; have hfz1 : w1.frozen? ⟨w.heap.size + 1, 1, none⟩ = false := blk_frozen HZ.out 1; have ho2 : w1.cell? ⟨w.heap.size + 1 + 1, 2, none⟩ = some (.int .i64 nn) := blk_cell HO.out 2; have hfo2 : w1.frozen? ⟨w.heap.size + 1 + 1, 2, none⟩ = false := blk_frozen HO.out 2; have hz2 : w1.cell? ⟨w.heap.size + 1, 2, none⟩ = some (.int .i64 0) := blk_cell HZ.out 2; have hfz2 : w1.frozen? ⟨w.heap.size + 1, 2, none⟩ = false := blk_frozen HZ.out 2; have ho3 : w1.cell? ⟨w.heap.size + 1 + 1, 3, none⟩ = some (.slice none 0 0) := blk_cell HO.out 3; have hfo3 : w1.frozen? ⟨w.heap.size + 1 + 1, 3, none⟩ = false := blk_frozen HO.out 3; have hz3 : w1.cell? ⟨w.heap.size + 1, 3, none⟩ = some (.slice none 0 0) := blk_cell HZ.out 3; have hfz3 : w1.frozen? ⟨w.heap.size + 1, 3, none⟩ = false := blk_frozen HZ.out 3; have ho4 : w1.cell? ⟨w.heap.size + 1 + 1, 4, none⟩ = some (.slice none 0 0) := blk_cell HO.out 4; have hfo4 : w1.frozen? ⟨w.heap.size + 1 + 1, 4, none⟩ = false := blk_frozen HO.out 4; have hz4 : w1.cell? ⟨w.heap.size + 1, 4, none⟩ = some (.slice none 0 0) := blk_cell HZ.out 4; have hfz4 : w1.frozen? ⟨w.heap.size + 1, 4, none⟩ = false := blk_frozen HZ.out 4; clear ho hb1)
    have hB1 := HB1.out
    have hZ2 := blk_far (p := ⟨w.heap.size + 1 + 1, 3, none⟩) HZ.out (by simp) (.slice A3 ct.length c3)
    obtain ⟨e0, e1, e2, e3, e4⟩ := set5v_cells hZ2 (.int .i64 cl) (.bool false) (.int .i64 nn) (.slice A3 ct.length c3) (.slice none 0 0)
    refine bodyPost_ret (v := .agg #[.int .i64 cl, .bool false, .int .i64 nn, .slice A3 ct.length c3, .slice none 0 0]) ?_ rfl ?_
    · simp only [set5v] at e0 e1 e2 e3 e4
      simp [results, Try.results45, go_sem, e0, e1, e2, e3, e4]
    · have hres : res = .ok ⟨⟨cl, false, nn⟩, ct, []⟩ := by rw [HRES.out, HWR.out]; exact congrArg _ (HMK.out [])
      unfold ElemQ
      rw [hres]
      exact ⟨set5v_below (Below.setCell hB1 (by simp; omega) _) (by simp) _ _ _ _ _, _, _, rfl, Kd.R_lower (R_up (R_up HR.out (KeepBut.set_ (KeepBut.refl _ _ _) 3 _) (by omega)) (set5v_keep _ _ _ _ _) (by omega)) (by omega), Kd.R_nil _ _ _ _ _⟩
  · simp only [if_true] at HRES HMK
    have HB3 : Hid (Below w.heap.size w (((w.alloc (.cells #[.int .i64 cl, .bool true, .int .i64 nn, .int .i64 h0, .int .i64 al] 67)).alloc (.cells #[.int .i64 0, .bool false, .int .i64 0, .slice none 0 0, .slice none 0 0] 27)).alloc (.cells #[.int .i64 cl, .bool true, .int .i64 nn, .slice none 0 0, .slice none 0 0] 27))) := Lib.hid (below_alloc (below_alloc (below_alloc (Below.refl _ _) _) _) _)
    have hs1 : (w.alloc (.cells #[.int .i64 cl, .bool true, .int .i64 nn, .int .i64 h0, .int .i64 al] 67)).heap.size = w.heap.size + 1 := by simp
    have hs2 : ((w.alloc (.cells #[.int .i64 cl, .bool true, .int .i64 nn, .int .i64 h0, .int .i64 al] 67)).alloc (.cells #[.int .i64 0, .bool false, .int .i64 0, .slice none 0 0, .slice none 0 0] 27)).heap.size = w.heap.size + 1 + 1 := by simp
    have HO3 : Hid ((((w.alloc (.cells #[.int .i64 cl, .bool true, .int .i64 nn, .int .i64 h0, .int .i64 al] 67)).alloc (.cells #[.int .i64 0, .bool false, .int .i64 0, .slice none 0 0, .slice none 0 0] 27)).alloc (.cells #[.int .i64 cl, .bool true, .int .i64 nn, .slice none 0 0, .slice none 0 0] 27)).heap[w.heap.size + 1 + 1]? = some (.cells #[.int .i64 cl, .bool true, .int .i64 nn, .slice none 0 0, .slice none 0 0] 27 (0, 0))) := Lib.hid (by have h := blk_new ((w.alloc (.cells #[.int .i64 cl, .bool true, .int .i64 nn, .int .i64 h0, .int .i64 al] 67)).alloc (.cells #[.int .i64 0, .bool false, .int .i64 0, .slice none 0 0, .slice none 0 0] 27)) (.cells #[.int .i64 cl, .bool true, .int .i64 nn, .slice none 0 0, .slice none 0 0] 27); rw [hs2] at h; exact h)
    have HZ3 : Hid ((((w.alloc (.cells #[.int .i64 cl, .bool true, .int .i64 nn, .int .i64 h0, .int .i64 al] 67)).alloc (.cells #[.int .i64 0, .bool false, .int .i64 0, .slice none 0 0, .slice none 0 0] 27)).alloc (.cells #[.int .i64 cl, .bool true, .int .i64 nn, .slice none 0 0, .slice none 0 0] 27)).heap[w.heap.size + 1]? = some (.cells #[.int .i64 0, .bool false, .int .i64 0, .slice none 0 0, .slice none 0 0] 27 (0, 0))) := Lib.hid (by have h := blk_new (w.alloc (.cells #[.int .i64 cl, .bool true, .int .i64 nn, .int .i64 h0, .int .i64 al] 67)) (.cells #[.int .i64 0, .bool false, .int .i64 0, .slice none 0 0, .slice none 0 0] 27); rw [hs1] at h; exact blk_below h (below_alloc (Below.refl _ _) _))
    have hs3 : (((w.alloc (.cells #[.int .i64 cl, .bool true, .int .i64 nn, .int .i64 h0, .int .i64 al] 67)).alloc (.cells #[.int .i64 0, .bool false, .int .i64 0, .slice none 0 0, .slice none 0 0] 27)).alloc (.cells #[.int .i64 cl, .bool true, .int .i64 nn, .slice none 0 0, .slice none 0 0] 27)).heap.size = w.heap.size + 3 := by simp
    clear hs1 hs2
    go_enter Try.func45, Try.ntmps45
    go_wp2_with fail
    go_loopw [8] (fun v8 wr => ∃ (rest : List Int) (A8 : Option Addr) (c8 : Nat) (ks : List S27) (A4 : Option Addr) (c4 fr : Nat), v8 = .slice A8 rest.length c8 ∧ Hid (Kd.C (Kd.int .u8) w A8 rest.length rest) ∧ Hid (okb rest = true) ∧ Hid (rest.length < fr ∧ fr ≤ f ∧ ks.length + rest.length ≤ ct.length ∧ rest.length ≤ c8) ∧ Hid (kidsF f (deep + 1) ct = joinF ks (kidsF fr (deep + 1) rest))
      ∧ Hid (Kd.R k27 27 wr (w.heap.size + 3) (fun _ => True) (.slice A4 ks.length c4) ks) ∧ Hid (wr.heap[w.heap.size + 1 + 1]? = some (.cells #[.int .i64 cl, .bool true, .int .i64 nn, .slice none 0 0, .slice A4 ks.length c4] 27 (0, 0))) ∧ Hid (wr.heap[w.heap.size + 1]? = some (.cells #[.int .i64 0, .bool false, .int .i64 0, .slice none 0 0, .slice none 0 0] 27 (0, 0))) ∧ Hid (Below w.heap.size w wr)) (fun v8 _ => match v8 with | .slice _ n _ => n | _ => 0)
    case atStart => exact ⟨ct, A', cc, [], none, 0, f, rfl, HCC, HOC, Lib.hid ⟨HAR.out.2.2.1, Nat.le_refl _, by simp, HAR.out.2.2.2⟩, Lib.hid (by cases kidsF f (deep + 1) ct <;> rfl), Lib.hid (Kd.R_nil _ _ _ _ _), HO3, HZ3, HB3⟩
    case round =>
      clear HO3 HZ3 HB3 hcut HCC HOC
      obtain ⟨rest, A8, c8, ks, A4, c4, fr, rfl, HC8, HOK, HLN, HJ, HR, HO, HZ, HB⟩ := hrel
      by_cases hz : rest.length = 0
      · have hzz : ¬ (0 : Int) < (rest.length : Int) := by omega
        have hg : ∃ g, fr = g + 1 := ⟨fr - 1, by have := HLN.out; omega⟩
        obtain ⟨g, rfl⟩ := hg
        have ho0 : wr.cell? ⟨w.heap.size + 1 + 1, 0, none⟩ = some (.int .i64 cl) := blk_cell HO.out 0
        have hfo0 : wr.frozen? ⟨w.heap.size + 1 + 1, 0, none⟩ = false := blk_frozen HO.out 0
        have hz0 : wr.cell? ⟨w.heap.size + 1, 0, none⟩ = some (.int .i64 0) := blk_cell HZ.out 0
        have hfz0 : wr.frozen? ⟨w.heap.size + 1, 0, none⟩ = false := blk_frozen HZ.out 0
        have ho1 : wr.cell? ⟨w.heap.size + 1 + 1, 1, none⟩ = some (.bool true) := blk_cell HO.out 1
        have hfo1 : wr.frozen? ⟨w.heap.size + 1 + 1, 1, none⟩ = false := blk_frozen HO.out 1
        have hz1 : wr.cell? ⟨w.heap.size + 1, 1, none⟩ = some (.bool false) := blk_cell HZ.out 1
        have hfz1 : wr.frozen? ⟨w.heap.size + 1, 1, none⟩ = false := blk_frozen HZ.out 1
        have ho2 : wr.cell? ⟨w.heap.size + 1 + 1, 2, none⟩ = some (.int .i64 nn) := blk_cell HO.out 2
        have hfo2 : wr.frozen? ⟨w.heap.size + 1 + 1, 2, none⟩ = false := blk_frozen HO.out 2
        have hz2 : wr.cell? ⟨w.heap.size + 1, 2, none⟩ = some (.int .i64 0) := blk_cell HZ.out 2
        have hfz2 : wr.frozen? ⟨w.heap.size + 1, 2, none⟩ = false := blk_frozen HZ.out 2
        have ho3 : wr.cell? ⟨w.heap.size + 1 + 1, 3, none⟩ = some (.slice none 0 0) := blk_cell HO.out 3
        have hfo3 : wr.frozen? ⟨w.heap.size + 1 + 1, 3, none⟩ = false := blk_frozen HO.out 3
        have hz3 : wr.cell? ⟨w.heap.size + 1, 3, none⟩ = some (.slice none 0 0) := blk_cell HZ.out 3
        have hfz3 : wr.frozen? ⟨w.heap.size + 1, 3, none⟩ = false := blk_frozen HZ.out 3
        have ho4 : wr.cell? ⟨w.heap.size + 1 + 1, 4, none⟩ = some (.slice A4 ks.length c4) := blk_cell HO.out 4
        have hfo4 : wr.frozen? ⟨w.heap.size + 1 + 1, 4, none⟩ = false := blk_frozen HO.out 4
        have hz4 : wr.cell? ⟨w.heap.size + 1, 4, none⟩ = some (.slice none 0 0) := blk_cell HZ.out 4
        have hfz4 : wr.frozen? ⟨w.heap.size + 1, 4, none⟩ = false := blk_frozen HZ.out 4
        clear hs3
        go_wp2_with fail
        obtain ⟨e0, e1, e2, e3, e4⟩ := set5v_cells HZ.out (.int .i64 cl) (.bool true) (.int .i64 nn) (.slice none 0 0) (.slice A4 ks.length c4)
        refine bodyPost_ret (v := .agg #[.int .i64 cl, .bool true, .int .i64 nn, .slice none 0 0, .slice A4 ks.length c4]) ?_ rfl ?_
        · simp only [set5v] at e0 e1 e2 e3 e4
          simp [results, Try.results45, go_sem, e0, e1, e2, e3, e4]
        · have hres : res = .ok ⟨⟨cl, true, nn⟩, [], ks⟩ := by rw [HRES.out, HJ.out, kidsF_nil g (deep + 1) rest hz, joinF, List.append_nil, HWR.out]; exact congrArg _ (HMK.out ks)
          unfold ElemQ
          rw [hres]
          exact ⟨set5v_below HB.out (by simp) _ _ _ _ _, _, _, rfl, Kd.R_nil _ _ _ _ _, Kd.R_lower (R_up HR.out (set5v_keep _ _ _ _ _) (by omega)) (by omega)⟩
      · have hpos : (0 : Int) < (rest.length : Int) := by omega
        obtain ⟨g, rfl⟩ : ∃ g, fr = g + 1 := ⟨fr - 1, by have := HLN.out; omega⟩
        by_cases hd24 : (24 : Int) ≤ (deep : Int) + 1
        · have hres : res = .error 15 := by rw [HRES.out, HJ.out, kidsF_deep g (deep + 1) rest hz (by omega), joinF, HWR.out]
          go_wp2_with fail
          refine ⟨rfl, ?_⟩
          unfold ElemQ
          rw [hres]
          exact ⟨HB.out, rfl⟩
        · have HBG : Hid (∀ W, Below w.heap.size w W → Calls Try.prog 28 #[.slice A8 rest.length c8] W fun e w' => e = .returned (.tuple #[bv (begin6 rest).1, .int .i64 (begin6 rest).2]) ∧ Below W.heap.size W w') := Lib.hid (fun W hW => begin_calls A8 c8 rest W (Kd.C_below HC8.out hW) HLN.out.2.2.2 HOK.out (by have := HLN.out; have := HAR.out; omega))
          have HOKB := Lib.hid (fun h => begin_ok HOK.out h)
          have HFM := Lib.hid (kidsF_form g (deep + 1) rest hz (by omega))
          have HST := Lib.hid (fun hb x (he : elemF g (deep + 1) rest = .ok x) => kidsF_step hz (by omega) hb he ks)
          have HBD := Lib.hid (fun hb n (he : elemF g (deep + 1) rest = .error n) => kidsF_bad hz (by omega) hb he)
          have HEL := Lib.hid (fun (W : World) (hW : Below w.heap.size w W) (h1 : (begin6 rest).2 = 0) (h2 : (begin6 rest).1.2.2.2.2 ≤ rest.length) (h3 : (cont rest).length < g) => IH.out g (by have := HLN.out; omega) rest (deep + 1) A8 c8 W (Kd.C_below HC8.out hW) HLN.out.2.2.2 HOK.out (by have := HLN.out; have := HAR.out; omega) h1 h2 h3 (by omega))
          have hct : (cont rest).length = min (begin6 rest).1.2.2.2.2.toNat rest.length - (begin6 rest).1.2.2.2.1.toNat := by unfold cont; rw [List.length_drop, List.length_take]
          generalize hel : elemF g (deep + 1) rest = er1 at HST HBD HEL
          generalize (cont rest).length = cn at hct HEL
          generalize hbg : begin6 rest = r2 at HBG HOKB HFM HST HBD HEL hct
          obtain ⟨⟨cl2, md2, nn2, h2, al2⟩, er2⟩ := r2
          simp only [] at HBG HOKB HFM HST HBD HEL hct
          clear hel
          by_cases herr : er2 = 0
          · subst herr
            by_cases hal : (rest.length : Int) < al2
            · have hres : res = .error 11 := by rw [HRES.out, HJ.out, HFM.out (.inr hal), joinF, HWR.out]
              go_wp2_with (go_at_call 28; refine (HBG.out wr HB.out).mono ?_; rintro e w1 ⟨rfl, hb1⟩; have hO1 := Lib.hid (blk_below HO.out hb1); have hZ1 := Lib.hid (blk_below HZ.out hb1); have hR1 := Lib.hid (Kd.R_below HR.out hb1); have hB1 := Lib.hid (below_then HB.out HB.out.size hb1); clear hb1)
              refine ⟨rfl, ?_⟩
              unfold ElemQ
              rw [hres]
              exact ⟨below_alloc hB1.out _, rfl⟩
            · obtain ⟨q0, q1, q2, q3⟩ := HOKB.out rfl
              have HQ : Hid (2 ≤ h2 ∧ h2 ≤ al2 ∧ al2 ≤ (rest.length : Int)) := Lib.hid ⟨q0, q1, by omega⟩
              obtain ⟨i5, hi5, _, hsz5, _⟩ := info_parts info5
              obtain ⟨A9, hcut9, hA9, hcA9⟩ := print_drop_of (P := Try.prog) (Value.int .u8) 0 24 5 .i64 Try.underlying24 hi5 hsz5 A8 c8 rest al2 (by omega) (by omega) HLN.out.2.2.2
              have HC9 : Hid (Kd.C (Kd.int .u8) w A9 (rest.drop al2.toNat).length (rest.drop al2.toNat)) := Lib.hid (Kd.C_of_reads (h1 := fun _ => rfl) (hA9 w (Kd.reads_of_C HC8.out)))
              have HCA9 := Lib.hid hcA9
              have HOK9 : Hid (okb (rest.drop al2.toNat) = true) := Lib.hid (okb_drop HOK.out _)
              have HDR : Hid ((rest.drop al2.toNat).length = rest.length - al2.toNat) := Lib.hid (List.length_drop ..)
              have HNB := Lib.hid (show ¬ ((0 : Int) ≠ 0 ∨ (rest.length : Int) < al2) from by rintro (h | h); exact h rfl; exact hal h)
              have HE2 := Lib.hid (fun W hW => HEL.out W hW rfl (by omega) (by have := HLN.out; omega))
              clear hA9 hi5 hsz5 q0 q1 q2 q3 hcA9 hct HEL HOKB HFM
              generalize hrd : rest.drop al2.toNat = rest9 at *
              generalize hrn : rest.length = rn at *
              clear hrd
              cases er1 with
              | error n =>
                have HE3 : Hid (∀ W, Below w.heap.size w W → Calls Try.prog 45 #[bv (cl2, md2, nn2, h2, al2), .slice A8 rn c8, .int .i64 (wrap64 ((deep : Int) + 1))] W fun e w' => Below W.heap.size W w' ∧ e = .panicked (chainN n)) := Lib.hid (fun W hW => by rw [show wrap64 ((deep : Int) + 1) = ((deep + 1 : Nat) : Int) from by unfold wrap64; omega]; exact (HE2.out W hW).mono (fun e w' h => h))
                go_upto_region 12 with (go_at_call 28; refine (HBG.out wr HB.out).mono ?_; rintro e w1 ⟨rfl, hb1⟩; have hO1 := Lib.hid (blk_below HO.out hb1); have hZ1 := Lib.hid (blk_below HZ.out hb1); have hR1 := Lib.hid (Kd.R_below HR.out hb1); have hB1 := Lib.hid (below_then HB.out HB.out.size hb1); clear hb1)
                have hal9 : Below w1.heap.size w1 (w1.alloc (.cells #[.int .i64 cl2, .bool md2, .int .i64 nn2, .int .i64 h2, .int .i64 al2] 67)) := below_alloc (Below.refl _ _) _
                have hO2 := blk_below hO1.out hal9
                have hZ2 := blk_below hZ1.out hal9
                have hR2 := Kd.R_below hR1.out hal9
                have hB2 := below_then hB1.out hB1.out.size hal9
                have hG2 : (w1.alloc (.cells #[.int .i64 cl2, .bool md2, .int .i64 nn2, .int .i64 h2, .int .i64 al2] 67)).heap[w1.heap.size]? = some (.cells #[.int .i64 cl2, .bool md2, .int .i64 nn2, .int .i64 h2, .int .i64 al2] 67 (0, 0)) := blk_new w1 _
                have hgb : w.heap.size ≤ w1.heap.size := hB1.out.size
                clear hal9 hO1 hZ1 hR1 hB1
                generalize w1.alloc (.cells #[.int .i64 cl2, .bool md2, .int .i64 nn2, .int .i64 h2, .int .i64 al2] 67) = w9 at hO2 hZ2 hR2 hB2 hG2 ⊢
                generalize w1.heap.size = gb at hG2 hgb ⊢
                have hO := blk_below hO2 (below_drew (Below.refl _ _))
                have hZ := blk_below hZ2 (below_drew (Below.refl _ _))
                have hR := Kd.R_below hR2 (below_drew (Below.refl _ _))
                have hB := below_drew hB2
                have hG := blk_below hG2 (below_drew (Below.refl _ _))
                clear hO2 hZ2 hR2 hB2 hG2
                refine start_ (n := 11) (S := fun w' => (w'.heap[w.heap.size + 1 + 1]? = some (.cells #[.int .i64 cl, .bool true, .int .i64 nn, .slice none 0 0, .slice A4 ks.length c4] 27 (0, 0))) ∧ (w'.heap[gb]? = some (.cells #[.int .i64 cl2, .bool md2, .int .i64 nn2, .int .i64 h2, .int .i64 al2] 67 (0, 0))) ∧ (w'.heap[w.heap.size + 1]? = some (.cells #[.int .i64 0, .bool false, .int .i64 0, .slice none 0 0, .slice none 0 0] 27 (0, 0))) ∧ (Kd.R k27 27 w' (w.heap.size + 3) (fun _ => True) (.slice A4 ks.length c4) ks) ∧ (Below w.heap.size w w')) (ds := [8, 10]) #[false, false, false, false, false, false, false, false, false, false, false] (by kernel_rfl) rfl rfl ⟨hO, hG, hZ, hR, hB⟩ (fun hHeld => ?_)
                refine pure_ (i := 0) (N := some 52) (v := ?_) (a' := ?_) #[true, false, false, false, false, false, false, false, false, false, false] rfl rfl (by kernel_rfl) (fun _ _ _ h => h) (Or.inl ⟨by rfl, ?_⟩) ?_ ?_
                rotate_left
                · intro w'
                  go_simp
                  with_reducible rfl
                rotate_left
                · simp only [Act.put, List.setIfInBounds_toArray, List.set_cons_zero, List.set_cons_succ, i64_w, i32_w]
                  rfl
                refine pure_ (i := 3) (N := some 55) (v := ?_) (a' := ?_) #[true, false, false, true, false, false, false, false, false, false, false] rfl rfl (by kernel_rfl) (fun _ _ _ h => h) (Or.inl ⟨by rfl, ?_⟩) ?_ ?_
                rotate_left
                · intro w'
                  go_simp
                  with_reducible rfl
                rotate_left
                · simp only [Act.put, List.setIfInBounds_toArray, List.set_cons_zero, List.set_cons_succ, i64_w, i32_w]
                  rfl
                refine pure_ (i := 4) (N := some 56) (v := ?_) (a' := ?_) #[true, false, false, true, true, false, false, false, false, false, false] rfl rfl (by kernel_rfl) (fun _ _ _ h => h) (Or.inl ⟨by rfl, ?_⟩) ?_ ?_
                rotate_left
                · intro w'
                  go_simp
                  with_reducible rfl
                rotate_left
                · simp only [Act.put, List.setIfInBounds_toArray, List.set_cons_zero, List.set_cons_succ, i64_w, i32_w]
                  rfl
                refine pure_ (i := 5) (N := some 57) (v := ?_) (a' := ?_) #[true, false, false, true, true, true, false, false, false, false, false] rfl rfl (by kernel_rfl) (fun _ _ _ h => h) (Or.inl ⟨by rfl, ?_⟩) ?_ ?_
                rotate_left
                · intro w'
                  go_simp
                  with_reducible rfl
                rotate_left
                · simp only [Act.put, List.setIfInBounds_toArray, List.set_cons_zero, List.set_cons_succ, i64_w, i32_w]
                  rfl
                refine take_ (i := 1) (N := some 53) (v := ?_) (a' := ?_) #[true, true, false, true, true, true, false, false, false, false, false] rfl rfl (by kernel_rfl) (fun _ _ _ h => h) (Or.inl ⟨by rfl, ?_⟩) hHeld ?_ ?_
                rotate_left
                · rintro w' ⟨hO, hG, hZ, hR, hB⟩
                  have lo : w'.cell? ⟨w.heap.size + 1 + 1, 4, none⟩ = some (.slice A4 ks.length c4) := blk_cell hO 4
                  go_simp
                  with_reducible rfl
                rotate_left
                · simp only [Act.put, List.setIfInBounds_toArray, List.set_cons_zero, List.set_cons_succ, i64_w, i32_w]
                  rfl
                refine take_ (i := 2) (N := some 54) (v := ?_) (a' := ?_) #[true, true, true, true, true, true, false, false, false, false, false] rfl rfl (by kernel_rfl) (fun _ _ _ h => h) (Or.inl ⟨by rfl, ?_⟩) hHeld ?_ ?_
                rotate_left
                · rintro w' ⟨hO, hG, hZ, hR, hB⟩
                  have l0 : w'.cell? ⟨gb, 0, none⟩ = some (.int .i64 cl2) := blk_cell hG 0
                  have l1 : w'.cell? ⟨gb, 1, none⟩ = some (.bool md2) := blk_cell hG 1
                  have l2 : w'.cell? ⟨gb, 2, none⟩ = some (.int .i64 nn2) := blk_cell hG 2
                  have l3 : w'.cell? ⟨gb, 3, none⟩ = some (.int .i64 h2) := blk_cell hG 3
                  have l4 : w'.cell? ⟨gb, 4, none⟩ = some (.int .i64 al2) := blk_cell hG 4
                  go_simp
                  with_reducible rfl
                rotate_left
                · simp only [Act.put, List.setIfInBounds_toArray, List.set_cons_zero, List.set_cons_succ, i64_w, i32_w]
                  rfl
                refine one_ (i := 6) (N := some 58) #[true, true, true, true, true, true, true, false, false, false, false] rfl rfl (by kernel_rfl) (by decide) (fun K hK => ?_)
                obtain ⟨hO, hG, hZ, hR, hB⟩ := hHeld
                refine goesP_ Try.func45 (by kernel_rfl) rfl #[bv (cl2, md2, nn2, h2, al2), .slice A8 rn c8, .int .i64 (wrap64 ((deep : Int) + 1))] (by rfl) rfl rfl (by simp only [List.map_toArray, List.map_cons, List.map_nil]; rfl) ?_
                with_reducible refine (HE3.out _ hB).mono ?_
                rintro e w5 ⟨hb, rfl⟩
                refine ⟨_, rfl, ?_⟩
                have hres : res = .error n := by rw [HRES.out, HJ.out, HBD.out HNB.out n rfl, joinF, HWR.out]
                refine ⟨rfl, ?_⟩
                unfold ElemQ
                rw [hres]
                exact ⟨below_then hB hB.size hb, rfl⟩
              | ok x =>
                obtain ⟨ks2, hks2⟩ : ∃ l, l = ks ++ [x] := ⟨_, rfl⟩
                have HK2 := Lib.hid hks2
                have HKL : Hid (ks2.length = ks.length + 1) := Lib.hid (by rw [hks2]; simp)
                clear hks2
                have HE3 : Hid (∀ W, Below w.heap.size w W → Calls Try.prog 45 #[bv (cl2, md2, nn2, h2, al2), .slice A8 rn c8, .int .i64 (wrap64 ((deep : Int) + 1))] W fun e w' => Below W.heap.size W w' ∧ ∃ v3 v4, e = .returned (kv x v3 v4) ∧ Kd.R (Kd.int .u8) 5 w' W.heap.size (fun _ => True) v3 x.f1 ∧ Kd.R k27 27 w' W.heap.size (fun _ => True) v4 x.f2) := Lib.hid (fun W hW => by rw [show wrap64 ((deep : Int) + 1) = ((deep + 1 : Nat) : Int) from by unfold wrap64; omega]; exact (HE2.out W hW).mono (fun e w' h => h))
                go_upto_region 12 with (go_at_call 28; refine (HBG.out wr HB.out).mono ?_; rintro e w1 ⟨rfl, hb1⟩; have hO1 := Lib.hid (blk_below HO.out hb1); have hZ1 := Lib.hid (blk_below HZ.out hb1); have hR1 := Lib.hid (Kd.R_below HR.out hb1); have hB1 := Lib.hid (below_then HB.out HB.out.size hb1); clear hb1)
                have hal9 : Below w1.heap.size w1 (w1.alloc (.cells #[.int .i64 cl2, .bool md2, .int .i64 nn2, .int .i64 h2, .int .i64 al2] 67)) := below_alloc (Below.refl _ _) _
                have hO2 := blk_below hO1.out hal9
                have hZ2 := blk_below hZ1.out hal9
                have hR2 := Kd.R_below hR1.out hal9
                have hB2 := below_then hB1.out hB1.out.size hal9
                have hG2 : (w1.alloc (.cells #[.int .i64 cl2, .bool md2, .int .i64 nn2, .int .i64 h2, .int .i64 al2] 67)).heap[w1.heap.size]? = some (.cells #[.int .i64 cl2, .bool md2, .int .i64 nn2, .int .i64 h2, .int .i64 al2] 67 (0, 0)) := blk_new w1 _
                have hgb : w.heap.size ≤ w1.heap.size := hB1.out.size
                clear hal9 hO1 hZ1 hR1 hB1
                generalize w1.alloc (.cells #[.int .i64 cl2, .bool md2, .int .i64 nn2, .int .i64 h2, .int .i64 al2] 67) = w9 at hO2 hZ2 hR2 hB2 hG2 ⊢
                generalize w1.heap.size = gb at hG2 hgb ⊢
                have hO := blk_below hO2 (below_drew (Below.refl _ _))
                have hZ := blk_below hZ2 (below_drew (Below.refl _ _))
                have hR := Kd.R_below hR2 (below_drew (Below.refl _ _))
                have hB := below_drew hB2
                have hG := blk_below hG2 (below_drew (Below.refl _ _))
                clear hO2 hZ2 hR2 hB2 hG2
                refine start_ (n := 11) (S := fun w' => (w'.heap[w.heap.size + 1 + 1]? = some (.cells #[.int .i64 cl, .bool true, .int .i64 nn, .slice none 0 0, .slice A4 ks.length c4] 27 (0, 0))) ∧ (w'.heap[gb]? = some (.cells #[.int .i64 cl2, .bool md2, .int .i64 nn2, .int .i64 h2, .int .i64 al2] 67 (0, 0))) ∧ (w'.heap[w.heap.size + 1]? = some (.cells #[.int .i64 0, .bool false, .int .i64 0, .slice none 0 0, .slice none 0 0] 27 (0, 0))) ∧ (Kd.R k27 27 w' (w.heap.size + 3) (fun _ => True) (.slice A4 ks.length c4) ks) ∧ (Below w.heap.size w w')) (ds := [8, 10]) #[false, false, false, false, false, false, false, false, false, false, false] (by kernel_rfl) rfl rfl ⟨hO, hG, hZ, hR, hB⟩ (fun hHeld => ?_)
                refine pure_ (i := 0) (N := some 52) (v := ?_) (a' := ?_) #[true, false, false, false, false, false, false, false, false, false, false] rfl rfl (by kernel_rfl) (fun _ _ _ h => h) (Or.inl ⟨by rfl, ?_⟩) ?_ ?_
                rotate_left
                · intro w'
                  go_simp
                  with_reducible rfl
                rotate_left
                · simp only [Act.put, List.setIfInBounds_toArray, List.set_cons_zero, List.set_cons_succ, i64_w, i32_w]
                  rfl
                refine pure_ (i := 3) (N := some 55) (v := ?_) (a' := ?_) #[true, false, false, true, false, false, false, false, false, false, false] rfl rfl (by kernel_rfl) (fun _ _ _ h => h) (Or.inl ⟨by rfl, ?_⟩) ?_ ?_
                rotate_left
                · intro w'
                  go_simp
                  with_reducible rfl
                rotate_left
                · simp only [Act.put, List.setIfInBounds_toArray, List.set_cons_zero, List.set_cons_succ, i64_w, i32_w]
                  rfl
                refine pure_ (i := 4) (N := some 56) (v := ?_) (a' := ?_) #[true, false, false, true, true, false, false, false, false, false, false] rfl rfl (by kernel_rfl) (fun _ _ _ h => h) (Or.inl ⟨by rfl, ?_⟩) ?_ ?_
                rotate_left
                · intro w'
                  go_simp
                  with_reducible rfl
                rotate_left
                · simp only [Act.put, List.setIfInBounds_toArray, List.set_cons_zero, List.set_cons_succ, i64_w, i32_w]
                  rfl
                refine pure_ (i := 5) (N := some 57) (v := ?_) (a' := ?_) #[true, false, false, true, true, true, false, false, false, false, false] rfl rfl (by kernel_rfl) (fun _ _ _ h => h) (Or.inl ⟨by rfl, ?_⟩) ?_ ?_
                rotate_left
                · intro w'
                  go_simp
                  with_reducible rfl
                rotate_left
                · simp only [Act.put, List.setIfInBounds_toArray, List.set_cons_zero, List.set_cons_succ, i64_w, i32_w]
                  rfl
                refine take_ (i := 1) (N := some 53) (v := ?_) (a' := ?_) #[true, true, false, true, true, true, false, false, false, false, false] rfl rfl (by kernel_rfl) (fun _ _ _ h => h) (Or.inl ⟨by rfl, ?_⟩) hHeld ?_ ?_
                rotate_left
                · rintro w' ⟨hO, hG, hZ, hR, hB⟩
                  have lo : w'.cell? ⟨w.heap.size + 1 + 1, 4, none⟩ = some (.slice A4 ks.length c4) := blk_cell hO 4
                  go_simp
                  with_reducible rfl
                rotate_left
                · simp only [Act.put, List.setIfInBounds_toArray, List.set_cons_zero, List.set_cons_succ, i64_w, i32_w]
                  rfl
                refine take_ (i := 2) (N := some 54) (v := ?_) (a' := ?_) #[true, true, true, true, true, true, false, false, false, false, false] rfl rfl (by kernel_rfl) (fun _ _ _ h => h) (Or.inl ⟨by rfl, ?_⟩) hHeld ?_ ?_
                rotate_left
                · rintro w' ⟨hO, hG, hZ, hR, hB⟩
                  have l0 : w'.cell? ⟨gb, 0, none⟩ = some (.int .i64 cl2) := blk_cell hG 0
                  have l1 : w'.cell? ⟨gb, 1, none⟩ = some (.bool md2) := blk_cell hG 1
                  have l2 : w'.cell? ⟨gb, 2, none⟩ = some (.int .i64 nn2) := blk_cell hG 2
                  have l3 : w'.cell? ⟨gb, 3, none⟩ = some (.int .i64 h2) := blk_cell hG 3
                  have l4 : w'.cell? ⟨gb, 4, none⟩ = some (.int .i64 al2) := blk_cell hG 4
                  go_simp
                  with_reducible rfl
                rotate_left
                · simp only [Act.put, List.setIfInBounds_toArray, List.set_cons_zero, List.set_cons_succ, i64_w, i32_w]
                  rfl
                refine one_ (i := 6) (N := some 58) #[true, true, true, true, true, true, true, false, false, false, false] rfl rfl (by kernel_rfl) (by decide) (fun K hK => ?_)
                obtain ⟨hO, hG, hZ, hR, hB⟩ := hHeld
                refine goes_ Try.func45 (by kernel_rfl) rfl #[bv (cl2, md2, nn2, h2, al2), .slice A8 rn c8, .int .i64 (wrap64 ((deep : Int) + 1))] (by rfl) rfl rfl (by simp only [List.map_toArray, List.map_cons, List.map_nil]; rfl) ?_
                with_reducible refine (HE3.out _ hB).mono ?_
                rintro e w5 ⟨hb, v3, v4, rfl, h3, h4⟩
                refine ⟨_, rfl, ?_⟩
                have HO5 := Lib.hid (blk_below hO hb)
                have HG5 := Lib.hid (blk_below hG hb)
                have HZ5 := Lib.hid (blk_below hZ hb)
                have HR5 := Lib.hid (Kd.R_below hR hb)
                have HB5 := Lib.hid (below_then hB hB.size hb)
                have H3 := Lib.hid (Kd.R_lower (Kd.R_mono (Kd.R_bound h3) (fun k hk e => by have h1 := Kd.R_lt hR k e.symm; have h2 := hk.2.1; omega)) (by have := blk_lt hO; omega) : Kd.R (Kd.int .u8) 5 w5 (w.heap.size + 3) (fun k => some k ≠ (Value.slice A4 ks.length c4).ownBlock) v3 x.f1)
                have H4 := Lib.hid (Kd.R_lower (Kd.R_mono (Kd.R_bound h4) (fun k hk e => by have h1 := Kd.R_lt hR k e.symm; have h2 := hk.2.1; omega)) (by have := blk_lt hO; omega) : Kd.R k27 27 w5 (w.heap.size + 3) (fun k => some k ≠ (Value.slice A4 ks.length c4).ownBlock) v4 x.f2)
                refine hK.out _ _ ⟨(blk_below hO hb), (blk_below hG hb), (blk_below hZ hb), (Kd.R_below hR hb), (below_then hB hB.size hb)⟩ (fun hHeld => ?_)
                clear hK K
                clear h3 h4 hb hO hG hZ hR hB
                refine norm_ (a' := ?_) ?_ ?_
                rotate_left
                · show Act.put _ (some 58) _ = _
                  simp only [Act.put, List.setIfInBounds_toArray, List.set_cons_zero, List.set_cons_succ, i64_w, i32_w]
                  rfl
                refine one_ (i := 7) (N := some 59) #[true, true, true, true, true, true, true, true, false, false, false] rfl rfl (by kernel_rfl) (by decide) (fun K hK => ?_)
                obtain ⟨hO, hG, hZ, hR, hB⟩ := hHeld
                refine value_ (w1 := ?_) (v := ?_) (by rfl) rfl ?_ ?_
                rotate_left 2
                · go_simp
                  constructor
                  · rfl
                  · rfl
                refine hK.out _ _ ⟨(blk_below hO (below_alloc (Below.refl _ _) _)), (blk_below hG (below_alloc (Below.refl _ _) _)), (blk_below hZ (below_alloc (Below.refl _ _) _)), (Kd.R_below hR (below_alloc (Below.refl _ _) _)), (below_then hB hB.size (below_alloc (Below.refl _ _) _))⟩ (fun hHeld => ?_)
                clear hK K
                clear hO hG hZ hR hB
                refine norm_ (a' := ?_) ?_ ?_
                rotate_left
                · show Act.put _ (some 59) _ = _
                  simp only [Act.put, List.setIfInBounds_toArray, List.set_cons_zero, List.set_cons_succ, i64_w, i32_w]
                  rfl
                refine last_ (i := 8) (N := some 60) #[true, true, true, true, true, true, true, true, true, false, false] rfl rfl (by kernel_rfl) (by decide) (fun K hK => ?_)
                obtain ⟨hO, hG, hZ, hR, hB⟩ := hHeld
                refine Kd.R_append_step k27 (w0 := w5) (w.heap.size + 3) (by rfl) (.tmp 53) (.tmp 59) 25 27 (.agg #[.int .i64 0, .bool false, .int .i64 0, .slice none 0 0, .slice none 0 0]) 72 (by rfl) Try.underlying25 info27 rfl (by decide) (by omega) (.slice A4 ks.length c4) ks x [.int .i64 x.f0.f0, .bool x.f0.f1, .int .i64 x.f0.f2, v3, v4] (fun _ => True) (fun k => some k ≠ (Value.slice A4 ks.length c4).ownBlock) (by rfl) (by rfl) (k27_mkM _ _ _ x H3.out H4.out) (fun k hk => ⟨trivial, hk⟩) (fun _ _ => trivial) HR5.out (Below.refl _ _) (by have := blk_lt HO5.out; omega) (by have := HLN.out; have := HAR.out; omega) ?_
                intro v60 w60 ho hb9 hg9 hat9
                rw [← HK2.out] at ho
                (obtain ⟨A60, c60, hv60⟩ := Kd.R_slice ho)
                subst hv60
                have HR6 := Lib.hid ho
                have HB6 := Lib.hid (HB5.out.trans (Below.mono hb9 (by omega)))
                have HO6 := Lib.hid (blk_grown HO5.out hg9 (fun e => by have := Kd.R_base HR5.out _ e.symm; omega))
                have HZ6 := Lib.hid (blk_grown HZ5.out hg9 (fun e => by have := Kd.R_base HR5.out _ e.symm; omega))
                have HG6 := Lib.hid (blk_grown HG5.out hg9 (Kd.R_ne HR5.out HG5.out (by decide)))
                have lo6 : w60.cell? ⟨w.heap.size + 1 + 1, 4, none⟩ = some (.slice A4 ks.length c4) := blk_cell HO6.out 4
                have lf6 : w60.frozen? ⟨w.heap.size + 1 + 1, 4, none⟩ = false := blk_frozen HO6.out 4
                clear ho hb9 hg9 hat9 HR5 HB5 HO5 HZ5 HG5 H3 H4
                refine hK.out _ _ ?_
                clear hK K
                refine norm_ (a' := ?_) ?_ ?_
                rotate_left
                · show Act.put _ (some 60) _ = _
                  simp only [Act.put, List.setIfInBounds_toArray, List.set_cons_zero, List.set_cons_succ, i64_w, i32_w]
                  rfl
                refine pure_ (i := 9) (N := some 61) (v := ?_) (a' := ?_) #[true, true, true, true, true, true, true, true, true, true, false] rfl rfl (by kernel_rfl) (fun _ _ _ h => h) (Or.inl ⟨by rfl, ?_⟩) ?_ ?_
                rotate_left
                · intro w'
                  go_simp
                  with_reducible rfl
                rotate_left
                · simp only [Act.put, List.setIfInBounds_toArray, List.set_cons_zero, List.set_cons_succ, i64_w, i32_w]
                  rfl
                refine last_ (i := 10) (N := none) #[true, true, true, true, true, true, true, true, true, true, true] rfl rfl (by kernel_rfl) (by decide) (fun K hK => ?_)
                refine skip_ (w1 := ?_) (by rfl) rfl ?_ ?_
                rotate_left
                · go_simp
                  rfl
                refine hK.out _ _ ?_
                clear hK K
                refine done_ (by kernel_rfl) ?_
                have HG7 := Lib.hid (blk_far (p := ⟨w.heap.size + 1 + 1, 4, none⟩) HG6.out (blk_ne HG6.out HO6.out (by decide)) (.slice A60 ks2.length c60))
                have l4 : (w60.setCell ⟨w.heap.size + 1 + 1, 4, none⟩ (.slice A60 ks2.length c60)).cell? ⟨gb, 4, none⟩ = some (.int .i64 al2) := blk_cell HG7.out 4
                go_wp2_with fail
                go_roundw
                case rel => exact ⟨rest9, A9, c8 - al2.toNat, ks2, A60, c60, g, rfl, HC9, HOK9, Lib.hid ⟨by have := HLN.out; have := HDR.out; have := HQ.out; omega, by have := HLN.out; omega, by have := HLN.out; have := HDR.out; have := HQ.out; have := HKL.out; omega, HCA9.out⟩, Lib.hid (by rw [HJ.out]; rw [HK2.out]; exact HST.out HNB.out x rfl), Lib.hid (R_up HR6.out (KeepBut.set_ (KeepBut.refl _ _ _) 4 _) (by omega)), Lib.hid (blk_put HO6.out 4 _ rfl), Lib.hid (blk_far HZ6.out (by simp) _), Lib.hid (Below.setCell HB6.out (by simp; omega) _)⟩
                case measure => simp only []; have := HDR.out; have := HQ.out; omega
          · have hres : res = .error 11 := by rw [HRES.out, HJ.out, HFM.out (.inl herr), joinF, HWR.out]
            have herr2 : (er2 != 0) = true := by simpa using herr
            go_wp2_with (go_at_call 28; refine (HBG.out wr HB.out).mono ?_; rintro e w1 ⟨rfl, hb1⟩; have hO1 := Lib.hid (blk_below HO.out hb1); have hZ1 := Lib.hid (blk_below HZ.out hb1); have hR1 := Lib.hid (Kd.R_below HR.out hb1); have hB1 := Lib.hid (below_then HB.out HB.out.size hb1); clear hb1)
            refine ⟨rfl, ?_⟩
            unfold ElemQ
            rw [hres]
            exact ⟨below_alloc hB1.out _, rfl⟩

end Go.Proofs.Ytkhghgmonjebnaa.B
