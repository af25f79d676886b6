/- A disk's bytes: a row of one's own, or one that was cut to its length with no room behind it; what an append makes of it. -/
import Derived.Test.YtkckmikpmjecdaaDkW
import Derived.Test.YtkckmikpmjecdaaWLast
namespace Go.Proofs.Ytkckmikpmjecdaa.H
open Go.RowKit Go.Proofs.YtkckmikpmjecdaaW.PrintWords Go.Proofs.YtkckmikpmjecdaaW.PrintLast Go.Proofs.YtkckmikpmjecdaaW.PrintMore
set_option linter.unusedVariables false
set_option linter.unusedSimpArgs false
abbrev KB : Kd Int := Kd.int .u8
abbrev eb : List Int → List Value := encs (Value.int .u8)
/-- Cut to its length. -/
def Fr (w : World) (B : Nat) (v : Value) (xs : List Int) : Prop := ∃ g cur, v = .slice (some ⟨g, 0, none⟩) xs.length xs.length ∧ B ≤ g ∧ w.heap[g]? = some (.cells cur 5 (0, 0)) ∧ xs.length ≤ cur.size ∧ cur.toList.take xs.length = eb xs
def Br (w : World) (B : Nat) (v : Value) (xs : List Int) : Prop := KB.R 5 w B (fun _ => True) v xs ∨ Fr w B v xs
theorem Fr.cells {w : World} {B g : Nat} {cur : Array Value} {xs : List Int} (hh : w.heap[g]? = some (.cells cur 5 (0, 0))) (hs : xs.length ≤ cur.size) (ht : cur.toList.take xs.length = eb xs) : ∀ j u, (eb xs)[j]? = some u → w.cell? ((⟨g, 0, none⟩ : Addr).add j) = some u := by
  intro j u hu
  have hj : j < (eb xs).length := (List.getElem?_eq_some_iff.1 hu).1
  rw [← ht, List.getElem?_take] at hu
  split at hu
  · rw [Array.getElem?_toList] at hu
    have e : (⟨g, 0, none⟩ : Addr).add j = ⟨g, j, none⟩ := by unfold Addr.add; split <;> simp_all
    rw [e, blk_cell hh j]
    exact hu
  · cases hu
theorem Br.reads {w : World} {B : Nat} {v : Value} {xs : List Int} (h : Br w B v xs) (hm : xs.length ≤ 9223372036854775807) : ∃ A c, v = .slice A xs.length c ∧ xs.length ≤ c ∧ KB.C w A xs.length xs := by
  rcases h with h | ⟨g, cur, rfl, _, hh, hs, ht⟩
  · exact Kd.R_reads h
  · refine ⟨_, _, rfl, Nat.le_refl _, Kd.C_of_reads (d := (0 : Int)) ⟨rfl, hm, fun _ => ⟨_, rfl, fun j hj => ?_⟩⟩⟩
    refine Fr.cells (B := B) hh hs ht j _ ?_
    show (xs.map (Value.int .u8))[j]? = _
    rw [List.getElem?_map, List.getElem?_eq_getElem hj, List.getD_eq_getElem?_getD, List.getElem?_eq_getElem hj]
    rfl
theorem Br.base {w : World} {B : Nat} {v : Value} {xs : List Int} (h : Br w B v xs) : ∀ k, v.ownBlock = some k → B ≤ k := by
  rcases h with h | ⟨g, cur, rfl, hb, hh, hs, ht⟩
  · exact Kd.R_base h
  · intro k hk
    have : g = k := by simpa [Value.ownBlock] using hk
    omega
theorem Br.lt {w : World} {B : Nat} {v : Value} {xs : List Int} (h : Br w B v xs) : ∀ k, v.ownBlock = some k → k < w.heap.size := by
  rcases h with h | ⟨g, cur, rfl, hb, hh, hs, ht⟩
  · exact Kd.R_lt h
  · intro k hk
    have : g = k := by simpa [Value.ownBlock] using hk
    subst this
    exact blk_lt hh
theorem Br.ne {w : World} {B : Nat} {v : Value} {xs : List Int} (h : Br w B v xs) {g t : Nat} {cells : Array Value} (hb : w.heap[g]? = some (.cells cells t (0, 0))) (ht : 5 ≠ t) : some g ≠ v.ownBlock := by
  rcases h with h | ⟨g', cur, rfl, _, hh, hs, _⟩
  · exact Kd.R_ne h hb ht
  · intro e
    have : g = g' := by simpa [Value.ownBlock] using e
    subst this
    rw [hh] at hb
    injection hb with hb
    injection hb with _ hb
    exact ht hb
theorem Br.step {w w1 : World} {B : Nat} {v : Value} {xs : List Int} (h : Br w B v xs) (hm : ∀ k, v.ownBlock = some k → w1.heap[k]? = w.heap[k]?) : Br w1 B v xs := by
  rcases h with h | ⟨g, cur, rfl, hb, hh, hs, ht⟩
  · exact .inl (Kd.R_mono (Kd.R_move (Kd.R_tight rfl h) (fun k hk => hm k hk.symm)) (fun _ _ => trivial))
  · exact .inr ⟨g, cur, rfl, hb, (hm g (by simp [Value.ownBlock])).trans hh, hs, ht⟩
theorem Br.below {w w1 : World} {B : Nat} {v : Value} {xs : List Int} (h : Br w B v xs) (hb : Below w.heap.size w w1) : Br w1 B v xs := h.step fun k hk => hb.block k (h.lt k hk)
theorem Br.set {w : World} {B : Nat} {v : Value} {xs : List Int} (h : Br w B v xs) {g t : Nat} {cells : Array Value} (hb : w.heap[g]? = some (.cells cells t (0, 0))) (ht : 5 ≠ t) (j : Nat) (u : Value) : Br (w.setCell ⟨g, j, none⟩ u) B v xs :=
  h.step fun k hk => Below.heap_setCell w ⟨g, j, none⟩ u k (fun e => h.ne hb ht (by rw [hk]; exact congrArg some e.symm))
theorem Br.lower {w : World} {B B' : Nat} {v : Value} {xs : List Int} (h : Br w B v xs) (hb : B' ≤ B) : Br w B' v xs := by
  rcases h with h | ⟨g, cur, rfl, h1, hh, hs, ht⟩
  · exact .inl (Kd.R_lower h hb)
  · exact .inr ⟨g, cur, rfl, Nat.le_trans hb h1, hh, hs, ht⟩
/-- What an append of bytes that are read makes of it. -/
theorem Br.append {w : World} {B : Nat} {v : Value} {xs ys : List Int} {D : Option Addr} {m k : Nat} (ty : TypeId) (h : Br w B v xs) (hY : KB.C w D m ys) (hB : B ≤ w.heap.size) (hl : xs.length + m ≤ 100000000) :
    ∃ v1 w1, (Builtin.append_ #[22, 22] ty #[v, .slice D m k]).run Try.prog w = .ok v1 w1 ∧ Br w1 B v1 (xs ++ ys) ∧ w.grownBy w1 v.ownBlock := by
  obtain ⟨i0, hi, hz0, hz1, hz2⟩ := info_parts info5
  have hm : ys.length = m := hY.1
  rcases Nat.eq_zero_or_pos m with h0 | h0
  · subst h0
    obtain rfl : ys = [] := List.eq_nil_of_length_eq_zero hm
    refine ⟨v, w, ?_, by rw [List.append_nil]; exact h, World.grownBy.refl w _⟩
    obtain ⟨A, c, rfl, hc, _⟩ := h.reads (by omega)
    have hfc : (Builtin.firstCells 1 0 (.slice D 0 k)).run Try.prog w = .ok #[] w := by cases D <;> simp [Builtin.firstCells, loadCells, loadCellsFrom]
    cases A <;> simp [Builtin.append_, run_underlying Try.underlying22, sizeOf, typeInfo, hi, hz1, Builtin.lenOf, hfc, hc, storeCells]
  · have hrd := Kd.reads_of_C (d := (0 : Int)) hY
    obtain ⟨a, rfl, hca⟩ := hrd.2.2 h0
    have hnl : (eb ys).length = m * 1 := by simp [eb, encs, hm]
    have hnc : ∀ j u, (eb ys)[j]? = some u → w.cell? (a.add j) = some u := by
      intro j u hu
      have hj : j < ys.length := by have := (List.getElem?_eq_some_iff.1 hu).1; simpa [eb, encs] using this
      have := hca j (by omega)
      rw [this]
      replace hu : (ys.map (Value.int .u8))[j]? = some u := hu
      rw [List.getElem?_map, List.getElem?_eq_getElem hj] at hu
      rw [List.getD_eq_getElem?_getD, List.getElem?_eq_getElem hj]
      exact hu
    have hn1 : ∀ u ∈ eb ys, u.oneCell' = true := by
      intro u hu
      obtain ⟨x, _, rfl⟩ := List.mem_map.1 hu
      rfl
    rcases h with h | ⟨g, cur, rfl, hbg, hh, hs, ht⟩
    · obtain ⟨v1, w1, hr, ho, hg, hnil⟩ := run_append_own (P := Try.prog) w B 22 ty 5 i0 (.int .u8 0) 1 1 Try.underlying22 hi hz0 hz1 hz2 rfl (by omega) v xs.length (eb xs) (Kd.own_of_R h) a m k (eb ys) hnl hnc hn1 (by simp only [maxLen]; omega) (by omega) hB
      refine ⟨v1, w1, hr, .inl (Kd.R_of_own ?_ (fun _ _ => trivial)), hg⟩
      · have e1 : (xs ++ ys).length = xs.length + m := by rw [List.length_append, hm]
        have e2 : encs (Value.int .u8) (xs ++ ys) = eb xs ++ eb ys := by simp [encs]
        rw [e1, e2]
        exact ho
    · have holds := Fr.cells (B := B) hh hs ht
      have hr := run_append_grow (P := Try.prog) w 22 ty 5 i0 (.int .u8 0) Try.underlying22 hi hz0 ⟨g, 0, none⟩ xs.length xs.length (eb xs) (by rw [hz1]; simp [eb, encs]) holds a m k (eb ys) (by rw [hz1]; exact hnl) hnc (by omega) (by omega) (growslice_fits (by omega) (by rw [hz2]; omega))
      have hge := grownCap_ge w (xs.length + m) xs.length 5
      have hcm : grownCap w (xs.length + m) xs.length 5 ≤ maxLen := grownCap_le_maxLen w (xs.length + m) xs.length 5 (by simp only [maxLen]; omega)
      refine ⟨_, _, hr, .inl (Kd.R_of_own ⟨?_, .inr ⟨w.heap.size, grownCap w (xs.length + m) xs.length 5, _, ?_, hB, heap_alloc_new w.drew _, ?_, hcm, ?_, ?_⟩⟩ (fun _ _ => trivial)), ⟨rfl, rfl, rfl, by simp, fun q hq _ => heap_alloc_old w.drew _ hq⟩⟩
      · simp [encs]
      · rw [List.length_append, hm]
      · rw [List.length_append, hm]; exact hge
      · simp only [Array.size_append, List.size_toArray, size_zeroCells]
        simp [eb, encs, hm, Value.cells]
        omega
      · simp only [Array.toList_append, List.append_assoc]
        have e2 : encs (Value.int .u8) (xs ++ ys) = eb xs ++ eb ys := by simp [encs]
        rw [e2, ← List.append_assoc]
        have e3 : (xs ++ ys).length * 1 = (eb xs ++ eb ys).length := by simp [eb, encs]
        rw [e3]
        exact List.take_left
section
variable {ops : Array Oper} {o : Oper} {a : Act} {Q : Exit → Act → World → Prop} {Kc : Act → World → Prop}
theorem Br_append_step {W : World} {B : Nat} (hw : Region.wanted o (yielded ops a.tmps) = true) (s x : Operand) (ho : o.op = .call { callee := .builtin .append, args := #[s, x], argTypes := #[22, 22] })
    (v : Value) (xs ys : List Int) (D : Option Addr) (m k : Nat) (hs : a.eval s = v) (hx : a.eval x = .slice D m k) (h : Br W B v xs) (hY : KB.C W D m ys) (hB : B ≤ W.heap.size) (hl : xs.length + m ≤ 100000000)
    (hK : ∀ v1 w1, Br w1 B v1 (xs ++ ys) → W.grownBy w1 v.ownBlock → Kc (a.put o.dst v1) w1) : if Region.wanted o (yielded ops a.tmps) = true then Oper.wp Try.prog o a W Kc Q else Kc (a.put o.dst undef) W := by
  obtain ⟨v1, w1, hr, h1, h2⟩ := Br.append (k := k) o.type h hY hB hl
  rw [if_pos hw]
  unfold Oper.wp execOp
  simp only [ho, resolve, invoke, builtin, Sem.run_bind, Sem.run_pure, Result.andThen_ok, List.map_toArray, List.map_cons, List.map_nil, hs, hx, hr]
  exact hK v1 w1 h1 h2
end
end Go.Proofs.Ytkckmikpmjecdaa.H
