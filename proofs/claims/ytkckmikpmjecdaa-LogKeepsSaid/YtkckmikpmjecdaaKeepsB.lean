/- Steps of a log as arguments: what their reading says of their cells. -/
import Derived.Test.YtkckmikpmjecdaaKeepsA
namespace Go.Proofs.Ytkckmikpmjecdaa.H
open Go.RowKit Go.Proofs.YtkckmikpmjecdaaW.PrintWords Go.Proofs.YtkckmikpmjecdaaW.PrintLast Go.Proofs.YtkckmikpmjecdaaW.PrintMore
set_option linter.unusedVariables false
set_option linter.unusedSimpArgs false
structure Ac where
  K : Int
  N : Int
  h : Hd
theorem add_add' (a : Addr) (i j : Nat) : (a.add i).add j = a.add (i + j) := Go.Deep.add_add a i j
def Act1 (w : World) (ad : Addr) (a : Ac) : Prop := w.cell? (ad.add 0) = some (.int .i64 a.K) ∧ w.cell? (ad.add 1) = some (.int .i64 a.N) ∧ w.cell? (ad.add 2) = some (encH a.h) ∧ There w a.h ∧ okb a.h.xs = true ∧ (Lit.int .i64 a.N).wf = true
def Acts (w : World) (A : Option Addr) (l : List Ac) : Prop := ∀ i (hi : i < l.length), ∃ ad, A = some ad ∧ Act1 w (ad.add (i * 3)) (l[i]'hi)
theorem Acts.below {w w1 : World} {A : Option Addr} {l : List Ac} (h : Acts w A l) (hb : Below w.heap.size w w1) : Acts w1 A l := by
  intro i hi
  obtain ⟨ad, e, h0, h1, h2, h3, h4⟩ := h i hi
  exact ⟨ad, e, pw_cell_below hb h0, pw_cell_below hb h1, pw_cell_below hb h2, h3.below hb, h4⟩
theorem k47 : Try.prog.cellsOf 47 = 3 := by kernel_rfl
theorem k22 : Try.prog.cellsOf 22 = 1 := by kernel_rfl
theorem k3 : Try.prog.cellsOf 3 = 1 := by kernel_rfl
theorem k5 : Try.prog.cellsOf 5 = 1 := by kernel_rfl
theorem hd_of_trod {H : Type} {enc : TypeId × Value → H} {W : World} {fuel : Nat} {cs : List Value} {x : DataW H × List MemPlace} (hf : DataW.trod enc Try.prog W 0 (fun _ => true) true fuel 22 cs = some x) :
    ∃ h : Hd, cs = [encH h] ∧ There W h ∧ okb h.xs = true := by
  rcases Go.ChangeShapes.open_ints Try.underlying22 Try.underlying5 k5 hf with ⟨rfl, _⟩ | ⟨a, len, cap, zs, rfl, _, hl, hm, hz, _, hc, hw⟩
  · exact ⟨⟨none, 0, []⟩, rfl, ⟨Nat.le_refl _, Kd.C_nil _ _⟩, rfl⟩
  · have hz' : zs.length = cap := by simpa using hz
    have htl : (zs.take len).length = len := by rw [List.length_take]; omega
    refine ⟨⟨some a, cap, zs.take len⟩, by rw [encH, htl], ⟨by show (zs.take len).length ≤ cap; omega, ?_⟩, okb_of fun n hn => hw n (List.mem_of_mem_take hn)⟩
    refine Kd.C_of_reads (d := (0 : Int)) (h1 := fun _ => rfl) ⟨rfl, Nat.le_trans (by show (zs.take len).length ≤ cap; omega) hm, fun hp => ⟨a, rfl, fun i hi => ?_⟩⟩
    have hi' : i < len := by show i < len; have : i < (zs.take len).length := hi; omega
    have h1 := hc i (by omega)
    rw [List.getD_eq_getElem?_getD] at h1 ⊢
    show W.cell? (a.add i) = some (.int .u8 (((zs.take len)[i]?).getD 0))
    rw [List.getElem?_take_of_lt hi']
    exact h1
theorem acts_of_trod {H : Type} {enc : TypeId × Value → H} {W : World} {a : Option Addr} {len cap fuel : Nat} {x : DataW H × List MemPlace} (hf : DataW.trod enc Try.prog W 0 (fun _ => true) true fuel 45 (Value.slice a len cap).cells.toList = some x) :
    ∃ l : List Ac, len = l.length ∧ l.length ≤ cap ∧ Acts W a l := by
  rcases Go.Deep.open_slice Try.underlying45 hf with ⟨hcs, _⟩ | ⟨ad, l, c, m, n, D, Pl, hcs, _, hl, hm, hmm, _, hx⟩
  · simp [Value.cells] at hcs
    obtain ⟨rfl, rfl, rfl⟩ := hcs
    exact ⟨[], rfl, Nat.le_refl _, fun i hi => absurd hi (Nat.not_lt_zero _)⟩
  · simp [Value.cells] at hcs
    obtain ⟨rfl, rfl, rfl⟩ := hcs
    have hmm' : m = cap := by simpa using hmm
    subst hmm'
    have each : ∀ i : Nat, ∃ ac : Ac, i < len → Act1 W (ad.add (i * 3)) ac := by
      intro i
      by_cases hi : i < len
      · obtain ⟨cs', h1, h2⟩ := hx i (by omega)
        rw [k47] at h1
        obtain ⟨_, hlen, hcell⟩ := World.cells?_some h1
        obtain ⟨xs, k, hk, _, _, hxl, hfs⟩ := DataW.trod_struct Try.underlying47 h2
        match xs, hxl, cs', hlen with
        | [y0, y1, y2], _, [v0, v1, v2], _ =>
          have g0 := hfs 0 _ rfl
          have g1 := hfs 1 _ rfl
          have g2 := hfs 2 _ rfl
          simp [k3, k22] at g0 g1 g2
          obtain ⟨n0, e0, _, _⟩ := DataW.trod_int Try.underlying3 g0
          obtain ⟨n1, e1, _, w1⟩ := DataW.trod_int Try.underlying3 g1
          obtain ⟨h, e2, ht, ho⟩ := hd_of_trod g2
          injection e0 with e0 _
          injection e1 with e1 _
          injection e2 with e2 _
          refine ⟨⟨n0, n1, h⟩, fun _ => ⟨?_, ?_, ?_, ht, ho, w1⟩⟩
          · rw [hcell 0 (by omega), e0]; rfl
          · rw [hcell 1 (by omega), e1]; rfl
          · rw [hcell 2 (by omega), e2]; rfl
      · exact ⟨⟨0, 0, ⟨none, 0, []⟩⟩, fun h => absurd h hi⟩
    obtain ⟨f, hf2⟩ := Classical.axiomOfChoice each
    refine ⟨(List.range len).map f, by simp, by simpa using hl, fun i hi => ⟨ad, rfl, ?_⟩⟩
    have hi' : i < len := by simpa using hi
    rw [List.getElem_map, List.getElem_range]
    exact hf2 i hi'
/-- A step is read as one value. -/
theorem load_act {w : World} {ad : Addr} {a : Ac} (h : Act1 w ad a) : (loadVar 47 ad).run Try.prog w = .ok (.agg #[.int .i64 a.K, .int .i64 a.N, encH a.h]) w := by
  have hl := run_loadCells_list (P := Try.prog) w ad [.int .i64 a.K, .int .i64 a.N, encH a.h] (fun j v hv => by
    match j, hv with
    | 0, hv => exact h.1.trans (by simpa using hv)
    | 1, hv => exact h.2.1.trans (by simpa using hv)
    | 2, hv => exact h.2.2.1.trans (by simpa using hv))
  have hs : (sizeOf 47).run Try.prog w = .ok 3 w := by
    have h0 : (Try.prog.info? 47).map (·.size) = some 3 := by kernel_rfl
    cases hq : Try.prog.info? 47 with
    | none => rw [hq] at h0; cases h0
    | some i =>
      rw [hq] at h0
      injection h0 with this
      simp [sizeOf, typeInfo, hq, this]
  have hagg : (isAgg 47).run Try.prog w = .ok true w := by
    unfold isAgg
    rw [Sem.run_bind, run_underlying Try.underlying47 w]
    rfl
  have hl3 : (loadCells ad 3).run Try.prog w = .ok #[.int .i64 a.K, .int .i64 a.N, encH a.h] w := hl
  simp [loadVar, Sem.run_bind, hagg, hs, hl3]
end Go.Proofs.Ytkckmikpmjecdaa.H
