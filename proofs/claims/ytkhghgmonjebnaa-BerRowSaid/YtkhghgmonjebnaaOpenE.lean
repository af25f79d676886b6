/- What comes in as an element is one. -/
import Derived.Test.YtkhghgmonjebnaaBerA
import Derived.Test.YtkhghgmonjebnaaBytesW
import Derived.Deep.Slices
namespace Go.Proofs.Ytkhghgmonjebnaa.B
open Go.RowKit Go.Proofs.YtkhghgmonjebnaaW.PrintWords Go.Proofs.YtkhghgmonjebnaaW.PrintLast Go.Proofs.YtkhghgmonjebnaaW.PrintMore
open Go.Proofs.Ytkhghgmonjebnaa.H Go.Proofs.Ytkhghgmonjebnaa.K
set_option linter.unusedVariables false
set_option linter.unusedSimpArgs false

theorem kc27 : Try.prog.cellsOf 27 = 5 := by kernel_rfl
theorem kc23 : Try.prog.cellsOf 23 = 3 := by kernel_rfl
theorem kc24 : Try.prog.cellsOf 24 = 1 := by kernel_rfl
theorem kc25 : Try.prog.cellsOf 25 = 1 := by kernel_rfl
theorem kc3 : Try.prog.cellsOf 3 = 1 := by kernel_rfl
theorem kc4 : Try.prog.cellsOf 4 = 1 := by kernel_rfl
theorem kc5 : Try.prog.cellsOf 5 = 1 := by kernel_rfl
theorem okb_wf2 {l : List Int} (h : ∀ n ∈ l, (Lit.int .u8 n).wf = true) : okb l = true := by
  unfold okb
  rw [List.all_eq_true]
  intro v hv
  have := h v hv
  simp [Lit.wf, IntKind.min, IntKind.max, IntKind.signed, IntKind.bits] at this
  simp
  omega
theorem bytes_of_trod {H : Type} {enc : TypeId × Value → H} {W : World} {fuel : Nat} {cs : List Value} {x : DataW H × List MemPlace} (hf : DataW.trod enc Try.prog W 0 (fun _ => true) true fuel 24 cs = some x) :
    ∃ (A : Option Addr) (c : Nat) (xs : List Int), cs = [.slice A xs.length c] ∧ xs.length ≤ c ∧ Kd.C (Kd.int .u8) W A xs.length xs ∧ okb xs = true ∧ xs.length ≤ 9223372036854775807 := by
  rcases Go.ChangeShapes.open_ints Try.underlying24 Try.underlying5 kc5 hf with ⟨rfl, _⟩ | ⟨a, len, cap, zs, rfl, _, hl, hm, hz, _, hc, hw⟩
  · exact ⟨none, 0, [], rfl, Nat.le_refl _, Kd.C_nil _ _, rfl, by simp⟩
  · have hz' : zs.length = cap := by simpa using hz
    have htl : (zs.take len).length = len := by rw [List.length_take]; omega
    have hmx : cap ≤ 9223372036854775807 := hm
    refine ⟨some a, cap, zs.take len, by rw [htl], by omega, ?_, okb_wf2 fun n hn => hw n (List.mem_of_mem_take hn), by omega⟩
    refine Kd.C_of_reads (d := (0 : Int)) (h1 := fun _ => rfl) ⟨rfl, by omega, fun hp => ⟨a, rfl, fun i hi => ?_⟩⟩
    have hi' : i < len := by omega
    have h1 := hc i (by omega)
    rw [List.getD_eq_getElem?_getD] at h1 ⊢
    show W.cell? (a.add i) = some (.int .u8 (((zs.take len)[i]?).getD 0))
    rw [List.getElem?_take_of_lt hi']
    exact h1
theorem elem_of_trod {H : Type} {enc : TypeId × Value → H} {W : World} : ∀ (fuel : Nat) {cs : List Value} {x : DataW H × List MemPlace}, DataW.trod enc Try.prog W 0 (fun _ => true) true fuel 27 cs = some x →
    ∃ (e : S27) (A3 : Option Addr) (c3 : Nat) (A4 : Option Addr) (c4 : Nat), cs = [.int .i64 e.f0.f0, .bool e.f0.f1, .int .i64 e.f0.f2, .slice A3 e.f1.length c3, .slice A4 e.f2.length c4] ∧ Lies W e A3 c3 A4 c4 ∧ fitE e := by
  intro fuel
  induction fuel using Nat.strongRecOn with
  | _ fuel ih =>
    intro cs x h
    obtain ⟨xs, k, hk, _, hcl, hxl, hfs⟩ := DataW.trod_struct Try.underlying27 h
    rw [kc27] at hcl
    match xs, hxl, cs, hcl with
    | [y0, y1, y2], _, [v0, v1, v2, v3, v4], _ =>
      have g0 := hfs 0 _ rfl
      have g1 := hfs 1 _ rfl
      have g2 := hfs 2 _ rfl
      simp [kc23, kc24, kc25] at g0 g1 g2
      obtain ⟨zs, k2, _, _, hcl2, hzl, hzs⟩ := DataW.trod_struct Try.underlying23 g0
      obtain ⟨A3, c3, bs, hb, l3, hC3, hok, hbm⟩ := bytes_of_trod g1
      match zs, hzl with
      | [z0, z1, z2], _ =>
        have q0 := hzs 0 _ rfl
        have q1 := hzs 1 _ rfl
        have q2 := hzs 2 _ rfl
        simp [kc3, kc4] at q0 q1 q2
        obtain ⟨n0, e0, _, _⟩ := DataW.trod_int Try.underlying3 q0
        obtain ⟨n1, e1, _⟩ := DataW.trod_bool Try.underlying4 q1
        obtain ⟨n2, e2, _, _⟩ := DataW.trod_int Try.underlying3 q2
        injection e0 with e0 _
        injection e1 with e1 _
        injection e2 with e2 _
        injection hb with hb _
        subst e0 e1 e2 hb
        rcases DataW.trod_slice Try.underlying25 g2 with ⟨hcs, _⟩ | ⟨a, len, cap, elems, rest, n, hn, hcs, _, _, hl, hm, hel, he, _, _⟩
        · injection hcs with hcs _
          subst hcs
          exact ⟨⟨⟨n0, n1, n2⟩, bs, []⟩, A3, c3, none, 0, rfl, ⟨l3, hC3, Nat.le_refl _, Kd.C_nil _ _⟩, hok, hbm, by simp, trivial⟩
        · injection hcs with hcs _
          subst hcs
          have hmx : cap ≤ 9223372036854775807 := hm
          have each : ∀ i : Nat, ∃ e : S27, i < len → (∃ c, k27.K W e c ∧ c.length = 5 ∧ ∀ j u, c[j]? = some u → W.cell? (a.add (i * 5 + j)) = some u) ∧ fitE e := by
            intro i
            by_cases hi : i < len
            · have h1 := he i hi
              rw [kc27, List.getElem?_eq_getElem (by omega)] at h1
              obtain ⟨cs', h2, h3⟩ := Option.bind_eq_some_iff.1 h1
              obtain ⟨_, hlen, hcell⟩ := World.cells?_some h2
              obtain ⟨e, B3, d3, B4, d4, rfl, hL, hF⟩ := ih n (by omega) h3
              refine ⟨e, fun _ => ⟨⟨_, k27_mk W e hL.l3 hL.g3 hL.l4 hL.g4, rfl, fun j u hu => ?_⟩, hF⟩⟩
              obtain ⟨hj, hu2⟩ := List.getElem?_eq_some_iff.1 hu
              have hj5 : j < 5 := hj
              have := hcell j hj5
              rw [Go.Addr.add_add, hu] at this
              exact this
            · exact ⟨z27, fun h => absurd h hi⟩
          obtain ⟨f, hf2⟩ := Classical.axiomOfChoice each
          have hlen : ((List.range len).map f).length = len := by simp
          refine ⟨⟨⟨n0, n1, n2⟩, bs, (List.range len).map f⟩, A3, c3, some a, cap, by simp, ⟨l3, hC3, by simpa using hl, ?_⟩, hok, hbm, by simp; omega, ?_⟩
          · show ReadsRow (k27.K W) k27.sz W (some a) ((List.range len).map f).length ((List.range len).map f)
            refine ⟨rfl, by rw [hlen]; omega, fun _ => ⟨a, rfl, fun j p hj => ?_⟩⟩
            obtain ⟨hj1, hj2⟩ := List.getElem?_eq_some_iff.1 hj
            rw [hlen] at hj1
            rw [List.getElem_map, List.getElem_range] at hj2
            obtain ⟨⟨c, hK, hc5, hcell⟩, _⟩ := hf2 j hj1
            subst hj2
            exact ⟨c, hc5, hK, fun i u hu => hcell i u hu⟩
          · rw [fitL_iff]
            intro y hy
            obtain ⟨i, hi, rfl⟩ := List.mem_map.1 hy
            exact (hf2 i (List.mem_range.1 hi)).2
theorem agg_of_ok {W : World} {r : Reach} {base : Nat} {v : Value} (h : Value.okWide Try.prog W r base 27 v) : ∃ cs, v = .agg cs := by
  unfold Value.okWide at h
  rw [Try.underlying27] at h
  obtain ⟨cs, h, _⟩ := h
  exact ⟨cs, h⟩
/-- The argument's value. -/
theorem open_elem {H : Type} {enc : TypeId × Value → H} {W : World} {fuel : Nat} {v : Value} {x : DataW H × List MemPlace} (hv : ∃ cs, v = .agg cs) (h : DataW.trod enc Try.prog W 0 (fun _ => true) true fuel 27 v.cells.toList = some x) :
    ∃ (e : S27) (A3 : Option Addr) (c3 : Nat) (A4 : Option Addr) (c4 : Nat), v = ev e A3 c3 A4 c4 ∧ Lies W e A3 c3 A4 c4 ∧ fitE e := by
  obtain ⟨cs, rfl⟩ := hv
  obtain ⟨e, A3, c3, A4, c4, hcs, hL, hF⟩ := elem_of_trod fuel h
  refine ⟨e, A3, c3, A4, c4, ?_, hL, hF⟩
  have : cs = #[.int .i64 e.f0.f0, .bool e.f0.f1, .int .i64 e.f0.f2, .slice A3 e.f1.length c3, .slice A4 e.f2.length c4] := Array.ext' (by simpa [Value.cells] using hcs)
  rw [this]
end Go.Proofs.Ytkhghgmonjebnaa.B
