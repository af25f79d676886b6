/- What LogKeeps' walk needs: headers of rows, what writers leave, a log that is opened behind a crash, steps as arguments. Steps of a log as arguments: what their reading says of their cells. -/
import Derived.Test.YtkckmikpmjecdaaLogA
import Derived.Test.YtkckmikpmjecdaaBackP
import Derived.Deep.Slices
namespace Go.Proofs.Ytkckmikpmjecdaa.H
open Go.RowKit Go.Proofs.YtkckmikpmjecdaaW.PrintWords Go.Proofs.YtkckmikpmjecdaaW.PrintLast Go.Proofs.YtkckmikpmjecdaaW.PrintMore
set_option linter.unusedVariables false
set_option linter.unusedSimpArgs false
/-- A slice's header, and what it leads to. -/
structure Hd where
  A : Option Addr
  c : Nat
  xs : List Int
def encH (h : Hd) : Value := .slice h.A h.xs.length h.c
theorem encH1 (h : Hd) : (encH h).oneCell' = true := rfl
abbrev KH : Kd Hd := Kd.scalar encH encH1
/-- What a header leads to is there. -/
def There (W : World) (h : Hd) : Prop := h.xs.length ≤ h.c ∧ Kd.C (Kd.int .u8) W h.A h.xs.length h.xs
theorem There.below {W W1 : World} {h : Hd} (t : There W h) (hb : Below W.heap.size W W1) : There W1 h := ⟨t.1, Kd.C_below t.2 hb⟩
theorem C_of_hs {W : World} {base : Nat} {v : Value} {hs : List Hd} (h : Kd.R KH 22 W base (fun _ => True) v hs) (hg : ∀ h ∈ hs, There W h) :
    ∃ A' c', v = .slice A' hs.length c' ∧ hs.length ≤ c' ∧ Kd.C KL W A' hs.length (hs.map Hd.xs) := by
  obtain ⟨A', c', rfl, hle, h1, h2, h3⟩ := Kd.R_reads h
  refine ⟨A', c', rfl, hle, by simp, h2, fun hn => ?_⟩
  obtain ⟨ad, e, hc⟩ := h3 hn
  refine ⟨ad, e, fun j p hj => ?_⟩
  rw [List.getElem?_map] at hj
  obtain ⟨hd, hj2, rfl⟩ := Option.map_eq_some_iff.1 hj
  obtain ⟨c, e1, e2, e3⟩ := hc j hd hj2
  have hgd := hg hd (List.mem_of_getElem? hj2)
  exact ⟨c, e1, ⟨hd.A, hd.c, e2, hgd.1, hgd.2⟩, e3⟩
/-- What writers of a disk leave of others' rows. -/
theorem R_stays {α : Type} {d : Kd α} {e B p : Nat} {ok : Nat → Prop} {w w' : World} {v : Value} {xs : List α} {cells : Array Value} (h : d.R e w B ok v xs) (hk : Stays w w' p) (hp : w.heap[p]? = some (.cells cells 36 (0, 0)))
    (ht : ∀ q, q ∈ e :: d.E → q ≠ 36 ∧ q ≠ 5) : d.R e w' B ok v xs := by
  obtain ⟨row, hb, hr⟩ := hk
  refine Kd.R_mono (Kd.R_step (Kd.R_bound h) (fun k hk2 hlt => hb.2 k hlt ?_ ?_)) (fun k hk => hk.1)
  · rintro rfl
    obtain ⟨_, _, _, q, hq, c2, hc2⟩ := hk2
    rw [hp] at hc2
    injection hc2 with hc2
    injection hc2 with _ hc2
    exact (ht q hq).1 hc2.symm
  · intro he
    obtain ⟨c3, hc3⟩ := hr k he.symm
    obtain ⟨_, _, _, q, hq, c2, hc2⟩ := hk2
    rw [hc3] at hc2
    injection hc2 with hc2
    injection hc2 with _ hc2
    exact (ht q hq).2 hc2.symm
theorem typesH : ∀ q, q ∈ 22 :: KH.E → q ≠ 36 ∧ q ≠ 5 := by intro q hq; simp [KH, Kd.scalar] at hq; omega
theorem Dq.block {w : World} {B p : Nat} {xs : List Int} {s : Nat} (h : Dq w B p xs s) : ∃ cells, w.heap[p]? = some (.cells cells 36 (0, 0)) := by
  obtain ⟨A, c, hD, _⟩ := h
  exact ⟨_, hD⟩
theorem H_stays {w w' : World} {B B' p s : Nat} {v : Value} {hs : List Hd} {xs : List Int} (h : Kd.R KH 22 w B (fun _ => True) v hs) (hk : Stays w w' p) (hD : Dq w B' p xs s) : Kd.R KH 22 w' B (fun _ => True) v hs := by
  obtain ⟨cells, hc⟩ := hD.block
  exact R_stays h hk hc typesH
theorem stays_keep {w w' : World} {p : Nat} (h : KeepBut w w' p none) : Stays w w' p := ⟨none, h, fun k hk => by cases hk⟩
/-- Sync, of a disk with its bytes. -/
theorem Dq.sync {w0 w : World} {p : Nat} {xs : List Int} {s : Nat} (h : Dq w w0.heap.size p xs s) (hp : w0.heap.size ≤ p) (hB : Below w0.heap.size w0 w) :
    Calls Try.prog 10 #[.pointer (some ⟨p, 0, none⟩)] w fun e w' => e = .returned (.int .i64 0) ∧ Dq w' w0.heap.size p xs xs.length ∧ Below w0.heap.size w0 w' ∧ Stays w w' p := by
  obtain ⟨A, c, hD, hR⟩ := h
  refine (sync_calls w0 p A xs.length c s xs w hD hR hp hB).mono ?_
  rintro e w' ⟨rfl, hd, hr, hb, hk⟩
  exact ⟨rfl, ⟨A, c, hd, hr⟩, hb, stays_keep hk⟩
/-- Where a beginning of rows' frames ends. -/
theorem cut_at (R : List (List Int)) (a : Nat) : ∀ (d s : Nat), d = R.length - s → s ≤ R.length → fl R s ≤ a → ∃ m, s ≤ m ∧ m ≤ R.length ∧ fl R m ≤ a ∧ (m < R.length → a < fl R (m + 1))
  | 0, s, hd, hs, h1 => ⟨s, Nat.le_refl _, hs, h1, fun h => by omega⟩
  | d + 1, s, hd, hs, h1 => by
    by_cases h : fl R (s + 1) ≤ a
    · obtain ⟨m, h2, h3, h4, h5⟩ := cut_at R a d (s + 1) (by omega) (by omega) h
      exact ⟨m, by omega, h3, h4, h5⟩
    · exact ⟨s, Nat.le_refl _, hs, h1, fun _ => by omega⟩
theorem flat_take_fl (R : List (List Int)) (m : Nat) : (flat R).take (fl R m) = flat (R.take m) := by
  have e : flat R = flat (R.take m) ++ flat (R.drop m) := by rw [← flat_append, List.take_append_drop]
  rw [e]
  exact List.take_left ..
theorem fl_take (R : List (List Int)) (m : Nat) : (flat (R.take m)).length = fl R m := rfl
theorem fl_all (R : List (List Int)) : fl R R.length = (flat R).length := by unfold fl; rw [List.take_length]
/-- A log that is opened behind a crash: some of the first records. -/
theorem open_prefix (w0 : World) (p : Nat) (R : List (List Int)) (a s : Nat) (w : World) (h : Dq w w0.heap.size p ((flat R).take a) a) (hp : w0.heap.size ≤ p) (hB : Below w0.heap.size w0 w) (hb : ∀ r ∈ R, okb r = true) (hl : ∀ r ∈ R, r.length ≤ 300)
    (hs : s ≤ R.length) (h1 : fl R s ≤ a) (h2 : a ≤ (flat R).length) (hx : (flat R).length ≤ 100000) :
    ∃ m, s ≤ m ∧ m ≤ R.length ∧ Calls Try.prog 19 #[.pointer (some ⟨p, 0, none⟩)] w fun e w' => ∃ q v, e = .returned (.tuple #[.pointer (some ⟨q, 0, none⟩), v, .int .i64 0]) ∧ w.heap.size ≤ q ∧ Lg w' q p ∧ Dq w' w0.heap.size p (flat (R.take m)) (fl R m) ∧ Kd.S KL 22 w' w.heap.size (fun _ => True) v (R.take m) ∧ Below w0.heap.size w0 w' ∧ KeepBut w w' p none := by
  obtain ⟨m, hm1, hm2, hm3, hm4⟩ := cut_at R a _ s rfl hs h1
  refine ⟨m, hm1, hm2, ?_⟩
  have hsc := scan_prefix (rows := R) (fun r hr => ⟨hb r hr, by have := hl r hr; omega⟩) hm2 hm3 h2 hm4
  have hok : okb ((flat R).take a) = true := okb_take (flat_okb hb) _
  have hlen : ((flat R).take a).length = a := by rw [List.length_take]; omega
  by_cases he : fl R m = a
  · rw [if_pos he] at hsc
    refine (open_whole w0 p _ a _ _ w h hp hB hok (by omega) hsc).mono ?_
    rintro e w' ⟨q, v, rfl, hq, hlg, hd, hS, hb1, hb2⟩
    rw [← he, flat_take_fl] at hd
    exact ⟨q, v, rfl, hq, hlg, hd, hS, hb1, KeepBut.of_below hb2 p none⟩
  · rw [if_neg he] at hsc
    refine (open_torn w0 p _ a _ _ w h hp hB hok (by omega) hsc (by omega)).mono ?_
    rintro e w' ⟨q, v, rfl, hq, hlg, hd, hS, hb1, hk⟩
    rw [List.take_take, Nat.min_eq_left hm3, flat_take_fl] at hd
    exact ⟨q, v, rfl, hq, hlg, hd, hS, hb1, hk⟩
/-- Dq is kept by writers of other blocks. -/
theorem records_flat (B : Nat) (p q : Nat) (R : List (List Int)) (s : Nat) (w : World) (h : Dq w B p (flat R) s) (hL : Lg w q p) (hb : ∀ r ∈ R, okb r = true) (hl : ∀ r ∈ R, r.length ≤ 300) (hx : (flat R).length ≤ 100000) :
    Calls Try.prog 18 #[.pointer (some ⟨q, 0, none⟩)] w fun e w' => ∃ v, e = .returned v ∧ Kd.S KL 22 w' w.heap.size (fun _ => True) v R ∧ Below w.heap.size w w' := by
  have hs := scan_rows hb hl [] (by decide)
  rw [List.append_nil] at hs
  have := records_calls B p q (flat R) s w h hL (flat_okb hb) hx
  rw [hs] at this
  exact this
theorem info22 : (Try.prog.info? 22).map (fun i => (i.zero, i.size, i.bytes)) = some (some (.slice none 0 0), 1, 24) := by kernel_rfl
theorem Lg.grown {w w1 : World} {q p B : Nat} {ok : Nat → Prop} {v : Value} {hs : List Hd} (h : Lg w q p) (hR : Kd.R KH 22 w B ok v hs) (hg : w.grownBy w1 v.ownBlock) : Lg w1 q p := blk_grown h hg (Kd.R_ne hR h (by decide))
theorem Dq.grown {w w1 : World} {p B B' s : Nat} {xs : List Int} {ok : Nat → Prop} {v : Value} {hs : List Hd} (h : Dq w B' p xs s) (hR : Kd.R KH 22 w B ok v hs) (hg : w.grownBy w1 v.ownBlock) : Dq w1 B' p xs s := by
  obtain ⟨A, c, hD, hr⟩ := h
  refine ⟨A, c, blk_grown hD hg (Kd.R_ne hR hD (by decide)), hr.step fun k hk => hg.block k (hr.lt k hk) fun he => ?_⟩
  obtain ⟨cells, hc⟩ := hr.typed k hk
  exact Kd.R_ne hR hc (by decide) he
theorem same_rows (A0 A1 : Option Addr) (c0 c1 n0 n1 : Nat) (l : List (List Int)) (w : World) (e0 : n0 = l.length) (e1 : n1 = l.length) (h0 : Kd.C KL w A0 n0 l) (hc0 : n0 ≤ c0) (h1 : Kd.C KL w A1 n1 l) (hc1 : n1 ≤ c1) (hl : n0 ≤ 1000000) :
    Calls Try.prog 20 #[.slice A0 n0 c0, .slice A1 n1 c1] w fun e w' => e = .returned (.bool true) ∧ Below w.heap.size w w' := by
  subst e0
  subst e1
  exact same_calls A0 A1 c0 c1 l w h0 hc0 h1 hc1 hl
theorem flat_hs (hs : List Hd) (h : Hd) : flat ((hs ++ [h]).map Hd.xs) = flat (hs.map Hd.xs) ++ sealed h.xs := by
  rw [List.map_append]
  exact flat_snoc ..
theorem fl_hs (hs : List Hd) (h : Hd) {s : Nat} (e : s ≤ hs.length) : fl ((hs ++ [h]).map Hd.xs) s = fl (hs.map Hd.xs) s := by
  unfold fl
  rw [List.map_append, List.take_append_of_le_length (by simpa using e)]
theorem fl_full (hs : List Hd) : fl (hs.map Hd.xs) hs.length = (flat (hs.map Hd.xs)).length := by
  have := fl_all (hs.map Hd.xs)
  rwa [List.length_map] at this
theorem C_of_hn {W : World} {base : Nat} {v : Value} {hs : List Hd} (h : Kd.R KH 22 W base (fun _ => True) v hs) (hg : ∀ h ∈ hs, There W h) :
    ∃ A' n' c', v = .slice A' n' c' ∧ n' = hs.length ∧ n' ≤ c' ∧ Kd.C KL W A' n' (hs.map Hd.xs) := by
  obtain ⟨A', c', e, h1, h2⟩ := C_of_hs h hg
  exact ⟨A', _, c', e, rfl, h1, h2⟩
theorem S_rows {w : World} {B : Nat} {ok : Nat → Prop} {v : Value} {l : List (List Int)} (h : Kd.S KL 22 w B ok v l) : ∃ A n c, v = .slice A n c ∧ n = l.length ∧ n ≤ c ∧ Kd.C KL w A n l := by
  obtain ⟨A, c, e, h1, h2⟩ := Kd.S_reads h
  exact ⟨A, _, c, e, rfl, h1, h2⟩
/-- What is known of the headers. -/
def Good (w : World) (hs : List Hd) : Prop := ∀ h ∈ hs, There w h ∧ okb h.xs = true ∧ h.xs.length ≤ 300
theorem Good.there {w w1 : World} {hs : List Hd} (g : Good w hs) (hb : Below w.heap.size w w1) : ∀ h ∈ hs, There w1 h := fun h hh => (g h hh).1.below hb
theorem Good.ok {w : World} {hs : List Hd} (g : Good w hs) : ∀ r ∈ hs.map Hd.xs, okb r = true := by
  intro r hr
  obtain ⟨h, hh, rfl⟩ := List.mem_map.1 hr
  exact (g h hh).2.1
theorem Good.len {w : World} {hs : List Hd} (g : Good w hs) : ∀ r ∈ hs.map Hd.xs, r.length ≤ 300 := by
  intro r hr
  obtain ⟨h, hh, rfl⟩ := List.mem_map.1 hr
  exact (g h hh).2.2
theorem Good.snoc {w : World} {hs : List Hd} {h : Hd} (g : Good w hs) (h1 : There w h) (h2 : okb h.xs = true) (h3 : h.xs.length ≤ 300) : Good w (hs ++ [h]) := by
  intro x hx
  rcases List.mem_append.1 hx with hx | hx
  · exact g x hx
  · rw [List.mem_singleton.1 hx]; exact ⟨h1, h2, h3⟩
theorem Good.take {w : World} {hs : List Hd} (g : Good w hs) (m : Nat) : Good w (hs.take m) := fun h hh => g h (List.mem_of_mem_take hh)
theorem Good.small {w : World} {hs : List Hd} (g : Good w hs) {n : Nat} (hn : hs.length ≤ n) : (flat (hs.map Hd.xs)).length ≤ 308 * n := by
  have := flat_le (m := 300) g.len
  rw [List.length_map] at this
  have h2 : 308 * hs.length ≤ 308 * n := Nat.mul_le_mul_left _ hn
  omega
end Go.Proofs.Ytkckmikpmjecdaa.H
namespace Go.Proofs.Ytkckmikpmjecdaa.H
open Go.RowKit Go.Proofs.YtkckmikpmjecdaaW.PrintWords Go.Proofs.YtkckmikpmjecdaaW.PrintLast Go.Proofs.YtkckmikpmjecdaaW.PrintMore
set_option linter.unusedVariables false
set_option linter.unusedSimpArgs false
structure Ac where
  K : Int
  N : Int
  h : Hd
theorem add_add' (a : Addr) (i j : Nat) : (a.add i).add j = a.add (i + j) := Go.Deep.add_add a i j
def Act1 (w : World) (ad : Addr) (a : Ac) : Prop := w.cell? (ad.add 0) = some (.int .i64 a.K) ∧ w.cell? (ad.add 1) = some (.int .i64 a.N) ∧ w.cell? (ad.add 2) = some (encH a.h) ∧ There w a.h ∧ okb a.h.xs = true ∧ (Lit.int .i64 a.N).wf = true
def Acts (w : World) (A : Option Addr) (l : List Ac) : Prop := ∀ i (hi : i < l.length), ∃ ad, A = some ad ∧ Act1 w (ad.add (i * 3)) (l[i]'hi)
theorem Acts.below {w w1 : World} {A : Option Addr} {l : List Ac} (h : Acts w A l) (hb : Below w.heap.size w w1) : Acts w1 A l := by
  intro i hi
  obtain ⟨ad, e, h0, h1, h2, h3, h4⟩ := h i hi
  exact ⟨ad, e, pw_cell_below hb h0, pw_cell_below hb h1, pw_cell_below hb h2, h3.below hb, h4⟩
theorem k47 : Try.prog.cellsOf 47 = 3 := by kernel_rfl
theorem k22 : Try.prog.cellsOf 22 = 1 := by kernel_rfl
theorem k3 : Try.prog.cellsOf 3 = 1 := by kernel_rfl
theorem k5 : Try.prog.cellsOf 5 = 1 := by kernel_rfl
theorem hd_of_trod {H : Type} {enc : TypeId × Value → H} {W : World} {fuel : Nat} {cs : List Value} {x : DataW H × List MemPlace} (hf : DataW.trod enc Try.prog W 0 (fun _ => true) true fuel 22 cs = some x) :
    ∃ h : Hd, cs = [encH h] ∧ There W h ∧ okb h.xs = true := by
  rcases Go.ChangeShapes.open_ints Try.underlying22 Try.underlying5 k5 hf with ⟨rfl, _⟩ | ⟨a, len, cap, zs, rfl, _, hl, hm, hz, _, hc, hw⟩
  · exact ⟨⟨none, 0, []⟩, rfl, ⟨Nat.le_refl _, Kd.C_nil _ _⟩, rfl⟩
  · have hz' : zs.length = cap := by simpa using hz
    have htl : (zs.take len).length = len := by rw [List.length_take]; omega
    refine ⟨⟨some a, cap, zs.take len⟩, by rw [encH, htl], ⟨by show (zs.take len).length ≤ cap; omega, ?_⟩, okb_of fun n hn => hw n (List.mem_of_mem_take hn)⟩
    refine Kd.C_of_reads (d := (0 : Int)) (h1 := fun _ => rfl) ⟨rfl, Nat.le_trans (by show (zs.take len).length ≤ cap; omega) hm, fun hp => ⟨a, rfl, fun i hi => ?_⟩⟩
    have hi' : i < len := by show i < len; have : i < (zs.take len).length := hi; omega
    have h1 := hc i (by omega)
    rw [List.getD_eq_getElem?_getD] at h1 ⊢
    show W.cell? (a.add i) = some (.int .u8 (((zs.take len)[i]?).getD 0))
    rw [List.getElem?_take_of_lt hi']
    exact h1
theorem acts_of_trod {H : Type} {enc : TypeId × Value → H} {W : World} {a : Option Addr} {len cap fuel : Nat} {x : DataW H × List MemPlace} (hf : DataW.trod enc Try.prog W 0 (fun _ => true) true fuel 45 (Value.slice a len cap).cells.toList = some x) :
    ∃ l : List Ac, len = l.length ∧ l.length ≤ cap ∧ Acts W a l := by
  rcases Go.Deep.open_slice Try.underlying45 hf with ⟨hcs, _⟩ | ⟨ad, l, c, m, n, D, Pl, hcs, _, hl, hm, hmm, _, hx⟩
  · simp [Value.cells] at hcs
    obtain ⟨rfl, rfl, rfl⟩ := hcs
    exact ⟨[], rfl, Nat.le_refl _, fun i hi => absurd hi (Nat.not_lt_zero _)⟩
  · simp [Value.cells] at hcs
    obtain ⟨rfl, rfl, rfl⟩ := hcs
    have hmm' : m = cap := by simpa using hmm
    subst hmm'
    have each : ∀ i : Nat, ∃ ac : Ac, i < len → Act1 W (ad.add (i * 3)) ac := by
      intro i
      by_cases hi : i < len
      · obtain ⟨cs', h1, h2⟩ := hx i (by omega)
        rw [k47] at h1
        obtain ⟨_, hlen, hcell⟩ := World.cells?_some h1
        obtain ⟨xs, k, hk, _, _, hxl, hfs⟩ := DataW.trod_struct Try.underlying47 h2
        match xs, hxl, cs', hlen with
        | [y0, y1, y2], _, [v0, v1, v2], _ =>
          have g0 := hfs 0 _ rfl
          have g1 := hfs 1 _ rfl
          have g2 := hfs 2 _ rfl
          simp [k3, k22] at g0 g1 g2
          obtain ⟨n0, e0, _, _⟩ := DataW.trod_int Try.underlying3 g0
          obtain ⟨n1, e1, _, w1⟩ := DataW.trod_int Try.underlying3 g1
          obtain ⟨h, e2, ht, ho⟩ := hd_of_trod g2
          injection e0 with e0 _
          injection e1 with e1 _
          injection e2 with e2 _
          refine ⟨⟨n0, n1, h⟩, fun _ => ⟨?_, ?_, ?_, ht, ho, w1⟩⟩
          · rw [hcell 0 (by omega), e0]; rfl
          · rw [hcell 1 (by omega), e1]; rfl
          · rw [hcell 2 (by omega), e2]; rfl
      · exact ⟨⟨0, 0, ⟨none, 0, []⟩⟩, fun h => absurd h hi⟩
    obtain ⟨f, hf2⟩ := Classical.axiomOfChoice each
    refine ⟨(List.range len).map f, by simp, by simpa using hl, fun i hi => ⟨ad, rfl, ?_⟩⟩
    have hi' : i < len := by simpa using hi
    rw [List.getElem_map, List.getElem_range]
    exact hf2 i hi'
/-- A step is read as one value. -/
theorem load_act {w : World} {ad : Addr} {a : Ac} (h : Act1 w ad a) : (loadVar 47 ad).run Try.prog w = .ok (.agg #[.int .i64 a.K, .int .i64 a.N, encH a.h]) w := by
  have hl := run_loadCells_list (P := Try.prog) w ad [.int .i64 a.K, .int .i64 a.N, encH a.h] (fun j v hv => by
    match j, hv with
    | 0, hv => exact h.1.trans (by simpa using hv)
    | 1, hv => exact h.2.1.trans (by simpa using hv)
    | 2, hv => exact h.2.2.1.trans (by simpa using hv))
  have hs : (sizeOf 47).run Try.prog w = .ok 3 w := by
    have h0 : (Try.prog.info? 47).map (·.size) = some 3 := by kernel_rfl
    cases hq : Try.prog.info? 47 with
    | none => rw [hq] at h0; cases h0
    | some i =>
      rw [hq] at h0
      injection h0 with this
      simp [sizeOf, typeInfo, hq, this]
  have hagg : (isAgg 47).run Try.prog w = .ok true w := by
    unfold isAgg
    rw [Sem.run_bind, run_underlying Try.underlying47 w]
    rfl
  have hl3 : (loadCells ad 3).run Try.prog w = .ok #[.int .i64 a.K, .int .i64 a.N, encH a.h] w := hl
  simp [loadVar, Sem.run_bind, hagg, hs, hl3]
end Go.Proofs.Ytkckmikpmjecdaa.H
