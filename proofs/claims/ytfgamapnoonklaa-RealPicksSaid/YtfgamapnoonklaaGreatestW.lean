/- No number of a list is greater than the one that Greatest selects: the walk of the law. Condition: the slice holds numbers by their bits. -/
import Derived.Test.YtfgamapnoonklaaBest
import Derived.Deep.Slices
namespace Go.Proofs.Ytfgamapnoonklaa.GreatestW
open Go.RowKit H Key Go.Proofs.YtfgamapnoonklaaW.PrintWords Go.Proofs.YtfgamapnoonklaaW.PrintLast Go.Proofs.YtfgamapnoonklaaW.PrintMore
set_option linter.unusedVariables false
set_option linter.unusedSimpArgs false

theorem order_same (x : Nat) : (FloatKind.f64.format.order x x == some .eq) = !isNaN x := by
  have := order_self x
  rw [← this]
  show (FloatKind.f64.format.order x x == some .eq) = !(FloatKind.f64.format.order x x != some .eq)
  simp [bne]
theorem info22 : (Try.prog.info? 22).map (fun i => (i.zero, i.size, i.bytes)) = some (some (.float .f64 0), 1, 8) := by kernel_rfl
theorem two : pickTo [4607182418800017408, 4611686018427387904] 2 = 1 := by decide +kernel
theorem greatest_two (b : Nat) (w : World) (h0 : w.cell? ⟨b, 0, none⟩ = some (.float .f64 4607182418800017408)) (h1 : w.cell? ⟨b, 1, none⟩ = some (.float .f64 4611686018427387904)) :
    Calls Try.prog 11 #[.slice (some ⟨b, 0, none⟩) 2 2] w fun e w' => e = .returned (.int .i64 1) ∧ w = w' := by
  have := greatest_calls (some ⟨b, 0, none⟩) [4607182418800017408, 4611686018427387904] 2 w (fun i hi => by
    refine ⟨_, rfl, ?_⟩
    match i, hi with
    | 0, _ => exact h0
    | 1, _ => exact h1) (by decide)
  rw [show [4607182418800017408, 4611686018427387904].length = 2 from rfl, two] at this
  exact this
theorem Fl_reads {w : World} {A : Option Addr} {l : List Nat} (h : Fl w A l) (hl : l.length ≤ 9223372036854775807) : ReadsOf (Value.float .f64) 0 w A l.length l := by
  refine ⟨rfl, hl, fun h0 => ?_⟩
  obtain ⟨ad, e, _⟩ := h 0 h0
  refine ⟨ad, e, fun j hj => ?_⟩
  obtain ⟨ad2, e2, hc⟩ := h j hj
  rw [e] at e2
  cases e2
  rw [hc]
  simp [numAt]
theorem Fl_of_reads {w : World} {A : Option Addr} {l : List Nat} (h : ReadsOf (Value.float .f64) 0 w A l.length l) : Fl w A l := by
  intro i hi
  obtain ⟨ad, e, hc⟩ := h.2.2 (by omega)
  refine ⟨ad, e, ?_⟩
  rw [hc i hi]
  simp [numAt]

section
variable {H : Type} {enc : TypeId × Value → H} {P : Program} {w : World} {base : Nat} {held : Bool}
theorem open_floats {t e : TypeId} {fuel : Nat} {cs : List Value} {x : DataW H × List MemPlace} (ht : P.underlying t = some (.slice e)) (he : P.underlying e = some (.float .f64)) (hc : P.cellsOf e = 1)
    (h : DataW.trod enc P w base (fun _ => true) held fuel t cs = some x) :
    cs = [.slice none 0 0] ∨ ∃ (a : Addr) (len cap : Nat) (l : List Nat), cs = [.slice (some a) len cap] ∧ len ≤ cap ∧ cap ≤ maxLen ∧ l.length = len ∧ Fl w (some a) l := by
  rcases Go.Deep.open_slice1 ht hc h with h0 | ⟨a, len, cap, m, n, V, D, Pl, rfl, hb, hl, hm, hmm, rfl, hx⟩
  · exact Or.inl h0.1
  right
  simp only [if_true] at hmm
  subst hmm
  have hf : ∀ i, i < m → ∃ b : Nat, V i = .float .f64 b := by
    intro i hi
    have h2 := (hx i hi).2
    cases n with
    | zero => simp [DataW.trod] at h2
    | succ n =>
      simp only [DataW.trod, he] at h2
      split at h2 <;> simp_all
  obtain ⟨B, hB⟩ := Go.Deep.choose_lt (α := Nat) (p := fun i b => V i = .float .f64 b) hf
  refine ⟨a, len, m, (List.range len).map B, rfl, hl, hm, by simp, ?_⟩
  intro i hi
  have hi2 : i < len := by simpa using hi
  refine ⟨a, rfl, ?_⟩
  rw [(hx i (by omega)).1, hB i (by omega)]
  simp [numAt, hi2]
end
/-- A row of numbers that came in. -/
def IsFl (w : World) (a : Option Addr) (len cap : Nat) (l : List Nat) : Prop := l.length = len ∧ len ≤ cap ∧ cap ≤ maxLen ∧ Fl w a l

set_option maxHeartbeats 4000000 in
theorem short (A : Option Addr) (l : List Nat) (c : Nat) (w : World)  (hcell : Fl w A l) (hl : l.length ≤ 300) :
    Calls Try.prog 4 #[.slice A l.length c] w fun e w' => e = .returned (.bool true) ∧ Below w.heap.size w w' := by
  have HC := Lib.hid hcell
  clear hcell
  have hyl : l.length ≤ 300 := by omega
  obtain ⟨hp0, hp1⟩ := pickTo_range l l.length
  have HN := Lib.hid (pickTo_num l l.length)
  have HM := Lib.hid (pickTo_most l l.length)
  go_enter Try.func4, Try.ntmps4
  go_wp2_with fail
  refine (greatest_calls A l c _ HC.out (by omega)).mono ?_
  rintro e w' ⟨rfl, rfl⟩
  generalize hK : pickTo l l.length = K at *
  clear hK
  by_cases hk : K < 0
  · obtain rfl : K = -1 := by omega
    have q1 : decide ((-1 : Int) < -1) = false := by decide
    have q2 : decide ((l.length : Int) ≤ -1) = false := by simp; omega
    have q3 : decide (0 ≤ (-1 : Int)) = false := by decide
    go_wp2_with fail
    go_region
    go_wp2_with fail
    clear q1 q2 q3
    go_loopw [4] (fun i wr => ∃ n m : Nat, n ≤ l.length ∧ i = .int .i64 n ∧ wr = w.drewN m) (fun i _ => l.length - (intOf i).toNat)
    case atStart => exact ⟨0, _, Nat.zero_le _, rfl, rfl⟩
    case round =>
      obtain ⟨n, m, hn, rfl, rfl⟩ := hrel
      by_cases hlt : n < l.length
      · obtain ⟨ad, e1, hx⟩ := HC.out n hlt
        subst e1
        have hnan : isNaN (numAt l n) = true := by
          cases h : isNaN (numAt l n)
          · exact absurd (HM.out n hlt h).1 (by omega)
          · rfl
        generalize numAt l n = X at *
        have hs : (FloatKind.f64.format.order X X == some .eq) = false := by rw [order_same, hnan]; rfl
        clear hnan
        have q1 : decide ((-1 : Int) < 0) = true := by decide
        go_wp2_with fail
        go_region
        go_wp2_with fail
        go_roundw
        case rel => exact ⟨n + 1, _, by omega, by go_num, rfl⟩
        case measure => simp [intOf]; omega
      · have hkl : n = l.length := by omega
        clear hn
        subst hkl
        go_wp2_with (go_at_call 11; refine (greatest_two w.heap.size _ ((blk_cell (blk_new (w.drewN m) _) 0).trans rfl) ((blk_cell (blk_new (w.drewN m) _) 1).trans rfl)).mono ?_; rintro e w' ⟨rfl, rfl⟩)
        go_ret
        exact ⟨rfl, by repeat (first | exact Below.refl _ _ | apply below_drew | apply pw_below_drewN | apply below_alloc)⟩
  · obtain ⟨ad, e1, hx⟩ := HC.out K.toNat (by omega)
    rw [Int.toNat_of_nonneg (by omega)] at hx
    subst e1
    have hn := HN.out (by omega)
    generalize numAt l K = X at *
    have hs : (FloatKind.f64.format.order X X != some .eq) = false := by rw [← hn]; exact order_self X
    have q1 : decide (K < -1) = false := by simp; omega
    have q2 : decide ((l.length : Int) ≤ K) = false := by simp; omega
    have q3 : decide (0 ≤ K) = true := by simp; omega
    go_wp2_with fail
    go_region
    go_wp2_with fail
    clear q1 q2 q3 hs
    go_loopw [4] (fun i wr => ∃ n m : Nat, n ≤ l.length ∧ i = .int .i64 n ∧ wr = w.drewN m) (fun i _ => l.length - (intOf i).toNat)
    case atStart => exact ⟨0, _, Nat.zero_le _, rfl, rfl⟩
    case round =>
      obtain ⟨n, m, hn2, rfl, rfl⟩ := hrel
      by_cases hlt : n < l.length
      · obtain ⟨ad2, e2, hy⟩ := HC.out n hlt
        cases e2
        have hM := HM.out n hlt
        generalize numAt l n = Y at *
        cases hnan : isNaN Y
        · have h1 : key Y ≤ key X := (hM hnan).2.1
          have h2 := (hM hnan).2.2
          clear hM
          have q0 : (FloatKind.f64.format.order Y Y == some .eq) = true := by rw [order_same, hnan]; rfl
          have q1 : (FloatKind.f64.format.order Y X == some .gt) = false := by
            have := order_gt hnan hn
            refine this.trans ?_
            simp; omega
          have q2 : decide (K < 0) = false := by simp; omega
          by_cases hnk : (n : Int) < K
          · have q3 : decide ((n : Int) < K) = true := by simp; omega
            have h3 := h2 hnk
            have q4 : (FloatKind.f64.format.order Y X == some .eq) = false := by
              have := order_eq hnan hn
              refine this.trans ?_
              simp; omega
            clear h1 h2 h3 hnan
            go_wp2_with fail
            go_region
            go_wp2_with fail
            go_roundw
            case rel => exact ⟨n + 1, _, by omega, by go_num, rfl⟩
            case measure => simp [intOf]; omega
          · have q3 : decide ((n : Int) < K) = false := by simp; omega
            clear h1 h2 hnan
            go_wp2_with fail
            go_region
            go_wp2_with fail
            go_roundw
            case rel => exact ⟨n + 1, _, by omega, by go_num, rfl⟩
            case measure => simp [intOf]; omega
        · have q0 : (FloatKind.f64.format.order Y Y == some .eq) = false := by rw [order_same, hnan]; rfl
          clear hM hnan
          go_wp2_with fail
          go_region
          go_wp2_with fail
          go_roundw
          case rel => exact ⟨n + 1, _, by omega, by go_num, rfl⟩
          case measure => simp [intOf]; omega
      · have hkl : n = l.length := by omega
        clear hn2
        subst hkl
        go_wp2_with (go_at_call 11; refine (greatest_two w.heap.size _ ((blk_cell (blk_new (w.drewN m) _) 0).trans rfl) ((blk_cell (blk_new (w.drewN m) _) 1).trans rfl)).mono ?_; rintro e w' ⟨rfl, rfl⟩)
        go_ret
        exact ⟨rfl, by repeat (first | exact Below.refl _ _ | apply below_drew | apply pw_below_drewN | apply below_alloc)⟩

set_option maxHeartbeats 4000000 in
theorem long (A : Option Addr) (l : List Nat) (c : Nat) (w : World)  (y : List Nat) (hcell : Fl w A y) (hl : 300 < l.length) (hy : y.length = 300) (hcut : ∀ W : World, (Instr.slice 26 (.slice A l.length c) none (some (.int .i64 300)) none).run Try.prog W = .ok (.slice A y.length c) W) :
    Calls Try.prog 4 #[.slice A l.length c] w fun e w' => e = .returned (.bool true) ∧ Below w.heap.size w w' := by
  have HC := Lib.hid hcell
  clear hcell
  have hyl : y.length ≤ 300 := by omega
  obtain ⟨hp0, hp1⟩ := pickTo_range y y.length
  have HN := Lib.hid (pickTo_num y y.length)
  have HM := Lib.hid (pickTo_most y y.length)
  clear hy
  go_enter Try.func4, Try.ntmps4
  go_wp2_with fail
  refine (greatest_calls A y c _ HC.out (by omega)).mono ?_
  rintro e w' ⟨rfl, rfl⟩
  generalize hK : pickTo y y.length = K at *
  clear hK
  by_cases hk : K < 0
  · obtain rfl : K = -1 := by omega
    have q1 : decide ((-1 : Int) < -1) = false := by decide
    have q2 : decide ((y.length : Int) ≤ -1) = false := by simp; omega
    have q3 : decide (0 ≤ (-1 : Int)) = false := by decide
    go_wp2_with fail
    go_region
    go_wp2_with fail
    clear q1 q2 q3
    go_loopw [4] (fun i wr => ∃ n m : Nat, n ≤ y.length ∧ i = .int .i64 n ∧ wr = w.drewN m) (fun i _ => y.length - (intOf i).toNat)
    case atStart => exact ⟨0, _, Nat.zero_le _, rfl, rfl⟩
    case round =>
      obtain ⟨n, m, hn, rfl, rfl⟩ := hrel
      by_cases hlt : n < y.length
      · obtain ⟨ad, e1, hx⟩ := HC.out n hlt
        subst e1
        have hnan : isNaN (numAt y n) = true := by
          cases h : isNaN (numAt y n)
          · exact absurd (HM.out n hlt h).1 (by omega)
          · rfl
        generalize numAt y n = X at *
        have hs : (FloatKind.f64.format.order X X == some .eq) = false := by rw [order_same, hnan]; rfl
        clear hnan
        have q1 : decide ((-1 : Int) < 0) = true := by decide
        go_wp2_with fail
        go_region
        go_wp2_with fail
        go_roundw
        case rel => exact ⟨n + 1, _, by omega, by go_num, rfl⟩
        case measure => simp [intOf]; omega
      · have hkl : n = y.length := by omega
        clear hn
        subst hkl
        go_wp2_with (go_at_call 11; refine (greatest_two w.heap.size _ ((blk_cell (blk_new (w.drewN m) _) 0).trans rfl) ((blk_cell (blk_new (w.drewN m) _) 1).trans rfl)).mono ?_; rintro e w' ⟨rfl, rfl⟩)
        go_ret
        exact ⟨rfl, by repeat (first | exact Below.refl _ _ | apply below_drew | apply pw_below_drewN | apply below_alloc)⟩
  · obtain ⟨ad, e1, hx⟩ := HC.out K.toNat (by omega)
    rw [Int.toNat_of_nonneg (by omega)] at hx
    subst e1
    have hn := HN.out (by omega)
    generalize numAt y K = X at *
    have hs : (FloatKind.f64.format.order X X != some .eq) = false := by rw [← hn]; exact order_self X
    have q1 : decide (K < -1) = false := by simp; omega
    have q2 : decide ((y.length : Int) ≤ K) = false := by simp; omega
    have q3 : decide (0 ≤ K) = true := by simp; omega
    go_wp2_with fail
    go_region
    go_wp2_with fail
    clear q1 q2 q3 hs
    go_loopw [4] (fun i wr => ∃ n m : Nat, n ≤ y.length ∧ i = .int .i64 n ∧ wr = w.drewN m) (fun i _ => y.length - (intOf i).toNat)
    case atStart => exact ⟨0, _, Nat.zero_le _, rfl, rfl⟩
    case round =>
      obtain ⟨n, m, hn2, rfl, rfl⟩ := hrel
      by_cases hlt : n < y.length
      · obtain ⟨ad2, e2, hy⟩ := HC.out n hlt
        cases e2
        have hM := HM.out n hlt
        generalize numAt y n = Y at *
        cases hnan : isNaN Y
        · have h1 : key Y ≤ key X := (hM hnan).2.1
          have h2 := (hM hnan).2.2
          clear hM
          have q0 : (FloatKind.f64.format.order Y Y == some .eq) = true := by rw [order_same, hnan]; rfl
          have q1 : (FloatKind.f64.format.order Y X == some .gt) = false := by
            have := order_gt hnan hn
            refine this.trans ?_
            simp; omega
          have q2 : decide (K < 0) = false := by simp; omega
          by_cases hnk : (n : Int) < K
          · have q3 : decide ((n : Int) < K) = true := by simp; omega
            have h3 := h2 hnk
            have q4 : (FloatKind.f64.format.order Y X == some .eq) = false := by
              have := order_eq hnan hn
              refine this.trans ?_
              simp; omega
            clear h1 h2 h3 hnan
            go_wp2_with fail
            go_region
            go_wp2_with fail
            go_roundw
            case rel => exact ⟨n + 1, _, by omega, by go_num, rfl⟩
            case measure => simp [intOf]; omega
          · have q3 : decide ((n : Int) < K) = false := by simp; omega
            clear h1 h2 hnan
            go_wp2_with fail
            go_region
            go_wp2_with fail
            go_roundw
            case rel => exact ⟨n + 1, _, by omega, by go_num, rfl⟩
            case measure => simp [intOf]; omega
        · have q0 : (FloatKind.f64.format.order Y Y == some .eq) = false := by rw [order_same, hnan]; rfl
          clear hM hnan
          go_wp2_with fail
          go_region
          go_wp2_with fail
          go_roundw
          case rel => exact ⟨n + 1, _, by omega, by go_num, rfl⟩
          case measure => simp [intOf]; omega
      · have hkl : n = y.length := by omega
        clear hn2
        subst hkl
        go_wp2_with (go_at_call 11; refine (greatest_two w.heap.size _ ((blk_cell (blk_new (w.drewN m) _) 0).trans rfl) ((blk_cell (blk_new (w.drewN m) _) 1).trans rfl)).mono ?_; rintro e w' ⟨rfl, rfl⟩)
        go_ret
        exact ⟨rfl, by repeat (first | exact Below.refl _ _ | apply below_drew | apply pw_below_drewN | apply below_alloc)⟩

theorem walk (A : Option Addr) (len cap : Nat) (l : List Nat) (w : World) (h : IsFl w A len cap l) :
    Calls Try.prog 4 #[.slice A len cap] w fun e w' => e = .returned (.bool true) ∧ Below w.heap.size w w' := by
  obtain ⟨rfl, hc, hm, hf⟩ := h
  have hmx : maxLen ≤ 9223372036854775807 := by decide
  by_cases hl : l.length ≤ 300
  · exact short A l cap w hf hl
  · obtain ⟨i0, hi0, _, hsz, _⟩ := info_parts info22
    obtain ⟨hcut, hA, _⟩ := print_take_of (P := Try.prog) (Value.float .f64) 0 26 22 .i64 Try.underlying26 hi0 hsz A cap l 300 (by omega) (by omega) hc
    have e : (300 : Int).toNat = 300 := rfl
    rw [e] at hcut hA
    exact long A l cap w (l.take 300) (Fl_of_reads (hA w (Fl_reads hf (by omega)))) (by omega) (by rw [List.length_take]; omega) hcut
end Go.Proofs.Ytfgamapnoonklaa.GreatestW
