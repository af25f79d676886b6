import Derived.Test.YtkhghgmonjebnaaPBerx1
import Derived.StillTailTactics
import Derived.WalkLawsBesides
import Derived.WalkSpells
import Derived.Lib.Hide
namespace Go.Proofs.Ytkhghgmonjebnaa.Rd
open Go.RowKit Go.Proofs.YtkhghgmonjebnaaW.PrintWords Go.Proofs.YtkhghgmonjebnaaW.PrintLast Go.Proofs.YtkhghgmonjebnaaW.PrintMore
open Go.Proofs.Ytkhghgmonjebnaa.PBer
set_option linter.unusedVariables false
set_option linter.unusedSimpArgs false

abbrev tagv (c : Int) (m : Bool) (n : Int) : Value := .agg #[.int .i64 c, .bool m, .int .i64 n]

set_option maxHeartbeats 8000000 in
theorem read_empty (A0 : Option Addr) (c0 : Nat) (w : World) :
    Calls Try.prog 41 #[.slice A0 0 c0] w fun e w' => e = .returned (.tuple #[tagv 0 false 0, .int .i64 0, .int .i64 10]) ∧ Below w.heap.size w w' := by
  go_enter Try.func41, Try.ntmps41
  go_wp2
  exact bodyPost_ret (v := .tuple #[tagv 0 false 0, .int .i64 0, .int .i64 10]) (by simp [results, Try.results41, go_sem]) rfl ⟨rfl, by repeat (first | exact Below.refl _ _ | apply below_drew | apply below_alloc | (refine Below.setCell ?_ (by simp) _))⟩

set_option maxHeartbeats 8000000 in
theorem read_short (ad : Addr) (n c0 : Nat) (x : Int) (w : World) (hn : 0 < n) (hx : w.cell? ad = some (.int .u8 x)) (h0 : 0 ≤ x) (h1 : x ≤ 255) (h2 : x % 32 < 31) :
    Calls Try.prog 41 #[.slice (some ad) n c0] w fun e w' => e = .returned (.tuple #[tagv (x / 64) (bits .and .u8 x 32 != 0) (x % 32), .int .i64 1, .int .i64 0]) ∧ Below w.heap.size w w' := by
  have hl : ((n : Int) == 0) = false := by simp; omega
  have hl2 : (0 : Int) < (n : Int) := by omega
  have hx1 : ∀ o, (w.alloc o).cell? ad = some (.int .u8 x) := fun o => pw_cell_below (below_alloc (Below.refl _ _) _) hx
  have hx2 : ∀ o p, ((w.alloc o).alloc p).cell? ad = some (.int .u8 x) := fun o p => pw_cell_below (below_alloc (Below.refl _ _) _) (hx1 o)
  go_enter Try.func41, Try.ntmps41
  go_wp2
  go_region
  go_wp2
  exact bodyPost_ret (v := .tuple #[tagv (x / 64) (bits .and .u8 x 32 != 0) (x % 32), .int .i64 1, .int .i64 0]) (by simp [results, Try.results41, go_sem]) rfl ⟨rfl, by repeat (first | exact Below.refl _ _ | apply below_drew | apply below_alloc | (refine Below.setCell ?_ (by simp) _))⟩

set_option maxHeartbeats 8000000 in
theorem read_long (k : Nat) (l : List Int) (ad : Addr) (c0 : Nat) (t used bad : Int) (w : World) (hn : 0 < l.length) (hc : l.length ≤ c0) (HR : (Kd.int .u8).C w (some ad) l.length l) (h0 : 0 ≤ rd l 0) (h1 : rd l 0 ≤ 255) (h2 : 31 ≤ rd l 0 % 32)
    (hk : tag_number.f k (l.drop 1) = some (t, used, bad)) (hu : 0 ≤ used) (hu2 : used ≤ 4) :
    Calls Try.prog 41 #[.slice (some ad) l.length c0] w fun e w' => e = .returned (if bad = 0 then (.tuple #[tagv (rd l 0 / 64) (bits .and .u8 (rd l 0) 32 != 0) t, .int .i64 (1 + used), .int .i64 0]) else (.tuple #[tagv 0 false 0, .int .i64 0, .int .i64 bad])) ∧ Below w.heap.size w w' := by
  have hl : ((l.length : Int) == 0) = false := by rw [beq_eq_false_iff_ne]; omega
  have hl2 : (0 : Int) < (l.length : Int) := by omega
  obtain ⟨ad', e', hx⟩ := Kd.at_int HR 0 (by omega) (by omega)
  cases e'
  have hx : w.cell? ad = some (.int .u8 (rd l 0)) := hx
  have hx1 : ∀ o, (w.alloc o).cell? ad = some (.int .u8 (rd l 0)) := fun o => pw_cell_below (below_alloc (Below.refl _ _) _) hx
  have hx2 : ∀ o p, ((w.alloc o).alloc p).cell? ad = some (.int .u8 (rd l 0)) := fun o p => pw_cell_below (below_alloc (Below.refl _ _) _) (hx1 o)
  obtain ⟨i5, hi5, _, hsz5, _⟩ := info_parts info5
  obtain ⟨A', hcut, hA, hcA⟩ := print_drop_of (P := Try.prog) (Value.int .u8) 0 24 5 .i64 Try.underlying24 hi5 hsz5 (some ad) c0 l 1 (by omega) (by omega) hc
  have hcut : ∀ W : World, (Instr.slice 24 (.slice (some ad) l.length c0) (some (.int .i64 1)) none none).run Try.prog W = .ok (.slice A' (l.drop 1).length (c0 - 1)) W := hcut
  have HR1 := Lib.hid (Kd.C_of_reads (h1 := fun _ => rfl) (hA _ (Kd.reads_of_C HR)))
  have Hk := Lib.hid hk
  clear hk hA hi5 hsz5
  generalize hq : rd l 0 = x at *
  clear hq
  by_cases hb : bad = 0
  · subst hb
    have hbb : ((0 : Int) != 0) = false := rfl
    go_enter Try.func41, Try.ntmps41
    go_wp2
    go_region
    go_wp2_with fail
    rw [show l.length - 1 = (l.drop 1).length from List.length_drop.symm]
    refine (tag_number.calls k _ _ (l.drop 1) t used 0 _ (Kd.C_below HR1.out ?hb1) hcA Hk.out).mono ?_
    case hb1 => repeat (first | exact Below.refl _ _ | apply below_drew | apply below_alloc | (refine Below.setCell ?_ (by simp) _))
    rintro e w' ⟨rfl, ⟨nd, rfl⟩⟩
    go_wp2_with fail
    exact bodyPost_ret (v := .tuple #[tagv (x / 64) (bits .and .u8 x 32 != 0) t, .int .i64 (1 + used), .int .i64 0]) (by simp [results, Try.results41, go_sem]) rfl ⟨by first | rfl | simp, by repeat (first | exact Below.refl _ _ | apply below_drew | apply pw_below_drewN | apply below_alloc | (refine Below.setCell ?_ (by simp) _))⟩
  · have hbb : (bad == 0) = false := by simpa using hb
    have hbb : (bad != 0) = true := by simpa using hb
    go_enter Try.func41, Try.ntmps41
    go_wp2
    go_region
    go_wp2_with fail
    rw [show l.length - 1 = (l.drop 1).length from List.length_drop.symm]
    refine (tag_number.calls k _ _ (l.drop 1) t used bad _ (Kd.C_below HR1.out ?hb1) hcA Hk.out).mono ?_
    case hb1 => repeat (first | exact Below.refl _ _ | apply below_drew | apply below_alloc | (refine Below.setCell ?_ (by simp) _))
    rintro e w' ⟨rfl, ⟨nd, rfl⟩⟩
    go_wp2_with fail
    exact bodyPost_ret (v := .tuple #[tagv 0 false 0, .int .i64 0, .int .i64 bad]) (by simp [results, Try.results41, go_sem]) rfl ⟨rfl, by repeat (first | exact Below.refl _ _ | apply below_drew | apply pw_below_drewN | apply below_alloc | (refine Below.setCell ?_ (by simp) _))⟩

end Go.Proofs.Ytkhghgmonjebnaa.Rd
