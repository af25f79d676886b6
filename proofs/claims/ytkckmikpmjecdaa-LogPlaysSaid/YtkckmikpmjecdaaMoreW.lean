import Derived.Test.YtkckmikpmjecdaaBase
namespace Go.Proofs.Ytkckmikpmjecdaa.H
open Go.RowKit Go.Proofs.YtkckmikpmjecdaaW.PrintWords Go.Proofs.YtkckmikpmjecdaaW.PrintLast Go.Proofs.YtkckmikpmjecdaaW.PrintMore
set_option linter.unusedVariables false
set_option linter.unusedSimpArgs false

set_option maxHeartbeats 8000000 in
theorem table_calls (w : World) : Calls Try.prog 49 #[] w fun e w' => e = .returned (.agg #[.int .u32 0, .int .u32 498536548, .int .u32 997073096, .int .u32 651767980, .int .u32 1994146192, .int .u32 1802195444, .int .u32 1303535960, .int .u32 1342533948, .int .u32 3988292384, .int .u32 4027552580, .int .u32 3604390888, .int .u32 3412177804, .int .u32 2607071920, .int .u32 2262029012, .int .u32 2685067896, .int .u32 3183342108]) ∧ Below w.heap.size w w' := by
  go_enter Try.func49, Try.ntmps49
  go_wp2
  exact bodyPost_ret (v := .agg #[.int .u32 0, .int .u32 498536548, .int .u32 997073096, .int .u32 651767980, .int .u32 1994146192, .int .u32 1802195444, .int .u32 1303535960, .int .u32 1342533948, .int .u32 3988292384, .int .u32 4027552580, .int .u32 3604390888, .int .u32 3412177804, .int .u32 2607071920, .int .u32 2262029012, .int .u32 2685067896, .int .u32 3183342108]) (by simp [results, Try.results49, go_sem]) rfl ⟨rfl, by repeat (first | exact Below.refl _ _ | exact (Below.refl _ _).alloc (Nat.le_refl _) _ | (refine Below.setCell ?_ (by simp) _))⟩

/-- The table's cells. -/
def Tab (w : World) (b : Nat) : Prop := ∀ j : Nat, j < 16 → w.cell? ⟨b, j, none⟩ = some (.int .u32 (tabI.getD j 0))
theorem Tab.at_ {w : World} {b : Nat} (h : Tab w b) (y : Int) (h0 : 0 ≤ y) (h1 : y ≤ 4294967295) : w.cell? ⟨b, (an y 15).toNat, none⟩ = some (.int .u32 (tabI.getD (an y 15).toNat 0)) := h _ (by rw [an15 h0 h1]; omega)
theorem an_range {y : Int} (h0 : 0 ≤ y) (h1 : y ≤ 4294967295) : 0 ≤ an y 15 ∧ an y 15 < 16 := by rw [an15 h0 h1]; omega
theorem Tab.mk_ (w : World) : Tab (w.alloc (.cells #[.int .u32 0, .int .u32 498536548, .int .u32 997073096, .int .u32 651767980, .int .u32 1994146192, .int .u32 1802195444, .int .u32 1303535960, .int .u32 1342533948, .int .u32 3988292384, .int .u32 4027552580, .int .u32 3604390888, .int .u32 3412177804, .int .u32 2607071920, .int .u32 2262029012, .int .u32 2685067896, .int .u32 3183342108] 84)) w.heap.size := by
  intro j hj
  have : (w.alloc (.cells #[.int .u32 0, .int .u32 498536548, .int .u32 997073096, .int .u32 651767980, .int .u32 1994146192, .int .u32 1802195444, .int .u32 1303535960, .int .u32 1342533948, .int .u32 3988292384, .int .u32 4027552580, .int .u32 3604390888, .int .u32 3412177804, .int .u32 2607071920, .int .u32 2262029012, .int .u32 2685067896, .int .u32 3183342108] 84)).heap[w.heap.size]? = some (.cells #[.int .u32 0, .int .u32 498536548, .int .u32 997073096, .int .u32 651767980, .int .u32 1994146192, .int .u32 1802195444, .int .u32 1303535960, .int .u32 1342533948, .int .u32 3988292384, .int .u32 4027552580, .int .u32 3604390888, .int .u32 3412177804, .int .u32 2607071920, .int .u32 2262029012, .int .u32 2685067896, .int .u32 3183342108] 84) := heap_alloc_new w _
  simp only [World.cell?, this]
  rcases (by omega : j = 0 ∨ j = 1 ∨ j = 2 ∨ j = 3 ∨ j = 4 ∨ j = 5 ∨ j = 6 ∨ j = 7 ∨ j = 8 ∨ j = 9 ∨ j = 10 ∨ j = 11 ∨ j = 12 ∨ j = 13 ∨ j = 14 ∨ j = 15) with rfl | rfl | rfl | rfl | rfl | rfl | rfl | rfl | rfl | rfl | rfl | rfl | rfl | rfl | rfl | rfl <;> rfl

set_option maxHeartbeats 8000000 in
theorem more_calls (a0 : Int) (A : Option Addr) (c : Nat) (l : List Int) (w : World) (hr : Kd.C (Kd.int .u8) w A l.length l) (hc : l.length ≤ c) (hb : okb l = true) (ha : 0 ≤ a0 ∧ a0 ≤ 4294967295) :
    Calls Try.prog 47 #[.int .u32 a0, .slice A l.length c] w fun e w' => e = .returned (.int .u32 (more a0 l)) ∧ Below w.heap.size w w' := by
  have hl : l.length ≤ 9223372036854775807 := Kd.C_max hr
  have HR := Lib.hid hr
  have HA := Lib.hid hb
  clear hr hb
  go_enter Try.func47, Try.ntmps47
  go_wp2_with fail
  refine (table_calls _).mono ?_
  rintro e w1 ⟨rfl, hb⟩
  go_wp2_with fail
  have HT := Lib.hid (Tab.mk_ w1)
  have HB := Lib.hid hb
  clear hb
  have hx := xr_range a0 4294967295
  go_loopw [6, 14] (fun r i wr => ∃ k : Nat, k ≤ l.length ∧ i = .int .i64 k ∧ r = .int .u32 (reg (xr a0 4294967295) (l.take k)) ∧ Hid (Tab wr w1.heap.size) ∧ Hid (Below w.heap.size w wr)) (fun _ i _ => l.length - (intOf i).toNat)
  case atStart => exact ⟨0, Nat.zero_le _, rfl, rfl, HT, (HB.out.alloc HB.out.size _)⟩
  case round =>
    clear HT HB
    obtain ⟨k, hk, rfl, rfl, HT, HB⟩ := hrel
    by_cases hlt : k < l.length
    · obtain ⟨ad, e1, hcell⟩ := Kd.at_int (Kd.C_below HR.out HB.out) (k : Int) (by omega) (by omega)
      subst e1
      have hcell : wr.cell? (ad.add k) = some (.int .u8 (rd l k)) := hcell
      obtain ⟨hc0, hc1⟩ := okb_at HA.out (k : Int)
      obtain ⟨hr0, hr1⟩ := reg_range (xr a0 4294967295) (l.take k) hx
      have HS := Lib.hid (show reg (xr a0 4294967295) (l.take (k + 1)) = step (reg (xr a0 4294967295) (l.take k)) (rd l k) by rw [take_rd hlt, reg_snoc])
      generalize reg (xr a0 4294967295) (l.take k) = R at *
      generalize rd l k = ch at *
      have hy0 : 0 ≤ bits .xor .u32 R ch := (xr_range R ch).1
      have hy1 : bits .xor .u32 R ch ≤ 4294967295 := (xr_range R ch).2
      have hm0 : 0 ≤ bits .and .u32 (bits .xor .u32 R ch) 15 := (an_range hy0 hy1).1
      have hm1 : bits .and .u32 (bits .xor .u32 R ch) 15 < 16 := (an_range hy0 hy1).2
      have ht1 : wr.cell? ⟨w1.heap.size, (bits .and .u32 (bits .xor .u32 R ch) 15).toNat, none⟩ = some (.int .u32 (tabI.getD (bits .and .u32 (bits .xor .u32 R ch) 15).toNat 0)) := HT.out.at_ (xr R ch) hy0 hy1
      generalize htv : tabI.getD (bits .and .u32 (bits .xor .u32 R ch) 15).toNat 0 = t1 at *
      have hz0 : 0 ≤ bits .xor .u32 (bits .xor .u32 R ch / 16) t1 := (xr_range _ _).1
      have hz1 : bits .xor .u32 (bits .xor .u32 R ch / 16) t1 ≤ 4294967295 := (xr_range _ _).2
      have hn0 : 0 ≤ bits .and .u32 (bits .xor .u32 (bits .xor .u32 R ch / 16) t1) 15 := (an_range hz0 hz1).1
      have hn1 : bits .and .u32 (bits .xor .u32 (bits .xor .u32 R ch / 16) t1) 15 < 16 := (an_range hz0 hz1).2
      have ht2 : wr.cell? ⟨w1.heap.size, (bits .and .u32 (bits .xor .u32 (bits .xor .u32 R ch / 16) t1) 15).toNat, none⟩ = some (.int .u32 (tabI.getD (bits .and .u32 (bits .xor .u32 (bits .xor .u32 R ch / 16) t1) 15).toNat 0)) := HT.out.at_ _ hz0 hz1
      generalize htw : tabI.getD (bits .and .u32 (bits .xor .u32 (bits .xor .u32 R ch / 16) t1) 15).toNat 0 = t2 at *
      have HS2 := Lib.hid (show step R ch = bits .xor .u32 (bits .xor .u32 (bits .xor .u32 R ch / 16) t1 / 16) t2 by rw [← htw, ← htv]; rfl)
      clear htv htw
      go_wp2
      go_roundw
      case rel => exact ⟨k + 1, by omega, by go_num, by rw [HS.out, HS2.out], HT, HB⟩
      case measure => simp [intOf]; omega
    · have hkl : k = l.length := by omega
      subst hkl
      have HS := Lib.hid (show more a0 l = bits .xor .u32 (reg (xr a0 4294967295) (l.take l.length)) 4294967295 by rw [List.take_length]; rfl)
      go_wp2
      go_ret
      exact ⟨rfl, HB.out⟩

/-- What More answers, bytes and a sum of 32 bits given. -/
def frame_More.f (a0 : Int) (l1 : List Int) : Option Int := if okb l1 = true ∧ 0 ≤ a0 ∧ a0 ≤ 4294967295 then some (more a0 l1) else none
theorem frame_More.calls (a0 : Int) (A1 : Option Addr) (c1 : Nat) (l1 : List Int) (r : Int) (w : World) (hr1 : Kd.C (Kd.int .u8) w A1 l1.length l1) (hc1 : l1.length ≤ c1) (h : frame_More.f a0 l1 = some r) :
    Calls Try.prog 47 #[.int .u32 a0, .slice A1 l1.length c1] w fun e w' => e = .returned (.int .u32 r) ∧ Below w.heap.size w w' := by
  unfold frame_More.f at h
  split at h
  · rename_i hh
    obtain rfl := Option.some.inj h
    exact more_calls a0 A1 c1 l1 w hr1 hc1 hh.1 hh.2
  · cases h
end Go.Proofs.Ytkckmikpmjecdaa.H
