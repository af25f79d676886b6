/- What the two functions answer that lay a digit behind bytes: contracts. Condition: the digit fits. -/
import Derived.Test.YtkhghgmonjebnaaBase
import Derived.Laws.Bits128
namespace Go.Proofs.Ytkhghgmonjebnaa.H
open Go.RowKit Go.Proofs.YtkhghgmonjebnaaW.PrintWords Go.Proofs.YtkhghgmonjebnaaW.PrintLast Go.Proofs.YtkhghgmonjebnaaW.PrintMore
set_option linter.unusedVariables false
set_option linter.unusedSimpArgs false

/-- A variable that holds a slice of bytes of its own: its block, its value. -/
structure Var (base : Nat) (w : World) (b : Nat) (v : Value) (xs : List Int) : Prop where
  blk : w.heap[b]? = some (.cells #[v] 24 (0, 0))
  row : Kd.R (Kd.int .u8) 5 w base (fun k => k ≠ b) v xs
  low : base ≤ b

theorem Var.drew {base : Nat} {w : World} {b : Nat} {v : Value} {xs : List Int} (h : Var base w b v xs) : Var base w.drew b v xs := ⟨h.blk, Kd.R_drew h.row, h.low⟩
theorem Var.drewN {base : Nat} {w : World} {b : Nat} {v : Value} {xs : List Int} (h : Var base w b v xs) (n : Nat) : Var base (w.drewN n) b v xs := ⟨h.blk, Kd.R_drewN h.row n, h.low⟩
theorem or128 {x : Int} (h0 : 0 ≤ x) (h1 : x < 128) : bits .or .u8 x 128 = x + 128 := by
  obtain ⟨n, rfl⟩ := Int.eq_ofNat_of_zero_le h0
  have h : (List.range 128).all (fun n => bits .or .u8 (n : Int) 128 == (n : Int) + 128) = true := by decide +kernel
  exact eq_of_beq (List.all_eq_true.1 h n (List.mem_range.2 (by omega)))

set_option maxHeartbeats 1000000 in
theorem lay19 (base b : Nat) (v : Value) (xs : List Int) (d : Int) (last : Bool) (w0 w : World) (hv : Var base w b v xs) (HB : Below base w0 w) (h0 : 0 ≤ d) (h1 : d < 128) (hl : xs.length + 1 ≤ 140737488355328) :
    Calls Try.prog 47 #[.int .u8 d, .bool last, .pointer (some ⟨b, 0, none⟩)] w fun e w' => e = .returned (.tuple #[]) ∧ (∃ v', Var base w' b v' (xs ++ [if last then d else d + 128])) ∧ Below base w0 w' := by
  have hcell : w.cell? ⟨b, 0, none⟩ = some v := blk_cell hv.blk 0
  have hlt := blk_lt hv.blk
  have hor := or128 h0 h1
  have HV := Lib.hid hv
  have HB := Lib.hid HB
  clear hv
  cases last
  · go_enter Try.func47, Try.ntmps47
    go_wp2_with ((with_reducible refine gate_builtin (b := .append) (xs := #[.tmp 9, .tmp 11]) rfl ?_); at_builtin; refine Kd.R_append (Kd.int .u8) (w0 := w0) base rfl (.tmp 9) (.tmp 11) 24 5 (.int .u8 0) 1 rfl Try.underlying24 info5 rfl (by decide) (by omega) v xs (d + 128) [.int .u8 (d + 128)] (fun k => k ≠ b) (fun _ => False) rfl rfl ?aP (fun _ hk => hk.elim) ?aF HV.out.row HB.out ?aS ?aL ?_; (case aP => exact rfl); (case aF => intro k hk; omega); (case aS => have := HV.out.low; omega); (case aL => omega); intro v1 w1 ho hb hg hat; (obtain ⟨A1, c1, e1⟩ := Kd.R_slice ho); subst e1; have HO := Lib.hid ho; have HB1 := Lib.hid hb; have hblk := blk_grown HV.out.blk hg (fun h => HV.out.row.1 b h.symm rfl); have HBk := Lib.hid hblk; have hcell1 : w1.cell? ⟨b, 0, none⟩ = some v := blk_cell hblk 0; have hfz := blk_frozen hblk 0; clear ho hb hg hat hblk)
    refine bodyPost_end (v := .tuple #[]) (by simp [results, Try.results47, go_sem]) rfl ⟨rfl, ⟨_, blk_put HBk.out 0 _ rfl, Kd.R_step (by have h := HO.out; rw [List.length_append] at h; exact h) (fun k hk _ => Below.heap_setCell w1 _ _ k hk), HV.out.low⟩, Below.setCell HB1.out (by simpa using HV.out.low) _⟩
  · go_enter Try.func47, Try.ntmps47
    go_wp2_with ((with_reducible refine gate_builtin (b := .append) (xs := #[.tmp 9, .tmp 11]) rfl ?_); at_builtin; refine Kd.R_append (Kd.int .u8) (w0 := w0) base rfl (.tmp 9) (.tmp 11) 24 5 (.int .u8 0) 1 rfl Try.underlying24 info5 rfl (by decide) (by omega) v xs d [.int .u8 d] (fun k => k ≠ b) (fun _ => False) rfl rfl ?aP (fun _ hk => hk.elim) ?aF HV.out.row HB.out ?aS ?aL ?_; (case aP => exact rfl); (case aF => intro k hk; omega); (case aS => have := HV.out.low; omega); (case aL => omega); intro v1 w1 ho hb hg hat; (obtain ⟨A1, c1, e1⟩ := Kd.R_slice ho); subst e1; have HO := Lib.hid ho; have HB1 := Lib.hid hb; have hblk := blk_grown HV.out.blk hg (fun h => HV.out.row.1 b h.symm rfl); have HBk := Lib.hid hblk; have hcell1 : w1.cell? ⟨b, 0, none⟩ = some v := blk_cell hblk 0; have hfz := blk_frozen hblk 0; clear ho hb hg hat hblk)
    refine bodyPost_end (v := .tuple #[]) (by simp [results, Try.results47, go_sem]) rfl ⟨rfl, ⟨_, blk_put HBk.out 0 _ rfl, Kd.R_step (by have h := HO.out; rw [List.length_append] at h; exact h) (fun k hk _ => Below.heap_setCell w1 _ _ k hk), HV.out.low⟩, Below.setCell HB1.out (by simpa using HV.out.low) _⟩

set_option maxHeartbeats 1000000 in
theorem lay20 (base b : Nat) (v : Value) (xs : List Int) (d : Int) (last : Bool) (w0 w : World) (hv : Var base w b v xs) (HB : Below base w0 w) (h0 : 0 ≤ d) (h1 : d < 256) (hl : xs.length + 1 ≤ 140737488355328) :
    Calls Try.prog 33 #[.int .u8 d, .bool last, .pointer (some ⟨b, 0, none⟩)] w fun e w' => e = .returned (.tuple #[]) ∧ (∃ v', Var base w' b v' (xs ++ [d])) ∧ Below base w0 w' := by
  have hcell : w.cell? ⟨b, 0, none⟩ = some v := blk_cell hv.blk 0
  have hlt := blk_lt hv.blk
  have HV := Lib.hid hv
  have HB := Lib.hid HB
  clear hv
  go_enter Try.func33, Try.ntmps33
  go_wp2_with ((with_reducible refine gate_builtin (b := .append) (xs := #[.tmp 5, .tmp 7]) rfl ?_); at_builtin; refine Kd.R_append (Kd.int .u8) (w0 := w0) base rfl (.tmp 5) (.tmp 7) 24 5 (.int .u8 0) 1 rfl Try.underlying24 info5 rfl (by decide) (by omega) v xs d [.int .u8 d] (fun k => k ≠ b) (fun _ => False) rfl rfl ?aP (fun _ hk => hk.elim) ?aF HV.out.row HB.out ?aS ?aL ?_; (case aP => exact rfl); (case aF => intro k hk; omega); (case aS => have := HV.out.low; omega); (case aL => omega); intro v1 w1 ho hb hg hat; (obtain ⟨A1, c1, e1⟩ := Kd.R_slice ho); subst e1; have HO := Lib.hid ho; have HB1 := Lib.hid hb; have hblk := blk_grown HV.out.blk hg (fun h => HV.out.row.1 b h.symm rfl); have HBk := Lib.hid hblk; have hcell1 : w1.cell? ⟨b, 0, none⟩ = some v := blk_cell hblk 0; have hfz := blk_frozen hblk 0; clear ho hb hg hat hblk)
  refine bodyPost_end (v := .tuple #[]) (by simp [results, Try.results33, go_sem]) rfl ⟨rfl, ⟨_, blk_put HBk.out 0 _ rfl, Kd.R_step (by have h := HO.out; rw [List.length_append] at h; exact h) (fun k hk _ => Below.heap_setCell w1 _ _ k hk), HV.out.low⟩, Below.setCell HB1.out (by simpa using HV.out.low) _⟩

/-- A number in groups of seven bits, the highest first; all but the last are marked. -/
def grp7 (n : Int) : Nat → List Int
  | 0 => [n / 2 ^ (7 * 0) % 128]
  | m + 1 => (n / 2 ^ (7 * (m + 1)) % 128 + 128) :: grp7 n m
theorem and7 {n : Int} (h0 : 0 ≤ n) (h1 : n < 268435456) (j : Nat) : IntKind.u8.wrap (bits .and .i64 (n / 2 ^ (7 * (j : Int)).toNat) (IntKind.i64.wrap (IntKind.i64.wrap 128 - 1))) = n / 2 ^ (7 * j) % 128 := by
  rw [show (7 * (j : Int)).toNat = 7 * j by omega, show IntKind.i64.wrap (IntKind.i64.wrap 128 - 1) = 127 from rfl, i64_and127, IntKind.wrap_u8]
  omega
set_option maxHeartbeats 2000000 in
theorem digits19 (base b : Nat) (v : Value) (xs : List Int) (n : Int) (m : Nat) (w0 w : World) (hv : Var base w b v xs) (HB : Below base w0 w) (h0 : 0 ≤ n) (h1 : n < 268435456) (hm : m ≤ 3) (hm1 : n / 2 ^ (7 * m) < 128) (hm2 : ∀ j, j < m → 128 ≤ n / 2 ^ (7 * j)) (hl : xs.length + 4 ≤ 140737488355328) :
    Calls Try.prog 32 #[.int .i64 n, .int .i64 7, .func (Fn.func 47) #[] #[.pointer (some ⟨b, 0, none⟩)]] w fun e w' => e = .returned (.tuple #[]) ∧ (∃ v', Var base w' b v' (xs ++ grp7 n m)) ∧ Below base w0 w' := by
  have HV := Lib.hid hv
  have HB := Lib.hid HB
  have H1 := Lib.hid hm1
  have H2 := Lib.hid hm2
  clear hv hm1 hm2
  go_enter Try.func32, Try.ntmps32
  go_wp2_with fail
  go_loopw [6] (fun s wr => ∃ k q : Nat, k ≤ m ∧ s = .int .i64 (7 * k) ∧ wr = w.drewN q) (fun s _ => 4 - (intOf s).toNat / 7)
  case atStart => exact ⟨0, 0, Nat.zero_le _, rfl, rfl⟩
  case round =>
    obtain ⟨k, q, hk, rfl, rfl⟩ := hrel
    by_cases hkm : k < m
    · have hge : 128 ≤ n / 2 ^ (7 * k) := H2.out k hkm
      go_wp2_with fail
      go_region
      go_wp2_with fail
      go_roundw
      case rel => exact ⟨k + 1, q + 1, by omega, by go_num, rfl⟩
      case measure => simp [intOf]; omega
    · have hk2 : k = m := by omega
      subst hk2
      have hlt : n / 2 ^ (7 * k) < 128 := H1.out
      go_wp2_with fail
      go_region
      go_wp2_with fail
      clear H1 H2
      go_loopw [6] (fun s wr => (∃ (j : Nat) (ys : List Int) (v' : Value), j ≤ k ∧ s = .int .i64 (7 * j) ∧ ys.length + j ≤ xs.length + 3 ∧ Hid (ys ++ grp7 n j = xs ++ grp7 n k) ∧ Hid (Var base wr b v' ys) ∧ Hid (Below base w0 wr)) ∨ (s = .int .i64 (-7) ∧ Hid (∃ v', Var base wr b v' (xs ++ grp7 n k)) ∧ Hid (Below base w0 wr))) (fun s _ => (intOf s + 7).toNat)
      case atStart => exact .inl ⟨k, xs, v, Nat.le_refl _, rfl, by omega, Lib.hid rfl, Lib.hid (HV.out.drewN q).drew, Lib.hid (below_drew (pw_below_drewN HB.out _))⟩
      case round =>
        clear HV HB
        rcases hrel with ⟨j, ys, v', hj, rfl, hyl, HE, HV, HB⟩ | ⟨rfl, HV, HB⟩
        · have HD := Lib.hid (show IntKind.u8.wrap (bits .and .i64 (n / 2 ^ (7 * (j : Int)).toNat) (IntKind.i64.wrap (IntKind.i64.wrap 128 - 1))) = n / 2 ^ (7 * j) % 128 from and7 h0 h1 j)
          have HL := Lib.hid (show ((7 * (j : Int)) == 0) = decide (j = 0) by rw [Bool.eq_iff_iff]; simp; omega)
          have hd0 : 0 ≤ n / 2 ^ (7 * j) % 128 := by omega
          have hd1 : n / 2 ^ (7 * j) % 128 < 128 := by omega
          generalize hdd : n / 2 ^ (7 * j) % 128 = d at *
          go_wp2_with fail
          go_region_with (go_at_call 47; rw [HD.out, HL.out]; refine (lay19 base b v' ys d _ w0 _ HV.out.drew (below_drew HB.out) hd0 hd1 (by omega)).mono ?_; rintro e w' ⟨rfl, HV1, HB1⟩; replace HV1 := Lib.hid HV1; replace HB1 := Lib.hid HB1)
          go_wp2_with fail
          constructor
          · obtain ⟨v2, hv2⟩ := HV1.out
            have hE := HE.out
            cases j with
            | zero =>
              refine .inr ⟨by go_num, Lib.hid ⟨v2, ?_⟩, HB1⟩
              rw [← hE]
              simp only [grp7]
              rw [hdd]
              exact hv2
            | succ j =>
              refine .inl ⟨j, ys ++ [d + 128], v2, by omega, by go_num, by simp; omega, Lib.hid ?_, Lib.hid hv2, HB1⟩
              rw [← hE]
              simp only [grp7]
              rw [hdd, List.append_assoc]
              rfl
          · simp [intOf]; omega
        · go_wp2_with fail
          replace HV := HV.out
          exact bodyPost_end (v := .tuple #[]) (by simp [results, Try.results32, go_sem]) rfl ⟨rfl, HV, HB.out⟩
theorem i64_and255 (n : Int) : bits .and .i64 n 255 = n % 256 := by
  have h1 : BitVec.ofInt 64 n &&& BitVec.ofInt 64 255 = BitVec.ofNat 64 ((BitVec.ofInt 64 n).toNat % 256) := by
    apply BitVec.eq_of_toNat_eq
    rw [BitVec.toNat_and, BitVec.toNat_ofNat]
    have : (BitVec.ofInt 64 255).toNat = 2 ^ 8 - 1 := by decide
    rw [this, Nat.and_two_pow_sub_one_eq_mod]
    omega
  show IntKind.i64.wrap ((BitVec.ofInt 64 n &&& BitVec.ofInt 64 255).toNat : Int) = _
  rw [h1, BitVec.toNat_ofNat, BitVec.toNat_ofInt, IntKind.wrap_i64]
  omega
/-- A number in groups of eight bits, the highest first. -/
def grp8 (n : Int) : Nat → List Int
  | 0 => [n / 2 ^ (8 * 0) % 256]
  | m + 1 => (n / 2 ^ (8 * (m + 1)) % 256) :: grp8 n m
theorem and8 {n : Int} (h0 : 0 ≤ n) (h1 : n < 9223372036854775808) (j : Nat) : IntKind.u8.wrap (bits .and .i64 (n / 2 ^ (8 * (j : Int)).toNat) (IntKind.i64.wrap (IntKind.i64.wrap 256 - 1))) = n / 2 ^ (8 * j) % 256 := by
  rw [show (8 * (j : Int)).toNat = 8 * j by omega, show IntKind.i64.wrap (IntKind.i64.wrap 256 - 1) = 255 from rfl, i64_and255, IntKind.wrap_u8]
  omega
set_option maxHeartbeats 2000000 in
theorem digits20 (base b : Nat) (v : Value) (xs : List Int) (n : Int) (m : Nat) (w0 w : World) (hv : Var base w b v xs) (HB : Below base w0 w) (h0 : 0 ≤ n) (h1 : n < 9223372036854775808) (hm : m ≤ 7) (hm1 : n / 2 ^ (8 * m) < 256) (hm2 : ∀ j, j < m → 256 ≤ n / 2 ^ (8 * j)) (hl : xs.length + 8 ≤ 140737488355328) :
    Calls Try.prog 32 #[.int .i64 n, .int .i64 8, .func (Fn.func 33) #[] #[.pointer (some ⟨b, 0, none⟩)]] w fun e w' => e = .returned (.tuple #[]) ∧ (∃ v', Var base w' b v' (xs ++ grp8 n m)) ∧ Below base w0 w' := by
  have HV := Lib.hid hv
  have HB := Lib.hid HB
  have H1 := Lib.hid hm1
  have H2 := Lib.hid hm2
  clear hv hm1 hm2
  go_enter Try.func32, Try.ntmps32
  go_wp2_with fail
  go_loopw [6] (fun s wr => ∃ k q : Nat, k ≤ m ∧ s = .int .i64 (8 * k) ∧ wr = w.drewN q) (fun s _ => 8 - (intOf s).toNat / 8)
  case atStart => exact ⟨0, 0, Nat.zero_le _, rfl, rfl⟩
  case round =>
    obtain ⟨k, q, hk, rfl, rfl⟩ := hrel
    by_cases hkm : k < m
    · have hge : 256 ≤ n / 2 ^ (8 * k) := H2.out k hkm
      go_wp2_with fail
      go_region
      go_wp2_with fail
      go_roundw
      case rel => exact ⟨k + 1, q + 1, by omega, by go_num, rfl⟩
      case measure => simp [intOf]; omega
    · have hk2 : k = m := by omega
      subst hk2
      have hlt : n / 2 ^ (8 * k) < 256 := H1.out
      go_wp2_with fail
      go_region
      go_wp2_with fail
      clear H1 H2
      go_loopw [6] (fun s wr => (∃ (j : Nat) (ys : List Int) (v' : Value), j ≤ k ∧ s = .int .i64 (8 * j) ∧ ys.length + j ≤ xs.length + 7 ∧ Hid (ys ++ grp8 n j = xs ++ grp8 n k) ∧ Hid (Var base wr b v' ys) ∧ Hid (Below base w0 wr)) ∨ (s = .int .i64 (-8) ∧ Hid (∃ v', Var base wr b v' (xs ++ grp8 n k)) ∧ Hid (Below base w0 wr))) (fun s _ => (intOf s + 8).toNat)
      case atStart => exact .inl ⟨k, xs, v, Nat.le_refl _, rfl, by omega, Lib.hid rfl, Lib.hid (HV.out.drewN q).drew, Lib.hid (below_drew (pw_below_drewN HB.out _))⟩
      case round =>
        clear HV HB
        rcases hrel with ⟨j, ys, v', hj, rfl, hyl, HE, HV, HB⟩ | ⟨rfl, HV, HB⟩
        · have HD := Lib.hid (show IntKind.u8.wrap (bits .and .i64 (n / 2 ^ (8 * (j : Int)).toNat) (IntKind.i64.wrap (IntKind.i64.wrap 256 - 1))) = n / 2 ^ (8 * j) % 256 from and8 h0 h1 j)
          have HL := Lib.hid (show ((8 * (j : Int)) == 0) = decide (j = 0) by rw [Bool.eq_iff_iff]; simp; omega)
          have hd0 : 0 ≤ n / 2 ^ (8 * j) % 256 := by omega
          have hd1 : n / 2 ^ (8 * j) % 256 < 256 := by omega
          generalize hdd : n / 2 ^ (8 * j) % 256 = d at *
          go_wp2_with fail
          go_region_with (go_at_call 33; rw [HD.out, HL.out]; refine (lay20 base b v' ys d _ w0 _ HV.out.drew (below_drew HB.out) hd0 hd1 (by omega)).mono ?_; rintro e w' ⟨rfl, HV1, HB1⟩; replace HV1 := Lib.hid HV1; replace HB1 := Lib.hid HB1)
          go_wp2_with fail
          constructor
          · obtain ⟨v2, hv2⟩ := HV1.out
            have hE := HE.out
            cases j with
            | zero =>
              refine .inr ⟨by go_num, Lib.hid ⟨v2, ?_⟩, HB1⟩
              rw [← hE]
              simp only [grp8]
              rw [hdd]
              exact hv2
            | succ j =>
              refine .inl ⟨j, ys ++ [d], v2, by omega, by go_num, by simp; omega, Lib.hid ?_, Lib.hid hv2, HB1⟩
              rw [← hE]
              simp only [grp8]
              rw [hdd, List.append_assoc]
              rfl
          · simp [intOf]; omega
        · go_wp2_with fail
          replace HV := HV.out
          exact bodyPost_end (v := .tuple #[]) (by simp [results, Try.results32, go_sem]) rfl ⟨rfl, HV, HB.out⟩
end Go.Proofs.Ytkhghgmonjebnaa.H
