/- After any sequence of calls and crashes, also with other bytes at its end, a log has the documented records and bytes: the walk. No condition but at most 80 steps. -/
import Derived.Test.YtkckmikpmjecdaaPlayU
import Derived.Test.YtkckmikpmjecdaaGrow
import Derived.Test.YtkckmikpmjecdaaWTab
import Derived.Lib.SlBytesConst
namespace Go.Proofs.Ytkckmikpmjecdaa.HF
open Go.RowKit Go.Proofs.Ytkckmikpmjecdaa.H Go.Proofs.YtkckmikpmjecdaaW.PrintWords Go.Proofs.YtkckmikpmjecdaaW.PrintLast Go.Proofs.YtkckmikpmjecdaaW.PrintMore
set_option linter.unusedVariables false
set_option linter.unusedSimpArgs false
theorem scan_nil : scan [] = ([], 0, 0) := by decide
def plays.T41 : Bool × List (List Nat × List Nat) := (true, [([], []), ([], []), ([0, 1], [0, 1]), ([2], [2]), ([3], [3]), ([4, 3], [3, 4]), ([5, 3], [3, 5]), ([6, 3], [3, 6]), ([7, 3, 3], [3, 7]), ([8, 3], [3, 8]), ([3], [3]), ([10, 3], [3, 10]), ([9, 11, 3], [3, 9, 11]), ([3, 12], [3, 12]), ([13, 8], [13]), ([14], [14]), ([15, 14], [14, 15]), ([16, 14], [14, 16]), ([17, 14], [14, 17]), ([18, 14, 14], [14, 18]), ([14], [14]), ([20, 14], [14, 20]), ([19, 21, 14], [14, 19, 21]), ([14, 22], [14, 22]), ([23, 19], [23]), ([24], [24]), ([25, 24, 24], [24, 25]), ([24], [24]), ([26, 27, 26, 24], [24, 26, 27]), ([28, 24], [24, 28]), ([24, 29], [24, 29])])
def plays.B41 : List Nat := [0, 0, 3, 7, 15, 31, 63, 127, 255, 511, 15, 1039, 4095, 8191, 16383, 32767, 65535, 131071, 262143, 524287, 32767, 1081343, 4194303, 8388607, 16777215, 33554431, 67108863, 33554431, 268435455, 536870911, 1073741823]
theorem plays.tab41 : rtab .any (opsOf Try.f7 41) = plays.T41 := by kernel_rfl
theorem plays.bits41 : waitsOk plays.T41.2 plays.B41 = true := by kernel_rfl
theorem force_last {w0 w : World} {p q : Nat} {xs : List Int} {s : Nat} {D : Option Addr} (h : Fq (-1) w w0.heap.size p xs s) (hL : Lg w q p) (hp : w0.heap.size ≤ p) (hB : Below w0.heap.size w0 w) (hY : Kd.C (Kd.int .u8) w D 1 [120]) (hx : xs.length ≤ 90000) :
    Calls Try.prog 17 #[.pointer (some ⟨q, 0, none⟩), .slice D 1 1] w fun e w' => e = .returned (.int .i64 0) ∧ Below w0.heap.size w0 w' := by
  have e := h.force (ys := [120]) (k := 1) hL hp hB hY (by decide) (by decide) (by decide) hx
  rw [if_neg (by decide), if_neg (by decide)] at e
  exact e.mono fun _ _ ⟨h1, _, _, h4, _⟩ => ⟨h1, h4⟩
theorem C_x (W : World) : Kd.C (Kd.int .u8) (W.alloc (.cells #[.int .u8 120] 5 (1, 2))) (some ⟨W.heap.size, 0, none⟩) 1 [120] := by
  refine Kd.C_of_reads (d := (0 : Int)) ⟨rfl, by decide, fun _ => ⟨_, rfl, fun j hj => ?_⟩⟩
  have hj' : j < 1 := hj
  have ha : (⟨W.heap.size, 0, none⟩ : Addr).add j = ⟨W.heap.size, j, none⟩ := by unfold Addr.add; split <;> simp_all
  rw [ha, World.cell?_alloc_mark W #[.int .u8 120] 5 (1, 2) j]
  obtain rfl : j = 0 := by omega
  rfl
set_option maxRecDepth 100000 in
set_option maxHeartbeats 20000000 in
theorem plays_walk (A0 : Option Addr) (c0 : Nat) (l : List Ac) (w : World) (h0 : Acts w A0 l) (hl : l.length ≤ 80) :
    Calls Try.prog 7 #[.slice A0 l.length c0] w fun e w' => e = .returned (.bool true) ∧ Below w.heap.size w w' := by
  have H0 := Lib.hid h0
  have HLT := Lib.hid hl
  have d1 : decide ((80 : Int) < (l.length : Int)) = false := decide_eq_false (by omega)
  clear h0 hl
  go_enter Try.func7, Try.ntmps7
  go_wp2_with (first
    | (go_at_call 8; refine (new_calls _).mono ?_; rintro e w1 ⟨p0, rfl, hp, hd, hb⟩; have HP := Lib.hid hp; have HD1 := Lib.hid (show Dq w1 w.heap.size p0 [] 0 from ⟨none, 0, hd, .inl (Kd.R_nil _ _ _ _ _)⟩); have HB1 := Lib.hid hb; clear hp hd hb)
    | (go_at_call 19; refine (open_good w p0 [] _ HD1.out HP.out HB1.out rfl (by simp) scan_nil (.inl rfl)).mono ?_; rintro e w2 ⟨q0, A20, n2, c20, rfl, hq, hlg, hf, hn2, _, _, hb, _⟩; obtain rfl : n2 = 0 := hn2; have HG2 := Lib.hid hlg; have HF2 := Lib.hid hf; have HB2 := Lib.hid hb; clear hq hlg hf hb)
    | ((with_reducible refine gate_dst (N := 7) rfl ?_); refine box_event ?hg (N := 7) ?hd (cs := #[.string (⟨#[]⟩ : ByteArray), .int .i64 0, .int .i64 0, .bool false]) (t := 50) ?hr ?_; (case hd => rfl); (case hg => rfl); (case hr => first | (go_simp; done) | (go_simp; rfl)); intro r hgr w3 hkr hbr; have HRB := Lib.hid (show w.heap.size ≤ r by have := HB2.out.size; omega); have HK3 := Lib.hid (show Rk w3 r (strOfNums []) 0 0 false from hkr); have HF3 := Lib.hid (HF2.out.below hbr); have HG3 := Lib.hid (show Lg w3 q0 p0 from blk_below HG2.out hbr); have HB3 := Lib.hid (below_then HB2.out HB2.out.size hbr); clear hgr hkr hbr))
  go_loopw [4, 8] (fun v4 v8 wr => ∃ (k p q : Nat) (xs : List Int) (s : Nat) (f L : Int) (F : Bool) (rows : List (List Int)), k ≤ l.length ∧ v8 = .int .i64 k ∧ v4 = .pointer (some ⟨q, 0, none⟩) ∧ Hid (Fq f wr w.heap.size p xs s) ∧ Hid (Lg wr q p) ∧ Hid (Rk wr r (strOfNums xs) (s : Int) L F) ∧ Hid (Below w.heap.size w wr) ∧ Hid (w.heap.size ≤ p) ∧ Hid (Fz f L F) ∧ Hid (scan xs = (rows, xs.length, 0)) ∧ Hid (okb xs = true) ∧ Hid (xs.length ≤ 308 * k) ∧ Hid (s ≤ xs.length) ∧ Hid (-1 ≤ f ∧ f ≤ 9223372036854775807)) (fun _ v8 _ => l.length - (intOf v8).toNat)
  case atStart => exact ⟨0, p0, q0, [], 0, -1, 0, false, [], Nat.zero_le _, rfl, rfl, HF3, HG3, HK3, HB3, HP, Lib.hid (.inl ⟨rfl, by decide⟩), Lib.hid scan_nil, Lib.hid rfl, Lib.hid (Nat.zero_le _), Lib.hid (Nat.zero_le _), Lib.hid (by decide)⟩
  case round =>
    clear HP HD1 HB1 HG2 HF2 HB2 HK3 HF3 HG3 HB3
    obtain ⟨k, p, q, xs, s, f, L, F, rows, hk, rfl, rfl, HF, HG, HK, HB, HP, HFZ, HS, HO, HXL, HSL, HRG⟩ := hrel
    by_cases hlt : k < l.length
    · have g0 : decide ((k : Int) < (l.length : Int)) = true := decide_eq_true (by omega)
      have hkb : k < 1000 := by have := HLT.out; omega
      obtain ⟨ad, hA, h1⟩ := H0.out k hlt
      subst hA
      generalize l[k]'hlt = a at h1
      obtain ⟨aK, aN, ⟨aA, ac, ax⟩⟩ := a
      have q0 := pw_cell_below HB.out h1.1
      have q1 := pw_cell_below HB.out h1.2.1
      have q2 := pw_cell_below HB.out h1.2.2.1
      have HTH := Lib.hid h1.2.2.2.1
      have HOa := Lib.hid (show okb ax = true from h1.2.2.2.2.1)
      have HWN := Lib.hid (show -9223372036854775808 ≤ aN ∧ aN ≤ 9223372036854775807 by have hw := h1.2.2.2.2.2; simp [Lit.wf, IntKind.min, IntKind.max, IntKind.signed, IntKind.bits] at hw; omega)
      clear h1
      generalize hz : ad.add (k * 3) = z at q0 q1 q2
      have c0' : wr.cell? z = some (.int .i64 aK) := q0
      have c1 : wr.cell? ⟨z.block, z.off + 1, none⟩ = some (.int .i64 aN) := q1
      have c2 : wr.cell? ⟨z.block, z.off + 2, none⟩ = some (.slice aA ax.length ac) := q2
      clear q0 q1 q2
      have hba : Below wr.heap.size wr (wr.alloc (.cells #[.int .i64 aK, .int .i64 aN, .slice aA ax.length ac] 47)) := below_alloc (Below.refl _ _) _
      have HBLK := Lib.hid (show (wr.alloc (.cells #[.int .i64 aK, .int .i64 aN, .slice aA ax.length ac] 47)).heap[wr.heap.size]? = some (.cells #[.int .i64 aK, .int .i64 aN, .slice aA ax.length ac] 47 (0, 0)) from blk_new wr _)
      have HFa := Lib.hid (HF.out.below hba)
      have HGa := Lib.hid (show Lg (wr.alloc (.cells #[.int .i64 aK, .int .i64 aN, .slice aA ax.length ac] 47)) q p from blk_below HG.out hba)
      have HKa := Lib.hid (HK.out.below hba)
      have HBa := Lib.hid (below_alloc HB.out (.cells #[.int .i64 aK, .int .i64 aN, .slice aA ax.length ac] 47))
      have HCLa := Lib.hid (show ax.length ≤ ac from HTH.out.1)
      have HCa := Lib.hid (Kd.C_below HTH.out.2 HBa.out)
      clear hba
      by_cases hx3 : ax.length ≤ 300
      · have g1 : decide ((300 : Int) < (ax.length : Int)) = false := decide_eq_false (by omega)
        have HX3 := Lib.hid hx3
        clear hx3
        have HXB := Lib.hid (show xs.length ≤ 25000 by have := HXL.out; have := HLT.out; omega)
        have HXL1 := Lib.hid (show xs.length ≤ 308 * (k + 1) by have := HXL.out; omega)
        have HS1 := Lib.hid (show ∃ rows, scan xs = (rows, xs.length, 0) from ⟨rows, HS.out⟩)
        go_upto_region 14 with fail
        rename_i K1 ha1 K0 ha0
        have tail : ∀ {x2 x9 x12 x13 x14 x15 x16 x17 x18 x19 x20 x50 x51 x52 x53 x54 x55 x56 x57 x58 x59 x60 x61 x62 x63 x64 x65 x66 x67 x68 x69 x70 x71 x72 x73 x74 x75 x76 x77 x78 x79 x80 x81 x82 x83 x84 x85 x86 x87 x88 x89 x90 x91 x92 x93 x94 x95 x96 x97 x98 x99 x100 x101 x102 x103 x104 x105 x106 x107 x108 x109 x110 x111 x112 x113 x114 x115 x116 x117 x118 x119 x120 x121 x122 x123 x124 x125 x126 x127 x128 x129 x130 x131 x132 x133 x134 x135 x136 x137 x138 x139 x140 x141 x142 x143 x144 x145 x146 x147 x148 x149 x150 x151 x152 x153 x154 x155 x156 x157 x158 x159 x160 x161 x162 x163 x164 x165 x166 x167 x168 x169 x170 x171 x172 x173 x174 x175 x176 x177 x178 x179 x180 x181 x182 x183 x184 x185 x186 x187 x188 x189 x190 x191 x192 x193 x194 x195 x196 x197 x198 x199 x200 x201 x202 x203 x204 x205 x206 x207 x208 x209 x210 x211 x212 x213 x214 x215 x216 x217 : Value} {wz : World} {pz qz : Nat} {xz : List Int} {sz : Nat} {fz Lz : Int} {Fb : Bool} {cz : Int}, Hid (Fq fz wz w.heap.size pz xz sz) → Hid (Lg wz qz pz) → Hid (Rk wz r (strOfNums xz) (sz : Int) Lz Fb) → Hid (Below w.heap.size w wz) → Hid (w.heap.size ≤ pz) → Hid (Fz fz Lz Fb) → Hid (∃ rows, scan xz = (rows, xz.length, 0)) → Hid (okb xz = true) → Hid (xz.length ≤ 308 * (k + 1)) → Hid (sz ≤ xz.length) → Hid (-1 ≤ fz ∧ fz ≤ 9223372036854775807) → K1 { tmps := #[Value.slice (some ad) l.length c0, undef, x2, Value.pointer (some ⟨p0, 0, none⟩), .pointer (some ⟨qz, 0, none⟩), Value.slice A20 0 c20, Value.int .i64 0, Value.pointer (some ⟨r, 0, none⟩), .int .i64 (k : Int), x9, .int .i64 cz, .int .i64 cz, x12, x13, x14, x15, x16, x17, x18, x19, x20, Value.pointer (some ⟨p0, 0, none⟩), Value.tuple #[Value.pointer (some ⟨q0, 0, none⟩), Value.slice A20 0 c20, Value.int .i64 0], Value.pointer (some ⟨p0, 0, none⟩), Value.tuple #[Value.pointer (some ⟨q0, 0, none⟩), Value.slice A20 0 c20, Value.int .i64 0], Value.pointer (some ⟨q0, 0, none⟩), Value.slice A20 0 c20, Value.int .i64 0, Value.int .i64 0, Value.bool false, Value.bool false, Value.pointer (some ⟨q0, 0, none⟩), Value.bool false, Value.bool false, Value.bool false, Value.slice A20 0 c20, Value.int .i64 0, Value.bool false, Value.bool false, Value.bool false, Value.slice (some ad) l.length c0, Value.int .i64 (l.length : Int), Value.bool false, Value.bool false, undef, undef, undef, undef, undef, undef, x50, x51, x52, x53, x54, x55, x56, x57, x58, x59, x60, x61, x62, x63, x64, x65, x66, x67, x68, x69, x70, x71, x72, x73, x74, x75, x76, x77, x78, x79, x80, x81, x82, x83, x84, x85, x86, x87, x88, x89, x90, x91, x92, x93, x94, x95, x96, x97, x98, x99, x100, x101, x102, x103, x104, x105, x106, x107, x108, x109, x110, x111, x112, x113, x114, x115, x116, x117, x118, x119, x120, x121, x122, x123, x124, x125, x126, x127, x128, x129, x130, x131, x132, x133, x134, x135, x136, x137, x138, x139, x140, x141, x142, x143, x144, x145, x146, x147, x148, x149, x150, x151, x152, x153, x154, x155, x156, x157, x158, x159, x160, x161, x162, x163, x164, x165, x166, x167, x168, x169, x170, x171, x172, x173, x174, x175, x176, x177, x178, x179, x180, x181, x182, x183, x184, x185, x186, x187, x188, x189, x190, x191, x192, x193, x194, x195, x196, x197, x198, x199, x200, x201, x202, x203, x204, x205, x206, x207, x208, x209, x210, x211, x212, x213, x214, x215, x216, x217, undef, undef, undef, undef, undef, undef, undef, undef, undef, undef], defers := [] } wz := by
          intro x2 x9 x12 x13 x14 x15 x16 x17 x18 x19 x20 x50 x51 x52 x53 x54 x55 x56 x57 x58 x59 x60 x61 x62 x63 x64 x65 x66 x67 x68 x69 x70 x71 x72 x73 x74 x75 x76 x77 x78 x79 x80 x81 x82 x83 x84 x85 x86 x87 x88 x89 x90 x91 x92 x93 x94 x95 x96 x97 x98 x99 x100 x101 x102 x103 x104 x105 x106 x107 x108 x109 x110 x111 x112 x113 x114 x115 x116 x117 x118 x119 x120 x121 x122 x123 x124 x125 x126 x127 x128 x129 x130 x131 x132 x133 x134 x135 x136 x137 x138 x139 x140 x141 x142 x143 x144 x145 x146 x147 x148 x149 x150 x151 x152 x153 x154 x155 x156 x157 x158 x159 x160 x161 x162 x163 x164 x165 x166 x167 x168 x169 x170 x171 x172 x173 x174 x175 x176 x177 x178 x179 x180 x181 x182 x183 x184 x185 x186 x187 x188 x189 x190 x191 x192 x193 x194 x195 x196 x197 x198 x199 x200 x201 x202 x203 x204 x205 x206 x207 x208 x209 x210 x211 x212 x213 x214 x215 x216 x217 wz pz qz xz sz fz Lz Fb cz HFz HGz HKz HBz HPz HZz HSy HOz HLz HSLz HRz
          refine ha1 _ _ ?_
          clear HFa HGa HKa HBLK HBa HCa HF HG HK HB HFZ HS HS1 HO HXL HXL1 HSL HRG HTH HOa HCLa c0' c1 c2 ha0 HX3 HXB HWN
          obtain ⟨rowz, hsz⟩ := HSy.out
          have HSz := Lib.hid hsz
          clear hsz
          have HXz := Lib.hid (show (xz).length ≤ 100000 by have := HLz.out; have := HLT.out; omega)
          have kc0 : wz.cell? ⟨r, 0, none⟩ = some (.string (strOfNums (xz))) := (blk_cell HKz.out 0).trans rfl
          have kc1 : wz.cell? ⟨r, 1, none⟩ = some (.int .i64 (sz : Int)) := (blk_cell HKz.out 1).trans rfl
          have kc2 : wz.cell? ⟨r, 2, none⟩ = some (.int .i64 Lz) := (blk_cell HKz.out 2).trans rfl
          have kc3 : wz.cell? ⟨r, 3, none⟩ = some (.bool Fb) := (blk_cell HKz.out 3).trans rfl
          go_upto_region 41 with (first
            | (go_at_call 24; refine (ref_open0 (xz) (sz : Int) (Lz) (Fb) rowz _ 0 _ HOz.out HXz.out HSz.out rfl).mono ?_; rintro e w8 ⟨A8, n8, c8, rfl, hn8, hc8, hC8, hb⟩; have HN8 := Lib.hid hn8; have HL8 := Lib.hid hc8; have HC8 := Lib.hid hC8; have HF8 := Lib.hid (HFz.out.below hb); have HG8 := Lib.hid (show Lg w8 qz pz from blk_below HGz.out hb); have HK8 := Lib.hid (HKz.out.below hb); have HB8 := Lib.hid (below_then HBz.out HBz.out.size hb); clear hn8 hc8 hC8 hb)
            | fail)
          have hal : Below w8.heap.size w8 (w8.alloc (.cells #[.string (strOfNums (xz)), .int .i64 (sz : Int), .int .i64 Lz, .bool Fb] 50)) := below_alloc (Below.refl _ _) _
          have hf9 := HF8.out.below hal
          have hg9 : Lg (w8.alloc (.cells #[.string (strOfNums (xz)), .int .i64 (sz : Int), .int .i64 Lz, .bool Fb] 50)) qz pz := blk_below HG8.out hal
          have hk9 := HK8.out.below hal
          have hc9 := Kd.C_below HC8.out hal
          have hb9 := below_then HB8.out HB8.out.size hal
          clear hal
          generalize (w8.alloc (.cells #[.string (strOfNums (xz)), .int .i64 (sz : Int), .int .i64 Lz, .bool Fb] 50)) = w9 at hf9 hg9 hk9 hc9 hb9 ⊢
          have hF := hf9.below (below_drew (Below.refl _ _))
          have hG : Lg w9.drew qz pz := blk_below hg9 (below_drew (Below.refl _ _))
          have hRk := hk9.below (below_drew (Below.refl _ _))
          have hC := Kd.C_below hc9 (below_drew (Below.refl _ _))
          have hB := below_drew hb9
          have lq := (blk_cell hG 0).trans (show (#[.pointer (some ⟨pz, 0, none⟩)] : Array Value)[0]? = some (.pointer (some ⟨pz, 0, none⟩)) from rfl)
          have r0 : w9.drew.cell? ⟨r, 0, none⟩ = some (.string (strOfNums (xz))) := (blk_cell hRk 0).trans rfl
          have r1 : w9.drew.cell? ⟨r, 1, none⟩ = some (.int .i64 (sz : Int)) := (blk_cell hRk 1).trans rfl
          clear hf9 hg9 hk9 hc9 hb9
          have tz : (cz != cz) = false := by simp
          have ts : ((strOfNums (xz)).toList != (strOfNums (xz)).toList) = false := by simp
          have tn : ((sz : Int) != (sz : Int)) = false := by simp
          refine start_ (n := 31) (S := fun w' => (w'.cell? ⟨qz, 0, none⟩ = some (.pointer (some ⟨pz, 0, none⟩))) ∧ (w'.cell? ⟨r, 0, none⟩ = some (.string (strOfNums (xz)))) ∧ (w'.cell? ⟨r, 1, none⟩ = some (.int .i64 (sz : Int))) ∧ (Fq (fz) w' w.heap.size pz (xz) (sz)) ∧ (Lg w' qz pz) ∧ (Rk w' r (strOfNums (xz)) (sz : Int) Lz Fb) ∧ (Kd.C KL w' A8 n8 rowz) ∧ (Below w.heap.size w w')) (ds := []) #[false, false, false, false, false, false, false, false, false, false, false, false, false, false, false, false, false, false, false, false, false, false, false, false, false, false, false, false, false, false, false] (by kernel_rfl) rfl rfl ⟨lq, r0, r1, hF, hG, hRk, hC, hB⟩ (fun hHeld => ?_)
          refine with_tabW plays.tab41 plays.bits41 (fun HT_ HW_ => ?_)
          refine pure_ (i := 0) (N := some 187) (v := ?_) (a' := ?_) #[true, false, false, false, false, false, false, false, false, false, false, false, false, false, false, false, false, false, false, false, false, false, false, false, false, false, false, false, false, false, false] rfl rfl (any_of HT_.out (by kernel_rfl)) (fun _ _ _ h => h) (Or.inl ⟨by rfl, ?_⟩) ?_ ?_
          rotate_left
          · intro w'
            go_simp
            with_reducible rfl
          rotate_left
          · simp only [Act.put, List.setIfInBounds_toArray, List.set_cons_zero, List.set_cons_succ, i64_w, i32_w]
            rfl
          refine pure_ (i := 1) (N := some 188) (v := ?_) (a' := ?_) #[true, true, false, false, false, false, false, false, false, false, false, false, false, false, false, false, false, false, false, false, false, false, false, false, false, false, false, false, false, false, false] rfl rfl (any_of HT_.out (by kernel_rfl)) (fun _ _ _ h => h) (Or.inl ⟨by rfl, ?_⟩) ?_ ?_
          rotate_left
          · intro w'
            go_simp
            with_reducible rfl
          rotate_left
          · simp only [Act.put, List.setIfInBounds_toArray, List.set_cons_zero, List.set_cons_succ, i64_w, i32_w]
            rfl
          refine pure_ (i := 2) (N := some 189) (v := ?_) (a' := ?_) #[true, true, true, false, false, false, false, false, false, false, false, false, false, false, false, false, false, false, false, false, false, false, false, false, false, false, false, false, false, false, false] rfl rfl (any_of HT_.out (by kernel_rfl)) (fun _ _ _ h => h) (Or.inl ⟨by rfl, ?_⟩) ?_ ?_
          rotate_left
          · intro w'
            go_simp
            with_reducible rfl
          rotate_left
          · simp only [Act.put, List.setIfInBounds_toArray, List.set_cons_zero, List.set_cons_succ, i64_w, i32_w]
            rfl
          refine pure_ (i := 3) (N := some 190) (v := ?_) (a' := ?_) #[true, true, true, true, false, false, false, false, false, false, false, false, false, false, false, false, false, false, false, false, false, false, false, false, false, false, false, false, false, false, false] rfl rfl (any_of HT_.out (by kernel_rfl)) (fun _ _ _ h => h) (Or.inl ⟨by rfl, ?_⟩) ?_ ?_
          rotate_left
          · intro w'
            go_simp
            with_reducible rfl
          rotate_left
          · simp only [Act.put, List.setIfInBounds_toArray, List.set_cons_zero, List.set_cons_succ, i64_w, i32_w]
            rfl
          refine pure_ (i := 4) (N := some 191) (v := ?_) (a' := ?_) #[true, true, true, true, true, false, false, false, false, false, false, false, false, false, false, false, false, false, false, false, false, false, false, false, false, false, false, false, false, false, false] rfl rfl (any_of HT_.out (by kernel_rfl)) (fun _ _ _ h => h) (Or.inl ⟨by rfl, ?_⟩) ?_ ?_
          rotate_left
          · intro w'
            go_simp
            with_reducible rfl
          rotate_left
          · simp only [Act.put, List.setIfInBounds_toArray, List.set_cons_zero, List.set_cons_succ, i64_w, i32_w]
            rfl
          refine pure_ (i := 5) (N := some 192) (v := ?_) (a' := ?_) #[true, true, true, true, true, true, false, false, false, false, false, false, false, false, false, false, false, false, false, false, false, false, false, false, false, false, false, false, false, false, false] rfl rfl (any_of HT_.out (by kernel_rfl)) (fun _ _ _ h => h) (Or.inl ⟨by rfl, ?_⟩) ?_ ?_
          rotate_left
          · intro w'
            go_simp
            with_reducible rfl
          rotate_left
          · simp only [Act.put, List.setIfInBounds_toArray, List.set_cons_zero, List.set_cons_succ, i64_w, i32_w]
            rfl
          refine pure_ (i := 6) (N := some 193) (v := ?_) (a' := ?_) #[true, true, true, true, true, true, true, false, false, false, false, false, false, false, false, false, false, false, false, false, false, false, false, false, false, false, false, false, false, false, false] rfl rfl (any_of HT_.out (by kernel_rfl)) (fun _ _ _ h => h) (Or.inl ⟨by rfl, ?_⟩) ?_ ?_
          rotate_left
          · intro w'
            go_simp
            with_reducible rfl
          rotate_left
          · simp only [Act.put, List.setIfInBounds_toArray, List.set_cons_zero, List.set_cons_succ, i64_w, i32_w]
            rfl
          refine pure_ (i := 10) (N := some 197) (v := ?_) (a' := ?_) #[true, true, true, true, true, true, true, false, false, false, true, false, false, false, false, false, false, false, false, false, false, false, false, false, false, false, false, false, false, false, false] rfl rfl (any_of HT_.out (by kernel_rfl)) (fun _ _ _ h => h) (Or.inl ⟨by rfl, ?_⟩) ?_ ?_
          rotate_left
          · intro w'
            go_simp
            with_reducible rfl
          rotate_left
          · simp only [Act.put, List.setIfInBounds_toArray, List.set_cons_zero, List.set_cons_succ, i64_w, i32_w]
            rfl
          refine take_ (i := 7) (N := some 194) (v := ?_) (a' := ?_) #[true, true, true, true, true, true, true, true, false, false, true, false, false, false, false, false, false, false, false, false, false, false, false, false, false, false, false, false, false, false, false] rfl rfl (take_ofW HT_.out HW_.out (by kernel_rfl)) (fun _ _ _ h => h) (Or.inl ⟨by rfl, ?_⟩) hHeld ?_ ?_
          rotate_left
          · rintro w' ⟨lq, r0, r1, hF, hG, hRk, hC, hB⟩
            go_simp
            with_reducible rfl
          rotate_left
          · simp only [Act.put, List.setIfInBounds_toArray, List.set_cons_zero, List.set_cons_succ, i64_w, i32_w]
            rfl
          refine take_ (i := 11) (N := some 198) (v := ?_) (a' := ?_) #[true, true, true, true, true, true, true, true, false, false, true, true, false, false, false, false, false, false, false, false, false, false, false, false, false, false, false, false, false, false, false] rfl rfl (take_ofW HT_.out HW_.out (by kernel_rfl)) (fun _ _ _ h => h) (Or.inl ⟨by rfl, ?_⟩) hHeld ?_ ?_
          rotate_left
          · rintro w' ⟨lq, r0, r1, hF, hG, hRk, hC, hB⟩
            go_simp
            with_reducible rfl
          rotate_left
          · simp only [Act.put, List.setIfInBounds_toArray, List.set_cons_zero, List.set_cons_succ, i64_w, i32_w]
            rfl
          refine one_ (i := 8) (N := some 195) #[true, true, true, true, true, true, true, true, true, false, true, true, false, false, false, false, false, false, false, false, false, false, false, false, false, false, false, false, false, false, false] rfl rfl (one_of HT_.out (by kernel_rfl)) (by decide) (fun K hK => ?_)
          obtain ⟨lq, r0, r1, hF, hG, hRk, hC, hB⟩ := hHeld
          refine goes_ Try.func14 (by kernel_rfl) rfl #[.pointer (some ⟨pz, 0, none⟩)] (by rfl) rfl rfl (by simp only [List.map_toArray, List.map_cons, List.map_nil]; rfl) ?_
          with_reducible refine (hF.bytes HXz.out).mono ?_
          rintro e w5 ⟨A5, c5, rfl, hl5, hC5, hb⟩
          refine ⟨_, rfl, ?_⟩
          refine hK.out _ _ ⟨(pw_cell_below hb lq), (pw_cell_below hb r0), (pw_cell_below hb r1), (hF.below hb), (blk_below hG hb), (hRk.below hb), (Kd.C_below hC hb), (below_then hB hB.size hb)⟩ (fun hHeld => ?_)
          clear hK K
          obtain ⟨lq, r0, r1, hF, hG, hRk, hC, hB⟩ := hHeld
          refine more_ (S1 := fun w' => (w'.cell? ⟨qz, 0, none⟩ = some (.pointer (some ⟨pz, 0, none⟩))) ∧ (w'.cell? ⟨r, 0, none⟩ = some (.string (strOfNums (xz)))) ∧ (w'.cell? ⟨r, 1, none⟩ = some (.int .i64 (sz : Int))) ∧ (Fq (fz) w' w.heap.size pz (xz) (sz)) ∧ (Lg w' qz pz) ∧ (Rk w' r (strOfNums (xz)) (sz : Int) Lz Fb) ∧ (Kd.C KL w' A8 n8 rowz) ∧ (Below w.heap.size w w') ∧ (Kd.C (Kd.int .u8) w' A5 (xz).length (xz))) (fun w' h' => by have ⟨lq, r0, r1, hF, hG, hRk, hC, hB, hC5⟩ := h'; exact ⟨lq, r0, r1, hF, hG, hRk, hC, hB⟩) ⟨lq, r0, r1, hF, hG, hRk, hC, hB, hC5⟩ (fun hHeld => ?_)
          clear hl5
          refine norm_ (a' := ?_) ?_ ?_
          rotate_left
          · show Act.put _ (some 195) _ = _
            simp only [Act.put, List.setIfInBounds_toArray, List.set_cons_zero, List.set_cons_succ, i64_w, i32_w]
            rfl
          refine take_ (i := 9) (N := some 196) (v := ?_) (a' := ?_) #[true, true, true, true, true, true, true, true, true, true, true, true, false, false, false, false, false, false, false, false, false, false, false, false, false, false, false, false, false, false, false] rfl rfl (take_ofW HT_.out HW_.out (by kernel_rfl)) (fun _ _ _ h => h) (Or.inl ⟨by rfl, ?_⟩) hHeld ?_ ?_
          rotate_left
          · rintro w' ⟨lq, r0, r1, hF, hG, hRk, hC, hB, hC5⟩
            have cv := Kd.C_string (P := Try.prog) (c := c5) Try.underlying22 Try.underlying5 Try.underlying9 hC5
            go_simp
            with_reducible rfl
          rotate_left
          · simp only [Act.put, List.setIfInBounds_toArray, List.set_cons_zero, List.set_cons_succ, i64_w, i32_w]
            rfl
          refine pure_ (i := 12) (N := some 199) (v := ?_) (a' := ?_) #[true, true, true, true, true, true, true, true, true, true, true, true, true, false, false, false, false, false, false, false, false, false, false, false, false, false, false, false, false, false, false] rfl rfl (any_of HT_.out (by kernel_rfl)) (fun _ _ _ h => h) (Or.inl ⟨by rfl, ?_⟩) ?_ ?_
          rotate_left
          · intro w'
            go_simp
            with_reducible rfl
          rotate_left
          · simp only [Act.put, List.setIfInBounds_toArray, List.set_cons_zero, List.set_cons_succ, i64_w, i32_w]
            rfl
          refine pure_ (i := 13) (N := some 200) (v := ?_) (a' := ?_) #[true, true, true, true, true, true, true, true, true, true, true, true, true, true, false, false, false, false, false, false, false, false, false, false, false, false, false, false, false, false, false] rfl rfl (any_of HT_.out (by kernel_rfl)) (fun _ _ _ h => h) (Or.inl ⟨by rfl, ?_⟩) ?_ ?_
          rotate_left
          · intro w'
            go_simp
            with_reducible rfl
          rotate_left
          · simp only [Act.put, List.setIfInBounds_toArray, List.set_cons_zero, List.set_cons_succ, i64_w, i32_w]
            rfl
          refine pure_ (i := 14) (N := some 201) (v := ?_) (a' := ?_) #[true, true, true, true, true, true, true, true, true, true, true, true, true, true, true, false, false, false, false, false, false, false, false, false, false, false, false, false, false, false, false] rfl rfl (any_of HT_.out (by kernel_rfl)) (fun _ _ _ h => h) (Or.inl ⟨by rfl, ?_⟩) ?_ ?_
          rotate_left
          · intro w'
            go_simp
            with_reducible rfl
          rotate_left
          · simp only [Act.put, List.setIfInBounds_toArray, List.set_cons_zero, List.set_cons_succ, i64_w, i32_w]
            rfl
          refine pure_ (i := 15) (N := some 202) (v := ?_) (a' := ?_) #[true, true, true, true, true, true, true, true, true, true, true, true, true, true, true, true, false, false, false, false, false, false, false, false, false, false, false, false, false, false, false] rfl rfl (any_of HT_.out (by kernel_rfl)) (fun _ _ _ h => h) (Or.inl ⟨by rfl, ?_⟩) ?_ ?_
          rotate_left
          · intro w'
            go_simp
            with_reducible rfl
          rotate_left
          · simp only [Act.put, List.setIfInBounds_toArray, List.set_cons_zero, List.set_cons_succ, i64_w, i32_w]
            rfl
          refine pure_ (i := 16) (N := some 203) (v := ?_) (a' := ?_) #[true, true, true, true, true, true, true, true, true, true, true, true, true, true, true, true, true, false, false, false, false, false, false, false, false, false, false, false, false, false, false] rfl rfl (any_of HT_.out (by kernel_rfl)) (fun _ _ _ h => h) (Or.inl ⟨by rfl, ?_⟩) ?_ ?_
          rotate_left
          · intro w'
            go_simp
            with_reducible rfl
          rotate_left
          · simp only [Act.put, List.setIfInBounds_toArray, List.set_cons_zero, List.set_cons_succ, i64_w, i32_w]
            rfl
          refine pure_ (i := 17) (N := some 204) (v := ?_) (a' := ?_) #[true, true, true, true, true, true, true, true, true, true, true, true, true, true, true, true, true, true, false, false, false, false, false, false, false, false, false, false, false, false, false] rfl rfl (any_of HT_.out (by kernel_rfl)) (fun _ _ _ h => h) (Or.inl ⟨by rfl, ?_⟩) ?_ ?_
          rotate_left
          · intro w'
            go_simp
            with_reducible rfl
          rotate_left
          · simp only [Act.put, List.setIfInBounds_toArray, List.set_cons_zero, List.set_cons_succ, i64_w, i32_w]
            rfl
          refine pure_ (i := 20) (N := some 207) (v := ?_) (a' := ?_) #[true, true, true, true, true, true, true, true, true, true, true, true, true, true, true, true, true, true, false, false, true, false, false, false, false, false, false, false, false, false, false] rfl rfl (any_of HT_.out (by kernel_rfl)) (fun _ _ _ h => h) (Or.inl ⟨by rfl, ?_⟩) ?_ ?_
          rotate_left
          · intro w'
            go_simp
            with_reducible rfl
          rotate_left
          · simp only [Act.put, List.setIfInBounds_toArray, List.set_cons_zero, List.set_cons_succ, i64_w, i32_w]
            rfl
          refine take_ (i := 18) (N := some 205) (v := ?_) (a' := ?_) #[true, true, true, true, true, true, true, true, true, true, true, true, true, true, true, true, true, true, true, false, true, false, false, false, false, false, false, false, false, false, false] rfl rfl (take_ofW HT_.out HW_.out (by kernel_rfl)) (fun _ _ _ h => h) (Or.inl ⟨by rfl, ?_⟩) hHeld ?_ ?_
          rotate_left
          · rintro w' ⟨lq, r0, r1, hF, hG, hRk, hC, hB, hC5⟩
            go_simp
            with_reducible rfl
          rotate_left
          · simp only [Act.put, List.setIfInBounds_toArray, List.set_cons_zero, List.set_cons_succ, i64_w, i32_w]
            rfl
          refine take_ (i := 21) (N := some 208) (v := ?_) (a' := ?_) #[true, true, true, true, true, true, true, true, true, true, true, true, true, true, true, true, true, true, true, false, true, true, false, false, false, false, false, false, false, false, false] rfl rfl (take_ofW HT_.out HW_.out (by kernel_rfl)) (fun _ _ _ h => h) (Or.inl ⟨by rfl, ?_⟩) hHeld ?_ ?_
          rotate_left
          · rintro w' ⟨lq, r0, r1, hF, hG, hRk, hC, hB, hC5⟩
            go_simp
            with_reducible rfl
          rotate_left
          · simp only [Act.put, List.setIfInBounds_toArray, List.set_cons_zero, List.set_cons_succ, i64_w, i32_w]
            rfl
          refine one_ (i := 19) (N := some 206) #[true, true, true, true, true, true, true, true, true, true, true, true, true, true, true, true, true, true, true, true, true, true, false, false, false, false, false, false, false, false, false] rfl rfl (one_of HT_.out (by kernel_rfl)) (by decide) (fun K hK => ?_)
          obtain ⟨lq, r0, r1, hF, hG, hRk, hC, hB, hC5⟩ := hHeld
          refine goes_ Try.func11 (by kernel_rfl) rfl #[.pointer (some ⟨pz, 0, none⟩)] (by rfl) rfl rfl (by simp only [List.map_toArray, List.map_cons, List.map_nil]; rfl) ?_
          with_reducible refine (hF.synced).mono ?_
          rintro e w6 ⟨rfl, rfl⟩
          refine ⟨_, rfl, ?_⟩
          refine hK.out _ _ ⟨lq, r0, r1, hF, hG, hRk, hC, hB, hC5⟩ (fun hHeld => ?_)
          clear hK K
          refine norm_ (a' := ?_) ?_ ?_
          rotate_left
          · show Act.put _ (some 206) _ = _
            simp only [Act.put, List.setIfInBounds_toArray, List.set_cons_zero, List.set_cons_succ, i64_w, i32_w]
            rfl
          refine pure_ (i := 22) (N := some 209) (v := ?_) (a' := ?_) #[true, true, true, true, true, true, true, true, true, true, true, true, true, true, true, true, true, true, true, true, true, true, true, false, false, false, false, false, false, false, false] rfl rfl (any_of HT_.out (by kernel_rfl)) (fun _ _ _ h => h) (Or.inl ⟨by rfl, ?_⟩) ?_ ?_
          rotate_left
          · intro w'
            go_simp
            with_reducible rfl
          rotate_left
          · simp only [Act.put, List.setIfInBounds_toArray, List.set_cons_zero, List.set_cons_succ, i64_w, i32_w]
            rfl
          refine pure_ (i := 23) (N := some 210) (v := ?_) (a' := ?_) #[true, true, true, true, true, true, true, true, true, true, true, true, true, true, true, true, true, true, true, true, true, true, true, true, false, false, false, false, false, false, false] rfl rfl (any_of HT_.out (by kernel_rfl)) (fun _ _ _ h => h) (Or.inl ⟨by rfl, ?_⟩) ?_ ?_
          rotate_left
          · intro w'
            go_simp
            with_reducible rfl
          rotate_left
          · simp only [Act.put, List.setIfInBounds_toArray, List.set_cons_zero, List.set_cons_succ, i64_w, i32_w]
            rfl
          refine pure_ (i := 24) (N := some 211) (v := ?_) (a' := ?_) #[true, true, true, true, true, true, true, true, true, true, true, true, true, true, true, true, true, true, true, true, true, true, true, true, true, false, false, false, false, false, false] rfl rfl (any_of HT_.out (by kernel_rfl)) (fun _ _ _ h => h) (Or.inl ⟨by rfl, ?_⟩) ?_ ?_
          rotate_left
          · intro w'
            go_simp
            with_reducible rfl
          rotate_left
          · simp only [Act.put, List.setIfInBounds_toArray, List.set_cons_zero, List.set_cons_succ, i64_w, i32_w]
            rfl
          refine pure_ (i := 25) (N := some 212) (v := ?_) (a' := ?_) #[true, true, true, true, true, true, true, true, true, true, true, true, true, true, true, true, true, true, true, true, true, true, true, true, true, true, false, false, false, false, false] rfl rfl (any_of HT_.out (by kernel_rfl)) (fun _ _ _ h => h) (Or.inl ⟨by rfl, ?_⟩) ?_ ?_
          rotate_left
          · intro w'
            go_simp
            with_reducible rfl
          rotate_left
          · simp only [Act.put, List.setIfInBounds_toArray, List.set_cons_zero, List.set_cons_succ, i64_w, i32_w]
            rfl
          refine pure_ (i := 27) (N := some 214) (v := ?_) (a' := ?_) #[true, true, true, true, true, true, true, true, true, true, true, true, true, true, true, true, true, true, true, true, true, true, true, true, true, true, false, true, false, false, false] rfl rfl (any_of HT_.out (by kernel_rfl)) (fun _ _ _ h => h) (Or.inl ⟨by rfl, ?_⟩) ?_ ?_
          rotate_left
          · intro w'
            go_simp
            with_reducible rfl
          rotate_left
          · simp only [Act.put, List.setIfInBounds_toArray, List.set_cons_zero, List.set_cons_succ, i64_w, i32_w]
            rfl
          refine one_ (i := 26) (N := some 213) #[true, true, true, true, true, true, true, true, true, true, true, true, true, true, true, true, true, true, true, true, true, true, true, true, true, true, true, true, false, false, false] rfl rfl (one_of HT_.out (by kernel_rfl)) (by decide) (fun K hK => ?_)
          obtain ⟨lq, r0, r1, hF, hG, hRk, hC, hB, hC5⟩ := hHeld
          refine goes_ Try.func18 (by kernel_rfl) rfl #[.pointer (some ⟨qz, 0, none⟩)] (by rfl) rfl rfl (by simp only [List.map_toArray, List.map_cons, List.map_nil]; rfl) ?_
          with_reducible refine (hF.records hG HOz.out HXz.out HSz.out).mono ?_
          rintro e w7 ⟨A7, n7, c7, rfl, hn7, hl7, hC7, hb⟩
          refine ⟨_, rfl, ?_⟩
          refine hK.out _ _ ⟨(pw_cell_below hb lq), (pw_cell_below hb r0), (pw_cell_below hb r1), (hF.below hb), (blk_below hG hb), (hRk.below hb), (Kd.C_below hC hb), (below_then hB hB.size hb), (Kd.C_below hC5 hb)⟩ (fun hHeld => ?_)
          clear hK K
          obtain ⟨lq, r0, r1, hF, hG, hRk, hC, hB, hC5⟩ := hHeld
          refine more_ (S1 := fun w' => (w'.cell? ⟨qz, 0, none⟩ = some (.pointer (some ⟨pz, 0, none⟩))) ∧ (w'.cell? ⟨r, 0, none⟩ = some (.string (strOfNums (xz)))) ∧ (w'.cell? ⟨r, 1, none⟩ = some (.int .i64 (sz : Int))) ∧ (Fq (fz) w' w.heap.size pz (xz) (sz)) ∧ (Lg w' qz pz) ∧ (Rk w' r (strOfNums (xz)) (sz : Int) Lz Fb) ∧ (Kd.C KL w' A8 n8 rowz) ∧ (Below w.heap.size w w') ∧ (Kd.C (Kd.int .u8) w' A5 (xz).length (xz)) ∧ (Kd.C KL w' A7 n7 rowz)) (fun w' h' => by have ⟨lq, r0, r1, hF, hG, hRk, hC, hB, hC5, hC7⟩ := h'; exact ⟨lq, r0, r1, hF, hG, hRk, hC, hB, hC5⟩) ⟨lq, r0, r1, hF, hG, hRk, hC, hB, hC5, hC7⟩ (fun hHeld => ?_)
          have HN7 := Lib.hid hn7
          have HL7 := Lib.hid hl7
          clear hn7 hl7
          refine norm_ (a' := ?_) ?_ ?_
          rotate_left
          · show Act.put _ (some 213) _ = _
            simp only [Act.put, List.setIfInBounds_toArray, List.set_cons_zero, List.set_cons_succ, i64_w, i32_w]
            rfl
          refine one_ (i := 28) (N := some 215) #[true, true, true, true, true, true, true, true, true, true, true, true, true, true, true, true, true, true, true, true, true, true, true, true, true, true, true, true, true, false, false] rfl rfl (one_of HT_.out (by kernel_rfl)) (by decide) (fun K hK => ?_)
          obtain ⟨lq, r0, r1, hF, hG, hRk, hC, hB, hC5, hC7⟩ := hHeld
          refine goes_ Try.func20 (by kernel_rfl) rfl #[.slice A7 n7 c7, .slice A8 n8 c8] (by rfl) rfl rfl (by simp only [List.map_toArray, List.map_cons, List.map_nil]; rfl) ?_
          with_reducible refine (same_rows A7 A8 c7 c8 n7 n8 rowz _ HN7.out HN8.out hC7 HL7.out hC HL8.out (by have := (scan_bound HOz.out HSz.out).2.1; have := HN7.out; have := HXz.out; omega)).mono ?_
          rintro e w10 ⟨rfl, hb⟩
          refine ⟨_, rfl, ?_⟩
          refine hK.out _ _ ⟨(pw_cell_below hb lq), (pw_cell_below hb r0), (pw_cell_below hb r1), (hF.below hb), (blk_below hG hb), (hRk.below hb), (Kd.C_below hC hb), (below_then hB hB.size hb), (Kd.C_below hC5 hb), (Kd.C_below hC7 hb)⟩ (fun hHeld => ?_)
          clear hK K
          refine norm_ (a' := ?_) ?_ ?_
          rotate_left
          · show Act.put _ (some 215) _ = _
            simp only [Act.put, List.setIfInBounds_toArray, List.set_cons_zero, List.set_cons_succ, i64_w, i32_w]
            rfl
          refine pure_ (i := 29) (N := some 216) (v := ?_) (a' := ?_) #[true, true, true, true, true, true, true, true, true, true, true, true, true, true, true, true, true, true, true, true, true, true, true, true, true, true, true, true, true, true, false] rfl rfl (any_of HT_.out (by kernel_rfl)) (fun _ _ _ h => h) (Or.inl ⟨by rfl, ?_⟩) ?_ ?_
          rotate_left
          · intro w'
            go_simp
            with_reducible rfl
          rotate_left
          · simp only [Act.put, List.setIfInBounds_toArray, List.set_cons_zero, List.set_cons_succ, i64_w, i32_w]
            rfl
          refine pure_ (i := 30) (N := some 217) (v := ?_) (a' := ?_) #[true, true, true, true, true, true, true, true, true, true, true, true, true, true, true, true, true, true, true, true, true, true, true, true, true, true, true, true, true, true, true] rfl rfl (any_of HT_.out (by kernel_rfl)) (fun _ _ _ h => h) (Or.inl ⟨by rfl, ?_⟩) ?_ ?_
          rotate_left
          · intro w'
            go_simp
            with_reducible rfl
          rotate_left
          · simp only [Act.put, List.setIfInBounds_toArray, List.set_cons_zero, List.set_cons_succ, i64_w, i32_w]
            rfl
          refine done_ (done_of HT_.out (by kernel_rfl)) ?_
          obtain ⟨lq, r0, r1, hF, hG, hRk, hC, hB, hC5, hC7⟩ := hHeld
          go_wp2_with fail
          go_roundw
          case rel => exact ⟨k + 1, pz, qz, _, sz, fz, Lz, Fb, rowz, by omega, by go_num, rfl, Lib.hid hF, Lib.hid hG, Lib.hid hRk, Lib.hid hB, HPz, HZz, HSz, HOz, HLz, HSLz, HRz⟩
          case measure => simp [intOf]; omega
        clear ha1
        by_cases k0 : aK = 0
        · have j0 : (aK == 0) = true := by simp [k0]
          clear k0
          obtain ⟨cz, hcz⟩ : ∃ y : Int, (if f = 0 then (17 : Int) else 0) = y := ⟨_, rfl⟩
          have HCZ := Lib.hid hcz
          clear hcz
          obtain ⟨x2, hx2⟩ : ∃ y : List Int, (if f = 0 then xs else xs ++ sealed ax) = y := ⟨_, rfl⟩
          have HX2 := Lib.hid hx2
          clear hx2
          have HSq := Lib.hid (show ∃ rows, scan x2 = (rows, x2.length, 0) by rw [← HX2.out]; split; exact HS1.out; exact ⟨_, scan_add HO.out HS.out HOa.out (by have := HX3.out; omega)⟩)
          have HOq := Lib.hid (show okb x2 = true by rw [← HX2.out]; split; exact HO.out; exact okb_app HO.out (sealed_okb HOa.out))
          have HXq := Lib.hid (show x2.length ≤ 308 * (k + 1) by rw [← HX2.out]; have h1 := HXL.out; have h2 := HX3.out; split; omega; rw [List.length_append, sealed_length]; omega)
          have HSLq := Lib.hid (show s ≤ x2.length by rw [← HX2.out]; have := HSL.out; split; omega; rw [List.length_append]; omega)
          have HFZ2 := Lib.hid (HFZ.out.step HRG.out.2)
          have HRG2 := Lib.hid (fd_range HRG.out.1 HRG.out.2)
          obtain ⟨f2, hf2⟩ : ∃ y : Int, fd f = y := ⟨_, rfl⟩
          have HF2E := Lib.hid hf2
          clear hf2
          obtain ⟨L2, hL2⟩ : ∃ y : Int, ld L F = y := ⟨_, rfl⟩
          have HL2E := Lib.hid hL2
          clear hL2
          rw [HF2E.out] at HFZ2 HRG2
          rw [HL2E.out] at HFZ2
          go_wp2_with (first
            | (go_at_call 16; refine (HFa.out.write HGa.out HP.out HBa.out HCa.out HCLa.out HOa.out HX3.out (by have := HXB.out; omega)).mono ?_; rintro e w3 ⟨rfl, hf, hlg, hb, hst⟩; rw [HCZ.out]; rw [HX2.out, HF2E.out] at hf; have HF3 := Lib.hid hf; have HB3 := Lib.hid hb; have HG3 := Lib.hid (show Lg w3 q p from hst.blk HGa.out (by obtain ⟨_, _, hD, _⟩ := HFa.out; exact blk_ne HGa.out hD (by decide)) (by decide)); have HK3 := Lib.hid (show Rk w3 r (strOfNums xs) (s : Int) L F from hst.blk HKa.out (by obtain ⟨_, _, hD, _⟩ := HFa.out; exact blk_ne HKa.out hD (by decide)) (by decide)); have HBLK3 := Lib.hid (hst.blk HBLK.out (by have := HF.out.lt; omega) (by decide)); have cb3 := (blk_cell HBLK3.out 2).trans (show (#[.int .i64 aK, .int .i64 aN, .slice aA ax.length ac] : Array Value)[2]? = some (.slice aA ax.length ac) from rfl); have HC3 := Lib.hid (Kd.C_below HTH.out.2 HB3.out); clear hf hb hst hlg; have mc0 : w3.cell? ⟨r, 0, none⟩ = some (.string (strOfNums xs)) := (blk_cell HK3.out 0).trans rfl; have mc1 : w3.cell? ⟨r, 1, none⟩ = some (.int .i64 (s : Int)) := (blk_cell HK3.out 1).trans rfl; have mc2 : w3.cell? ⟨r, 2, none⟩ = some (.int .i64 L) := (blk_cell HK3.out 2).trans rfl; have mc3 : w3.cell? ⟨r, 3, none⟩ = some (.bool F) := (blk_cell HK3.out 3).trans rfl)
            | (go_at_call 21; refine (ref_write HFZ.out xs ax (s : Int) aA ac _ HC3.out HCLa.out HOa.out HX3.out (by have := HXB.out; omega)).mono ?_; rintro e w4 ⟨rfl, hb⟩; rw [HCZ.out, HX2.out, HL2E.out]; have HF4 := Lib.hid (HF3.out.below hb); have HG4 := Lib.hid (show Lg w4 q p from blk_below HG3.out hb); have HK4 := Lib.hid (HK3.out.below hb); have HBLK4 := Lib.hid (blk_below HBLK3.out hb); have HB4 := Lib.hid (below_then HB3.out HB3.out.size hb); clear hb; have nc0 : w4.cell? ⟨r, 0, none⟩ = some (.string (strOfNums xs)) := (blk_cell HK4.out 0).trans rfl; have nc1 : w4.cell? ⟨r, 1, none⟩ = some (.int .i64 (s : Int)) := (blk_cell HK4.out 1).trans rfl; have nc2 : w4.cell? ⟨r, 2, none⟩ = some (.int .i64 L) := (blk_cell HK4.out 2).trans rfl; have nc3 : w4.cell? ⟨r, 3, none⟩ = some (.bool F) := (blk_cell HK4.out 3).trans rfl; have nf0 := blk_frozen HK4.out 0; have nf1 := blk_frozen HK4.out 1; have nf2 := blk_frozen HK4.out 2; have nf3 := blk_frozen HK4.out 3)
            | fail)
          have HFz := Lib.hid (show Fq (f2) (put4 w4 r (strOfNums x2) (s : Int) L2 F) w.heap.size p (x2) (s) from Fq.keep HF4.out HK4.out (put4_keep (KeepBut.refl _ _ _)))
          have HGz := Lib.hid (show Lg (put4 w4 r (strOfNums x2) (s : Int) L2 F) q p from (put4_other (blk_ne HG4.out HK4.out (by decide))).trans HG4.out)
          have HKz := Lib.hid (show Rk (put4 w4 r (strOfNums x2) (s : Int) L2 F) r (strOfNums x2) (s : Int) L2 F from put4_blk HK4.out)
          have HBz := Lib.hid (show Below w.heap.size w (put4 w4 r (strOfNums x2) (s : Int) L2 F) from put4_below HB4.out HRB.out)
          unfold put4 at HFz HGz HKz HBz
          generalize ((((w4.setCell ⟨r, 0, none⟩ (.string (strOfNums x2))).setCell ⟨r, 1, none⟩ (.int .i64 (s : Int))).setCell ⟨r, 2, none⟩ (.int .i64 L2)).setCell ⟨r, 3, none⟩ (.bool F)) = wz at HFz HGz HKz HBz ⊢
          exact tail HFz HGz HKz HBz HP HFZ2 HSq HOq HXq HSLq HRG2
        · have j0 : (aK == 0) = false := by simp [k0]
          by_cases k1 : aK = 1
          · have j1 : (aK == 1) = true := by simp [k1]
            clear k0 k1
            by_cases f0 : f = 0
            · have HF0 := Lib.hid f0
              clear f0
              obtain ⟨L2, hL2⟩ : ∃ y : Int, ld L F = y := ⟨_, rfl⟩
              have HL2E := Lib.hid hL2
              clear hL2
              have HFZ2 := Lib.hid (show Fz f L2 F by have h := HFZ.out.step HRG.out.2; rw [fd, if_neg (by have := HF0.out; omega), HL2E.out] at h; exact h)
              go_wp2_with (first
                | (go_at_call 17; refine (HFa.out.force HGa.out HP.out HBa.out HCa.out HCLa.out HOa.out HX3.out (by have := HXB.out; omega)).mono ?_; rintro e w3 ⟨rfl, hf, hlg, hb, hst⟩; rw [if_pos HF0.out]; rw [if_pos HF0.out, if_pos HF0.out, if_pos HF0.out] at hf; have HF3 := Lib.hid hf; have HB3 := Lib.hid hb; have HG3 := Lib.hid (show Lg w3 q p from hst.blk HGa.out (by obtain ⟨_, _, hD, _⟩ := HFa.out; exact blk_ne HGa.out hD (by decide)) (by decide)); have HK3 := Lib.hid (show Rk w3 r (strOfNums xs) (s : Int) L F from hst.blk HKa.out (by obtain ⟨_, _, hD, _⟩ := HFa.out; exact blk_ne HKa.out hD (by decide)) (by decide)); have HBLK3 := Lib.hid (hst.blk HBLK.out (by have := HF.out.lt; omega) (by decide)); have cb3 := (blk_cell HBLK3.out 2).trans (show (#[.int .i64 aK, .int .i64 aN, .slice aA ax.length ac] : Array Value)[2]? = some (.slice aA ax.length ac) from rfl); have HC3 := Lib.hid (Kd.C_below HTH.out.2 HB3.out); clear hf hb hst hlg; have mc0 : w3.cell? ⟨r, 0, none⟩ = some (.string (strOfNums xs)) := (blk_cell HK3.out 0).trans rfl; have mc1 : w3.cell? ⟨r, 1, none⟩ = some (.int .i64 (s : Int)) := (blk_cell HK3.out 1).trans rfl; have mc2 : w3.cell? ⟨r, 2, none⟩ = some (.int .i64 L) := (blk_cell HK3.out 2).trans rfl; have mc3 : w3.cell? ⟨r, 3, none⟩ = some (.bool F) := (blk_cell HK3.out 3).trans rfl)
                | (go_at_call 21; refine (ref_write HFZ.out xs ax (s : Int) aA ac _ HC3.out HCLa.out HOa.out HX3.out (by have := HXB.out; omega)).mono ?_; rintro e w4 ⟨rfl, hb⟩; rw [if_pos HF0.out, if_pos HF0.out, HL2E.out]; have HF4 := Lib.hid (HF3.out.below hb); have HG4 := Lib.hid (show Lg w4 q p from blk_below HG3.out hb); have HK4 := Lib.hid (HK3.out.below hb); have HBLK4 := Lib.hid (blk_below HBLK3.out hb); have HB4 := Lib.hid (below_then HB3.out HB3.out.size hb); clear hb; have nc0 : w4.cell? ⟨r, 0, none⟩ = some (.string (strOfNums xs)) := (blk_cell HK4.out 0).trans rfl; have nc1 : w4.cell? ⟨r, 1, none⟩ = some (.int .i64 (s : Int)) := (blk_cell HK4.out 1).trans rfl; have nc2 : w4.cell? ⟨r, 2, none⟩ = some (.int .i64 L) := (blk_cell HK4.out 2).trans rfl; have nc3 : w4.cell? ⟨r, 3, none⟩ = some (.bool F) := (blk_cell HK4.out 3).trans rfl; have nf0 := blk_frozen HK4.out 0; have nf1 := blk_frozen HK4.out 1; have nf2 := blk_frozen HK4.out 2; have nf3 := blk_frozen HK4.out 3)
                | fail)
              have HFz := Lib.hid (show Fq (f) (put4 w4 r (strOfNums xs) (s : Int) L2 F) w.heap.size p (xs) (s) from Fq.keep HF4.out HK4.out (put4_keep (KeepBut.refl _ _ _)))
              have HGz := Lib.hid (show Lg (put4 w4 r (strOfNums xs) (s : Int) L2 F) q p from (put4_other (blk_ne HG4.out HK4.out (by decide))).trans HG4.out)
              have HKz := Lib.hid (show Rk (put4 w4 r (strOfNums xs) (s : Int) L2 F) r (strOfNums xs) (s : Int) L2 F from put4_blk HK4.out)
              have HBz := Lib.hid (show Below w.heap.size w (put4 w4 r (strOfNums xs) (s : Int) L2 F) from put4_below HB4.out HRB.out)
              unfold put4 at HFz HGz HKz HBz
              generalize ((((w4.setCell ⟨r, 0, none⟩ (.string (strOfNums xs))).setCell ⟨r, 1, none⟩ (.int .i64 (s : Int))).setCell ⟨r, 2, none⟩ (.int .i64 L2)).setCell ⟨r, 3, none⟩ (.bool F)) = wz at HFz HGz HKz HBz ⊢
              exact tail HFz HGz HKz HBz HP HFZ2 HS1 HO HXL1 HSL HRG
            · have HF0 := Lib.hid f0
              clear f0
              obtain ⟨x2, hx2⟩ : ∃ y : List Int, xs ++ sealed ax = y := ⟨_, rfl⟩
              have HX2 := Lib.hid hx2
              clear hx2
              have HFZ2 := Lib.hid (HFZ.out.step HRG.out.2)
              have HRG2 := Lib.hid (fd_range HRG.out.1 HRG.out.2)
              obtain ⟨f2, hf2⟩ : ∃ y : Int, fd f = y := ⟨_, rfl⟩
              have HF2E := Lib.hid hf2
              clear hf2
              obtain ⟨L2, hL2⟩ : ∃ y : Int, ld L F = y := ⟨_, rfl⟩
              have HL2E := Lib.hid hL2
              clear hL2
              rw [HF2E.out] at HFZ2 HRG2
              rw [HL2E.out] at HFZ2
              obtain ⟨cz, hcz⟩ : ∃ y : Int, (if f2 = 0 then (17 : Int) else 0) = y := ⟨_, rfl⟩
              have HCZ := Lib.hid hcz
              clear hcz
              obtain ⟨s2, hs2⟩ : ∃ y : Nat, (if f2 = 0 then s else x2.length) = y := ⟨_, rfl⟩
              have HS2 := Lib.hid hs2
              clear hs2
              have HFZ3 := Lib.hid (HFZ2.out.step HRG2.out.2)
              have HRG3 := Lib.hid (fd_range HRG2.out.1 HRG2.out.2)
              obtain ⟨f3, hf3⟩ : ∃ y : Int, fd f2 = y := ⟨_, rfl⟩
              have HF3E := Lib.hid hf3
              clear hf3
              obtain ⟨L3, hL3⟩ : ∃ y : Int, ld L2 F = y := ⟨_, rfl⟩
              have HL3E := Lib.hid hL3
              clear hL3
              rw [HF3E.out] at HFZ3 HRG3
              rw [HL3E.out] at HFZ3
              have HSq := Lib.hid (show ∃ rows, scan x2 = (rows, x2.length, 0) by rw [← HX2.out]; exact ⟨_, scan_add HO.out HS.out HOa.out (by have := HX3.out; omega)⟩)
              have HOq := Lib.hid (show okb x2 = true by rw [← HX2.out]; exact okb_app HO.out (sealed_okb HOa.out))
              have HXq := Lib.hid (show x2.length ≤ 308 * (k + 1) by rw [← HX2.out]; have h1 := HXL.out; have h2 := HX3.out; rw [List.length_append, sealed_length]; omega)
              have HSLq := Lib.hid (show s2 ≤ x2.length by rw [← HS2.out, ← HX2.out]; have := HSL.out; rw [List.length_append]; split <;> omega)
              go_upto_region 20 with (first
                | (go_at_call 17; refine (HFa.out.force HGa.out HP.out HBa.out HCa.out HCLa.out HOa.out HX3.out (by have := HXB.out; omega)).mono ?_; rintro e w3 ⟨rfl, hf, hlg, hb, hst⟩; rw [if_neg HF0.out]; rw [if_neg HF0.out, if_neg HF0.out, if_neg HF0.out, HF2E.out, HX2.out, HS2.out, HF3E.out] at hf; rw [HF2E.out, HCZ.out]; have HF3 := Lib.hid hf; have HB3 := Lib.hid hb; have HG3 := Lib.hid (show Lg w3 q p from hst.blk HGa.out (by obtain ⟨_, _, hD, _⟩ := HFa.out; exact blk_ne HGa.out hD (by decide)) (by decide)); have HK3 := Lib.hid (show Rk w3 r (strOfNums xs) (s : Int) L F from hst.blk HKa.out (by obtain ⟨_, _, hD, _⟩ := HFa.out; exact blk_ne HKa.out hD (by decide)) (by decide)); have HBLK3 := Lib.hid (hst.blk HBLK.out (by have := HF.out.lt; omega) (by decide)); have cb3 := (blk_cell HBLK3.out 2).trans (show (#[.int .i64 aK, .int .i64 aN, .slice aA ax.length ac] : Array Value)[2]? = some (.slice aA ax.length ac) from rfl); have HC3 := Lib.hid (Kd.C_below HTH.out.2 HB3.out); clear hf hb hst hlg; have mc0 : w3.cell? ⟨r, 0, none⟩ = some (.string (strOfNums xs)) := (blk_cell HK3.out 0).trans rfl; have mc1 : w3.cell? ⟨r, 1, none⟩ = some (.int .i64 (s : Int)) := (blk_cell HK3.out 1).trans rfl; have mc2 : w3.cell? ⟨r, 2, none⟩ = some (.int .i64 L) := (blk_cell HK3.out 2).trans rfl; have mc3 : w3.cell? ⟨r, 3, none⟩ = some (.bool F) := (blk_cell HK3.out 3).trans rfl)
                | (go_at_call 21; refine (ref_write HFZ.out xs ax (s : Int) aA ac _ HC3.out HCLa.out HOa.out HX3.out (by have := HXB.out; omega)).mono ?_; rintro e w4 ⟨rfl, hb⟩; rw [if_neg HF0.out, if_neg HF0.out, HL2E.out, HX2.out]; have HF4 := Lib.hid (HF3.out.below hb); have HG4 := Lib.hid (show Lg w4 q p from blk_below HG3.out hb); have HK4 := Lib.hid (HK3.out.below hb); have HBLK4 := Lib.hid (blk_below HBLK3.out hb); have HB4 := Lib.hid (below_then HB3.out HB3.out.size hb); clear hb; have nc0 : w4.cell? ⟨r, 0, none⟩ = some (.string (strOfNums xs)) := (blk_cell HK4.out 0).trans rfl; have nc1 : w4.cell? ⟨r, 1, none⟩ = some (.int .i64 (s : Int)) := (blk_cell HK4.out 1).trans rfl; have nc2 : w4.cell? ⟨r, 2, none⟩ = some (.int .i64 L) := (blk_cell HK4.out 2).trans rfl; have nc3 : w4.cell? ⟨r, 3, none⟩ = some (.bool F) := (blk_cell HK4.out 3).trans rfl; have nf0 := blk_frozen HK4.out 0; have nf1 := blk_frozen HK4.out 1; have nf2 := blk_frozen HK4.out 2; have nf3 := blk_frozen HK4.out 3)
                | fail)
              have HFz := Lib.hid (show Fq (f3) (put4 w4 r (strOfNums x2) (s : Int) L2 F) w.heap.size p (x2) (s2) from Fq.keep HF4.out HK4.out (put4_keep (KeepBut.refl _ _ _)))
              have HGz := Lib.hid (show Lg (put4 w4 r (strOfNums x2) (s : Int) L2 F) q p from (put4_other (blk_ne HG4.out HK4.out (by decide))).trans HG4.out)
              have HKz := Lib.hid (show Rk (put4 w4 r (strOfNums x2) (s : Int) L2 F) r (strOfNums x2) (s : Int) L2 F from put4_blk HK4.out)
              have HBz := Lib.hid (show Below w.heap.size w (put4 w4 r (strOfNums x2) (s : Int) L2 F) from put4_below HB4.out HRB.out)
              unfold put4 at HFz HGz HKz HBz
              generalize ((((w4.setCell ⟨r, 0, none⟩ (.string (strOfNums x2))).setCell ⟨r, 1, none⟩ (.int .i64 (s : Int))).setCell ⟨r, 2, none⟩ (.int .i64 L2)).setCell ⟨r, 3, none⟩ (.bool F)) = w5 at HFz HGz HKz HBz ⊢
              clear nc0 nf0 nc1 nf1 nc2 nf2 nc3 nf3 mc0 mc1 mc2 mc3
              have oc0 : w5.cell? ⟨r, 0, none⟩ = some (.string (strOfNums x2)) := (blk_cell HKz.out 0).trans rfl
              have oc1 : w5.cell? ⟨r, 1, none⟩ = some (.int .i64 (s : Int)) := (blk_cell HKz.out 1).trans rfl
              have oc2 : w5.cell? ⟨r, 2, none⟩ = some (.int .i64 L2) := (blk_cell HKz.out 2).trans rfl
              have oc3 : w5.cell? ⟨r, 3, none⟩ = some (.bool F) := (blk_cell HKz.out 3).trans rfl
              go_wp2_with (first
                | (go_at_call 22; refine (ref_sync HFZ2.out x2 s _).mono ?_; rintro e w6 ⟨rfl, hb⟩; rw [HCZ.out, HS2.out, HL3E.out]; have HF6 := Lib.hid (HFz.out.below hb); have HG6 := Lib.hid (show Lg w6 q p from blk_below HGz.out hb); have HK6 := Lib.hid (HKz.out.below hb); have HB6 := Lib.hid (below_then HBz.out HBz.out.size hb); clear hb; have nc0 : w6.cell? ⟨r, 0, none⟩ = some (.string (strOfNums x2)) := (blk_cell HK6.out 0).trans rfl; have nc1 : w6.cell? ⟨r, 1, none⟩ = some (.int .i64 (s : Int)) := (blk_cell HK6.out 1).trans rfl; have nc2 : w6.cell? ⟨r, 2, none⟩ = some (.int .i64 L2) := (blk_cell HK6.out 2).trans rfl; have nc3 : w6.cell? ⟨r, 3, none⟩ = some (.bool F) := (blk_cell HK6.out 3).trans rfl; have nf0 := blk_frozen HK6.out 0; have nf1 := blk_frozen HK6.out 1; have nf2 := blk_frozen HK6.out 2; have nf3 := blk_frozen HK6.out 3)
                | fail)
              have HFz := Lib.hid (show Fq (f3) (put4 w6 r (strOfNums x2) (s2 : Int) L3 F) w.heap.size p (x2) (s2) from Fq.keep HF6.out HK6.out (put4_keep (KeepBut.refl _ _ _)))
              have HGz := Lib.hid (show Lg (put4 w6 r (strOfNums x2) (s2 : Int) L3 F) q p from (put4_other (blk_ne HG6.out HK6.out (by decide))).trans HG6.out)
              have HKz := Lib.hid (show Rk (put4 w6 r (strOfNums x2) (s2 : Int) L3 F) r (strOfNums x2) (s2 : Int) L3 F from put4_blk HK6.out)
              have HBz := Lib.hid (show Below w.heap.size w (put4 w6 r (strOfNums x2) (s2 : Int) L3 F) from put4_below HB6.out HRB.out)
              unfold put4 at HFz HGz HKz HBz
              generalize ((((w6.setCell ⟨r, 0, none⟩ (.string (strOfNums x2))).setCell ⟨r, 1, none⟩ (.int .i64 (s2 : Int))).setCell ⟨r, 2, none⟩ (.int .i64 L3)).setCell ⟨r, 3, none⟩ (.bool F)) = wz at HFz HGz HKz HBz ⊢
              exact tail HFz HGz HKz HBz HP HFZ3 HSq HOq HXq HSLq HRG3
          · have j1 : (aK == 1) = false := by simp [k1]
            by_cases k2 : aK = 2
            · have j2 : (aK == 2) = true := by simp [k2]
              have j4 : (aK == 4) = false := by simp [k2]
              clear k0 k1 k2
              have hbd : Below (wr.alloc (.cells #[.int .i64 aK, .int .i64 aN, .slice aA ax.length ac] 47)).heap.size (wr.alloc (.cells #[.int .i64 aK, .int .i64 aN, .slice aA ax.length ac] 47)) (wr.alloc (.cells #[.int .i64 aK, .int .i64 aN, .slice aA ax.length ac] 47)).drew := below_drew (Below.refl _ _)
              have HFd := Lib.hid (HFa.out.below hbd)
              have HGd := Lib.hid (show Lg (wr.alloc (.cells #[.int .i64 aK, .int .i64 aN, .slice aA ax.length ac] 47)).drew q p from blk_below HGa.out hbd)
              have HKd := Lib.hid (HKa.out.below hbd)
              have HBd := Lib.hid (below_drew HBa.out)
              have HBLKd := Lib.hid (blk_below HBLK.out hbd)
              clear hbd
              have lqd := (blk_cell HGd.out 0).trans (show (#[.pointer (some ⟨p, 0, none⟩)] : Array Value)[0]? = some (.pointer (some ⟨p, 0, none⟩)) from rfl)
              have lnd := (blk_cell HBLKd.out 1).trans (show (#[.int .i64 aK, .int .i64 aN, .slice aA ax.length ac] : Array Value)[1]? = some (.int .i64 aN) from rfl)
              have lbd := (blk_cell HBLKd.out 2).trans (show (#[.int .i64 aK, .int .i64 aN, .slice aA ax.length ac] : Array Value)[2]? = some (.slice aA ax.length ac) from rfl)
              have HXd := Lib.hid (show (xs).length ≤ 100000 by have := HXL1.out; have := HLT.out; omega)
              obtain ⟨kc, hkc⟩ : ∃ kc : Nat, kk s (((xs).length : Int) - (s) + 1) aN = kc := Int.eq_ofNat_of_zero_le (by have := kk_range (s := (s : Int)) (N := ((xs).length : Int) - (s) + 1) (x := aN) (by omega) (by have := HXd.out; have := HSL.out; omega) (by have := HSL.out; omega) (by have := HXd.out; omega); omega)
              have hkr := kk_range (s := (s : Int)) (N := ((xs).length : Int) - (s) + 1) (x := aN) (by omega) (by have := HXd.out; have := HSL.out; omega) (by have := HSL.out; omega) (by have := HXd.out; omega)
              rw [hkc] at hkr
              have HKC := Lib.hid hkc
              have HK9 := Lib.hid (show kc ≤ (xs).length by omega)
              clear hkr hkc
              obtain ⟨yc, hyc⟩ : ∃ y : List Int, (xs).take kc = y := ⟨_, rfl⟩
              have HYC := Lib.hid hyc
              have HYL := Lib.hid (show yc.length = kc by rw [← hyc, List.length_take]; have := HK9.out; omega)
              have HOy := Lib.hid (show okb yc = true by rw [← hyc]; exact okb_take HO.out _)
              clear hyc
              have HYX := Lib.hid (show yc.length ≤ 100000 by have := HYL.out; have := HK9.out; have := HXd.out; omega)
              obtain ⟨rowc, uc, ec, hsc⟩ : ∃ a b c, scan yc = (a, b, c) := ⟨_, _, _, rfl⟩
              have HSC := Lib.hid hsc
              clear hsc
              by_cases hgd : ec = 0 ∨ ec = 10
              · have HGD := Lib.hid hgd
                clear hgd
                obtain ⟨y2, hy2⟩ : ∃ y : List Int, yc.take uc = y := ⟨_, rfl⟩
                have HY2 := Lib.hid hy2
                clear hy2
                have HUB := Lib.hid (scan_bound HOy.out HSC.out)
                have HYU := Lib.hid (show y2.length = uc by rw [← HY2.out, List.length_take]; have := HUB.out.1; omega)
                go_upto_region 27 with fail
                refine start_ (n := 15) (S := fun w' => (w'.cell? ⟨q, 0, none⟩ = some (.pointer (some ⟨p, 0, none⟩))) ∧ (w'.cell? ⟨wr.heap.size, 1, none⟩ = some (.int .i64 aN))) (ds := [6, 7]) #[false, false, false, false, false, false, false, false, false, false, false, false, false, false, false] (by kernel_rfl) rfl rfl ⟨lqd, lnd⟩ (fun hHeld => ?_)
                refine pure_ (i := 0) (N := some 121) (v := ?_) (a' := ?_) #[true, false, false, false, false, false, false, false, false, false, false, false, false, false, false] rfl rfl (by kernel_rfl) (fun _ _ _ h => h) (Or.inl ⟨by rfl, ?_⟩) ?_ ?_
                rotate_left
                · intro w'
                  go_simp
                  with_reducible rfl
                rotate_left
                · simp only [Act.put, List.setIfInBounds_toArray, List.set_cons_zero, List.set_cons_succ, i64_w, i32_w]
                  rfl
                refine pure_ (i := 1) (N := some 122) (v := ?_) (a' := ?_) #[true, true, false, false, false, false, false, false, false, false, false, false, false, false, false] rfl rfl (by kernel_rfl) (fun _ _ _ h => h) (Or.inl ⟨by rfl, ?_⟩) ?_ ?_
                rotate_left
                · intro w'
                  go_simp
                  with_reducible rfl
                rotate_left
                · simp only [Act.put, List.setIfInBounds_toArray, List.set_cons_zero, List.set_cons_succ, i64_w, i32_w]
                  rfl
                refine pure_ (i := 2) (N := some 123) (v := ?_) (a' := ?_) #[true, true, true, false, false, false, false, false, false, false, false, false, false, false, false] rfl rfl (by kernel_rfl) (fun _ _ _ h => h) (Or.inl ⟨by rfl, ?_⟩) ?_ ?_
                rotate_left
                · intro w'
                  go_simp
                  with_reducible rfl
                rotate_left
                · simp only [Act.put, List.setIfInBounds_toArray, List.set_cons_zero, List.set_cons_succ, i64_w, i32_w]
                  rfl
                refine pure_ (i := 4) (N := some 125) (v := ?_) (a' := ?_) #[true, true, true, false, true, false, false, false, false, false, false, false, false, false, false] rfl rfl (by kernel_rfl) (fun _ _ _ h => h) (Or.inl ⟨by rfl, ?_⟩) ?_ ?_
                rotate_left
                · intro w'
                  go_simp
                  with_reducible rfl
                rotate_left
                · simp only [Act.put, List.setIfInBounds_toArray, List.set_cons_zero, List.set_cons_succ, i64_w, i32_w]
                  rfl
                refine take_ (i := 3) (N := some 124) (v := ?_) (a' := ?_) #[true, true, true, true, true, false, false, false, false, false, false, false, false, false, false] rfl rfl (by kernel_rfl) (fun _ _ _ h => h) (Or.inl ⟨by rfl, ?_⟩) hHeld ?_ ?_
                rotate_left
                · rintro w' ⟨h1, h2⟩
                  go_simp
                  with_reducible rfl
                rotate_left
                · simp only [Act.put, List.setIfInBounds_toArray, List.set_cons_zero, List.set_cons_succ, i64_w, i32_w]
                  rfl
                refine take_ (i := 5) (N := some 126) (v := ?_) (a' := ?_) #[true, true, true, true, true, true, false, false, false, false, false, false, false, false, false] rfl rfl (by kernel_rfl) (fun _ _ _ h => h) (Or.inl ⟨by rfl, ?_⟩) hHeld ?_ ?_
                rotate_left
                · rintro w' ⟨h1, h2⟩
                  go_simp
                  with_reducible rfl
                rotate_left
                · simp only [Act.put, List.setIfInBounds_toArray, List.set_cons_zero, List.set_cons_succ, i64_w, i32_w]
                  rfl
                refine last_ (i := 6) (N := some 127) #[true, true, true, true, true, true, true, false, false, false, false, false, false, false, false] rfl rfl (by kernel_rfl) (by decide) (fun K hK => ?_)
                obtain ⟨h1, h2⟩ := hHeld
                refine goes_ Try.func13 (by kernel_rfl) rfl #[.pointer (some ⟨p, 0, none⟩), .int .i64 aN] (by rfl) rfl rfl (by simp only [List.map_toArray, List.map_cons, List.map_nil]; rfl) ?_
                with_reducible refine (HFd.out.crash HBd.out HSL.out HXd.out aN kc HKC.out).mono ?_
                rintro e w3 ⟨p3, rfl, hp3, hd, hb⟩
                refine ⟨_, rfl, ?_⟩
                refine hK.out _ _ ?_
                clear hK K
                rw [HYC.out] at hd
                have HP3 := Lib.hid (show w.heap.size ≤ p3 by have := HBd.out.size; omega)
                have HD3 := Lib.hid (show Dq w3 w.heap.size p3 yc yc.length by rw [HYL.out]; exact hd)
                have HB3 := Lib.hid (below_then HBd.out HBd.out.size hb)
                have HK3 := Lib.hid (HKd.out.below hb)
                have HBLK3 := Lib.hid (blk_below HBLKd.out hb)
                clear hp3 hd hb
                refine norm_ (a' := ?_) ?_ ?_
                rotate_left
                · show Act.put _ (some 127) _ = _
                  simp only [Act.put, List.setIfInBounds_toArray, List.set_cons_zero, List.set_cons_succ, i64_w, i32_w]
                  rfl
                refine last_ (i := 7) (N := some 128) #[true, true, true, true, true, true, true, true, false, false, false, false, false, false, false] rfl rfl (by kernel_rfl) (by decide) (fun K hK => ?_)
                refine goes_ Try.func19 (by kernel_rfl) rfl #[.pointer (some ⟨p3, 0, none⟩)] (by rfl) rfl rfl (by simp only [List.map_toArray, List.map_cons, List.map_nil]; rfl) ?_
                with_reducible refine (open_good w p3 yc _ HD3.out HP3.out HB3.out HOy.out HYX.out HSC.out HGD.out).mono ?_
                rintro e w4 ⟨q4, A4, n4, c4, rfl, hq4, hlg, hf, hn4, hc4, hC4, hb, hkb⟩
                refine ⟨_, rfl, ?_⟩
                refine hK.out _ _ ?_
                clear hK K
                have HG4 := Lib.hid hlg
                rw [HY2.out] at hf
                have HF4 := Lib.hid hf
                have HN4 := Lib.hid hn4
                have HL4 := Lib.hid hc4
                have HC4 := Lib.hid hC4
                have HB4 := Lib.hid hb
                have HK4 := Lib.hid (show Rk w4 r (strOfNums xs) (s : Int) L F from (stays_keep hkb).blk HK3.out (by obtain ⟨_, _, hD, _⟩ := HD3.out; exact blk_ne HK3.out hD (by decide)) (by decide))
                have HBLK4 := Lib.hid ((stays_keep hkb).blk HBLK3.out (by obtain ⟨_, _, hD, _⟩ := HD3.out; exact blk_ne HBLK3.out hD (by decide)) (by decide))
                clear hq4 hlg hf hn4 hc4 hC4 hb hkb
                refine norm_ (a' := ?_) ?_ ?_
                rotate_left
                · show Act.put _ (some 128) _ = _
                  simp only [Act.put, List.setIfInBounds_toArray, List.set_cons_zero, List.set_cons_succ, i64_w, i32_w]
                  rfl
                refine pure_ (i := 8) (N := some 120) (v := ?_) (a' := ?_) #[true, true, true, true, true, true, true, true, true, false, false, false, false, false, false] rfl rfl (by kernel_rfl) (fun _ _ _ h => h) (Or.inl ⟨by rfl, ?_⟩) ?_ ?_
                rotate_left
                · intro w'
                  go_simp
                  with_reducible rfl
                rotate_left
                · simp only [Act.put, List.setIfInBounds_toArray, List.set_cons_zero, List.set_cons_succ, i64_w, i32_w]
                  rfl
                refine pure_ (i := 9) (N := some 129) (v := ?_) (a' := ?_) #[true, true, true, true, true, true, true, true, true, true, false, false, false, false, false] rfl rfl (by kernel_rfl) (fun _ _ _ h => h) (Or.inl ⟨by rfl, ?_⟩) ?_ ?_
                rotate_left
                · intro w'
                  go_simp
                  with_reducible rfl
                rotate_left
                · simp only [Act.put, List.setIfInBounds_toArray, List.set_cons_zero, List.set_cons_succ, i64_w, i32_w]
                  rfl
                refine pure_ (i := 10) (N := some 130) (v := ?_) (a' := ?_) #[true, true, true, true, true, true, true, true, true, true, true, false, false, false, false] rfl rfl (by kernel_rfl) (fun _ _ _ h => h) (Or.inl ⟨by rfl, ?_⟩) ?_ ?_
                rotate_left
                · intro w'
                  go_simp
                  with_reducible rfl
                rotate_left
                · simp only [Act.put, List.setIfInBounds_toArray, List.set_cons_zero, List.set_cons_succ, i64_w, i32_w]
                  rfl
                refine pure_ (i := 11) (N := some 131) (v := ?_) (a' := ?_) #[true, true, true, true, true, true, true, true, true, true, true, true, false, false, false] rfl rfl (by kernel_rfl) (fun _ _ _ h => h) (Or.inl ⟨by rfl, ?_⟩) ?_ ?_
                rotate_left
                · intro w'
                  go_simp
                  with_reducible rfl
                rotate_left
                · simp only [Act.put, List.setIfInBounds_toArray, List.set_cons_zero, List.set_cons_succ, i64_w, i32_w]
                  rfl
                refine pure_ (i := 12) (N := some 12) (v := ?_) (a' := ?_) #[true, true, true, true, true, true, true, true, true, true, true, true, true, false, false] rfl rfl (by kernel_rfl) (fun _ _ _ h => h) (Or.inl ⟨by rfl, ?_⟩) ?_ ?_
                rotate_left
                · intro w'
                  go_simp
                  with_reducible rfl
                rotate_left
                · simp only [Act.put, List.setIfInBounds_toArray, List.set_cons_zero, List.set_cons_succ, i64_w, i32_w]
                  rfl
                refine pure_ (i := 13) (N := some 13) (v := ?_) (a' := ?_) #[true, true, true, true, true, true, true, true, true, true, true, true, true, true, false] rfl rfl (by kernel_rfl) (fun _ _ _ h => h) (Or.inl ⟨by rfl, ?_⟩) ?_ ?_
                rotate_left
                · intro w'
                  go_simp
                  with_reducible rfl
                rotate_left
                · simp only [Act.put, List.setIfInBounds_toArray, List.set_cons_zero, List.set_cons_succ, i64_w, i32_w]
                  rfl
                refine pure_ (i := 14) (N := some 14) (v := ?_) (a' := ?_) #[true, true, true, true, true, true, true, true, true, true, true, true, true, true, true] rfl rfl (by kernel_rfl) (fun _ _ _ h => h) (Or.inl ⟨by rfl, ?_⟩) ?_ ?_
                rotate_left
                · intro w'
                  go_simp
                  with_reducible rfl
                rotate_left
                · simp only [Act.put, List.setIfInBounds_toArray, List.set_cons_zero, List.set_cons_succ, i64_w, i32_w]
                  rfl
                refine done_ (by kernel_rfl) ?_
                have mc0 : w4.cell? ⟨r, 0, none⟩ = some (.string (strOfNums xs)) := (blk_cell HK4.out 0).trans rfl
                have mc1 : w4.cell? ⟨r, 1, none⟩ = some (.int .i64 (s : Int)) := (blk_cell HK4.out 1).trans rfl
                have mc2 : w4.cell? ⟨r, 2, none⟩ = some (.int .i64 L) := (blk_cell HK4.out 2).trans rfl
                have mc3 : w4.cell? ⟨r, 3, none⟩ = some (.bool F) := (blk_cell HK4.out 3).trans rfl
                have nb4 := (blk_cell HBLK4.out 1).trans (show (#[.int .i64 aK, .int .i64 aN, .slice aA ax.length ac] : Array Value)[1]? = some (.int .i64 aN) from rfl)
                go_upto_region 33 with (first
                  | (go_at_call 25; refine (ref_crash (xs) s kc L F aN _ HSL.out HXd.out HKC.out).mono ?_; rintro e w5 ⟨rfl, hb⟩; rw [HYC.out]; have HF5 := Lib.hid (HF4.out.below hb); have HG5 := Lib.hid (show Lg w5 q4 p3 from blk_below HG4.out hb); have HK5 := Lib.hid (HK4.out.below hb); have HC5 := Lib.hid (Kd.C_below HC4.out hb); have HB5 := Lib.hid (below_then HB4.out HB4.out.size hb); clear hb)
                  | (go_at_call 24; refine (ref_open_good yc kc 0 rowc uc ec _ HOy.out HYX.out HSC.out HGD.out HYL.out.symm).mono ?_; rintro e w6 ⟨A6, n6, c6, rfl, hn6, hc6, hC6, hb⟩; rw [HY2.out]; have HN6 := Lib.hid hn6; have HL6 := Lib.hid hc6; have HC6 := Lib.hid hC6; have HF6 := Lib.hid (HF5.out.below hb); have HG6 := Lib.hid (show Lg w6 q4 p3 from blk_below HG5.out hb); have HK6 := Lib.hid (HK5.out.below hb); have HC46 := Lib.hid (Kd.C_below HC5.out hb); have HB6 := Lib.hid (below_then HB5.out HB5.out.size hb); clear hn6 hc6 hC6 hb)
                  | (go_at_call 20; refine (same_rows A4 A6 c4 c6 n4 n6 rowc _ HN4.out HN6.out (Kd.C_alloc HC46.out _) HL4.out (Kd.C_alloc HC6.out _) HL6.out (by have := HN4.out; have := HUB.out; have := HYX.out; omega)).mono ?_; rintro e w7 ⟨rfl, hb⟩; have HY7 := Lib.hid (show w7.heap[w6.heap.size]? = some (.cells #[.string (strOfNums y2), .int .i64 (uc : Int), .int .i64 0, .bool false] 50 (0, 0)) from blk_below (blk_new w6 _) hb); have hb7 := below_then (below_alloc (Below.refl w6.heap.size w6) (.cells #[.string (strOfNums y2), .int .i64 (uc : Int), .int .i64 0, .bool false] 50)) (below_alloc (Below.refl w6.heap.size w6) (.cells #[.string (strOfNums y2), .int .i64 (uc : Int), .int .i64 0, .bool false] 50)).size hb; have HF7 := Lib.hid (HF6.out.below hb7); have HG7 := Lib.hid (show Lg w7 q4 p3 from blk_below HG6.out hb7); have HK7 := Lib.hid (HK6.out.below hb7); have HB7 := Lib.hid (below_then HB6.out HB6.out.size hb7); clear hb hb7)
                  | fail)
                have nc0 : w7.cell? ⟨r, 0, none⟩ = some (.string (strOfNums xs)) := (blk_cell HK7.out 0).trans rfl
                have nc1 : w7.cell? ⟨r, 1, none⟩ = some (.int .i64 (s : Int)) := (blk_cell HK7.out 1).trans rfl
                have nc2 : w7.cell? ⟨r, 2, none⟩ = some (.int .i64 L) := (blk_cell HK7.out 2).trans rfl
                have nc3 : w7.cell? ⟨r, 3, none⟩ = some (.bool F) := (blk_cell HK7.out 3).trans rfl
                have nf0 := blk_frozen HK7.out 0
                have nf1 := blk_frozen HK7.out 1
                have nf2 := blk_frozen HK7.out 2
                have nf3 := blk_frozen HK7.out 3
                have oc0 : w7.cell? ⟨w6.heap.size, 0, none⟩ = some (.string (strOfNums y2)) := (blk_cell HY7.out 0).trans rfl
                have oc1 : w7.cell? ⟨w6.heap.size, 1, none⟩ = some (.int .i64 (uc : Int)) := (blk_cell HY7.out 1).trans rfl
                have oc2 : w7.cell? ⟨w6.heap.size, 2, none⟩ = some (.int .i64 0) := (blk_cell HY7.out 2).trans rfl
                have oc3 : w7.cell? ⟨w6.heap.size, 3, none⟩ = some (.bool false) := (blk_cell HY7.out 3).trans rfl
                go_region
                go_wp2_with fail
                have HFz := Lib.hid (show Fq (-1) (put4 w7 r (strOfNums y2) (uc : Int) 0 false) w.heap.size p3 (y2) (uc) from Fq.keep HF7.out HK7.out (put4_keep (KeepBut.refl _ _ _)))
                have HGz := Lib.hid (show Lg (put4 w7 r (strOfNums y2) (uc : Int) 0 false) q4 p3 from (put4_other (blk_ne HG7.out HK7.out (by decide))).trans HG7.out)
                have HKz := Lib.hid (show Rk (put4 w7 r (strOfNums y2) (uc : Int) 0 false) r (strOfNums y2) (uc : Int) 0 false from put4_blk HK7.out)
                have HBz := Lib.hid (show Below w.heap.size w (put4 w7 r (strOfNums y2) (uc : Int) 0 false) from put4_below HB7.out HRB.out)
                unfold put4 at HFz HGz HKz HBz
                generalize ((((w7.setCell ⟨r, 0, none⟩ (.string (strOfNums y2))).setCell ⟨r, 1, none⟩ (.int .i64 (uc : Int))).setCell ⟨r, 2, none⟩ (.int .i64 0)).setCell ⟨r, 3, none⟩ (.bool false)) = w8 at HFz HGz HKz HBz ⊢
                have hbd8 : Below w8.heap.size w8 w8.drew := below_drew (Below.refl _ _)
                have HFy := Lib.hid (HFz.out.below hbd8)
                have HGy := Lib.hid (show Lg w8.drew q4 p3 from blk_below HGz.out hbd8)
                have HKy := Lib.hid (HKz.out.below hbd8)
                have HBy := Lib.hid (below_drew HBz.out)
                have HSq := Lib.hid (show ∃ rows, scan y2 = (rows, y2.length, 0) by rw [HYU.out, ← HY2.out]; exact ⟨_, scan_take HOy.out HSC.out⟩)
                have HOq := Lib.hid (show okb y2 = true by rw [← HY2.out]; exact okb_take HOy.out _)
                have HXq := Lib.hid (show y2.length ≤ 308 * (k + 1) by have := HYU.out; have := HUB.out.1; have := HYL.out; have := HK9.out; have := HXL1.out; omega)
                have HSLq := Lib.hid (show uc ≤ y2.length by have := HYU.out; omega)
                have HFZ9 := Lib.hid (show Fz (-1) 0 false from .inl ⟨rfl, by decide⟩)
                have HRG9 := Lib.hid (show (-1 : Int) ≤ -1 ∧ (-1 : Int) ≤ 9223372036854775807 by decide)
                exact tail HFy HGy HKy HBy HP3 HFZ9 HSq HOq HXq HSLq HRG9
              · have HE0 := Lib.hid (show ec ≠ 0 from fun e => hgd (.inl e))
                have HE10 := Lib.hid (show ec ≠ 10 from fun e => hgd (.inr e))
                clear hgd
                have te : (ec != ec) = false := by simp
                have te0 : (ec != 0) = true := by have := HE0.out; simp [this]
                go_upto_region 27 with fail
                refine start_ (n := 15) (S := fun w' => (w'.cell? ⟨q, 0, none⟩ = some (.pointer (some ⟨p, 0, none⟩))) ∧ (w'.cell? ⟨wr.heap.size, 1, none⟩ = some (.int .i64 aN))) (ds := [6, 7]) #[false, false, false, false, false, false, false, false, false, false, false, false, false, false, false] (by kernel_rfl) rfl rfl ⟨lqd, lnd⟩ (fun hHeld => ?_)
                refine pure_ (i := 0) (N := some 121) (v := ?_) (a' := ?_) #[true, false, false, false, false, false, false, false, false, false, false, false, false, false, false] rfl rfl (by kernel_rfl) (fun _ _ _ h => h) (Or.inl ⟨by rfl, ?_⟩) ?_ ?_
                rotate_left
                · intro w'
                  go_simp
                  with_reducible rfl
                rotate_left
                · simp only [Act.put, List.setIfInBounds_toArray, List.set_cons_zero, List.set_cons_succ, i64_w, i32_w]
                  rfl
                refine pure_ (i := 1) (N := some 122) (v := ?_) (a' := ?_) #[true, true, false, false, false, false, false, false, false, false, false, false, false, false, false] rfl rfl (by kernel_rfl) (fun _ _ _ h => h) (Or.inl ⟨by rfl, ?_⟩) ?_ ?_
                rotate_left
                · intro w'
                  go_simp
                  with_reducible rfl
                rotate_left
                · simp only [Act.put, List.setIfInBounds_toArray, List.set_cons_zero, List.set_cons_succ, i64_w, i32_w]
                  rfl
                refine pure_ (i := 2) (N := some 123) (v := ?_) (a' := ?_) #[true, true, true, false, false, false, false, false, false, false, false, false, false, false, false] rfl rfl (by kernel_rfl) (fun _ _ _ h => h) (Or.inl ⟨by rfl, ?_⟩) ?_ ?_
                rotate_left
                · intro w'
                  go_simp
                  with_reducible rfl
                rotate_left
                · simp only [Act.put, List.setIfInBounds_toArray, List.set_cons_zero, List.set_cons_succ, i64_w, i32_w]
                  rfl
                refine pure_ (i := 4) (N := some 125) (v := ?_) (a' := ?_) #[true, true, true, false, true, false, false, false, false, false, false, false, false, false, false] rfl rfl (by kernel_rfl) (fun _ _ _ h => h) (Or.inl ⟨by rfl, ?_⟩) ?_ ?_
                rotate_left
                · intro w'
                  go_simp
                  with_reducible rfl
                rotate_left
                · simp only [Act.put, List.setIfInBounds_toArray, List.set_cons_zero, List.set_cons_succ, i64_w, i32_w]
                  rfl
                refine take_ (i := 3) (N := some 124) (v := ?_) (a' := ?_) #[true, true, true, true, true, false, false, false, false, false, false, false, false, false, false] rfl rfl (by kernel_rfl) (fun _ _ _ h => h) (Or.inl ⟨by rfl, ?_⟩) hHeld ?_ ?_
                rotate_left
                · rintro w' ⟨h1, h2⟩
                  go_simp
                  with_reducible rfl
                rotate_left
                · simp only [Act.put, List.setIfInBounds_toArray, List.set_cons_zero, List.set_cons_succ, i64_w, i32_w]
                  rfl
                refine take_ (i := 5) (N := some 126) (v := ?_) (a' := ?_) #[true, true, true, true, true, true, false, false, false, false, false, false, false, false, false] rfl rfl (by kernel_rfl) (fun _ _ _ h => h) (Or.inl ⟨by rfl, ?_⟩) hHeld ?_ ?_
                rotate_left
                · rintro w' ⟨h1, h2⟩
                  go_simp
                  with_reducible rfl
                rotate_left
                · simp only [Act.put, List.setIfInBounds_toArray, List.set_cons_zero, List.set_cons_succ, i64_w, i32_w]
                  rfl
                refine last_ (i := 6) (N := some 127) #[true, true, true, true, true, true, true, false, false, false, false, false, false, false, false] rfl rfl (by kernel_rfl) (by decide) (fun K hK => ?_)
                obtain ⟨h1, h2⟩ := hHeld
                refine goes_ Try.func13 (by kernel_rfl) rfl #[.pointer (some ⟨p, 0, none⟩), .int .i64 aN] (by rfl) rfl rfl (by simp only [List.map_toArray, List.map_cons, List.map_nil]; rfl) ?_
                with_reducible refine (HFd.out.crash HBd.out HSL.out HXd.out aN kc HKC.out).mono ?_
                rintro e w3 ⟨p3, rfl, hp3, hd, hb⟩
                refine ⟨_, rfl, ?_⟩
                refine hK.out _ _ ?_
                clear hK K
                rw [HYC.out] at hd
                have HP3 := Lib.hid (show w.heap.size ≤ p3 by have := HBd.out.size; omega)
                have HD3 := Lib.hid (show Dq w3 w.heap.size p3 yc yc.length by rw [HYL.out]; exact hd)
                have HB3 := Lib.hid (below_then HBd.out HBd.out.size hb)
                have HK3 := Lib.hid (HKd.out.below hb)
                have HBLK3 := Lib.hid (blk_below HBLKd.out hb)
                clear hp3 hd hb
                refine norm_ (a' := ?_) ?_ ?_
                rotate_left
                · show Act.put _ (some 127) _ = _
                  simp only [Act.put, List.setIfInBounds_toArray, List.set_cons_zero, List.set_cons_succ, i64_w, i32_w]
                  rfl
                refine last_ (i := 7) (N := some 128) #[true, true, true, true, true, true, true, true, false, false, false, false, false, false, false] rfl rfl (by kernel_rfl) (by decide) (fun K hK => ?_)
                refine goes_ Try.func19 (by kernel_rfl) rfl #[.pointer (some ⟨p3, 0, none⟩)] (by rfl) rfl rfl (by simp only [List.map_toArray, List.map_cons, List.map_nil]; rfl) ?_
                with_reducible refine (open_bad w p3 yc _ _ HD3.out HOy.out HYX.out HSC.out HE0.out HE10.out).mono ?_
                rintro e w4 ⟨rfl, hb⟩
                refine ⟨_, rfl, ?_⟩
                refine hK.out _ _ ?_
                clear hK K
                have HB4 := Lib.hid (below_then HB3.out HB3.out.size hb)
                have HK4 := Lib.hid (HK3.out.below hb)
                have HBLK4 := Lib.hid (blk_below HBLK3.out hb)
                clear hb
                refine norm_ (a' := ?_) ?_ ?_
                rotate_left
                · show Act.put _ (some 128) _ = _
                  simp only [Act.put, List.setIfInBounds_toArray, List.set_cons_zero, List.set_cons_succ, i64_w, i32_w]
                  rfl
                refine pure_ (i := 8) (N := some 120) (v := ?_) (a' := ?_) #[true, true, true, true, true, true, true, true, true, false, false, false, false, false, false] rfl rfl (by kernel_rfl) (fun _ _ _ h => h) (Or.inl ⟨by rfl, ?_⟩) ?_ ?_
                rotate_left
                · intro w'
                  go_simp
                  with_reducible rfl
                rotate_left
                · simp only [Act.put, List.setIfInBounds_toArray, List.set_cons_zero, List.set_cons_succ, i64_w, i32_w]
                  rfl
                refine pure_ (i := 9) (N := some 129) (v := ?_) (a' := ?_) #[true, true, true, true, true, true, true, true, true, true, false, false, false, false, false] rfl rfl (by kernel_rfl) (fun _ _ _ h => h) (Or.inl ⟨by rfl, ?_⟩) ?_ ?_
                rotate_left
                · intro w'
                  go_simp
                  with_reducible rfl
                rotate_left
                · simp only [Act.put, List.setIfInBounds_toArray, List.set_cons_zero, List.set_cons_succ, i64_w, i32_w]
                  rfl
                refine pure_ (i := 10) (N := some 130) (v := ?_) (a' := ?_) #[true, true, true, true, true, true, true, true, true, true, true, false, false, false, false] rfl rfl (by kernel_rfl) (fun _ _ _ h => h) (Or.inl ⟨by rfl, ?_⟩) ?_ ?_
                rotate_left
                · intro w'
                  go_simp
                  with_reducible rfl
                rotate_left
                · simp only [Act.put, List.setIfInBounds_toArray, List.set_cons_zero, List.set_cons_succ, i64_w, i32_w]
                  rfl
                refine pure_ (i := 11) (N := some 131) (v := ?_) (a' := ?_) #[true, true, true, true, true, true, true, true, true, true, true, true, false, false, false] rfl rfl (by kernel_rfl) (fun _ _ _ h => h) (Or.inl ⟨by rfl, ?_⟩) ?_ ?_
                rotate_left
                · intro w'
                  go_simp
                  with_reducible rfl
                rotate_left
                · simp only [Act.put, List.setIfInBounds_toArray, List.set_cons_zero, List.set_cons_succ, i64_w, i32_w]
                  rfl
                refine pure_ (i := 12) (N := some 12) (v := ?_) (a' := ?_) #[true, true, true, true, true, true, true, true, true, true, true, true, true, false, false] rfl rfl (by kernel_rfl) (fun _ _ _ h => h) (Or.inl ⟨by rfl, ?_⟩) ?_ ?_
                rotate_left
                · intro w'
                  go_simp
                  with_reducible rfl
                rotate_left
                · simp only [Act.put, List.setIfInBounds_toArray, List.set_cons_zero, List.set_cons_succ, i64_w, i32_w]
                  rfl
                refine pure_ (i := 13) (N := some 13) (v := ?_) (a' := ?_) #[true, true, true, true, true, true, true, true, true, true, true, true, true, true, false] rfl rfl (by kernel_rfl) (fun _ _ _ h => h) (Or.inl ⟨by rfl, ?_⟩) ?_ ?_
                rotate_left
                · intro w'
                  go_simp
                  with_reducible rfl
                rotate_left
                · simp only [Act.put, List.setIfInBounds_toArray, List.set_cons_zero, List.set_cons_succ, i64_w, i32_w]
                  rfl
                refine pure_ (i := 14) (N := some 14) (v := ?_) (a' := ?_) #[true, true, true, true, true, true, true, true, true, true, true, true, true, true, true] rfl rfl (by kernel_rfl) (fun _ _ _ h => h) (Or.inl ⟨by rfl, ?_⟩) ?_ ?_
                rotate_left
                · intro w'
                  go_simp
                  with_reducible rfl
                rotate_left
                · simp only [Act.put, List.setIfInBounds_toArray, List.set_cons_zero, List.set_cons_succ, i64_w, i32_w]
                  rfl
                refine done_ (by kernel_rfl) ?_
                have mc0 : w4.cell? ⟨r, 0, none⟩ = some (.string (strOfNums xs)) := (blk_cell HK4.out 0).trans rfl
                have mc1 : w4.cell? ⟨r, 1, none⟩ = some (.int .i64 (s : Int)) := (blk_cell HK4.out 1).trans rfl
                have mc2 : w4.cell? ⟨r, 2, none⟩ = some (.int .i64 L) := (blk_cell HK4.out 2).trans rfl
                have mc3 : w4.cell? ⟨r, 3, none⟩ = some (.bool F) := (blk_cell HK4.out 3).trans rfl
                have nb4 := (blk_cell HBLK4.out 1).trans (show (#[.int .i64 aK, .int .i64 aN, .slice aA ax.length ac] : Array Value)[1]? = some (.int .i64 aN) from rfl)
                go_wp2_with (first
                  | (go_at_call 25; refine (ref_crash (xs) s kc L F aN _ HSL.out HXd.out HKC.out).mono ?_; rintro e w5 ⟨rfl, hb⟩; rw [HYC.out]; have HB5 := Lib.hid (below_then HB4.out HB4.out.size hb); clear hb)
                  | (go_at_call 24; refine (ref_open_bad yc (kc : Int) 0 false rowc uc ec _ HOy.out HYX.out HSC.out HE0.out HE10.out).mono ?_; rintro e w6 ⟨rfl, hb⟩; have HB6 := Lib.hid (below_then HB5.out HB5.out.size hb); clear hb)
                  | (go_at_call 20; refine (same_rows none none 0 0 0 0 [] _ rfl rfl (Kd.C_nil _ _) (Nat.le_refl _) (Kd.C_nil _ _) (Nat.le_refl _) (by decide)).mono ?_; rintro e w7 ⟨rfl, hb⟩; have hal := below_alloc HB6.out (.cells #[.string (strOfNums yc), .int .i64 (kc : Int), .int .i64 0, .bool false] 50); have HB7 := Lib.hid (below_then hal hal.size hb); clear hb hal)
                  | fail)
                exact bodyPost_ret (v := .bool true) (by simp [results, Try.results7, go_sem]) rfl ⟨rfl, HB7.out⟩
            · have j2 : (aK == 2) = false := by simp [k2]
              by_cases k4 : aK = 4
              · have j4 : (aK == 4) = true := by simp [k4]
                clear k0 k1 k2 k4
                obtain ⟨cz, hcz⟩ : ∃ y : Int, (if f = 0 then (17 : Int) else 0) = y := ⟨_, rfl⟩
                have HCZ := Lib.hid hcz
                clear hcz
                obtain ⟨x4, hx4⟩ : ∃ y : List Int, (if f = 0 then xs else xs ++ ax) = y := ⟨_, rfl⟩
                have HX4 := Lib.hid hx4
                clear hx4
                have HFZ2 := Lib.hid (HFZ.out.step HRG.out.2)
                have HRG2 := Lib.hid (fd_range HRG.out.1 HRG.out.2)
                obtain ⟨f2, hf2⟩ : ∃ y : Int, fd f = y := ⟨_, rfl⟩
                have HF2E := Lib.hid hf2
                clear hf2
                obtain ⟨L2, hL2⟩ : ∃ y : Int, ld L F = y := ⟨_, rfl⟩
                have HL2E := Lib.hid hL2
                clear hL2
                rw [HF2E.out] at HFZ2 HRG2
                rw [HL2E.out] at HFZ2
                have HOx := Lib.hid (show okb x4 = true by rw [← HX4.out]; split; exact HO.out; exact okb_app HO.out HOa.out)
                have HXx := Lib.hid (show x4.length ≤ 308 * (k + 1) by rw [← HX4.out]; have h1 := HXL.out; have h2 := HX3.out; split; omega; rw [List.length_append]; omega)
                have HSLx := Lib.hid (show s ≤ x4.length by rw [← HX4.out]; have := HSL.out; split; omega; rw [List.length_append]; omega)
                have hbd : Below (wr.alloc (.cells #[.int .i64 aK, .int .i64 aN, .slice aA ax.length ac] 47)).heap.size (wr.alloc (.cells #[.int .i64 aK, .int .i64 aN, .slice aA ax.length ac] 47)) (wr.alloc (.cells #[.int .i64 aK, .int .i64 aN, .slice aA ax.length ac] 47)).drew := below_drew (Below.refl _ _)
                have HFd := Lib.hid (HFa.out.below hbd)
                have HGd := Lib.hid (show Lg (wr.alloc (.cells #[.int .i64 aK, .int .i64 aN, .slice aA ax.length ac] 47)).drew q p from blk_below HGa.out hbd)
                have HKd := Lib.hid (HKa.out.below hbd)
                have HBd := Lib.hid (below_drew HBa.out)
                have HBLKd := Lib.hid (blk_below HBLK.out hbd)
                clear hbd
                have lqd := (blk_cell HGd.out 0).trans (show (#[.pointer (some ⟨p, 0, none⟩)] : Array Value)[0]? = some (.pointer (some ⟨p, 0, none⟩)) from rfl)
                have lnd := (blk_cell HBLKd.out 1).trans (show (#[.int .i64 aK, .int .i64 aN, .slice aA ax.length ac] : Array Value)[1]? = some (.int .i64 aN) from rfl)
                have lbd := (blk_cell HBLKd.out 2).trans (show (#[.int .i64 aK, .int .i64 aN, .slice aA ax.length ac] : Array Value)[2]? = some (.slice aA ax.length ac) from rfl)
                have HCd := Lib.hid (Kd.C_below HTH.out.2 HBd.out)
                go_upto_region 25 with fail
                refine start_ (n := 7) (S := fun w' => (w'.cell? ⟨q, 0, none⟩ = some (.pointer (some ⟨p, 0, none⟩))) ∧ (w'.cell? ⟨wr.heap.size, 2, none⟩ = some (.slice aA ax.length ac))) (ds := [6]) #[false, false, false, false, false, false, false] (by kernel_rfl) rfl rfl ⟨lqd, lbd⟩ (fun hHeld => ?_)
                refine pure_ (i := 0) (N := some 105) (v := ?_) (a' := ?_) #[true, false, false, false, false, false, false] rfl rfl (by kernel_rfl) (fun _ _ _ h => h) (Or.inl ⟨by rfl, ?_⟩) ?_ ?_
                rotate_left
                · intro w'
                  go_simp
                  with_reducible rfl
                rotate_left
                · simp only [Act.put, List.setIfInBounds_toArray, List.set_cons_zero, List.set_cons_succ, i64_w, i32_w]
                  rfl
                refine pure_ (i := 1) (N := some 106) (v := ?_) (a' := ?_) #[true, true, false, false, false, false, false] rfl rfl (by kernel_rfl) (fun _ _ _ h => h) (Or.inl ⟨by rfl, ?_⟩) ?_ ?_
                rotate_left
                · intro w'
                  go_simp
                  with_reducible rfl
                rotate_left
                · simp only [Act.put, List.setIfInBounds_toArray, List.set_cons_zero, List.set_cons_succ, i64_w, i32_w]
                  rfl
                refine pure_ (i := 2) (N := some 107) (v := ?_) (a' := ?_) #[true, true, true, false, false, false, false] rfl rfl (by kernel_rfl) (fun _ _ _ h => h) (Or.inl ⟨by rfl, ?_⟩) ?_ ?_
                rotate_left
                · intro w'
                  go_simp
                  with_reducible rfl
                rotate_left
                · simp only [Act.put, List.setIfInBounds_toArray, List.set_cons_zero, List.set_cons_succ, i64_w, i32_w]
                  rfl
                refine pure_ (i := 4) (N := some 109) (v := ?_) (a' := ?_) #[true, true, true, false, true, false, false] rfl rfl (by kernel_rfl) (fun _ _ _ h => h) (Or.inl ⟨by rfl, ?_⟩) ?_ ?_
                rotate_left
                · intro w'
                  go_simp
                  with_reducible rfl
                rotate_left
                · simp only [Act.put, List.setIfInBounds_toArray, List.set_cons_zero, List.set_cons_succ, i64_w, i32_w]
                  rfl
                refine take_ (i := 3) (N := some 108) (v := ?_) (a' := ?_) #[true, true, true, true, true, false, false] rfl rfl (by kernel_rfl) (fun _ _ _ h => h) (Or.inl ⟨by rfl, ?_⟩) hHeld ?_ ?_
                rotate_left
                · rintro w' ⟨h1, h2⟩
                  go_simp
                  with_reducible rfl
                rotate_left
                · simp only [Act.put, List.setIfInBounds_toArray, List.set_cons_zero, List.set_cons_succ, i64_w, i32_w]
                  rfl
                refine take_ (i := 5) (N := some 110) (v := ?_) (a' := ?_) #[true, true, true, true, true, true, false] rfl rfl (by kernel_rfl) (fun _ _ _ h => h) (Or.inl ⟨by rfl, ?_⟩) hHeld ?_ ?_
                rotate_left
                · rintro w' ⟨h1, h2⟩
                  go_simp
                  with_reducible rfl
                rotate_left
                · simp only [Act.put, List.setIfInBounds_toArray, List.set_cons_zero, List.set_cons_succ, i64_w, i32_w]
                  rfl
                refine last_ (i := 6) (N := some 111) #[true, true, true, true, true, true, true] rfl rfl (by kernel_rfl) (by decide) (fun K hK => ?_)
                obtain ⟨h1, h2⟩ := hHeld
                refine goes_ Try.func9 (by kernel_rfl) rfl #[.pointer (some ⟨p, 0, none⟩), .slice aA ax.length ac] (by rfl) rfl rfl (by simp only [List.map_toArray, List.map_cons, List.map_nil]; rfl) ?_
                with_reducible refine (HFd.out.append (D := aA) (m := ax.length) (k := ac) HP.out HBd.out HCd.out (by have := HXB.out; have := HX3.out; omega)).mono ?_
                rintro e w3 ⟨rfl, hf, hb, hst⟩
                refine ⟨_, rfl, ?_⟩
                refine hK.out _ _ ?_
                clear hK K
                rw [HCZ.out]
                rw [HX4.out, HF2E.out] at hf
                have HF3 := Lib.hid hf
                have HB3 := Lib.hid hb
                have HG3 := Lib.hid (show Lg w3 q p from hst.blk HGd.out (by obtain ⟨_, _, hD, _⟩ := HFd.out; exact blk_ne HGd.out hD (by decide)) (by decide))
                have HK3 := Lib.hid (show Rk w3 r (strOfNums xs) (s : Int) L F from hst.blk HKd.out (by obtain ⟨_, _, hD, _⟩ := HFd.out; exact blk_ne HKd.out hD (by decide)) (by decide))
                have HBLK3 := Lib.hid (hst.blk HBLKd.out (by have := HF.out.lt; omega) (by decide))
                clear hf hb hst
                refine norm_ (a' := ?_) ?_ ?_
                rotate_left
                · show Act.put _ (some 111) _ = _
                  simp only [Act.put, List.setIfInBounds_toArray, List.set_cons_zero, List.set_cons_succ, i64_w, i32_w]
                  rfl
                refine done_ (by kernel_rfl) ?_
                have mc0 : w3.cell? ⟨r, 0, none⟩ = some (.string (strOfNums xs)) := (blk_cell HK3.out 0).trans rfl
                have mc1 : w3.cell? ⟨r, 1, none⟩ = some (.int .i64 (s : Int)) := (blk_cell HK3.out 1).trans rfl
                have mc2 : w3.cell? ⟨r, 2, none⟩ = some (.int .i64 L) := (blk_cell HK3.out 2).trans rfl
                have mc3 : w3.cell? ⟨r, 3, none⟩ = some (.bool F) := (blk_cell HK3.out 3).trans rfl
                have cb3 := (blk_cell HBLK3.out 2).trans (show (#[.int .i64 aK, .int .i64 aN, .slice aA ax.length ac] : Array Value)[2]? = some (.slice aA ax.length ac) from rfl)
                have HC3 := Lib.hid (Kd.C_below HTH.out.2 HB3.out)
                have cv3 := Kd.C_string (P := Try.prog) (c := ac) Try.underlying22 Try.underlying5 Try.underlying9 HC3.out
                go_upto_region 27 with (first
                  | (go_at_call 23; refine (ref_append HFZ.out xs ax (s : Int) _ (by have := HXB.out; have := HX3.out; omega)).mono ?_; rintro e w4 ⟨rfl, hb⟩; rw [HCZ.out, HX4.out, HL2E.out]; have HF4 := Lib.hid (HF3.out.below hb); have HG4 := Lib.hid (show Lg w4 q p from blk_below HG3.out hb); have HK4 := Lib.hid (HK3.out.below hb); have HBLK4 := Lib.hid (blk_below HBLK3.out hb); have HB4 := Lib.hid (below_then HB3.out HB3.out.size hb); clear hb; have nc0 : w4.cell? ⟨r, 0, none⟩ = some (.string (strOfNums xs)) := (blk_cell HK4.out 0).trans rfl; have nc1 : w4.cell? ⟨r, 1, none⟩ = some (.int .i64 (s : Int)) := (blk_cell HK4.out 1).trans rfl; have nc2 : w4.cell? ⟨r, 2, none⟩ = some (.int .i64 L) := (blk_cell HK4.out 2).trans rfl; have nc3 : w4.cell? ⟨r, 3, none⟩ = some (.bool F) := (blk_cell HK4.out 3).trans rfl; have nf0 := blk_frozen HK4.out 0; have nf1 := blk_frozen HK4.out 1; have nf2 := blk_frozen HK4.out 2; have nf3 := blk_frozen HK4.out 3)
                  | fail)
                have HFz := Lib.hid (show Fq (f2) (put4 w4 r (strOfNums x4) (s : Int) L2 F) w.heap.size p (x4) (s) from Fq.keep HF4.out HK4.out (put4_keep (KeepBut.refl _ _ _)))
                have HGz := Lib.hid (show Lg (put4 w4 r (strOfNums x4) (s : Int) L2 F) q p from (put4_other (blk_ne HG4.out HK4.out (by decide))).trans HG4.out)
                have HKz := Lib.hid (show Rk (put4 w4 r (strOfNums x4) (s : Int) L2 F) r (strOfNums x4) (s : Int) L2 F from put4_blk HK4.out)
                have HBz := Lib.hid (show Below w.heap.size w (put4 w4 r (strOfNums x4) (s : Int) L2 F) from put4_below HB4.out HRB.out)
                have HBLKz := Lib.hid (show (put4 w4 r (strOfNums x4) (s : Int) L2 F).heap[wr.heap.size]? = _ from (put4_other (blk_ne HBLK4.out HK4.out (by decide))).trans HBLK4.out)
                unfold put4 at HFz HGz HKz HBz HBLKz
                generalize ((((w4.setCell ⟨r, 0, none⟩ (.string (strOfNums x4))).setCell ⟨r, 1, none⟩ (.int .i64 (s : Int))).setCell ⟨r, 2, none⟩ (.int .i64 L2)).setCell ⟨r, 3, none⟩ (.bool F)) = w5 at HFz HGz HKz HBz HBLKz ⊢
                clear HFd HGd HKd HBd HBLKd lqd lnd lbd HF3 HG3 HK3 HBLK3 HB3 HF4 HG4 HK4 HBLK4 HB4 cb3 HC3 cv3 h1 h2 mc0 mc1 mc2 mc3 nc0 nf0 nc1 nf1 nc2 nf2 nc3 nf3
                have hbd : Below w5.heap.size w5 w5.drew := below_drew (Below.refl _ _)
                have HFd := Lib.hid (HFz.out.below hbd)
                have HGd := Lib.hid (show Lg w5.drew q p from blk_below HGz.out hbd)
                have HKd := Lib.hid (HKz.out.below hbd)
                have HBd := Lib.hid (below_drew HBz.out)
                have HBLKd := Lib.hid (blk_below HBLKz.out hbd)
                clear hbd
                have lqd := (blk_cell HGd.out 0).trans (show (#[.pointer (some ⟨p, 0, none⟩)] : Array Value)[0]? = some (.pointer (some ⟨p, 0, none⟩)) from rfl)
                have lnd := (blk_cell HBLKd.out 1).trans (show (#[.int .i64 aK, .int .i64 aN, .slice aA ax.length ac] : Array Value)[1]? = some (.int .i64 aN) from rfl)
                have lbd := (blk_cell HBLKd.out 2).trans (show (#[.int .i64 aK, .int .i64 aN, .slice aA ax.length ac] : Array Value)[2]? = some (.slice aA ax.length ac) from rfl)
                have HXd := Lib.hid (show (x4).length ≤ 100000 by have := HXx.out; have := HLT.out; omega)
                obtain ⟨kc, hkc⟩ : ∃ kc : Nat, kk s (((x4).length : Int) - (s) + 1) aN = kc := Int.eq_ofNat_of_zero_le (by have := kk_range (s := (s : Int)) (N := ((x4).length : Int) - (s) + 1) (x := aN) (by omega) (by have := HXd.out; have := HSLx.out; omega) (by have := HSLx.out; omega) (by have := HXd.out; omega); omega)
                have hkr := kk_range (s := (s : Int)) (N := ((x4).length : Int) - (s) + 1) (x := aN) (by omega) (by have := HXd.out; have := HSLx.out; omega) (by have := HSLx.out; omega) (by have := HXd.out; omega)
                rw [hkc] at hkr
                have HKC := Lib.hid hkc
                have HK9 := Lib.hid (show kc ≤ (x4).length by omega)
                clear hkr hkc
                obtain ⟨yc, hyc⟩ : ∃ y : List Int, (x4).take kc = y := ⟨_, rfl⟩
                have HYC := Lib.hid hyc
                have HYL := Lib.hid (show yc.length = kc by rw [← hyc, List.length_take]; have := HK9.out; omega)
                have HOy := Lib.hid (show okb yc = true by rw [← hyc]; exact okb_take HOx.out _)
                clear hyc
                have HYX := Lib.hid (show yc.length ≤ 100000 by have := HYL.out; have := HK9.out; have := HXd.out; omega)
                obtain ⟨rowc, uc, ec, hsc⟩ : ∃ a b c, scan yc = (a, b, c) := ⟨_, _, _, rfl⟩
                have HSC := Lib.hid hsc
                clear hsc
                by_cases hgd : ec = 0 ∨ ec = 10
                · have HGD := Lib.hid hgd
                  clear hgd
                  obtain ⟨y2, hy2⟩ : ∃ y : List Int, yc.take uc = y := ⟨_, rfl⟩
                  have HY2 := Lib.hid hy2
                  clear hy2
                  have HUB := Lib.hid (scan_bound HOy.out HSC.out)
                  have HYU := Lib.hid (show y2.length = uc by rw [← HY2.out, List.length_take]; have := HUB.out.1; omega)
                  go_upto_region 27 with fail
                  refine start_ (n := 15) (S := fun w' => (w'.cell? ⟨q, 0, none⟩ = some (.pointer (some ⟨p, 0, none⟩))) ∧ (w'.cell? ⟨wr.heap.size, 1, none⟩ = some (.int .i64 aN))) (ds := [6, 7]) #[false, false, false, false, false, false, false, false, false, false, false, false, false, false, false] (by kernel_rfl) rfl rfl ⟨lqd, lnd⟩ (fun hHeld => ?_)
                  refine pure_ (i := 0) (N := some 121) (v := ?_) (a' := ?_) #[true, false, false, false, false, false, false, false, false, false, false, false, false, false, false] rfl rfl (by kernel_rfl) (fun _ _ _ h => h) (Or.inl ⟨by rfl, ?_⟩) ?_ ?_
                  rotate_left
                  · intro w'
                    go_simp
                    with_reducible rfl
                  rotate_left
                  · simp only [Act.put, List.setIfInBounds_toArray, List.set_cons_zero, List.set_cons_succ, i64_w, i32_w]
                    rfl
                  refine pure_ (i := 1) (N := some 122) (v := ?_) (a' := ?_) #[true, true, false, false, false, false, false, false, false, false, false, false, false, false, false] rfl rfl (by kernel_rfl) (fun _ _ _ h => h) (Or.inl ⟨by rfl, ?_⟩) ?_ ?_
                  rotate_left
                  · intro w'
                    go_simp
                    with_reducible rfl
                  rotate_left
                  · simp only [Act.put, List.setIfInBounds_toArray, List.set_cons_zero, List.set_cons_succ, i64_w, i32_w]
                    rfl
                  refine pure_ (i := 2) (N := some 123) (v := ?_) (a' := ?_) #[true, true, true, false, false, false, false, false, false, false, false, false, false, false, false] rfl rfl (by kernel_rfl) (fun _ _ _ h => h) (Or.inl ⟨by rfl, ?_⟩) ?_ ?_
                  rotate_left
                  · intro w'
                    go_simp
                    with_reducible rfl
                  rotate_left
                  · simp only [Act.put, List.setIfInBounds_toArray, List.set_cons_zero, List.set_cons_succ, i64_w, i32_w]
                    rfl
                  refine pure_ (i := 4) (N := some 125) (v := ?_) (a' := ?_) #[true, true, true, false, true, false, false, false, false, false, false, false, false, false, false] rfl rfl (by kernel_rfl) (fun _ _ _ h => h) (Or.inl ⟨by rfl, ?_⟩) ?_ ?_
                  rotate_left
                  · intro w'
                    go_simp
                    with_reducible rfl
                  rotate_left
                  · simp only [Act.put, List.setIfInBounds_toArray, List.set_cons_zero, List.set_cons_succ, i64_w, i32_w]
                    rfl
                  refine take_ (i := 3) (N := some 124) (v := ?_) (a' := ?_) #[true, true, true, true, true, false, false, false, false, false, false, false, false, false, false] rfl rfl (by kernel_rfl) (fun _ _ _ h => h) (Or.inl ⟨by rfl, ?_⟩) hHeld ?_ ?_
                  rotate_left
                  · rintro w' ⟨h1, h2⟩
                    go_simp
                    with_reducible rfl
                  rotate_left
                  · simp only [Act.put, List.setIfInBounds_toArray, List.set_cons_zero, List.set_cons_succ, i64_w, i32_w]
                    rfl
                  refine take_ (i := 5) (N := some 126) (v := ?_) (a' := ?_) #[true, true, true, true, true, true, false, false, false, false, false, false, false, false, false] rfl rfl (by kernel_rfl) (fun _ _ _ h => h) (Or.inl ⟨by rfl, ?_⟩) hHeld ?_ ?_
                  rotate_left
                  · rintro w' ⟨h1, h2⟩
                    go_simp
                    with_reducible rfl
                  rotate_left
                  · simp only [Act.put, List.setIfInBounds_toArray, List.set_cons_zero, List.set_cons_succ, i64_w, i32_w]
                    rfl
                  refine last_ (i := 6) (N := some 127) #[true, true, true, true, true, true, true, false, false, false, false, false, false, false, false] rfl rfl (by kernel_rfl) (by decide) (fun K hK => ?_)
                  obtain ⟨h1, h2⟩ := hHeld
                  refine goes_ Try.func13 (by kernel_rfl) rfl #[.pointer (some ⟨p, 0, none⟩), .int .i64 aN] (by rfl) rfl rfl (by simp only [List.map_toArray, List.map_cons, List.map_nil]; rfl) ?_
                  with_reducible refine (HFd.out.crash HBd.out HSLx.out HXd.out aN kc HKC.out).mono ?_
                  rintro e w3 ⟨p3, rfl, hp3, hd, hb⟩
                  refine ⟨_, rfl, ?_⟩
                  refine hK.out _ _ ?_
                  clear hK K
                  rw [HYC.out] at hd
                  have HP3 := Lib.hid (show w.heap.size ≤ p3 by have := HBd.out.size; omega)
                  have HD3 := Lib.hid (show Dq w3 w.heap.size p3 yc yc.length by rw [HYL.out]; exact hd)
                  have HB3 := Lib.hid (below_then HBd.out HBd.out.size hb)
                  have HK3 := Lib.hid (HKd.out.below hb)
                  have HBLK3 := Lib.hid (blk_below HBLKd.out hb)
                  clear hp3 hd hb
                  refine norm_ (a' := ?_) ?_ ?_
                  rotate_left
                  · show Act.put _ (some 127) _ = _
                    simp only [Act.put, List.setIfInBounds_toArray, List.set_cons_zero, List.set_cons_succ, i64_w, i32_w]
                    rfl
                  refine last_ (i := 7) (N := some 128) #[true, true, true, true, true, true, true, true, false, false, false, false, false, false, false] rfl rfl (by kernel_rfl) (by decide) (fun K hK => ?_)
                  refine goes_ Try.func19 (by kernel_rfl) rfl #[.pointer (some ⟨p3, 0, none⟩)] (by rfl) rfl rfl (by simp only [List.map_toArray, List.map_cons, List.map_nil]; rfl) ?_
                  with_reducible refine (open_good w p3 yc _ HD3.out HP3.out HB3.out HOy.out HYX.out HSC.out HGD.out).mono ?_
                  rintro e w4 ⟨q4, A4, n4, c4, rfl, hq4, hlg, hf, hn4, hc4, hC4, hb, hkb⟩
                  refine ⟨_, rfl, ?_⟩
                  refine hK.out _ _ ?_
                  clear hK K
                  have HG4 := Lib.hid hlg
                  rw [HY2.out] at hf
                  have HF4 := Lib.hid hf
                  have HN4 := Lib.hid hn4
                  have HL4 := Lib.hid hc4
                  have HC4 := Lib.hid hC4
                  have HB4 := Lib.hid hb
                  have HK4 := Lib.hid (show Rk w4 r (strOfNums x4) (s : Int) L2 F from (stays_keep hkb).blk HK3.out (by obtain ⟨_, _, hD, _⟩ := HD3.out; exact blk_ne HK3.out hD (by decide)) (by decide))
                  have HBLK4 := Lib.hid ((stays_keep hkb).blk HBLK3.out (by obtain ⟨_, _, hD, _⟩ := HD3.out; exact blk_ne HBLK3.out hD (by decide)) (by decide))
                  clear hq4 hlg hf hn4 hc4 hC4 hb hkb
                  refine norm_ (a' := ?_) ?_ ?_
                  rotate_left
                  · show Act.put _ (some 128) _ = _
                    simp only [Act.put, List.setIfInBounds_toArray, List.set_cons_zero, List.set_cons_succ, i64_w, i32_w]
                    rfl
                  refine pure_ (i := 8) (N := some 120) (v := ?_) (a' := ?_) #[true, true, true, true, true, true, true, true, true, false, false, false, false, false, false] rfl rfl (by kernel_rfl) (fun _ _ _ h => h) (Or.inl ⟨by rfl, ?_⟩) ?_ ?_
                  rotate_left
                  · intro w'
                    go_simp
                    with_reducible rfl
                  rotate_left
                  · simp only [Act.put, List.setIfInBounds_toArray, List.set_cons_zero, List.set_cons_succ, i64_w, i32_w]
                    rfl
                  refine pure_ (i := 9) (N := some 129) (v := ?_) (a' := ?_) #[true, true, true, true, true, true, true, true, true, true, false, false, false, false, false] rfl rfl (by kernel_rfl) (fun _ _ _ h => h) (Or.inl ⟨by rfl, ?_⟩) ?_ ?_
                  rotate_left
                  · intro w'
                    go_simp
                    with_reducible rfl
                  rotate_left
                  · simp only [Act.put, List.setIfInBounds_toArray, List.set_cons_zero, List.set_cons_succ, i64_w, i32_w]
                    rfl
                  refine pure_ (i := 10) (N := some 130) (v := ?_) (a' := ?_) #[true, true, true, true, true, true, true, true, true, true, true, false, false, false, false] rfl rfl (by kernel_rfl) (fun _ _ _ h => h) (Or.inl ⟨by rfl, ?_⟩) ?_ ?_
                  rotate_left
                  · intro w'
                    go_simp
                    with_reducible rfl
                  rotate_left
                  · simp only [Act.put, List.setIfInBounds_toArray, List.set_cons_zero, List.set_cons_succ, i64_w, i32_w]
                    rfl
                  refine pure_ (i := 11) (N := some 131) (v := ?_) (a' := ?_) #[true, true, true, true, true, true, true, true, true, true, true, true, false, false, false] rfl rfl (by kernel_rfl) (fun _ _ _ h => h) (Or.inl ⟨by rfl, ?_⟩) ?_ ?_
                  rotate_left
                  · intro w'
                    go_simp
                    with_reducible rfl
                  rotate_left
                  · simp only [Act.put, List.setIfInBounds_toArray, List.set_cons_zero, List.set_cons_succ, i64_w, i32_w]
                    rfl
                  refine pure_ (i := 12) (N := some 12) (v := ?_) (a' := ?_) #[true, true, true, true, true, true, true, true, true, true, true, true, true, false, false] rfl rfl (by kernel_rfl) (fun _ _ _ h => h) (Or.inl ⟨by rfl, ?_⟩) ?_ ?_
                  rotate_left
                  · intro w'
                    go_simp
                    with_reducible rfl
                  rotate_left
                  · simp only [Act.put, List.setIfInBounds_toArray, List.set_cons_zero, List.set_cons_succ, i64_w, i32_w]
                    rfl
                  refine pure_ (i := 13) (N := some 13) (v := ?_) (a' := ?_) #[true, true, true, true, true, true, true, true, true, true, true, true, true, true, false] rfl rfl (by kernel_rfl) (fun _ _ _ h => h) (Or.inl ⟨by rfl, ?_⟩) ?_ ?_
                  rotate_left
                  · intro w'
                    go_simp
                    with_reducible rfl
                  rotate_left
                  · simp only [Act.put, List.setIfInBounds_toArray, List.set_cons_zero, List.set_cons_succ, i64_w, i32_w]
                    rfl
                  refine pure_ (i := 14) (N := some 14) (v := ?_) (a' := ?_) #[true, true, true, true, true, true, true, true, true, true, true, true, true, true, true] rfl rfl (by kernel_rfl) (fun _ _ _ h => h) (Or.inl ⟨by rfl, ?_⟩) ?_ ?_
                  rotate_left
                  · intro w'
                    go_simp
                    with_reducible rfl
                  rotate_left
                  · simp only [Act.put, List.setIfInBounds_toArray, List.set_cons_zero, List.set_cons_succ, i64_w, i32_w]
                    rfl
                  refine done_ (by kernel_rfl) ?_
                  have mc0 : w4.cell? ⟨r, 0, none⟩ = some (.string (strOfNums x4)) := (blk_cell HK4.out 0).trans rfl
                  have mc1 : w4.cell? ⟨r, 1, none⟩ = some (.int .i64 (s : Int)) := (blk_cell HK4.out 1).trans rfl
                  have mc2 : w4.cell? ⟨r, 2, none⟩ = some (.int .i64 L2) := (blk_cell HK4.out 2).trans rfl
                  have mc3 : w4.cell? ⟨r, 3, none⟩ = some (.bool F) := (blk_cell HK4.out 3).trans rfl
                  have nb4 := (blk_cell HBLK4.out 1).trans (show (#[.int .i64 aK, .int .i64 aN, .slice aA ax.length ac] : Array Value)[1]? = some (.int .i64 aN) from rfl)
                  go_upto_region 33 with (first
                    | (go_at_call 25; refine (ref_crash (x4) s kc L2 F aN _ HSLx.out HXd.out HKC.out).mono ?_; rintro e w5 ⟨rfl, hb⟩; rw [HYC.out]; have HF5 := Lib.hid (HF4.out.below hb); have HG5 := Lib.hid (show Lg w5 q4 p3 from blk_below HG4.out hb); have HK5 := Lib.hid (HK4.out.below hb); have HC5 := Lib.hid (Kd.C_below HC4.out hb); have HB5 := Lib.hid (below_then HB4.out HB4.out.size hb); clear hb)
                    | (go_at_call 24; refine (ref_open_good yc kc 0 rowc uc ec _ HOy.out HYX.out HSC.out HGD.out HYL.out.symm).mono ?_; rintro e w6 ⟨A6, n6, c6, rfl, hn6, hc6, hC6, hb⟩; rw [HY2.out]; have HN6 := Lib.hid hn6; have HL6 := Lib.hid hc6; have HC6 := Lib.hid hC6; have HF6 := Lib.hid (HF5.out.below hb); have HG6 := Lib.hid (show Lg w6 q4 p3 from blk_below HG5.out hb); have HK6 := Lib.hid (HK5.out.below hb); have HC46 := Lib.hid (Kd.C_below HC5.out hb); have HB6 := Lib.hid (below_then HB5.out HB5.out.size hb); clear hn6 hc6 hC6 hb)
                    | (go_at_call 20; refine (same_rows A4 A6 c4 c6 n4 n6 rowc _ HN4.out HN6.out (Kd.C_alloc HC46.out _) HL4.out (Kd.C_alloc HC6.out _) HL6.out (by have := HN4.out; have := HUB.out; have := HYX.out; omega)).mono ?_; rintro e w7 ⟨rfl, hb⟩; have HY7 := Lib.hid (show w7.heap[w6.heap.size]? = some (.cells #[.string (strOfNums y2), .int .i64 (uc : Int), .int .i64 0, .bool false] 50 (0, 0)) from blk_below (blk_new w6 _) hb); have hb7 := below_then (below_alloc (Below.refl w6.heap.size w6) (.cells #[.string (strOfNums y2), .int .i64 (uc : Int), .int .i64 0, .bool false] 50)) (below_alloc (Below.refl w6.heap.size w6) (.cells #[.string (strOfNums y2), .int .i64 (uc : Int), .int .i64 0, .bool false] 50)).size hb; have HF7 := Lib.hid (HF6.out.below hb7); have HG7 := Lib.hid (show Lg w7 q4 p3 from blk_below HG6.out hb7); have HK7 := Lib.hid (HK6.out.below hb7); have HB7 := Lib.hid (below_then HB6.out HB6.out.size hb7); clear hb hb7)
                    | fail)
                  have nc0 : w7.cell? ⟨r, 0, none⟩ = some (.string (strOfNums x4)) := (blk_cell HK7.out 0).trans rfl
                  have nc1 : w7.cell? ⟨r, 1, none⟩ = some (.int .i64 (s : Int)) := (blk_cell HK7.out 1).trans rfl
                  have nc2 : w7.cell? ⟨r, 2, none⟩ = some (.int .i64 L2) := (blk_cell HK7.out 2).trans rfl
                  have nc3 : w7.cell? ⟨r, 3, none⟩ = some (.bool F) := (blk_cell HK7.out 3).trans rfl
                  have nf0 := blk_frozen HK7.out 0
                  have nf1 := blk_frozen HK7.out 1
                  have nf2 := blk_frozen HK7.out 2
                  have nf3 := blk_frozen HK7.out 3
                  have oc0 : w7.cell? ⟨w6.heap.size, 0, none⟩ = some (.string (strOfNums y2)) := (blk_cell HY7.out 0).trans rfl
                  have oc1 : w7.cell? ⟨w6.heap.size, 1, none⟩ = some (.int .i64 (uc : Int)) := (blk_cell HY7.out 1).trans rfl
                  have oc2 : w7.cell? ⟨w6.heap.size, 2, none⟩ = some (.int .i64 0) := (blk_cell HY7.out 2).trans rfl
                  have oc3 : w7.cell? ⟨w6.heap.size, 3, none⟩ = some (.bool false) := (blk_cell HY7.out 3).trans rfl
                  go_region
                  go_wp2_with fail
                  have HFz := Lib.hid (show Fq (-1) (put4 w7 r (strOfNums y2) (uc : Int) 0 false) w.heap.size p3 (y2) (uc) from Fq.keep HF7.out HK7.out (put4_keep (KeepBut.refl _ _ _)))
                  have HGz := Lib.hid (show Lg (put4 w7 r (strOfNums y2) (uc : Int) 0 false) q4 p3 from (put4_other (blk_ne HG7.out HK7.out (by decide))).trans HG7.out)
                  have HKz := Lib.hid (show Rk (put4 w7 r (strOfNums y2) (uc : Int) 0 false) r (strOfNums y2) (uc : Int) 0 false from put4_blk HK7.out)
                  have HBz := Lib.hid (show Below w.heap.size w (put4 w7 r (strOfNums y2) (uc : Int) 0 false) from put4_below HB7.out HRB.out)
                  unfold put4 at HFz HGz HKz HBz
                  generalize ((((w7.setCell ⟨r, 0, none⟩ (.string (strOfNums y2))).setCell ⟨r, 1, none⟩ (.int .i64 (uc : Int))).setCell ⟨r, 2, none⟩ (.int .i64 0)).setCell ⟨r, 3, none⟩ (.bool false)) = w8 at HFz HGz HKz HBz ⊢
                  have hbd8 : Below w8.heap.size w8 w8.drew := below_drew (Below.refl _ _)
                  have HFy := Lib.hid (HFz.out.below hbd8)
                  have HGy := Lib.hid (show Lg w8.drew q4 p3 from blk_below HGz.out hbd8)
                  have HKy := Lib.hid (HKz.out.below hbd8)
                  have HBy := Lib.hid (below_drew HBz.out)
                  have HSq := Lib.hid (show ∃ rows, scan y2 = (rows, y2.length, 0) by rw [HYU.out, ← HY2.out]; exact ⟨_, scan_take HOy.out HSC.out⟩)
                  have HOq := Lib.hid (show okb y2 = true by rw [← HY2.out]; exact okb_take HOy.out _)
                  have HXq := Lib.hid (show y2.length ≤ 308 * (k + 1) by have := HYU.out; have := HUB.out.1; have := HYL.out; have := HK9.out; have := HXx.out; omega)
                  have HSLq := Lib.hid (show uc ≤ y2.length by have := HYU.out; omega)
                  have HFZ9 := Lib.hid (show Fz (-1) 0 false from .inl ⟨rfl, by decide⟩)
                  have HRG9 := Lib.hid (show (-1 : Int) ≤ -1 ∧ (-1 : Int) ≤ 9223372036854775807 by decide)
                  exact tail HFy HGy HKy HBy HP3 HFZ9 HSq HOq HXq HSLq HRG9
                · have HE0 := Lib.hid (show ec ≠ 0 from fun e => hgd (.inl e))
                  have HE10 := Lib.hid (show ec ≠ 10 from fun e => hgd (.inr e))
                  clear hgd
                  have te : (ec != ec) = false := by simp
                  have te0 : (ec != 0) = true := by have := HE0.out; simp [this]
                  go_upto_region 27 with fail
                  refine start_ (n := 15) (S := fun w' => (w'.cell? ⟨q, 0, none⟩ = some (.pointer (some ⟨p, 0, none⟩))) ∧ (w'.cell? ⟨wr.heap.size, 1, none⟩ = some (.int .i64 aN))) (ds := [6, 7]) #[false, false, false, false, false, false, false, false, false, false, false, false, false, false, false] (by kernel_rfl) rfl rfl ⟨lqd, lnd⟩ (fun hHeld => ?_)
                  refine pure_ (i := 0) (N := some 121) (v := ?_) (a' := ?_) #[true, false, false, false, false, false, false, false, false, false, false, false, false, false, false] rfl rfl (by kernel_rfl) (fun _ _ _ h => h) (Or.inl ⟨by rfl, ?_⟩) ?_ ?_
                  rotate_left
                  · intro w'
                    go_simp
                    with_reducible rfl
                  rotate_left
                  · simp only [Act.put, List.setIfInBounds_toArray, List.set_cons_zero, List.set_cons_succ, i64_w, i32_w]
                    rfl
                  refine pure_ (i := 1) (N := some 122) (v := ?_) (a' := ?_) #[true, true, false, false, false, false, false, false, false, false, false, false, false, false, false] rfl rfl (by kernel_rfl) (fun _ _ _ h => h) (Or.inl ⟨by rfl, ?_⟩) ?_ ?_
                  rotate_left
                  · intro w'
                    go_simp
                    with_reducible rfl
                  rotate_left
                  · simp only [Act.put, List.setIfInBounds_toArray, List.set_cons_zero, List.set_cons_succ, i64_w, i32_w]
                    rfl
                  refine pure_ (i := 2) (N := some 123) (v := ?_) (a' := ?_) #[true, true, true, false, false, false, false, false, false, false, false, false, false, false, false] rfl rfl (by kernel_rfl) (fun _ _ _ h => h) (Or.inl ⟨by rfl, ?_⟩) ?_ ?_
                  rotate_left
                  · intro w'
                    go_simp
                    with_reducible rfl
                  rotate_left
                  · simp only [Act.put, List.setIfInBounds_toArray, List.set_cons_zero, List.set_cons_succ, i64_w, i32_w]
                    rfl
                  refine pure_ (i := 4) (N := some 125) (v := ?_) (a' := ?_) #[true, true, true, false, true, false, false, false, false, false, false, false, false, false, false] rfl rfl (by kernel_rfl) (fun _ _ _ h => h) (Or.inl ⟨by rfl, ?_⟩) ?_ ?_
                  rotate_left
                  · intro w'
                    go_simp
                    with_reducible rfl
                  rotate_left
                  · simp only [Act.put, List.setIfInBounds_toArray, List.set_cons_zero, List.set_cons_succ, i64_w, i32_w]
                    rfl
                  refine take_ (i := 3) (N := some 124) (v := ?_) (a' := ?_) #[true, true, true, true, true, false, false, false, false, false, false, false, false, false, false] rfl rfl (by kernel_rfl) (fun _ _ _ h => h) (Or.inl ⟨by rfl, ?_⟩) hHeld ?_ ?_
                  rotate_left
                  · rintro w' ⟨h1, h2⟩
                    go_simp
                    with_reducible rfl
                  rotate_left
                  · simp only [Act.put, List.setIfInBounds_toArray, List.set_cons_zero, List.set_cons_succ, i64_w, i32_w]
                    rfl
                  refine take_ (i := 5) (N := some 126) (v := ?_) (a' := ?_) #[true, true, true, true, true, true, false, false, false, false, false, false, false, false, false] rfl rfl (by kernel_rfl) (fun _ _ _ h => h) (Or.inl ⟨by rfl, ?_⟩) hHeld ?_ ?_
                  rotate_left
                  · rintro w' ⟨h1, h2⟩
                    go_simp
                    with_reducible rfl
                  rotate_left
                  · simp only [Act.put, List.setIfInBounds_toArray, List.set_cons_zero, List.set_cons_succ, i64_w, i32_w]
                    rfl
                  refine last_ (i := 6) (N := some 127) #[true, true, true, true, true, true, true, false, false, false, false, false, false, false, false] rfl rfl (by kernel_rfl) (by decide) (fun K hK => ?_)
                  obtain ⟨h1, h2⟩ := hHeld
                  refine goes_ Try.func13 (by kernel_rfl) rfl #[.pointer (some ⟨p, 0, none⟩), .int .i64 aN] (by rfl) rfl rfl (by simp only [List.map_toArray, List.map_cons, List.map_nil]; rfl) ?_
                  with_reducible refine (HFd.out.crash HBd.out HSLx.out HXd.out aN kc HKC.out).mono ?_
                  rintro e w3 ⟨p3, rfl, hp3, hd, hb⟩
                  refine ⟨_, rfl, ?_⟩
                  refine hK.out _ _ ?_
                  clear hK K
                  rw [HYC.out] at hd
                  have HP3 := Lib.hid (show w.heap.size ≤ p3 by have := HBd.out.size; omega)
                  have HD3 := Lib.hid (show Dq w3 w.heap.size p3 yc yc.length by rw [HYL.out]; exact hd)
                  have HB3 := Lib.hid (below_then HBd.out HBd.out.size hb)
                  have HK3 := Lib.hid (HKd.out.below hb)
                  have HBLK3 := Lib.hid (blk_below HBLKd.out hb)
                  clear hp3 hd hb
                  refine norm_ (a' := ?_) ?_ ?_
                  rotate_left
                  · show Act.put _ (some 127) _ = _
                    simp only [Act.put, List.setIfInBounds_toArray, List.set_cons_zero, List.set_cons_succ, i64_w, i32_w]
                    rfl
                  refine last_ (i := 7) (N := some 128) #[true, true, true, true, true, true, true, true, false, false, false, false, false, false, false] rfl rfl (by kernel_rfl) (by decide) (fun K hK => ?_)
                  refine goes_ Try.func19 (by kernel_rfl) rfl #[.pointer (some ⟨p3, 0, none⟩)] (by rfl) rfl rfl (by simp only [List.map_toArray, List.map_cons, List.map_nil]; rfl) ?_
                  with_reducible refine (open_bad w p3 yc _ _ HD3.out HOy.out HYX.out HSC.out HE0.out HE10.out).mono ?_
                  rintro e w4 ⟨rfl, hb⟩
                  refine ⟨_, rfl, ?_⟩
                  refine hK.out _ _ ?_
                  clear hK K
                  have HB4 := Lib.hid (below_then HB3.out HB3.out.size hb)
                  have HK4 := Lib.hid (HK3.out.below hb)
                  have HBLK4 := Lib.hid (blk_below HBLK3.out hb)
                  clear hb
                  refine norm_ (a' := ?_) ?_ ?_
                  rotate_left
                  · show Act.put _ (some 128) _ = _
                    simp only [Act.put, List.setIfInBounds_toArray, List.set_cons_zero, List.set_cons_succ, i64_w, i32_w]
                    rfl
                  refine pure_ (i := 8) (N := some 120) (v := ?_) (a' := ?_) #[true, true, true, true, true, true, true, true, true, false, false, false, false, false, false] rfl rfl (by kernel_rfl) (fun _ _ _ h => h) (Or.inl ⟨by rfl, ?_⟩) ?_ ?_
                  rotate_left
                  · intro w'
                    go_simp
                    with_reducible rfl
                  rotate_left
                  · simp only [Act.put, List.setIfInBounds_toArray, List.set_cons_zero, List.set_cons_succ, i64_w, i32_w]
                    rfl
                  refine pure_ (i := 9) (N := some 129) (v := ?_) (a' := ?_) #[true, true, true, true, true, true, true, true, true, true, false, false, false, false, false] rfl rfl (by kernel_rfl) (fun _ _ _ h => h) (Or.inl ⟨by rfl, ?_⟩) ?_ ?_
                  rotate_left
                  · intro w'
                    go_simp
                    with_reducible rfl
                  rotate_left
                  · simp only [Act.put, List.setIfInBounds_toArray, List.set_cons_zero, List.set_cons_succ, i64_w, i32_w]
                    rfl
                  refine pure_ (i := 10) (N := some 130) (v := ?_) (a' := ?_) #[true, true, true, true, true, true, true, true, true, true, true, false, false, false, false] rfl rfl (by kernel_rfl) (fun _ _ _ h => h) (Or.inl ⟨by rfl, ?_⟩) ?_ ?_
                  rotate_left
                  · intro w'
                    go_simp
                    with_reducible rfl
                  rotate_left
                  · simp only [Act.put, List.setIfInBounds_toArray, List.set_cons_zero, List.set_cons_succ, i64_w, i32_w]
                    rfl
                  refine pure_ (i := 11) (N := some 131) (v := ?_) (a' := ?_) #[true, true, true, true, true, true, true, true, true, true, true, true, false, false, false] rfl rfl (by kernel_rfl) (fun _ _ _ h => h) (Or.inl ⟨by rfl, ?_⟩) ?_ ?_
                  rotate_left
                  · intro w'
                    go_simp
                    with_reducible rfl
                  rotate_left
                  · simp only [Act.put, List.setIfInBounds_toArray, List.set_cons_zero, List.set_cons_succ, i64_w, i32_w]
                    rfl
                  refine pure_ (i := 12) (N := some 12) (v := ?_) (a' := ?_) #[true, true, true, true, true, true, true, true, true, true, true, true, true, false, false] rfl rfl (by kernel_rfl) (fun _ _ _ h => h) (Or.inl ⟨by rfl, ?_⟩) ?_ ?_
                  rotate_left
                  · intro w'
                    go_simp
                    with_reducible rfl
                  rotate_left
                  · simp only [Act.put, List.setIfInBounds_toArray, List.set_cons_zero, List.set_cons_succ, i64_w, i32_w]
                    rfl
                  refine pure_ (i := 13) (N := some 13) (v := ?_) (a' := ?_) #[true, true, true, true, true, true, true, true, true, true, true, true, true, true, false] rfl rfl (by kernel_rfl) (fun _ _ _ h => h) (Or.inl ⟨by rfl, ?_⟩) ?_ ?_
                  rotate_left
                  · intro w'
                    go_simp
                    with_reducible rfl
                  rotate_left
                  · simp only [Act.put, List.setIfInBounds_toArray, List.set_cons_zero, List.set_cons_succ, i64_w, i32_w]
                    rfl
                  refine pure_ (i := 14) (N := some 14) (v := ?_) (a' := ?_) #[true, true, true, true, true, true, true, true, true, true, true, true, true, true, true] rfl rfl (by kernel_rfl) (fun _ _ _ h => h) (Or.inl ⟨by rfl, ?_⟩) ?_ ?_
                  rotate_left
                  · intro w'
                    go_simp
                    with_reducible rfl
                  rotate_left
                  · simp only [Act.put, List.setIfInBounds_toArray, List.set_cons_zero, List.set_cons_succ, i64_w, i32_w]
                    rfl
                  refine done_ (by kernel_rfl) ?_
                  have mc0 : w4.cell? ⟨r, 0, none⟩ = some (.string (strOfNums x4)) := (blk_cell HK4.out 0).trans rfl
                  have mc1 : w4.cell? ⟨r, 1, none⟩ = some (.int .i64 (s : Int)) := (blk_cell HK4.out 1).trans rfl
                  have mc2 : w4.cell? ⟨r, 2, none⟩ = some (.int .i64 L2) := (blk_cell HK4.out 2).trans rfl
                  have mc3 : w4.cell? ⟨r, 3, none⟩ = some (.bool F) := (blk_cell HK4.out 3).trans rfl
                  have nb4 := (blk_cell HBLK4.out 1).trans (show (#[.int .i64 aK, .int .i64 aN, .slice aA ax.length ac] : Array Value)[1]? = some (.int .i64 aN) from rfl)
                  go_wp2_with (first
                    | (go_at_call 25; refine (ref_crash (x4) s kc L2 F aN _ HSLx.out HXd.out HKC.out).mono ?_; rintro e w5 ⟨rfl, hb⟩; rw [HYC.out]; have HB5 := Lib.hid (below_then HB4.out HB4.out.size hb); clear hb)
                    | (go_at_call 24; refine (ref_open_bad yc (kc : Int) 0 false rowc uc ec _ HOy.out HYX.out HSC.out HE0.out HE10.out).mono ?_; rintro e w6 ⟨rfl, hb⟩; have HB6 := Lib.hid (below_then HB5.out HB5.out.size hb); clear hb)
                    | (go_at_call 20; refine (same_rows none none 0 0 0 0 [] _ rfl rfl (Kd.C_nil _ _) (Nat.le_refl _) (Kd.C_nil _ _) (Nat.le_refl _) (by decide)).mono ?_; rintro e w7 ⟨rfl, hb⟩; have hal := below_alloc HB6.out (.cells #[.string (strOfNums yc), .int .i64 (kc : Int), .int .i64 0, .bool false] 50); have HB7 := Lib.hid (below_then hal hal.size hb); clear hb hal)
                    | fail)
                  exact bodyPost_ret (v := .bool true) (by simp [results, Try.results7, go_sem]) rfl ⟨rfl, HB7.out⟩
              · have j4 : (aK == 4) = false := by simp [k4]
                by_cases k5 : aK = 5
                · have j5 : (aK == 5) = true := by simp [k5]
                  clear k0 k1 k2 k4 k5
                  obtain ⟨fn, hfn⟩ : ∃ y : Int, max aN (-1) = y := ⟨_, rfl⟩
                  have HFN := Lib.hid hfn
                  clear hfn
                  obtain ⟨Ln, hLn⟩ : ∃ y : Int, mx aN 0 = y := ⟨_, rfl⟩
                  have HLN := Lib.hid hLn
                  clear hLn
                  obtain ⟨Fn, hFn⟩ : ∃ y : Bool, decide (aN ≥ 0) = y := ⟨_, rfl⟩
                  have HBN := Lib.hid hFn
                  clear hFn
                  have HFZ2 := Lib.hid (show Fz fn Ln Fn by rw [← HFN.out, ← HLN.out, ← HBN.out]; exact fz_fuse aN)
                  have HRG2 := Lib.hid (show -1 ≤ fn ∧ fn ≤ 9223372036854775807 by rw [← HFN.out]; have := HWN.out; omega)
                  have hbd : Below (wr.alloc (.cells #[.int .i64 aK, .int .i64 aN, .slice aA ax.length ac] 47)).heap.size (wr.alloc (.cells #[.int .i64 aK, .int .i64 aN, .slice aA ax.length ac] 47)) (wr.alloc (.cells #[.int .i64 aK, .int .i64 aN, .slice aA ax.length ac] 47)).drew := below_drew (Below.refl _ _)
                  have HFd := Lib.hid (HFa.out.below hbd)
                  have HGd := Lib.hid (show Lg (wr.alloc (.cells #[.int .i64 aK, .int .i64 aN, .slice aA ax.length ac] 47)).drew q p from blk_below HGa.out hbd)
                  have HKd := Lib.hid (HKa.out.below hbd)
                  have HBd := Lib.hid (below_drew HBa.out)
                  have HBLKd := Lib.hid (blk_below HBLK.out hbd)
                  clear hbd
                  have lqd := (blk_cell HGd.out 0).trans (show (#[.pointer (some ⟨p, 0, none⟩)] : Array Value)[0]? = some (.pointer (some ⟨p, 0, none⟩)) from rfl)
                  have lnd := (blk_cell HBLKd.out 1).trans (show (#[.int .i64 aK, .int .i64 aN, .slice aA ax.length ac] : Array Value)[1]? = some (.int .i64 aN) from rfl)
                  have lbd := (blk_cell HBLKd.out 2).trans (show (#[.int .i64 aK, .int .i64 aN, .slice aA ax.length ac] : Array Value)[2]? = some (.slice aA ax.length ac) from rfl)
                  go_upto_region 35 with fail
                  refine start_ (n := 7) (S := fun w' => (w'.cell? ⟨q, 0, none⟩ = some (.pointer (some ⟨p, 0, none⟩))) ∧ (w'.cell? ⟨wr.heap.size, 1, none⟩ = some (.int .i64 aN))) (ds := [6]) #[false, false, false, false, false, false, false] (by kernel_rfl) rfl rfl ⟨lqd, lnd⟩ (fun hHeld => ?_)
                  refine pure_ (i := 0) (N := some 158) (v := ?_) (a' := ?_) #[true, false, false, false, false, false, false] rfl rfl (by kernel_rfl) (fun _ _ _ h => h) (Or.inl ⟨by rfl, ?_⟩) ?_ ?_
                  rotate_left
                  · intro w'
                    go_simp
                    with_reducible rfl
                  rotate_left
                  · simp only [Act.put, List.setIfInBounds_toArray, List.set_cons_zero, List.set_cons_succ, i64_w, i32_w]
                    rfl
                  refine pure_ (i := 1) (N := some 159) (v := ?_) (a' := ?_) #[true, true, false, false, false, false, false] rfl rfl (by kernel_rfl) (fun _ _ _ h => h) (Or.inl ⟨by rfl, ?_⟩) ?_ ?_
                  rotate_left
                  · intro w'
                    go_simp
                    with_reducible rfl
                  rotate_left
                  · simp only [Act.put, List.setIfInBounds_toArray, List.set_cons_zero, List.set_cons_succ, i64_w, i32_w]
                    rfl
                  refine pure_ (i := 2) (N := some 160) (v := ?_) (a' := ?_) #[true, true, true, false, false, false, false] rfl rfl (by kernel_rfl) (fun _ _ _ h => h) (Or.inl ⟨by rfl, ?_⟩) ?_ ?_
                  rotate_left
                  · intro w'
                    go_simp
                    with_reducible rfl
                  rotate_left
                  · simp only [Act.put, List.setIfInBounds_toArray, List.set_cons_zero, List.set_cons_succ, i64_w, i32_w]
                    rfl
                  refine pure_ (i := 4) (N := some 162) (v := ?_) (a' := ?_) #[true, true, true, false, true, false, false] rfl rfl (by kernel_rfl) (fun _ _ _ h => h) (Or.inl ⟨by rfl, ?_⟩) ?_ ?_
                  rotate_left
                  · intro w'
                    go_simp
                    with_reducible rfl
                  rotate_left
                  · simp only [Act.put, List.setIfInBounds_toArray, List.set_cons_zero, List.set_cons_succ, i64_w, i32_w]
                    rfl
                  refine take_ (i := 3) (N := some 161) (v := ?_) (a' := ?_) #[true, true, true, true, true, false, false] rfl rfl (by kernel_rfl) (fun _ _ _ h => h) (Or.inl ⟨by rfl, ?_⟩) hHeld ?_ ?_
                  rotate_left
                  · rintro w' ⟨h1, h2⟩
                    go_simp
                    with_reducible rfl
                  rotate_left
                  · simp only [Act.put, List.setIfInBounds_toArray, List.set_cons_zero, List.set_cons_succ, i64_w, i32_w]
                    rfl
                  refine take_ (i := 5) (N := some 163) (v := ?_) (a' := ?_) #[true, true, true, true, true, true, false] rfl rfl (by kernel_rfl) (fun _ _ _ h => h) (Or.inl ⟨by rfl, ?_⟩) hHeld ?_ ?_
                  rotate_left
                  · rintro w' ⟨h1, h2⟩
                    go_simp
                    with_reducible rfl
                  rotate_left
                  · simp only [Act.put, List.setIfInBounds_toArray, List.set_cons_zero, List.set_cons_succ, i64_w, i32_w]
                    rfl
                  refine last_ (i := 6) (N := some 164) #[true, true, true, true, true, true, true] rfl rfl (by kernel_rfl) (by decide) (fun K hK => ?_)
                  obtain ⟨h1, h2⟩ := hHeld
                  refine goes_ Try.func26 (by kernel_rfl) rfl #[.pointer (some ⟨p, 0, none⟩), .int .i64 aN] (by rfl) rfl rfl (by simp only [List.map_toArray, List.map_cons, List.map_nil]; rfl) ?_
                  with_reducible refine (HFd.out.fuse HP.out HBd.out aN).mono ?_
                  rintro e w3 ⟨rfl, hf, hb, hst⟩
                  refine ⟨_, rfl, ?_⟩
                  refine hK.out _ _ ?_
                  clear hK K
                  rw [HFN.out] at hf
                  have HF3 := Lib.hid hf
                  have HB3 := Lib.hid hb
                  have HG3 := Lib.hid (show Lg w3 q p from hst.blk HGd.out (by obtain ⟨_, _, hD, _⟩ := HFd.out; exact blk_ne HGd.out hD (by decide)) (by decide))
                  have HK3 := Lib.hid (show Rk w3 r (strOfNums xs) (s : Int) L F from hst.blk HKd.out (by obtain ⟨_, _, hD, _⟩ := HFd.out; exact blk_ne HKd.out hD (by decide)) (by decide))
                  have HBLK3 := Lib.hid (hst.blk HBLKd.out (by have := HF.out.lt; omega) (by decide))
                  clear hf hb hst
                  refine norm_ (a' := ?_) ?_ ?_
                  rotate_left
                  · show Act.put _ (some 164) _ = _
                    simp only [Act.put, List.setIfInBounds_toArray, List.set_cons_zero, List.set_cons_succ, i64_w, i32_w]
                    rfl
                  refine done_ (by kernel_rfl) ?_
                  have mc0 : w3.cell? ⟨r, 0, none⟩ = some (.string (strOfNums xs)) := (blk_cell HK3.out 0).trans rfl
                  have mc1 : w3.cell? ⟨r, 1, none⟩ = some (.int .i64 (s : Int)) := (blk_cell HK3.out 1).trans rfl
                  have mc2 : w3.cell? ⟨r, 2, none⟩ = some (.int .i64 L) := (blk_cell HK3.out 2).trans rfl
                  have mc3 : w3.cell? ⟨r, 3, none⟩ = some (.bool F) := (blk_cell HK3.out 3).trans rfl
                  have nb3 := (blk_cell HBLK3.out 1).trans (show (#[.int .i64 aK, .int .i64 aN, .slice aA ax.length ac] : Array Value)[1]? = some (.int .i64 aN) from rfl)
                  go_wp2_with (first
                    | (go_at_call 27; refine (ref_fuse (strOfNums xs) s L F aN _).mono ?_; rintro e w4 ⟨rfl, hb⟩; rw [HLN.out, HBN.out]; have HF4 := Lib.hid (HF3.out.below hb); have HG4 := Lib.hid (show Lg w4 q p from blk_below HG3.out hb); have HK4 := Lib.hid (HK3.out.below hb); have HBLK4 := Lib.hid (blk_below HBLK3.out hb); have HB4 := Lib.hid (below_then HB3.out HB3.out.size hb); clear hb; have nc0 : w4.cell? ⟨r, 0, none⟩ = some (.string (strOfNums xs)) := (blk_cell HK4.out 0).trans rfl; have nc1 : w4.cell? ⟨r, 1, none⟩ = some (.int .i64 (s : Int)) := (blk_cell HK4.out 1).trans rfl; have nc2 : w4.cell? ⟨r, 2, none⟩ = some (.int .i64 L) := (blk_cell HK4.out 2).trans rfl; have nc3 : w4.cell? ⟨r, 3, none⟩ = some (.bool F) := (blk_cell HK4.out 3).trans rfl; have nf0 := blk_frozen HK4.out 0; have nf1 := blk_frozen HK4.out 1; have nf2 := blk_frozen HK4.out 2; have nf3 := blk_frozen HK4.out 3)
                    | fail)
                  have HFz := Lib.hid (show Fq (fn) (put4 w4 r (strOfNums xs) (s : Int) Ln Fn) w.heap.size p (xs) (s) from Fq.keep HF4.out HK4.out (put4_keep (KeepBut.refl _ _ _)))
                  have HGz := Lib.hid (show Lg (put4 w4 r (strOfNums xs) (s : Int) Ln Fn) q p from (put4_other (blk_ne HG4.out HK4.out (by decide))).trans HG4.out)
                  have HKz := Lib.hid (show Rk (put4 w4 r (strOfNums xs) (s : Int) Ln Fn) r (strOfNums xs) (s : Int) Ln Fn from put4_blk HK4.out)
                  have HBz := Lib.hid (show Below w.heap.size w (put4 w4 r (strOfNums xs) (s : Int) Ln Fn) from put4_below HB4.out HRB.out)
                  unfold put4 at HFz HGz HKz HBz
                  generalize ((((w4.setCell ⟨r, 0, none⟩ (.string (strOfNums xs))).setCell ⟨r, 1, none⟩ (.int .i64 (s : Int))).setCell ⟨r, 2, none⟩ (.int .i64 Ln)).setCell ⟨r, 3, none⟩ (.bool Fn)) = wz at HFz HGz HKz HBz ⊢
                  exact tail HFz HGz HKz HBz HP HFZ2 HS1 HO HXL1 HSL HRG2
                · have j5 : (aK == 5) = false := by simp [k5]
                  by_cases k3 : aK = 3
                  · have j3 : (aK == 3) = true := by simp [k3]
                    clear k0 k1 k2 k3 k4 k5
                    have lqa := (blk_cell HGa.out 0).trans (show (#[.pointer (some ⟨p, 0, none⟩)] : Array Value)[0]? = some (.pointer (some ⟨p, 0, none⟩)) from rfl)
                    obtain ⟨cz, hcz⟩ : ∃ y : Int, (if f = 0 then (17 : Int) else 0) = y := ⟨_, rfl⟩
                    have HCZ := Lib.hid hcz
                    clear hcz
                    obtain ⟨s2, hs2⟩ : ∃ y : Nat, (if f = 0 then s else xs.length) = y := ⟨_, rfl⟩
                    have HS2 := Lib.hid hs2
                    clear hs2
                    have HFZ2 := Lib.hid (HFZ.out.step HRG.out.2)
                    have HRG2 := Lib.hid (fd_range HRG.out.1 HRG.out.2)
                    obtain ⟨f2, hf2⟩ : ∃ y : Int, fd f = y := ⟨_, rfl⟩
                    have HF2E := Lib.hid hf2
                    clear hf2
                    obtain ⟨L2, hL2⟩ : ∃ y : Int, ld L F = y := ⟨_, rfl⟩
                    have HL2E := Lib.hid hL2
                    clear hL2
                    rw [HF2E.out] at HFZ2 HRG2
                    rw [HL2E.out] at HFZ2
                    have HSL2 := Lib.hid (show s2 ≤ xs.length by rw [← HS2.out]; have := HSL.out; split <;> omega)
                    go_wp2_with (first
                      | (go_at_call 10; refine (HFa.out.sync HP.out HBa.out).mono ?_; rintro e w3 ⟨rfl, hf, hb, hkb⟩; rw [HCZ.out]; rw [HS2.out, HF2E.out] at hf; have HF3 := Lib.hid hf; have HB3 := Lib.hid hb; have hst := stays_keep hkb; have HG3 := Lib.hid (show Lg w3 q p from hst.blk HGa.out (by obtain ⟨_, _, hD, _⟩ := HFa.out; exact blk_ne HGa.out hD (by decide)) (by decide)); have HK3 := Lib.hid (show Rk w3 r (strOfNums xs) (s : Int) L F from hst.blk HKa.out (by obtain ⟨_, _, hD, _⟩ := HFa.out; exact blk_ne HKa.out hD (by decide)) (by decide)); have HBLK3 := Lib.hid (hst.blk HBLK.out (by have := HF.out.lt; omega) (by decide)); clear hf hb hkb hst; have mc0 : w3.cell? ⟨r, 0, none⟩ = some (.string (strOfNums xs)) := (blk_cell HK3.out 0).trans rfl; have mc1 : w3.cell? ⟨r, 1, none⟩ = some (.int .i64 (s : Int)) := (blk_cell HK3.out 1).trans rfl; have mc2 : w3.cell? ⟨r, 2, none⟩ = some (.int .i64 L) := (blk_cell HK3.out 2).trans rfl; have mc3 : w3.cell? ⟨r, 3, none⟩ = some (.bool F) := (blk_cell HK3.out 3).trans rfl)
                      | (go_at_call 22; refine (ref_sync HFZ.out xs s _).mono ?_; rintro e w4 ⟨rfl, hb⟩; rw [HCZ.out, HS2.out, HL2E.out]; have HF4 := Lib.hid (HF3.out.below hb); have HG4 := Lib.hid (show Lg w4 q p from blk_below HG3.out hb); have HK4 := Lib.hid (HK3.out.below hb); have HBLK4 := Lib.hid (blk_below HBLK3.out hb); have HB4 := Lib.hid (below_then HB3.out HB3.out.size hb); clear hb; have nc0 : w4.cell? ⟨r, 0, none⟩ = some (.string (strOfNums xs)) := (blk_cell HK4.out 0).trans rfl; have nc1 : w4.cell? ⟨r, 1, none⟩ = some (.int .i64 (s : Int)) := (blk_cell HK4.out 1).trans rfl; have nc2 : w4.cell? ⟨r, 2, none⟩ = some (.int .i64 L) := (blk_cell HK4.out 2).trans rfl; have nc3 : w4.cell? ⟨r, 3, none⟩ = some (.bool F) := (blk_cell HK4.out 3).trans rfl; have nf0 := blk_frozen HK4.out 0; have nf1 := blk_frozen HK4.out 1; have nf2 := blk_frozen HK4.out 2; have nf3 := blk_frozen HK4.out 3)
                      | fail)
                    have HFz := Lib.hid (show Fq (f2) (put4 w4 r (strOfNums xs) (s2 : Int) L2 F) w.heap.size p (xs) (s2) from Fq.keep HF4.out HK4.out (put4_keep (KeepBut.refl _ _ _)))
                    have HGz := Lib.hid (show Lg (put4 w4 r (strOfNums xs) (s2 : Int) L2 F) q p from (put4_other (blk_ne HG4.out HK4.out (by decide))).trans HG4.out)
                    have HKz := Lib.hid (show Rk (put4 w4 r (strOfNums xs) (s2 : Int) L2 F) r (strOfNums xs) (s2 : Int) L2 F from put4_blk HK4.out)
                    have HBz := Lib.hid (show Below w.heap.size w (put4 w4 r (strOfNums xs) (s2 : Int) L2 F) from put4_below HB4.out HRB.out)
                    unfold put4 at HFz HGz HKz HBz
                    generalize ((((w4.setCell ⟨r, 0, none⟩ (.string (strOfNums xs))).setCell ⟨r, 1, none⟩ (.int .i64 (s2 : Int))).setCell ⟨r, 2, none⟩ (.int .i64 L2)).setCell ⟨r, 3, none⟩ (.bool F)) = wz at HFz HGz HKz HBz ⊢
                    exact tail HFz HGz HKz HBz HP HFZ2 HS1 HO HXL1 HSL2 HRG2
                  · have j3 : (aK == 3) = false := by simp [k3]
                    clear k0 k1 k2 k3 k4 k5
                    go_wp2_with fail
                    exact tail HFa HGa HKa HBa HP HFZ HS1 HO HXL1 HSL HRG
      · have g1 : decide ((300 : Int) < (ax.length : Int)) = true := decide_eq_true (by omega)
        go_wp2_with fail
        exact bodyPost_ret (v := .bool true) (by simp [results, Try.results7, go_sem]) rfl ⟨rfl, HBa.out⟩
    · have g0 : decide ((k : Int) < (l.length : Int)) = false := decide_eq_false (by omega)
      have HMX := Lib.hid (show max (-1 : Int) (-1) = -1 by omega)
      have HXB := Lib.hid (show xs.length ≤ 25000 by have := HXL.out; have := HLT.out; omega)
      have lqr := (blk_cell HG.out 0).trans (show (#[.pointer (some ⟨p, 0, none⟩)] : Array Value)[0]? = some (.pointer (some ⟨p, 0, none⟩)) from rfl)
      go_wp2_with (first
        | (go_at_call 26; refine (HF.out.fuse HP.out HB.out (-1)).mono ?_; rintro e w3 ⟨rfl, hf, hb, hst⟩; rw [HMX.out] at hf; have HF3 := Lib.hid hf; have HB3 := Lib.hid hb; have HG3 := Lib.hid (show Lg w3 q p from hst.blk HG.out (by obtain ⟨_, _, hD, _⟩ := HF.out; exact blk_ne HG.out hD (by decide)) (by decide)); clear hf hb hst; have hcv := Go.Lib.run_convert_bytes_const (P := Try.prog) w3 22 5 #[.int .u8 120] 1 1 Try.underlying22 Try.underlying5)
        | (go_at_call 17; refine (force_last (D := some ⟨w3.heap.size, 0, none⟩) (HF3.out.below (below_alloc (Below.refl _ _) _)) (blk_below HG3.out (below_alloc (Below.refl _ _) _)) HP.out (below_alloc HB3.out _) (C_x w3) (by have := HXB.out; omega)).mono ?_; rintro e w4 ⟨rfl, hb⟩; have HB4 := Lib.hid hb; clear hb)
        | fail)
      exact bodyPost_ret (v := .bool true) (by simp [results, Try.results7, go_sem]) rfl ⟨rfl, HB4.out⟩
end Go.Proofs.Ytkckmikpmjecdaa.HF
