/- What the reference's Open and Seal answer: contracts. Condition: bytes. peerageref04.Scan: a contract. Its rows are parts of what came in: headers. Condition: bytes. -/
import Derived.Test.YtkckmikpmjecdaaPRefDiskx1
import Derived.Test.YtkckmikpmjecdaaOpenW
import Derived.Test.YtkckmikpmjecdaaScanP
namespace Go.Proofs.Ytkckmikpmjecdaa.HR
open Go.Proofs.Ytkckmikpmjecdaa.H
open Go.RowKit Go.Proofs.YtkckmikpmjecdaaW.PrintWords Go.Proofs.YtkckmikpmjecdaaW.PrintLast Go.Proofs.YtkckmikpmjecdaaW.PrintMore Go.Proofs.Ytkckmikpmjecdaa.PRefDisk Go.Proofs.Ytkckmikpmjecdaa.PFrameTells
set_option linter.unusedVariables false
set_option linter.unusedSimpArgs false
theorem cast_len2 {P : Program} {f : FuncId} {v : Value} {A : Option Addr} {n n' c : Nat} {w : World} {Q : Ending → World → Prop} (h : n = n') (k : Calls P f #[v, .slice A n' c] w Q) : Calls P f #[v, .slice A n c] w Q := h ▸ k
abbrev RefPost (w : World) (l : List Int) : Ending → World → Prop := fun e w' => ∃ A' c', e = .returned (.tuple #[.slice A' (opened l).1.length c', .int .i64 (opened l).2.1, .int .i64 (opened l).2.2]) ∧ Kd.C (Kd.int .u8) w' A' (opened l).1.length (opened l).1 ∧ Drawn0 w w'
abbrev RefPost2 (A : Option Addr) (w : World) (l : List Int) : Ending → World → Prop := fun e w' => ∃ A' c', e = .returned (.tuple #[.slice A' (opened l).1.length c', .int .i64 (opened l).2.1, .int .i64 (opened l).2.2]) ∧ Kd.C (Kd.int .u8) w' A' (opened l).1.length (opened l).1 ∧ (∀ W : World, Kd.C (Kd.int .u8) W A l.length l → Kd.C (Kd.int .u8) W A' (opened l).1.length (opened l).1) ∧ (opened l).1.length ≤ c' ∧ Drawn0 w w'
theorem ref_short (A : Option Addr) (c : Nat) (l : List Int) (w : World) (hl : l.length < 4) : Calls Try.prog 46 #[.slice A l.length c] w (RefPost2 A w l) := by
  have ho : opened l = ([], 0, 10) := by unfold opened; rw [if_pos hl]
  have t1 : decide ((l.length : Int) < 4) = true := by simp; omega
  unfold RefPost2
  rw [ho]
  go_enter Try.func46, Try.ntmps46
  go_wp2
  exact bodyPost_ret (v := .tuple #[.slice none 0 0, .int .i64 0, .int .i64 10]) (by simp [results, Try.results46, go_sem]) rfl ⟨none, 0, rfl, Kd.C_nil _ _, fun _ _ => Kd.C_nil _ _, Nat.le_refl _, Drawn0.refl _⟩
theorem ors {x0 x1 x2 x3 : Int} (a0 : 0 ≤ x0) (b0 : x0 ≤ 255) (a1 : 0 ≤ x1) (b1 : x1 ≤ 255) (a2 : 0 ≤ x2) (b2 : x2 ≤ 255) (a3 : 0 ≤ x3) (b3 : x3 ≤ 255) :
    bits .or .i64 (x0 * 16777216) (x1 * 65536) = x0 * 16777216 + x1 * 65536 ∧ bits .or .i64 (x0 * 16777216 + x1 * 65536) (x2 * 256) = x0 * 16777216 + x1 * 65536 + x2 * 256 ∧ bits .or .i64 (x0 * 16777216 + x1 * 65536 + x2 * 256) x3 = x0 * 16777216 + x1 * 65536 + x2 * 256 + x3 := by
  refine ⟨or_add (n := 24) a0 (by omega) (by omega) (by omega), ?_, ?_⟩
  · rw [show x0 * 16777216 + x1 * 65536 = (x0 * 256 + x1) * 2 ^ 16 by omega]
    exact or_add (n := 16) (by omega) (by omega) (by omega) (by omega)
  · rw [show x0 * 16777216 + x1 * 65536 + x2 * 256 = (x0 * 65536 + x1 * 256 + x2) * 2 ^ 8 by omega]
    exact or_add (n := 8) (by omega) (by omega) (by omega) (by omega)
theorem orsu {x0 x1 x2 x3 : Int} (a0 : 0 ≤ x0) (b0 : x0 ≤ 255) (a1 : 0 ≤ x1) (b1 : x1 ≤ 255) (a2 : 0 ≤ x2) (b2 : x2 ≤ 255) (a3 : 0 ≤ x3) (b3 : x3 ≤ 255) :
    bits .or .u32 x0 (x1 * 256) = x0 + x1 * 256 ∧ bits .or .u32 (x0 + x1 * 256) (x2 * 65536) = x0 + x1 * 256 + x2 * 65536 ∧ bits .or .u32 (x0 + x1 * 256 + x2 * 65536) (x3 * 16777216) = x0 + x1 * 256 + x2 * 65536 + x3 * 16777216 := by
  have h1 := u32_orb (s := x0) (y := x1) 1 (by omega) a0 (by omega) a1 b1
  have h2 := u32_orb (s := x0 + x1 * 256) (y := x2) 2 (by omega) (by omega) (by omega) a2 b2
  have h3 := u32_orb (s := x0 + x1 * 256 + x2 * 65536) (y := x3) 3 (by omega) (by omega) (by omega) a3 b3
  rw [IntKind.wrap_u32', Int.emod_eq_of_lt (by omega) (by omega)] at h1 h2 h3
  exact ⟨h1, h2, h3⟩
set_option maxHeartbeats 4000000 in
theorem ref_long (A : Option Addr) (c : Nat) (l : List Int) (w : World) (hr : Kd.C (Kd.int .u8) w A l.length l) (hc : l.length ≤ c) (hb : okb l = true) (hm : l.length ≤ 90000000) (hl : 4 ≤ l.length) : Calls Try.prog 46 #[.slice A l.length c] w (RefPost2 A w l) := by
  have HR := Lib.hid hr
  have HL := Lib.hid hb
  have t1 : decide ((l.length : Int) < 4) = false := by simp; omega
  have t2 : (4 : Int) ≤ (c : Int) := by omega
  have t3 : (4 : Int) ≤ (l.length : Int) := by omega
  have HD := Lib.hid (show opened l = _ by unfold opened; rw [if_neg (by omega)])
  obtain ⟨x0, x1, x2, x3, r, hx⟩ : ∃ x0 x1 x2 x3 r, l = x0 :: x1 :: x2 :: x3 :: r := by
    match l, hl with
    | a :: b :: c :: d :: r, _ => exact ⟨a, b, c, d, r, rfl⟩
  have hbig : big (l.take 4) = x0 * 16777216 + x1 * 65536 + x2 * 256 + x3 := by subst hx; simp [big]; omega
  obtain ⟨ad, e1, hk⟩ := (Kd.reads_of_C (enc := Value.int .u8) (d := (0 : Int)) (h1 := fun _ => rfl) hr).2.2 (by omega)
  subst e1
  have g0 : rd l 0 = x0 := by subst hx; rfl
  have g1 : rd l 1 = x1 := by subst hx; rfl
  have g2 : rd l 2 = x2 := by subst hx; rfl
  have g3 : rd l 3 = x3 := by subst hx; rfl
  have c0 : w.cell? ad = some (.int .u8 x0) := by have h := hk 0 (by omega); subst hx; exact h
  have c1 : w.cell? ⟨ad.block, ad.off + 1, none⟩ = some (.int .u8 x1) := by have h := hk 1 (by omega); subst hx; exact h
  have c2 : w.cell? ⟨ad.block, ad.off + 2, none⟩ = some (.int .u8 x2) := by have h := hk 2 (by omega); subst hx; exact h
  have c3 : w.cell? ⟨ad.block, ad.off + 3, none⟩ = some (.int .u8 x3) := by have h := hk 3 (by omega); subst hx; exact h
  obtain ⟨a0, b0⟩ := okb_at hb 0
  obtain ⟨a1, b1⟩ := okb_at hb 1
  obtain ⟨a2, b2⟩ := okb_at hb 2
  obtain ⟨a3, b3⟩ := okb_at hb 3
  rw [g0] at a0 b0
  rw [g1] at a1 b1
  rw [g2] at a2 b2
  rw [g3] at a3 b3
  obtain ⟨o1, o2, o3⟩ := ors a0 b0 a1 b1 a2 b2 a3 b3
  have HK := Lib.hid hk
  clear hr hb g0 g1 g2 g3 hk hx
  go_enter Try.func46, Try.ntmps46
  go_wp2
  go_region
  obtain ⟨N, hN⟩ : ∃ N : Nat, x0 * 16777216 + x1 * 65536 + x2 * 256 + x3 = (N : Int) := ⟨(x0 * 16777216 + x1 * 65536 + x2 * 256 + x3).toNat, by omega⟩
  rw [hbig, hN] at HD
  rw [hN]
  clear o1 o2 o3 c0 c1 c2 c3 a0 a1 a2 a3 b0 b1 b2 b3 hbig hN
  by_cases h1 : 65536 < (N : Int)
  · have HO := Lib.hid (show opened l = ([], 0, 3) by rw [HD.out, if_pos h1])
    have d1 : decide ((65536 : Int) < (N : Int)) = true := by simp; omega
    go_wp2
    exact bodyPost_ret (v := .tuple #[.slice none 0 0, .int .i64 0, .int .i64 3]) (by simp [results, Try.results46, go_sem]) rfl ⟨none, 0, by rw [HO.out]; rfl, by rw [HO.out]; exact Kd.C_nil _ _, fun W _ => (by rw [HO.out]; exact Kd.C_nil _ _), (by rw [HO.out]; exact Nat.le_refl _), ⟨⟨1, rfl⟩⟩⟩
  · have d1 : decide ((65536 : Int) < (N : Int)) = false := by simp; omega
    by_cases h2 : (l.length : Int) < (N : Int) + 8
    · have HO := Lib.hid (show opened l = ([], 0, 10) by rw [HD.out, if_neg h1, if_pos h2])
      have d2 : decide ((l.length : Int) < (N : Int) + 8) = true := by simp; omega
      go_wp2
      exact bodyPost_ret (v := .tuple #[.slice none 0 0, .int .i64 0, .int .i64 10]) (by simp [results, Try.results46, go_sem]) rfl ⟨none, 0, by rw [HO.out]; rfl, by rw [HO.out]; exact Kd.C_nil _ _, fun W _ => (by rw [HO.out]; exact Kd.C_nil _ _), (by rw [HO.out]; exact Nat.le_refl _), ⟨⟨1, rfl⟩⟩⟩
    · have d2 : decide ((l.length : Int) < (N : Int) + 8) = false := by simp; omega
      have HD2 := Lib.hid (show opened l = _ by rw [HD.out, if_neg h1, if_neg h2, Int.toNat_natCast])
      clear HD
      obtain ⟨i5, hi5, _, hsz5, _⟩ := info_parts Go.Proofs.Ytkckmikpmjecdaa.H.info5
      obtain ⟨A2, hcut2, hA2, hcA2⟩ := print_mid_of (P := Try.prog) (Value.int .u8) 0 22 5 .i64 .i64 Try.underlying22 hi5 hsz5 (some ad) c l 4 ((N : Int) + 4) (by omega) (by omega) (by omega) hc
      have e2 : ((N : Int) + 4).toNat = 4 + N := by omega
      have e3 : (4 : Int).toNat = 4 := rfl
      rw [e3, e2] at hcut2 hA2 hcA2
      have K2 := Lib.hid (hA2 _ (Kd.reads_of_C (enc := Value.int .u8) (d := (0 : Int)) (h1 := fun _ => rfl) HR.out))
      have KG : Hid (∀ W : World, Kd.C (Kd.int .u8) W (some ad) l.length l → Kd.C (Kd.int .u8) W A2 ((l.take (4 + N)).drop 4).length ((l.take (4 + N)).drop 4)) := Lib.hid (fun W hW => Kd.C_of_reads (d := (0 : Int)) (h1 := fun _ => rfl) (hA2 W (Kd.reads_of_C (enc := Value.int .u8) (d := (0 : Int)) (h1 := fun _ => rfl) hW)))
      have HC2 := Lib.hid hcA2
      have hs2 : ∀ W : World, (Instr.slice 22 (.slice (some ad) l.length c) (some (.int .i64 4)) (some (.int .i64 ((N : Int) + 4))) none).run Try.prog W = .ok (.slice A2 ((l.take (4 + N)).drop 4).length (c - 4)) W := hcut2
      clear hcut2 hA2 hcA2 hi5 hsz5 e2 e3
      have Y1 := Lib.hid (okb_drop (okb_take HL.out (8 + N)) (4 + N))
      have hcl : 4 + N ≤ l.length := by omega
      obtain ⟨y0, y1, y2, y3, hy⟩ : ∃ y0 y1 y2 y3 : Int, (l.take (8 + N)).drop (4 + N) = [y0, y1, y2, y3] := by
        have hy1 : ((l.take (8 + N)).drop (4 + N)).length = 4 := by rw [List.length_drop, List.length_take]; omega
        match h : (l.take (8 + N)).drop (4 + N), hy1 with
        | [a, b, c, d], _ => exact ⟨a, b, c, d, rfl⟩
      have hg : ∀ j, j < 4 → l.getD (4 + N + j) 0 = [y0, y1, y2, y3].getD j 0 := fun j hj => by
        rw [← hy, List.getD_eq_getElem?_getD, List.getD_eq_getElem?_getD, List.getElem?_drop, List.getElem?_take_of_lt (by omega)]
      have hkk : ∀ j, j < 4 → w.cell? ⟨ad.block, ad.off + (4 + N + j), none⟩ = some (.int .u8 ([y0, y1, y2, y3].getD j 0)) := fun j hj => by
        have h := HK.out (4 + N + j) (by omega)
        rw [hg j hj] at h
        rw [← h]
        unfold Addr.add
        rw [if_neg (by omega)]
      have c0 : w.cell? ⟨ad.block, ad.off + (N + 4), none⟩ = some (.int .u8 y0) := by have h := hkk 0 (by omega); rwa [show 4 + N + 0 = N + 4 by omega] at h
      have c1 : w.cell? ⟨ad.block, ad.off + (N + 5), none⟩ = some (.int .u8 y1) := by have h := hkk 1 (by omega); rwa [show 4 + N + 1 = N + 5 by omega] at h
      have c2 : w.cell? ⟨ad.block, ad.off + (N + 6), none⟩ = some (.int .u8 y2) := by have h := hkk 2 (by omega); rwa [show 4 + N + 2 = N + 6 by omega] at h
      have c3 : w.cell? ⟨ad.block, ad.off + (N + 7), none⟩ = some (.int .u8 y3) := by have h := hkk 3 (by omega); rwa [show 4 + N + 3 = N + 7 by omega] at h
      rw [hy] at Y1 HD2
      have HD3 := Lib.hid (show opened l = if y0 + y1 * 256 + y2 * 65536 + y3 * 16777216 ≠ more 0 (l.take (4 + N)) then ([], 0, 12) else ((l.take (4 + N)).drop 4, 8 + (N : Int), 0) by rw [HD2.out, show les [y0, y1, y2, y3] = y0 + y1 * 256 + y2 * 65536 + y3 * 16777216 by simp only [les]; omega])
      have hY := Y1.out
      simp only [okb, List.all_cons, List.all_nil, Bool.and_true, Bool.and_eq_true, decide_eq_true_eq] at hY
      obtain ⟨⟨a0, b0⟩, ⟨a1, b1⟩, ⟨a2, b2⟩, a3, b3⟩ := hY
      obtain ⟨o1, o2, o3⟩ := orsu a0 b0 a1 b1 a2 b2 a3 b3
      have HT := Lib.hid (Kd.C_take (m := 4 + N) HR.out hcl)
      have HTB := Lib.hid (okb_take HL.out (4 + N))
      have hlt2 : (l.take (4 + N)).length = 4 + N := by rw [List.length_take]; omega
      have HLT := Lib.hid hlt2
      clear hlt2 HD2 hkk hg hy HK
      go_wp2
      go_region
      generalize y0 + y1 * 256 + y2 * 65536 + y3 * 16777216 = S at *
      clear o1 o2 o3 a0 a1 a2 a3 b0 b1 b2 b3 c0 c1 c2 c3 Y1
      generalize some ad = A at *
      by_cases hs : S = more 0 (l.take (4 + N))
      · have q1 : (S != more 0 (l.take (4 + N))) = false := by rw [hs]; simp
        have HO := Lib.hid (show opened l = ((l.take (4 + N)).drop 4, 8 + (N : Int), 0) by rw [HD3.out, if_neg (by omega)])
        go_wp2_with (go_at_call 45; refine cast_len2 (n' := (l.take (4 + N)).length) (by have := HLT.out; omega) ?_; refine (peerageref04_More.calls (10 * (l.take (4 + N)).length + 1) 0 A c (l.take (4 + N)) (more 0 (l.take (4 + N))) _ (Kd.C_drew (Kd.C_drew HT.out)) (by have := HLT.out; omega) (refmore HTB.out (by have := HLT.out; omega) (by omega) (by omega))).mono ?_; rintro e w74 ⟨rfl, ⟨⟨q, rfl⟩⟩⟩)
        exact bodyPost_ret (v := .tuple #[.slice A2 N (c - 4), .int .i64 ((N : Int) + 8), .int .i64 0]) (by simp [results, Try.results46, go_sem]) rfl ⟨A2, c - 4, by rw [HO.out, show ((N : Int) + 8) = 8 + (N : Int) by omega, show ((l.take (4 + N)).drop 4, 8 + (N : Int), (0 : Int)).1.length = N by show ((l.take (4 + N)).drop 4).length = N; rw [List.length_drop, HLT.out]; omega], by rw [HO.out]; exact Kd.C_drewN (Kd.C_of_reads (d := (0 : Int)) (h1 := fun _ => rfl) K2.out) _, fun W hW => (by rw [HO.out]; exact KG.out W hW), (by rw [HO.out]; exact HC2.out), ⟨⟨1 + (1 + q), rfl⟩⟩⟩
      · have q1 : (S != more 0 (l.take (4 + N))) = true := by simp [bne, hs]
        have HO := Lib.hid (show opened l = ([], 0, 12) by rw [HD3.out, if_pos hs])
        go_wp2_with (go_at_call 45; refine cast_len2 (n' := (l.take (4 + N)).length) (by have := HLT.out; omega) ?_; refine (peerageref04_More.calls (10 * (l.take (4 + N)).length + 1) 0 A c (l.take (4 + N)) (more 0 (l.take (4 + N))) _ (Kd.C_drew (Kd.C_drew HT.out)) (by have := HLT.out; omega) (refmore HTB.out (by have := HLT.out; omega) (by omega) (by omega))).mono ?_; rintro e w74 ⟨rfl, ⟨⟨q, rfl⟩⟩⟩)
        exact bodyPost_ret (v := .tuple #[.slice none 0 0, .int .i64 0, .int .i64 12]) (by simp [results, Try.results46, go_sem]) rfl ⟨none, 0, by rw [HO.out]; rfl, by rw [HO.out]; exact Kd.C_nil _ _, fun W _ => (by rw [HO.out]; exact Kd.C_nil _ _), (by rw [HO.out]; exact Nat.le_refl _), ⟨⟨1 + (1 + q), rfl⟩⟩⟩
theorem ref_open_calls2 (A : Option Addr) (c : Nat) (l : List Int) (w : World) (hr : Kd.C (Kd.int .u8) w A l.length l) (hc : l.length ≤ c) (hb : okb l = true) (hm : l.length ≤ 90000000) : Calls Try.prog 46 #[.slice A l.length c] w (RefPost2 A w l) := by
  rcases Nat.lt_or_ge l.length 4 with h | h
  · exact ref_short A c l w h
  · exact ref_long A c l w hr hc hb hm h
theorem ref_open_calls (A : Option Addr) (c : Nat) (l : List Int) (w : World) (hr : Kd.C (Kd.int .u8) w A l.length l) (hc : l.length ≤ c) (hb : okb l = true) (hm : l.length ≤ 90000000) : Calls Try.prog 46 #[.slice A l.length c] w (RefPost w l) :=
  (ref_open_calls2 A c l w hr hc hb hm).mono fun _ _ ⟨A', c', h1, h2, _, _, h3⟩ => ⟨A', c', h1, h2, h3⟩
theorem ref_seal_f {l : List Int} (hb : okb l = true) (hl : l.length ≤ 65536) : peerageref04_Seal.f (10 * (hdr l.length ++ l).length + 1) l = some (sealed l, 0) := by
  have hm := refmore (okb_app (hdr_okb l.length) hb) (by simp [hdr]; omega) (a := 0) (by omega) (by omega)
  have hr := more_range 0 (hdr l.length ++ l)
  unfold peerageref04_Seal.f
  rw [if_neg (by omega), Option.bind_some]
  change (if (hdr l.length).length + l.length < _ then _ else _) = _
  rw [if_pos (by simp [hdr]; omega), Option.bind_some]
  change ((peerageref04_More.f _ 0 (hdr l.length ++ l)).bind _) = _
  rw [hm, Option.bind_some, Option.bind_some, if_pos (by simp [hdr]; omega)]
  rfl
theorem ref_seal_big {l : List Int} (hl : 65536 < l.length) (k : Nat) : peerageref04_Seal.f k l = some ([], 3) := by
  unfold peerageref04_Seal.f
  rw [if_pos (by omega)]
end Go.Proofs.Ytkckmikpmjecdaa.HR
namespace Go.Proofs.Ytkckmikpmjecdaa.HR
open Go.Proofs.Ytkckmikpmjecdaa.H
open Go.RowKit Go.Proofs.YtkckmikpmjecdaaW.PrintWords Go.Proofs.YtkckmikpmjecdaaW.PrintLast Go.Proofs.YtkckmikpmjecdaaW.PrintMore
set_option linter.unusedVariables false
set_option linter.unusedSimpArgs false
/-- A slice's header, and what it leads to. -/
structure Hd where
  A : Option Addr
  c : Nat
  xs : List Int
def encH (h : Hd) : Value := .slice h.A h.xs.length h.c
theorem encH1 (h : Hd) : (encH h).oneCell' = true := rfl
abbrev KH : Kd Hd := Kd.scalar encH encH1
def Good (A : Option Addr) (l : List Int) (h : Hd) : Prop := h.xs.length ≤ h.c ∧ ∀ W : World, Kd.C (Kd.int .u8) W A l.length l → Kd.C (Kd.int .u8) W h.A h.xs.length h.xs
theorem C_of_hs {W : World} {base : Nat} {v : Value} {hs : List Hd} {A : Option Addr} {l : List Int} (h : Kd.R KH 22 W base (fun _ => True) v hs) (hC : Kd.C (Kd.int .u8) W A l.length l) (hg : ∀ h ∈ hs, Good A l h) :
    ∃ A' c', v = .slice A' (hs.map Hd.xs).length c' ∧ Kd.C (Kd.slice 5 (Kd.int .u8)) W A' (hs.map Hd.xs).length (hs.map Hd.xs) ∧ (hs.map Hd.xs).length ≤ c' := by
  obtain ⟨A', c', rfl, hle, h1, h2, h3⟩ := Kd.R_reads h
  rw [List.length_map]
  refine ⟨A', c', rfl, ⟨by simp, h2, fun hn => ?_⟩, hle⟩
  obtain ⟨ad, e, hc⟩ := h3 hn
  refine ⟨ad, e, fun j p hj => ?_⟩
  rw [List.getElem?_map] at hj
  obtain ⟨hd, hj2, rfl⟩ := Option.map_eq_some_iff.1 hj
  obtain ⟨c, e1, e2, e3⟩ := hc j hd hj2
  have hgd := hg hd (List.mem_of_getElem? hj2)
  exact ⟨c, e1, ⟨hd.A, hd.c, e2, hgd.1, hgd.2 W hC⟩, e3⟩
theorem info22 : (Try.prog.info? 22).map (fun i => (i.zero, i.size, i.bytes)) = some (some (.slice none 0 0), 1, 24) := by kernel_rfl
theorem ref_open_at2 {A : Option Addr} {c : Nat} {l op : List Int} {on oe : Int} {w : World} (hr : Kd.C (Kd.int .u8) w A l.length l) (hc : l.length ≤ c) (hb : okb l = true) (hm : l.length ≤ 90000000) (ho : opened l = (op, on, oe)) :
    Calls Try.prog 46 #[.slice A l.length c] w fun e w' => ∃ A' c', e = .returned (.tuple #[.slice A' op.length c', .int .i64 on, .int .i64 oe]) ∧ (∀ W : World, Kd.C (Kd.int .u8) W A l.length l → Kd.C (Kd.int .u8) W A' op.length op) ∧ op.length ≤ c' ∧ Drawn0 w w' := by
  have h := ref_open_calls2 A c l w hr hc hb hm
  unfold RefPost2 at h
  rw [ho] at h
  exact h.mono fun _ _ ⟨A', c', h1, h2, h3, h4, h5⟩ => ⟨A', c', h1, h3, h4, h5⟩
set_option maxHeartbeats 2000000 in
theorem ref_scan_calls (A : Option Addr) (c : Nat) (l : List Int) (w : World) (hr : Kd.C (Kd.int .u8) w A l.length l) (hc : l.length ≤ c) (hb : okb l = true) (hm : l.length ≤ 90000000) :
    Calls Try.prog 39 #[.slice A l.length c] w fun e w' => ∃ A' c', e = .returned (.tuple #[.slice A' (scan l).1.length c', .int .i64 ((scan l).2.1 : Int), .int .i64 (scan l).2.2]) ∧ Kd.C (Kd.slice 5 (Kd.int .u8)) w' A' (scan l).1.length (scan l).1 ∧ Below w.heap.size w w' ∧ (scan l).1.length ≤ c' := by
  have HX := Lib.hid hr
  have HC := Lib.hid hc
  have HK := Lib.hid hb
  have HM := Lib.hid hm
  clear hr hb hm
  go_enter Try.func39, Try.ntmps39
  go_wp2
  go_loopw [5, 6] (fun v5 v6 wr => ∃ (hs : List Hd) (u k : Nat), v6 = .int .i64 (u : Int) ∧ Hid (u ≤ l.length) ∧ Hid (hs.length ≤ u) ∧ Hid (l.length - u < k ∧ scanl k l (hs.map Hd.xs) u = scan l) ∧ Hid (Kd.R KH 22 wr w.heap.size (fun _ => True) v5 hs) ∧ Hid (∀ h ∈ hs, Good A l h) ∧ Hid (Below w.heap.size w wr)) (fun _ v6 _ => l.length - (intOf v6).toNat)
  case atStart => exact ⟨[], 0, l.length + 1, rfl, Lib.hid (by omega), Lib.hid (by simp), Lib.hid ⟨by omega, rfl⟩, Lib.hid (Kd.R_nil _ _ _ _ _), Lib.hid (by simp), Lib.hid (Below.refl _ _)⟩
  case round =>
    obtain ⟨hs, u, k, rfl, HU, HL, HS, HR, HG, HB⟩ := hrel
    obtain ⟨k, rfl⟩ : ∃ k', k = k' + 1 := ⟨k - 1, by have := HS.out.1; omega⟩
    have hsc := HS.out.2
    unfold scanl at hsc
    by_cases hlt : u < l.length
    · rw [if_pos hlt] at hsc
      have d1 : decide ((u : Int) < (l.length : Int)) = true := by simp; omega
      have HD := Lib.hid (okb_drop HK.out u)
      generalize hop : opened (l.drop u) = op at hsc
      obtain ⟨o1, o2, o3⟩ := op
      have HOP := Lib.hid hop
      have HSC := Lib.hid hsc
      obtain ⟨i5, hi5, _, hsz5, _⟩ := info_parts info5
      obtain ⟨A8, hcut8, hA8, hC8⟩ := print_drop_of (P := Try.prog) (Value.int .u8) 0 22 5 .i64 Try.underlying22 hi5 hsz5 A c l (u : Int) (by omega) (by omega) HC.out
      rw [Int.toNat_natCast] at hcut8 hA8 hC8
      have HA8 : Hid (∀ W : World, Kd.C (Kd.int .u8) W A l.length l → Kd.C (Kd.int .u8) W A8 (l.drop u).length (l.drop u)) := Lib.hid (fun W hW => Kd.C_of_reads (d := (0 : Int)) (h1 := fun _ => rfl) (hA8 W (Kd.reads_of_C (enc := Value.int .u8) (d := (0 : Int)) (h1 := fun _ => rfl) hW)))
      have HC8 := Lib.hid hC8
      have HDL := Lib.hid (show (l.drop u).length ≤ 90000000 by rw [List.length_drop]; have := HM.out; omega)
      clear hA8 hC8 hi5 hsz5 hop hsc
      by_cases h3 : o3 = 0
      · subst h3
        obtain ⟨n, e1, e2, e3, e4⟩ := opened_ok HD.out (by rw [HOP.out])
        rw [HOP.out] at e1
        rw [List.length_drop] at e2
        simp only at e1
        clear e4
        subst e1
        have E2 := Lib.hid e2
        have E5 := Lib.hid (show wrap64 ((u : Int) + (8 + (n : Int))) = ((u + (8 + n) : Nat) : Int) by have := HU.out; have := HM.out; unfold wrap64; omega)
        clear e2 e3
        go_wp2_with (first | (go_at_call 46; (with_reducible refine cast_len (A := A8) (n' := (l.drop u).length) ?hl14 ?_); (case hl14 => first | rfl | (rw [List.length_drop])); refine (ref_open_at2 (HA8.out _ (Kd.C_below HX.out HB.out)) HC8.out HD.out HDL.out HOP.out).mono ?_; rintro e w9 ⟨A9, c9, rfl, hG, hle, ⟨⟨q9, rfl⟩⟩⟩; have HG9 := Lib.hid hG; have HL9 := Lib.hid hle; clear hG hle) | ((with_reducible refine gate_builtin (b := .append) (xs := #[.tmp 27, .tmp 29]) rfl ?_); at_builtin; refine Kd.R_append KH (w0 := w) w.heap.size rfl (.tmp 27) (.tmp 29) 38 22 (.slice none 0 0) 24 rfl Try.underlying38 info22 rfl (by decide) (by omega) _ hs ⟨A9, c9, o1⟩ [encH ⟨A9, c9, o1⟩] (fun _ => True) (fun _ => False) rfl rfl ?aP29 (fun _ hk => hk.elim) (fun _ _ => trivial) (Kd.R_drewN HR.out _) (pw_below_drewN HB.out _) (pw_below_drewN HB.out _).size ?aL29 ?_; (case aP29 => exact rfl); (case aL29 => have := HL.out; have := HU.out; have := HM.out; omega); intro v10 w10 ho hb hg hat; clear hg hat; have P10 := Lib.hid ho; have HB10 := Lib.hid hb; clear ho hb))
        have hsc := HSC.out
        rw [if_pos trivial, show u + ((8 : Int) + (n : Int)).toNat = u + (8 + n) by omega] at hsc
        go_roundw
        case rel => exact ⟨_, u + (8 + n), k, by rw [E5.out], Lib.hid (by have := E2.out; have := HU.out; omega), Lib.hid (by rw [List.length_append, List.length_singleton]; have := HL.out; omega), Lib.hid ⟨by have := HS.out.1; omega, by rw [List.map_append]; exact hsc⟩, P10, Lib.hid (by
          intro h hh
          rcases List.mem_append.1 hh with hh | hh
          · exact HG.out h hh
          · obtain rfl := List.mem_singleton.1 hh
            exact ⟨HL9.out, fun W hW => HG9.out W (HA8.out W hW)⟩), HB10⟩
        case measure =>
          rw [E5.out]
          show l.length - (((u + (8 + n) : Nat) : Int)).toNat < l.length - ((u : Nat) : Int).toNat
          rw [Int.toNat_natCast, Int.toNat_natCast]
          have := E2.out
          omega
      · have d3 : (o3 != 0) = true := by simp [bne, h3]
        obtain ⟨A5, c5, e5, hC5, hcl5⟩ := C_of_hs HR.out (Kd.C_below HX.out HB.out) HG.out
        subst e5
        have HC5 := Lib.hid hC5
        have HCL5 := Lib.hid hcl5
        clear hC5 hcl5
        have HSD : Hid ((hs.map Hd.xs, u, o3) = scan l) := Lib.hid ((if_neg h3).symm.trans HSC.out)
        clear HSC
        go_wp2_with (first | (go_at_call 46; (with_reducible refine cast_len (A := A8) (n' := (l.drop u).length) ?hl14 ?_); (case hl14 => first | rfl | (rw [List.length_drop])); refine (ref_open_at2 (HA8.out _ (Kd.C_below HX.out HB.out)) HC8.out HD.out HDL.out HOP.out).mono ?_; rintro e w9 ⟨A9, c9, rfl, hG, hle, ⟨⟨q9, rfl⟩⟩⟩; have HG9 := Lib.hid hG; have HL9 := Lib.hid hle; clear hG hle) | ((with_reducible refine gate_builtin (b := .append) (xs := #[.tmp 27, .tmp 29]) rfl ?_); at_builtin; refine Kd.R_append KH (w0 := w) w.heap.size rfl (.tmp 27) (.tmp 29) 38 22 (.slice none 0 0) 24 rfl Try.underlying38 info22 rfl (by decide) (by omega) _ hs ⟨A9, c9, o1⟩ [encH ⟨A9, c9, o1⟩] (fun _ => True) (fun _ => False) rfl rfl ?aP29 (fun _ hk => hk.elim) (fun _ _ => trivial) (Kd.R_drewN HR.out _) (pw_below_drewN HB.out _) (pw_below_drewN HB.out _).size ?aL29 ?_; (case aP29 => exact rfl); (case aL29 => have := HL.out; have := HU.out; have := HM.out; omega); intro v10 w10 ho hb hg hat; clear hg hat; have P10 := Lib.hid ho; have HB10 := Lib.hid hb; clear ho hb))
        exact bodyPost_ret (v := .tuple #[.slice A5 (hs.map Hd.xs).length c5, .int .i64 (u : Int), .int .i64 o3]) (by simp [results, Try.results39, go_sem]) rfl (by rw [← HSD.out]; exact ⟨A5, c5, rfl, Kd.C_drewN HC5.out _, pw_below_drewN HB.out _, HCL5.out⟩)
    · rw [if_neg hlt] at hsc
      have d1 : decide ((u : Int) < (l.length : Int)) = false := by simp; omega
      have HSC := Lib.hid hsc
      clear hsc
      obtain ⟨A5, c5, e5, hC5, hcl5⟩ := C_of_hs HR.out (Kd.C_below HX.out HB.out) HG.out
      subst e5
      have HC5 := Lib.hid hC5
      have HCL5 := Lib.hid hcl5
      clear hC5 hcl5
      go_wp2
      exact bodyPost_ret (v := .tuple #[.slice A5 (hs.map Hd.xs).length c5, .int .i64 (u : Int), .int .i64 0]) (by simp [results, Try.results39, go_sem]) rfl (by rw [← HSC.out]; exact ⟨A5, c5, rfl, HC5.out, HB.out, HCL5.out⟩)
end Go.Proofs.Ytkckmikpmjecdaa.HR
