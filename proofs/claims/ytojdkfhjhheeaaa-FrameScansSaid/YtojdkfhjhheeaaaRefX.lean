/- What the reference's Open and Seal answer: contracts. Condition: bytes. -/
import Derived.Test.YtojdkfhjhheeaaaOpenW
namespace Go.Proofs.Ytojdkfhjhheeaaa.H
open Go.RowKit Go.Proofs.YtojdkfhjhheeaaaW.PrintWords Go.Proofs.YtojdkfhjhheeaaaW.PrintLast Go.Proofs.YtojdkfhjhheeaaaW.PrintMore Go.Proofs.Ytojdkfhjhheeaaa.PFrameTells
set_option linter.unusedVariables false
set_option linter.unusedSimpArgs false
theorem cast_len2 {P : Program} {f : FuncId} {v : Value} {A : Option Addr} {n n' c : Nat} {w : World} {Q : Ending → World → Prop} (h : n = n') (k : Calls P f #[v, .slice A n' c] w Q) : Calls P f #[v, .slice A n c] w Q := h ▸ k
abbrev RefPost (w : World) (l : List Int) : Ending → World → Prop := fun e w' => ∃ A' c', e = .returned (.tuple #[.slice A' (opened l).1.length c', .int .i64 (opened l).2.1, .int .i64 (opened l).2.2]) ∧ Kd.C (Kd.int .u8) w' A' (opened l).1.length (opened l).1 ∧ Drawn0 w w'
abbrev RefPost2 (A : Option Addr) (w : World) (l : List Int) : Ending → World → Prop := fun e w' => ∃ A' c', e = .returned (.tuple #[.slice A' (opened l).1.length c', .int .i64 (opened l).2.1, .int .i64 (opened l).2.2]) ∧ Kd.C (Kd.int .u8) w' A' (opened l).1.length (opened l).1 ∧ (∀ W : World, Kd.C (Kd.int .u8) W A l.length l → Kd.C (Kd.int .u8) W A' (opened l).1.length (opened l).1) ∧ (opened l).1.length ≤ c' ∧ Drawn0 w w'
theorem ref_short (A : Option Addr) (c : Nat) (l : List Int) (w : World) (hl : l.length < 4) : Calls Try.prog 14 #[.slice A l.length c] w (RefPost2 A w l) := by
  have ho : opened l = ([], 0, 10) := by unfold opened; rw [if_pos hl]
  have t1 : decide ((l.length : Int) < 4) = true := by simp; omega
  unfold RefPost2
  rw [ho]
  go_enter Try.func14, Try.ntmps14
  go_wp2
  exact bodyPost_ret (v := .tuple #[.slice none 0 0, .int .i64 0, .int .i64 10]) (by simp [results, Try.results14, go_sem]) rfl ⟨none, 0, rfl, Kd.C_nil _ _, fun _ _ => Kd.C_nil _ _, Nat.le_refl _, Drawn0.refl _⟩
theorem ors {x0 x1 x2 x3 : Int} (a0 : 0 ≤ x0) (b0 : x0 ≤ 255) (a1 : 0 ≤ x1) (b1 : x1 ≤ 255) (a2 : 0 ≤ x2) (b2 : x2 ≤ 255) (a3 : 0 ≤ x3) (b3 : x3 ≤ 255) :
    bits .or .i64 (x0 * 16777216) (x1 * 65536) = x0 * 16777216 + x1 * 65536 ∧ bits .or .i64 (x0 * 16777216 + x1 * 65536) (x2 * 256) = x0 * 16777216 + x1 * 65536 + x2 * 256 ∧ bits .or .i64 (x0 * 16777216 + x1 * 65536 + x2 * 256) x3 = x0 * 16777216 + x1 * 65536 + x2 * 256 + x3 := by
  refine ⟨or_add (n := 24) a0 (by omega) (by omega) (by omega), ?_, ?_⟩
  · rw [show x0 * 16777216 + x1 * 65536 = (x0 * 256 + x1) * 2 ^ 16 by omega]
    exact or_add (n := 16) (by omega) (by omega) (by omega) (by omega)
  · rw [show x0 * 16777216 + x1 * 65536 + x2 * 256 = (x0 * 65536 + x1 * 256 + x2) * 2 ^ 8 by omega]
    exact or_add (n := 8) (by omega) (by omega) (by omega) (by omega)
theorem orsu {x0 x1 x2 x3 : Int} (a0 : 0 ≤ x0) (b0 : x0 ≤ 255) (a1 : 0 ≤ x1) (b1 : x1 ≤ 255) (a2 : 0 ≤ x2) (b2 : x2 ≤ 255) (a3 : 0 ≤ x3) (b3 : x3 ≤ 255) :
    bits .or .u32 x0 (x1 * 256) = x0 + x1 * 256 ∧ bits .or .u32 (x0 + x1 * 256) (x2 * 65536) = x0 + x1 * 256 + x2 * 65536 ∧ bits .or .u32 (x0 + x1 * 256 + x2 * 65536) (x3 * 16777216) = x0 + x1 * 256 + x2 * 65536 + x3 * 16777216 := by
  have h1 := u32_orb (s := x0) (y := x1) 1 (by omega) a0 (by omega) a1 b1
  have h2 := u32_orb (s := x0 + x1 * 256) (y := x2) 2 (by omega) (by omega) (by omega) a2 b2
  have h3 := u32_orb (s := x0 + x1 * 256 + x2 * 65536) (y := x3) 3 (by omega) (by omega) (by omega) a3 b3
  rw [IntKind.wrap_u32', Int.emod_eq_of_lt (by omega) (by omega)] at h1 h2 h3
  exact ⟨h1, h2, h3⟩
set_option maxHeartbeats 4000000 in
theorem ref_long (A : Option Addr) (c : Nat) (l : List Int) (w : World) (hr : Kd.C (Kd.int .u8) w A l.length l) (hc : l.length ≤ c) (hb : okb l = true) (hm : l.length ≤ 90000000) (hl : 4 ≤ l.length) : Calls Try.prog 14 #[.slice A l.length c] w (RefPost2 A w l) := by
  have HR := Lib.hid hr
  have HL := Lib.hid hb
  have t1 : decide ((l.length : Int) < 4) = false := by simp; omega
  have t2 : (4 : Int) ≤ (c : Int) := by omega
  have t3 : (4 : Int) ≤ (l.length : Int) := by omega
  have HD := Lib.hid (show opened l = _ by unfold opened; rw [if_neg (by omega)])
  obtain ⟨x0, x1, x2, x3, r, hx⟩ : ∃ x0 x1 x2 x3 r, l = x0 :: x1 :: x2 :: x3 :: r := by
    match l, hl with
    | a :: b :: c :: d :: r, _ => exact ⟨a, b, c, d, r, rfl⟩
  have hbig : big (l.take 4) = x0 * 16777216 + x1 * 65536 + x2 * 256 + x3 := by subst hx; simp [big]; omega
  obtain ⟨ad, e1, hk⟩ := (Kd.reads_of_C (enc := Value.int .u8) (d := (0 : Int)) (h1 := fun _ => rfl) hr).2.2 (by omega)
  subst e1
  have g0 : rd l 0 = x0 := by subst hx; rfl
  have g1 : rd l 1 = x1 := by subst hx; rfl
  have g2 : rd l 2 = x2 := by subst hx; rfl
  have g3 : rd l 3 = x3 := by subst hx; rfl
  have c0 : w.cell? ad = some (.int .u8 x0) := by have h := hk 0 (by omega); subst hx; exact h
  have c1 : w.cell? ⟨ad.block, ad.off + 1, none⟩ = some (.int .u8 x1) := by have h := hk 1 (by omega); subst hx; exact h
  have c2 : w.cell? ⟨ad.block, ad.off + 2, none⟩ = some (.int .u8 x2) := by have h := hk 2 (by omega); subst hx; exact h
  have c3 : w.cell? ⟨ad.block, ad.off + 3, none⟩ = some (.int .u8 x3) := by have h := hk 3 (by omega); subst hx; exact h
  obtain ⟨a0, b0⟩ := okb_at hb 0
  obtain ⟨a1, b1⟩ := okb_at hb 1
  obtain ⟨a2, b2⟩ := okb_at hb 2
  obtain ⟨a3, b3⟩ := okb_at hb 3
  rw [g0] at a0 b0
  rw [g1] at a1 b1
  rw [g2] at a2 b2
  rw [g3] at a3 b3
  obtain ⟨o1, o2, o3⟩ := ors a0 b0 a1 b1 a2 b2 a3 b3
  have HK := Lib.hid hk
  clear hr hb g0 g1 g2 g3 hk hx
  go_enter Try.func14, Try.ntmps14
  go_wp2
  go_region
  obtain ⟨N, hN⟩ : ∃ N : Nat, x0 * 16777216 + x1 * 65536 + x2 * 256 + x3 = (N : Int) := ⟨(x0 * 16777216 + x1 * 65536 + x2 * 256 + x3).toNat, by omega⟩
  rw [hbig, hN] at HD
  rw [hN]
  clear o1 o2 o3 c0 c1 c2 c3 a0 a1 a2 a3 b0 b1 b2 b3 hbig hN
  by_cases h1 : 65536 < (N : Int)
  · have HO := Lib.hid (show opened l = ([], 0, 3) by rw [HD.out, if_pos h1])
    have d1 : decide ((65536 : Int) < (N : Int)) = true := by simp; omega
    go_wp2
    exact bodyPost_ret (v := .tuple #[.slice none 0 0, .int .i64 0, .int .i64 3]) (by simp [results, Try.results14, go_sem]) rfl ⟨none, 0, by rw [HO.out]; rfl, by rw [HO.out]; exact Kd.C_nil _ _, fun W _ => (by rw [HO.out]; exact Kd.C_nil _ _), (by rw [HO.out]; exact Nat.le_refl _), ⟨⟨1, rfl⟩⟩⟩
  · have d1 : decide ((65536 : Int) < (N : Int)) = false := by simp; omega
    by_cases h2 : (l.length : Int) < (N : Int) + 8
    · have HO := Lib.hid (show opened l = ([], 0, 10) by rw [HD.out, if_neg h1, if_pos h2])
      have d2 : decide ((l.length : Int) < (N : Int) + 8) = true := by simp; omega
      go_wp2
      exact bodyPost_ret (v := .tuple #[.slice none 0 0, .int .i64 0, .int .i64 10]) (by simp [results, Try.results14, go_sem]) rfl ⟨none, 0, by rw [HO.out]; rfl, by rw [HO.out]; exact Kd.C_nil _ _, fun W _ => (by rw [HO.out]; exact Kd.C_nil _ _), (by rw [HO.out]; exact Nat.le_refl _), ⟨⟨1, rfl⟩⟩⟩
    · have d2 : decide ((l.length : Int) < (N : Int) + 8) = false := by simp; omega
      have HD2 := Lib.hid (show opened l = _ by rw [HD.out, if_neg h1, if_neg h2, Int.toNat_natCast])
      clear HD
      obtain ⟨i5, hi5, _, hsz5, _⟩ := info_parts info5
      obtain ⟨A2, hcut2, hA2, hcA2⟩ := print_mid_of (P := Try.prog) (Value.int .u8) 0 22 5 .i64 .i64 Try.underlying22 hi5 hsz5 (some ad) c l 4 ((N : Int) + 4) (by omega) (by omega) (by omega) hc
      have e2 : ((N : Int) + 4).toNat = 4 + N := by omega
      have e3 : (4 : Int).toNat = 4 := rfl
      rw [e3, e2] at hcut2 hA2 hcA2
      have K2 := Lib.hid (hA2 _ (Kd.reads_of_C (enc := Value.int .u8) (d := (0 : Int)) (h1 := fun _ => rfl) HR.out))
      have KG : Hid (∀ W : World, Kd.C (Kd.int .u8) W (some ad) l.length l → Kd.C (Kd.int .u8) W A2 ((l.take (4 + N)).drop 4).length ((l.take (4 + N)).drop 4)) := Lib.hid (fun W hW => Kd.C_of_reads (d := (0 : Int)) (h1 := fun _ => rfl) (hA2 W (Kd.reads_of_C (enc := Value.int .u8) (d := (0 : Int)) (h1 := fun _ => rfl) hW)))
      have HC2 := Lib.hid hcA2
      have hs2 : ∀ W : World, (Instr.slice 22 (.slice (some ad) l.length c) (some (.int .i64 4)) (some (.int .i64 ((N : Int) + 4))) none).run Try.prog W = .ok (.slice A2 ((l.take (4 + N)).drop 4).length (c - 4)) W := hcut2
      clear hcut2 hA2 hcA2 hi5 hsz5 e2 e3
      have Y1 := Lib.hid (okb_drop (okb_take HL.out (8 + N)) (4 + N))
      have hcl : 4 + N ≤ l.length := by omega
      obtain ⟨y0, y1, y2, y3, hy⟩ : ∃ y0 y1 y2 y3 : Int, (l.take (8 + N)).drop (4 + N) = [y0, y1, y2, y3] := by
        have hy1 : ((l.take (8 + N)).drop (4 + N)).length = 4 := by rw [List.length_drop, List.length_take]; omega
        match h : (l.take (8 + N)).drop (4 + N), hy1 with
        | [a, b, c, d], _ => exact ⟨a, b, c, d, rfl⟩
      have hg : ∀ j, j < 4 → l.getD (4 + N + j) 0 = [y0, y1, y2, y3].getD j 0 := fun j hj => by
        rw [← hy, List.getD_eq_getElem?_getD, List.getD_eq_getElem?_getD, List.getElem?_drop, List.getElem?_take_of_lt (by omega)]
      have hkk : ∀ j, j < 4 → w.cell? ⟨ad.block, ad.off + (4 + N + j), none⟩ = some (.int .u8 ([y0, y1, y2, y3].getD j 0)) := fun j hj => by
        have h := HK.out (4 + N + j) (by omega)
        rw [hg j hj] at h
        rw [← h]
        unfold Addr.add
        rw [if_neg (by omega)]
      have c0 : w.cell? ⟨ad.block, ad.off + (N + 4), none⟩ = some (.int .u8 y0) := by have h := hkk 0 (by omega); rwa [show 4 + N + 0 = N + 4 by omega] at h
      have c1 : w.cell? ⟨ad.block, ad.off + (N + 5), none⟩ = some (.int .u8 y1) := by have h := hkk 1 (by omega); rwa [show 4 + N + 1 = N + 5 by omega] at h
      have c2 : w.cell? ⟨ad.block, ad.off + (N + 6), none⟩ = some (.int .u8 y2) := by have h := hkk 2 (by omega); rwa [show 4 + N + 2 = N + 6 by omega] at h
      have c3 : w.cell? ⟨ad.block, ad.off + (N + 7), none⟩ = some (.int .u8 y3) := by have h := hkk 3 (by omega); rwa [show 4 + N + 3 = N + 7 by omega] at h
      rw [hy] at Y1 HD2
      have HD3 := Lib.hid (show opened l = if y0 + y1 * 256 + y2 * 65536 + y3 * 16777216 ≠ more 0 (l.take (4 + N)) then ([], 0, 12) else ((l.take (4 + N)).drop 4, 8 + (N : Int), 0) by rw [HD2.out, show les [y0, y1, y2, y3] = y0 + y1 * 256 + y2 * 65536 + y3 * 16777216 by simp only [les]; omega])
      have hY := Y1.out
      simp only [okb, List.all_cons, List.all_nil, Bool.and_true, Bool.and_eq_true, decide_eq_true_eq] at hY
      obtain ⟨⟨a0, b0⟩, ⟨a1, b1⟩, ⟨a2, b2⟩, a3, b3⟩ := hY
      obtain ⟨o1, o2, o3⟩ := orsu a0 b0 a1 b1 a2 b2 a3 b3
      have HT := Lib.hid (Kd.C_take (m := 4 + N) HR.out hcl)
      have HTB := Lib.hid (okb_take HL.out (4 + N))
      have hlt2 : (l.take (4 + N)).length = 4 + N := by rw [List.length_take]; omega
      have HLT := Lib.hid hlt2
      clear hlt2 HD2 hkk hg hy HK
      go_wp2
      go_region
      generalize y0 + y1 * 256 + y2 * 65536 + y3 * 16777216 = S at *
      clear o1 o2 o3 a0 a1 a2 a3 b0 b1 b2 b3 c0 c1 c2 c3 Y1
      generalize some ad = A at *
      by_cases hs : S = more 0 (l.take (4 + N))
      · have q1 : (S != more 0 (l.take (4 + N))) = false := by rw [hs]; simp
        have HO := Lib.hid (show opened l = ((l.take (4 + N)).drop 4, 8 + (N : Int), 0) by rw [HD3.out, if_neg (by omega)])
        go_wp2_with (go_at_call 15; refine cast_len2 (n' := (l.take (4 + N)).length) (by have := HLT.out; omega) ?_; refine (peerageref04_More.calls (10 * (l.take (4 + N)).length + 1) 0 A c (l.take (4 + N)) (more 0 (l.take (4 + N))) _ (Kd.C_drew (Kd.C_drew HT.out)) (by have := HLT.out; omega) (refmore HTB.out (by have := HLT.out; omega) (by omega) (by omega))).mono ?_; rintro e w74 ⟨rfl, ⟨⟨q, rfl⟩⟩⟩)
        exact bodyPost_ret (v := .tuple #[.slice A2 N (c - 4), .int .i64 ((N : Int) + 8), .int .i64 0]) (by simp [results, Try.results14, go_sem]) rfl ⟨A2, c - 4, by rw [HO.out, show ((N : Int) + 8) = 8 + (N : Int) by omega, show ((l.take (4 + N)).drop 4, 8 + (N : Int), (0 : Int)).1.length = N by show ((l.take (4 + N)).drop 4).length = N; rw [List.length_drop, HLT.out]; omega], by rw [HO.out]; exact Kd.C_drewN (Kd.C_of_reads (d := (0 : Int)) (h1 := fun _ => rfl) K2.out) _, fun W hW => (by rw [HO.out]; exact KG.out W hW), (by rw [HO.out]; exact HC2.out), ⟨⟨1 + (1 + q), rfl⟩⟩⟩
      · have q1 : (S != more 0 (l.take (4 + N))) = true := by simp [bne, hs]
        have HO := Lib.hid (show opened l = ([], 0, 12) by rw [HD3.out, if_pos hs])
        go_wp2_with (go_at_call 15; refine cast_len2 (n' := (l.take (4 + N)).length) (by have := HLT.out; omega) ?_; refine (peerageref04_More.calls (10 * (l.take (4 + N)).length + 1) 0 A c (l.take (4 + N)) (more 0 (l.take (4 + N))) _ (Kd.C_drew (Kd.C_drew HT.out)) (by have := HLT.out; omega) (refmore HTB.out (by have := HLT.out; omega) (by omega) (by omega))).mono ?_; rintro e w74 ⟨rfl, ⟨⟨q, rfl⟩⟩⟩)
        exact bodyPost_ret (v := .tuple #[.slice none 0 0, .int .i64 0, .int .i64 12]) (by simp [results, Try.results14, go_sem]) rfl ⟨none, 0, by rw [HO.out]; rfl, by rw [HO.out]; exact Kd.C_nil _ _, fun W _ => (by rw [HO.out]; exact Kd.C_nil _ _), (by rw [HO.out]; exact Nat.le_refl _), ⟨⟨1 + (1 + q), rfl⟩⟩⟩
theorem ref_open_calls2 (A : Option Addr) (c : Nat) (l : List Int) (w : World) (hr : Kd.C (Kd.int .u8) w A l.length l) (hc : l.length ≤ c) (hb : okb l = true) (hm : l.length ≤ 90000000) : Calls Try.prog 14 #[.slice A l.length c] w (RefPost2 A w l) := by
  rcases Nat.lt_or_ge l.length 4 with h | h
  · exact ref_short A c l w h
  · exact ref_long A c l w hr hc hb hm h
theorem ref_open_calls (A : Option Addr) (c : Nat) (l : List Int) (w : World) (hr : Kd.C (Kd.int .u8) w A l.length l) (hc : l.length ≤ c) (hb : okb l = true) (hm : l.length ≤ 90000000) : Calls Try.prog 14 #[.slice A l.length c] w (RefPost w l) :=
  (ref_open_calls2 A c l w hr hc hb hm).mono fun _ _ ⟨A', c', h1, h2, _, _, h3⟩ => ⟨A', c', h1, h2, h3⟩
theorem ref_seal_f {l : List Int} (hb : okb l = true) (hl : l.length ≤ 65536) : peerageref04_Seal.f (10 * (hdr l.length ++ l).length + 1) l = some (sealed l, 0) := by
  have hm := refmore (okb_app (hdr_okb l.length) hb) (by simp [hdr]; omega) (a := 0) (by omega) (by omega)
  have hr := more_range 0 (hdr l.length ++ l)
  unfold peerageref04_Seal.f
  rw [if_neg (by omega), Option.bind_some]
  change (if (hdr l.length).length + l.length < _ then _ else _) = _
  rw [if_pos (by simp [hdr]; omega), Option.bind_some]
  change ((peerageref04_More.f _ 0 (hdr l.length ++ l)).bind _) = _
  rw [hm, Option.bind_some, Option.bind_some, if_pos (by simp [hdr]; omega)]
  rfl
theorem ref_seal_big {l : List Int} (hl : 65536 < l.length) (k : Nat) : peerageref04_Seal.f k l = some ([], 3) := by
  unfold peerageref04_Seal.f
  rw [if_pos (by omega)]
end Go.Proofs.Ytojdkfhjhheeaaa.H
