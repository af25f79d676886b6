/- peerageref04.Scan: a contract. Its rows are parts of what came in: headers. Condition: bytes. -/
import Derived.Test.YtojdkfhjhheeaaaScanP
import Derived.Test.YtojdkfhjhheeaaaRefX
namespace Go.Proofs.Ytojdkfhjhheeaaa.H
open Go.RowKit Go.Proofs.YtojdkfhjhheeaaaW.PrintWords Go.Proofs.YtojdkfhjhheeaaaW.PrintLast Go.Proofs.YtojdkfhjhheeaaaW.PrintMore
set_option linter.unusedVariables false
set_option linter.unusedSimpArgs false
/-- A slice's header, and what it leads to. -/
structure Hd where
  A : Option Addr
  c : Nat
  xs : List Int
def encH (h : Hd) : Value := .slice h.A h.xs.length h.c
theorem encH1 (h : Hd) : (encH h).oneCell' = true := rfl
abbrev KH : Kd Hd := Kd.scalar encH encH1
def Good (A : Option Addr) (l : List Int) (h : Hd) : Prop := h.xs.length ≤ h.c ∧ ∀ W : World, Kd.C (Kd.int .u8) W A l.length l → Kd.C (Kd.int .u8) W h.A h.xs.length h.xs
theorem C_of_hs {W : World} {base : Nat} {v : Value} {hs : List Hd} {A : Option Addr} {l : List Int} (h : Kd.R KH 22 W base (fun _ => True) v hs) (hC : Kd.C (Kd.int .u8) W A l.length l) (hg : ∀ h ∈ hs, Good A l h) :
    ∃ A' c', v = .slice A' (hs.map Hd.xs).length c' ∧ Kd.C (Kd.slice 5 (Kd.int .u8)) W A' (hs.map Hd.xs).length (hs.map Hd.xs) := by
  obtain ⟨A', c', rfl, hle, h1, h2, h3⟩ := Kd.R_reads h
  rw [List.length_map]
  refine ⟨A', c', rfl, by simp, h2, fun hn => ?_⟩
  obtain ⟨ad, e, hc⟩ := h3 hn
  refine ⟨ad, e, fun j p hj => ?_⟩
  rw [List.getElem?_map] at hj
  obtain ⟨hd, hj2, rfl⟩ := Option.map_eq_some_iff.1 hj
  obtain ⟨c, e1, e2, e3⟩ := hc j hd hj2
  have hgd := hg hd (List.mem_of_getElem? hj2)
  exact ⟨c, e1, ⟨hd.A, hd.c, e2, hgd.1, hgd.2 W hC⟩, e3⟩
theorem info22 : (Try.prog.info? 22).map (fun i => (i.zero, i.size, i.bytes)) = some (some (.slice none 0 0), 1, 24) := by kernel_rfl
theorem ref_open_at2 {A : Option Addr} {c : Nat} {l op : List Int} {on oe : Int} {w : World} (hr : Kd.C (Kd.int .u8) w A l.length l) (hc : l.length ≤ c) (hb : okb l = true) (hm : l.length ≤ 90000000) (ho : opened l = (op, on, oe)) :
    Calls Try.prog 14 #[.slice A l.length c] w fun e w' => ∃ A' c', e = .returned (.tuple #[.slice A' op.length c', .int .i64 on, .int .i64 oe]) ∧ (∀ W : World, Kd.C (Kd.int .u8) W A l.length l → Kd.C (Kd.int .u8) W A' op.length op) ∧ op.length ≤ c' ∧ Drawn0 w w' := by
  have h := ref_open_calls2 A c l w hr hc hb hm
  unfold RefPost2 at h
  rw [ho] at h
  exact h.mono fun _ _ ⟨A', c', h1, h2, h3, h4, h5⟩ => ⟨A', c', h1, h3, h4, h5⟩
set_option maxHeartbeats 2000000 in
theorem ref_scan_calls (A : Option Addr) (c : Nat) (l : List Int) (w : World) (hr : Kd.C (Kd.int .u8) w A l.length l) (hc : l.length ≤ c) (hb : okb l = true) (hm : l.length ≤ 90000000) :
    Calls Try.prog 17 #[.slice A l.length c] w fun e w' => ∃ A' c', e = .returned (.tuple #[.slice A' (scan l).1.length c', .int .i64 ((scan l).2.1 : Int), .int .i64 (scan l).2.2]) ∧ Kd.C (Kd.slice 5 (Kd.int .u8)) w' A' (scan l).1.length (scan l).1 ∧ Below w.heap.size w w' := by
  have HX := Lib.hid hr
  have HC := Lib.hid hc
  have HK := Lib.hid hb
  have HM := Lib.hid hm
  clear hr hb hm
  go_enter Try.func17, Try.ntmps17
  go_wp2
  go_loopw [5, 6] (fun v5 v6 wr => ∃ (hs : List Hd) (u k : Nat), v6 = .int .i64 (u : Int) ∧ Hid (u ≤ l.length) ∧ Hid (hs.length ≤ u) ∧ Hid (l.length - u < k ∧ scanl k l (hs.map Hd.xs) u = scan l) ∧ Hid (Kd.R KH 22 wr w.heap.size (fun _ => True) v5 hs) ∧ Hid (∀ h ∈ hs, Good A l h) ∧ Hid (Below w.heap.size w wr)) (fun _ v6 _ => l.length - (intOf v6).toNat)
  case atStart => exact ⟨[], 0, l.length + 1, rfl, Lib.hid (by omega), Lib.hid (by simp), Lib.hid ⟨by omega, rfl⟩, Lib.hid (Kd.R_nil _ _ _ _ _), Lib.hid (by simp), Lib.hid (Below.refl _ _)⟩
  case round =>
    obtain ⟨hs, u, k, rfl, HU, HL, HS, HR, HG, HB⟩ := hrel
    obtain ⟨k, rfl⟩ : ∃ k', k = k' + 1 := ⟨k - 1, by have := HS.out.1; omega⟩
    have hsc := HS.out.2
    unfold scanl at hsc
    by_cases hlt : u < l.length
    · rw [if_pos hlt] at hsc
      have d1 : decide ((u : Int) < (l.length : Int)) = true := by simp; omega
      have HD := Lib.hid (okb_drop HK.out u)
      generalize hop : opened (l.drop u) = op at hsc
      obtain ⟨o1, o2, o3⟩ := op
      have HOP := Lib.hid hop
      have HSC := Lib.hid hsc
      obtain ⟨i5, hi5, _, hsz5, _⟩ := info_parts info5
      obtain ⟨A8, hcut8, hA8, hC8⟩ := print_drop_of (P := Try.prog) (Value.int .u8) 0 22 5 .i64 Try.underlying22 hi5 hsz5 A c l (u : Int) (by omega) (by omega) HC.out
      rw [Int.toNat_natCast] at hcut8 hA8 hC8
      have HA8 : Hid (∀ W : World, Kd.C (Kd.int .u8) W A l.length l → Kd.C (Kd.int .u8) W A8 (l.drop u).length (l.drop u)) := Lib.hid (fun W hW => Kd.C_of_reads (d := (0 : Int)) (h1 := fun _ => rfl) (hA8 W (Kd.reads_of_C (enc := Value.int .u8) (d := (0 : Int)) (h1 := fun _ => rfl) hW)))
      have HC8 := Lib.hid hC8
      have HDL := Lib.hid (show (l.drop u).length ≤ 90000000 by rw [List.length_drop]; have := HM.out; omega)
      clear hA8 hC8 hi5 hsz5 hop hsc
      by_cases h3 : o3 = 0
      · subst h3
        obtain ⟨n, e1, e2, e3, e4⟩ := opened_ok HD.out (by rw [HOP.out])
        rw [HOP.out] at e1
        rw [List.length_drop] at e2
        simp only at e1
        clear e4
        subst e1
        have E2 := Lib.hid e2
        have E5 := Lib.hid (show wrap64 ((u : Int) + (8 + (n : Int))) = ((u + (8 + n) : Nat) : Int) by have := HU.out; have := HM.out; unfold wrap64; omega)
        clear e2 e3
        go_wp2_with (first | (go_at_call 14; (with_reducible refine cast_len (A := A8) (n' := (l.drop u).length) ?hl14 ?_); (case hl14 => first | rfl | (rw [List.length_drop])); refine (ref_open_at2 (HA8.out _ (Kd.C_below HX.out HB.out)) HC8.out HD.out HDL.out HOP.out).mono ?_; rintro e w9 ⟨A9, c9, rfl, hG, hle, ⟨⟨q9, rfl⟩⟩⟩; have HG9 := Lib.hid hG; have HL9 := Lib.hid hle; clear hG hle) | ((with_reducible refine gate_builtin (b := .append) (xs := #[.tmp 27, .tmp 29]) rfl ?_); at_builtin; refine Kd.R_append KH (w0 := w) w.heap.size rfl (.tmp 27) (.tmp 29) 39 22 (.slice none 0 0) 24 rfl Try.underlying39 info22 rfl (by decide) (by omega) _ hs ⟨A9, c9, o1⟩ [encH ⟨A9, c9, o1⟩] (fun _ => True) (fun _ => False) rfl rfl ?aP29 (fun _ hk => hk.elim) (fun _ _ => trivial) (Kd.R_drewN HR.out _) (pw_below_drewN HB.out _) (pw_below_drewN HB.out _).size ?aL29 ?_; (case aP29 => exact rfl); (case aL29 => have := HL.out; have := HU.out; have := HM.out; omega); intro v10 w10 ho hb hg hat; clear hg hat; have P10 := Lib.hid ho; have HB10 := Lib.hid hb; clear ho hb))
        have hsc := HSC.out
        rw [if_pos trivial, show u + ((8 : Int) + (n : Int)).toNat = u + (8 + n) by omega] at hsc
        go_roundw
        case rel => exact ⟨_, u + (8 + n), k, by rw [E5.out], Lib.hid (by have := E2.out; have := HU.out; omega), Lib.hid (by rw [List.length_append, List.length_singleton]; have := HL.out; omega), Lib.hid ⟨by have := HS.out.1; omega, by rw [List.map_append]; exact hsc⟩, P10, Lib.hid (by
          intro h hh
          rcases List.mem_append.1 hh with hh | hh
          · exact HG.out h hh
          · obtain rfl := List.mem_singleton.1 hh
            exact ⟨HL9.out, fun W hW => HG9.out W (HA8.out W hW)⟩), HB10⟩
        case measure =>
          rw [E5.out]
          show l.length - (((u + (8 + n) : Nat) : Int)).toNat < l.length - ((u : Nat) : Int).toNat
          rw [Int.toNat_natCast, Int.toNat_natCast]
          have := E2.out
          omega
      · have d3 : (o3 != 0) = true := by simp [bne, h3]
        obtain ⟨A5, c5, e5, hC5⟩ := C_of_hs HR.out (Kd.C_below HX.out HB.out) HG.out
        subst e5
        have HC5 := Lib.hid hC5
        clear hC5
        have HSD : Hid ((hs.map Hd.xs, u, o3) = scan l) := Lib.hid ((if_neg h3).symm.trans HSC.out)
        clear HSC
        go_wp2_with (first | (go_at_call 14; (with_reducible refine cast_len (A := A8) (n' := (l.drop u).length) ?hl14 ?_); (case hl14 => first | rfl | (rw [List.length_drop])); refine (ref_open_at2 (HA8.out _ (Kd.C_below HX.out HB.out)) HC8.out HD.out HDL.out HOP.out).mono ?_; rintro e w9 ⟨A9, c9, rfl, hG, hle, ⟨⟨q9, rfl⟩⟩⟩; have HG9 := Lib.hid hG; have HL9 := Lib.hid hle; clear hG hle) | ((with_reducible refine gate_builtin (b := .append) (xs := #[.tmp 27, .tmp 29]) rfl ?_); at_builtin; refine Kd.R_append KH (w0 := w) w.heap.size rfl (.tmp 27) (.tmp 29) 39 22 (.slice none 0 0) 24 rfl Try.underlying39 info22 rfl (by decide) (by omega) _ hs ⟨A9, c9, o1⟩ [encH ⟨A9, c9, o1⟩] (fun _ => True) (fun _ => False) rfl rfl ?aP29 (fun _ hk => hk.elim) (fun _ _ => trivial) (Kd.R_drewN HR.out _) (pw_below_drewN HB.out _) (pw_below_drewN HB.out _).size ?aL29 ?_; (case aP29 => exact rfl); (case aL29 => have := HL.out; have := HU.out; have := HM.out; omega); intro v10 w10 ho hb hg hat; clear hg hat; have P10 := Lib.hid ho; have HB10 := Lib.hid hb; clear ho hb))
        exact bodyPost_ret (v := .tuple #[.slice A5 (hs.map Hd.xs).length c5, .int .i64 (u : Int), .int .i64 o3]) (by simp [results, Try.results17, go_sem]) rfl (by rw [← HSD.out]; exact ⟨A5, c5, rfl, Kd.C_drewN HC5.out _, pw_below_drewN HB.out _⟩)
    · rw [if_neg hlt] at hsc
      have d1 : decide ((u : Int) < (l.length : Int)) = false := by simp; omega
      have HSC := Lib.hid hsc
      clear hsc
      obtain ⟨A5, c5, e5, hC5⟩ := C_of_hs HR.out (Kd.C_below HX.out HB.out) HG.out
      subst e5
      have HC5 := Lib.hid hC5
      clear hC5
      go_wp2
      exact bodyPost_ret (v := .tuple #[.slice A5 (hs.map Hd.xs).length c5, .int .i64 (u : Int), .int .i64 0]) (by simp [results, Try.results17, go_sem]) rfl (by rw [← HSC.out]; exact ⟨A5, c5, rfl, HC5.out, HB.out⟩)
end Go.Proofs.Ytojdkfhjhheeaaa.H
