/- What Next, Count and Right compute, on lists of bytes. Plain Lean over the printed functions. -/
import Derived.Test.YtmlihcknkgfhaaaDoorPFoldx1
import Derived.Test.YtmlihcknkgfhaaaDoorPFoldx1
import Derived.Test.YtmlihcknkgfhaaaDoorFld
import Derived.Lib.TrimByte
import Derived.Laws.BitsLemmas
namespace Go.Proofs.YtmlihcknkgfhaaaDoor.M
open Go.RowKit Go.Proofs.YtmlihcknkgfhaaaDoor.PFold Go.Proofs.YtmlihcknkgfhaaaDoorW.PrintWords Go.Proofs.YtmlihcknkgfhaaaDoorW.PrintLast Go.Proofs.YtmlihcknkgfhaaaDoorW.PrintMore
set_option linter.unusedVariables false
set_option linter.unusedSimpArgs false
def mk (l : Bs) : ByteArray := ⟨l.toArray⟩
theorem mk_data (s : ByteArray) : mk s.data.toList = s := by
  obtain ⟨⟨l⟩⟩ := s
  rfl
theorem mk_toList (l : Bs) : (mk l).toList = l := by rw [ByteArray.toList_eq]; rfl
theorem mk_size (l : Bs) : (mk l).size = l.length := Lib.size_mk l
theorem mk_extract (l : Bs) (a b : Nat) : (mk l).extract a b = mk ((l.drop a).take (b - a)) := Lib.extract_mk l a b
theorem mk_append (l m : Bs) : mk l ++ mk m = mk (l ++ m) := by
  apply ByteArray.ext
  simp [mk]
theorem bt_mk {l : Bs} {i : Nat} {c : UInt8} (h : l[i]? = some c) : bt (mk l) (i : Int) = (c.toNat : Int) := by
  have hi : i < l.length := (List.getElem?_eq_some_iff.1 h).1
  unfold bt
  have hs : (i : Int).toNat < (mk l).size := by rw [mk_size]; simpa using hi
  rw [dif_pos hs]
  have := Lib.getElem_mk l (i : Int).toNat hs
  simp only [Int.toNat_natCast] at this ⊢
  rw [h] at this
  rw [Option.some.inj this]
  rfl
theorem bt_head (c : UInt8) (l : Bs) : bt (mk (c :: l)) 0 = (c.toNat : Int) := bt_mk (i := 0) rfl
theorem w64 {n : Int} (h0 : -9223372036854775808 ≤ n) (h1 : n ≤ 9223372036854775807) : wrap64 n = n := by unfold wrap64; omega
theorem w32 {n : Int} (h0 : -2147483648 ≤ n) (h1 : n ≤ 2147483647) : wrap32 n = n := by unfold wrap32; omega
/-- What Next answers. -/
def nx (l : Bs) : Int × Int := match dec1 l with
  | some (c, r) => ((c : Int), ((enc c).length : Int))
  | none => (0, 0)
theorem join6 {acc b : Nat} (ha : acc < 1000000) (h0 : 128 ≤ b) (h1 : b < 192) : Go.bits .or .i32 (wrap32 ((acc : Int) * 64)) (wrap32 (Go.bits .and .u8 (b : Int) 63)) = ((acc * 64 + (b - 128) : Nat) : Int) := by
  rw [u8_and63 _ (by omega) (by omega), w32 (by omega) (by omega), w32 (by omega) (by omega)]
  rw [bits_join .i32 31 (by decide) wraps_i32 6 ((acc : Int) * 64) ((b : Int) % 64) (by omega) (by omega) (by omega) (by omega) (by omega) (by omega)]
  omega
section
variable {l : Bs} {n least acc i : Nat} {c : UInt8} {k : Nat}
theorem l0_con (h : l[i]? = some c) (hi : i < n) (hc : con c = true) (ha : acc < 1000000) (hn : n ≤ 4) :
    fold_Next.l0 (k + 1) (mk l) (n : Int) (least : Int) (acc : Int) (i : Int) = fold_Next.l0 k (mk l) (n : Int) (least : Int) ((acc * 64 + (c.toNat - 128) : Nat) : Int) ((i + 1 : Nat) : Int) := by
  have hl := (List.getElem?_eq_some_iff.1 h).1
  have := con_iff.1 hc
  simp only [fold_Next.l0]
  rw [if_pos (by omega), if_pos (by omega), if_pos (by rw [mk_size]; omega), bt_mk h, if_pos (by omega), join6 ha this.1 this.2, w64 (by omega) (by omega)]
  rfl
theorem l0_bad (h : l[i]? = some c) (hi : i < n) (hc : con c = false) :
    fold_Next.l0 (k + 1) (mk l) (n : Int) (least : Int) (acc : Int) (i : Int) = some (0, 0) := by
  have hl := (List.getElem?_eq_some_iff.1 h).1
  have hb := c.toNat_lt
  have : ¬ (128 ≤ c.toNat ∧ c.toNat < 192) := fun e => by rw [con_iff.2 e] at hc; cases hc
  simp only [fold_Next.l0]
  rw [if_pos (by omega), if_pos (by omega), if_pos (by rw [mk_size]; omega), bt_mk h, if_neg (by omega)]
theorem l0_end (hi : ¬ i < n) :
    fold_Next.l0 (k + 1) (mk l) (n : Int) (least : Int) (acc : Int) (i : Int) = some (if least ≤ acc ∧ valid acc = true then ((acc : Int), (n : Int)) else (0, 0)) := by
  simp only [fold_Next.l0]
  rw [if_neg (by omega)]
  by_cases h1 : acc < least
  · rw [if_pos (by omega), if_neg (by omega)]
  · rw [if_neg (by omega)]
    by_cases h2 : 1114111 < acc
    · rw [if_pos (by omega), if_neg (by rw [valid_iff]; omega)]
    · rw [if_neg (by omega)]
      by_cases h3 : 55296 ≤ acc
      · rw [if_pos (by omega)]
        by_cases h4 : acc < 57344
        · rw [if_pos (by omega), if_neg (by rw [valid_iff]; omega)]
        · rw [if_neg (by omega), if_pos (by rw [valid_iff]; omega)]
      · rw [if_neg (by omega), if_pos (by rw [valid_iff]; omega)]
end
theorem enc1 {c : Nat} (h : c < 128) : (enc c).length = 1 := by rw [enc_len, if_pos h]
theorem enc2 {c : Nat} (h : 128 ≤ c) (h2 : c < 2048) : (enc c).length = 2 := by rw [enc_len, if_neg (by omega), if_pos h2]
theorem enc3 {c : Nat} (h : 2048 ≤ c) (h2 : c < 65536) : (enc c).length = 3 := by rw [enc_len, if_neg (by omega), if_neg (by omega), if_pos h2]
theorem enc4 {c : Nat} (h : 65536 ≤ c) : (enc c).length = 4 := by rw [enc_len, if_neg (by omega), if_neg (by omega), if_neg (by omega)]
theorem next_f (l : Bs) : Ev (fun k => fold_Next.f k (mk l)) (nx l) := by
  unfold fold_Next.f
  cases l with
  | nil => exact Ev.congr (f := fun _ => some (0, 0)) (fun k => by rw [mk_toList, if_pos rfl]) (Ev.now _)
  | cons a r =>
    have ha := a.toNat_lt
    have hs : 0 < ((mk (a :: r)).size : Int) := by rw [mk_size]; simp <;> omega
    have lead : ∀ (n : Nat) (bits least : Nat), fold_lead.f (a.toNat : Int) = some ((n : Int), (bits : Int), (least : Int)) → n ≠ 0 → bits < 1000 → Ev (fun k => fold_Next.j0 k (mk (a :: r)) (n : Int) (bits : Int) (least : Int) (decide (((mk (a :: r)).size : Int) < (n : Int)))) (nx (a :: r)) →
        Ev (fun k => if (mk (a :: r)).toList = ([] : List UInt8) then (some (0, 0)) else (if 0 < ((mk (a :: r)).size : Int) then ((fold_lead.f (bt (mk (a :: r)) 0)).bind fun bt101 => (if bt101.1 = 0 then (fold_Next.j0 k (mk (a :: r)) bt101.1 bt101.2.1 bt101.2.2 true) else (fold_Next.j0 k (mk (a :: r)) bt101.1 bt101.2.1 bt101.2.2 (decide (((mk (a :: r)).size : Int) < bt101.1))))) else (none))) (nx (a :: r)) := by
      intro n bits least h hn hb q
      refine Ev.congr (fun k => ?_) q
      rw [mk_toList, if_neg (by simp), if_pos hs, bt_head, h]
      simp only [Option.bind_some]
      rw [if_neg (by omega)]
    have short : ∀ (n bits least : Nat), (a :: r).length < n → nx (a :: r) = (0, 0) → Ev (fun k => fold_Next.j0 k (mk (a :: r)) (n : Int) (bits : Int) (least : Int) (decide (((mk (a :: r)).size : Int) < (n : Int)))) (nx (a :: r)) := by
      intro n bits least h hx
      rw [hx]
      refine Ev.step (f := fun _ => some _) (fun k => ?_) (Ev.now _)
      simp only [fold_Next.j0]
      rw [decide_eq_true (by rw [mk_size]; omega), if_pos rfl]
    have long : ∀ (n bits least : Nat) (q : Int × Int), ¬ (a :: r).length < n → bits < 1000 → Ev (fun k => fold_Next.l0 k (mk (a :: r)) (n : Int) (least : Int) (bits : Int) ((1 : Nat) : Int)) q → Ev (fun k => fold_Next.j0 k (mk (a :: r)) (n : Int) (bits : Int) (least : Int) (decide (((mk (a :: r)).size : Int) < (n : Int)))) q := by
      intro n bits least q h hb hq
      refine Ev.step (fun k => ?_) hq
      simp only [fold_Next.j0]
      rw [decide_eq_false (by rw [mk_size]; omega), if_neg (by simp), w32 (by omega) (by omega)]
      rfl
    by_cases h1 : a.toNat < 128
    · refine lead 1 a.toNat 0 (by unfold fold_lead.f; rw [if_pos (by omega)]; rfl) (by omega) (by omega) (long 1 a.toNat 0 _ (by simp) (by omega) (Ev.step (f := fun _ => some _) (fun k => ?_) (Ev.now _)))
      rw [l0_end (by omega), if_pos ⟨by omega, valid_iff.2 (by omega)⟩]
      unfold nx
      rw [dec1_cons, if_pos h1]
      simp only
      rw [enc1 h1]
    have none_ : a.toNat < 192 ∨ 248 ≤ a.toNat → nx (a :: r) = (0, 0) := by
      intro h
      unfold nx
      rw [dec1_cons, if_neg h1]
      rcases h with h | h
      · rw [if_pos h]
      · rw [if_neg (by omega), if_neg (by omega), if_neg (by omega), if_neg (by omega)]
    by_cases h0 : a.toNat < 192 ∨ 248 ≤ a.toNat
    · rw [none_ h0]
      refine Ev.congr (f := fun k => fold_Next.j0 k (mk (a :: r)) 0 0 0 true) (fun k => ?_) (Ev.step (f := fun _ => some _) (fun k => ?_) (Ev.now _))
      · have e : fold_lead.f (a.toNat : Int) = some (0, 0, 0) := by
          unfold fold_lead.f
          rw [if_neg (by omega), if_neg (by omega), if_neg (by omega), if_neg (by omega)]
        rw [mk_toList, if_neg (by simp), if_pos hs, bt_head, e]
        rfl
      · simp only [fold_Next.j0]
        rw [if_pos trivial]
    by_cases h2 : a.toNat < 224
    · have e : fold_lead.f (a.toNat : Int) = some (((2 : Nat) : Int), ((a.toNat - 192 : Nat) : Int), ((128 : Nat) : Int)) := by
        unfold fold_lead.f
        rw [if_neg (by omega), if_pos (by omega), u8_and31 _ (by omega) (by omega), show ((a.toNat : Int) % 32) = ((a.toNat - 192 : Nat) : Int) by omega]
        rfl
      refine lead 2 (a.toNat - 192) 128 e (by omega) (by omega) ?_
      have hx : nx (a :: r) = match d2 a.toNat r with
          | some (c, r) => ((c : Int), ((enc c).length : Int))
          | none => (0, 0) := by
        unfold nx
        rw [dec1_cons, if_neg h1, if_neg (by omega), if_pos h2]
      match r, hx with
      | [], hx => exact short 2 _ _ (by simp) (by rw [hx]; rfl)
      | b :: r, hx =>
        rw [hx]
        refine long 2 _ _ _ (by simp) (by omega) ?_
        cases hb : con b
        · refine Ev.step (f := fun _ => some _) (fun k => ?_) (Ev.now _)
          rw [l0_bad (c := b) rfl (by omega) hb, d2, if_neg (by simp [hb])]
        · have hb2 := con_iff.1 hb
          refine Ev.step (fun k => l0_con (c := b) rfl (by omega) hb (by omega) (by omega)) (Ev.step (f := fun _ => some _) (fun k => ?_) (Ev.now _))
          rw [l0_end (by omega), d2]
          by_cases h3 : 128 ≤ (a.toNat - 192) * 64 + (b.toNat - 128)
          · rw [if_pos ⟨h3, valid_iff.2 (by omega)⟩, if_pos ⟨hb, h3⟩]
            simp only
            rw [enc2 h3 (by omega)]
          · rw [if_neg (fun q => h3 q.1), if_neg (fun q => h3 q.2)]
    by_cases h3 : a.toNat < 240
    · have e : fold_lead.f (a.toNat : Int) = some (((3 : Nat) : Int), ((a.toNat - 224 : Nat) : Int), ((2048 : Nat) : Int)) := by
        unfold fold_lead.f
        rw [if_neg (by omega), if_neg (by omega), if_pos (by omega), u8_and15 _ (by omega) (by omega), show ((a.toNat : Int) % 16) = ((a.toNat - 224 : Nat) : Int) by omega]
        rfl
      refine lead 3 (a.toNat - 224) 2048 e (by omega) (by omega) ?_
      have hx : nx (a :: r) = match d3 a.toNat r with
          | some (c, r) => ((c : Int), ((enc c).length : Int))
          | none => (0, 0) := by
        unfold nx
        rw [dec1_cons, if_neg h1, if_neg (by omega), if_neg h2, if_pos h3]
      match r, hx with
      | [], hx => exact short 3 _ _ (by simp) (by rw [hx]; rfl)
      | [_], hx => exact short 3 _ _ (by simp) (by rw [hx]; rfl)
      | b :: c :: r, hx =>
        rw [hx]
        refine long 3 _ _ _ (by simp) (by omega) ?_
        cases hb : con b
        · refine Ev.step (f := fun _ => some _) (fun k => ?_) (Ev.now _)
          rw [l0_bad (c := b) rfl (by omega) hb, d3, if_neg (by simp [hb])]
        · have hb2 := con_iff.1 hb
          refine Ev.step (fun k => l0_con (c := b) rfl (by omega) hb (by omega) (by omega)) ?_
          cases hc : con c
          · refine Ev.step (f := fun _ => some _) (fun k => ?_) (Ev.now _)
            rw [l0_bad (c := c) rfl (by omega) hc, d3, if_neg (by simp [hc])]
          · have hc2 := con_iff.1 hc
            refine Ev.step (fun k => l0_con (c := c) rfl (by omega) hc (by omega) (by omega)) (Ev.step (f := fun _ => some _) (fun k => ?_) (Ev.now _))
            rw [l0_end (by omega), d3]
            have en : ((a.toNat - 224) * 64 + (b.toNat - 128)) * 64 + (c.toNat - 128) = n3 a.toNat b.toNat c.toNat := rfl
            rw [en]
            have hm : n3 a.toNat b.toNat c.toNat < 65536 := by unfold n3; omega
            by_cases h4 : 2048 ≤ n3 a.toNat b.toNat c.toNat ∧ valid (n3 a.toNat b.toNat c.toNat) = true
            · rw [if_pos h4, if_pos ⟨⟨hb, hc⟩, h4⟩]
              simp only
              rw [enc3 h4.1 hm]
            · rw [if_neg h4, if_neg (fun q => h4 q.2)]
    · have e : fold_lead.f (a.toNat : Int) = some (((4 : Nat) : Int), ((a.toNat - 240 : Nat) : Int), ((65536 : Nat) : Int)) := by
        unfold fold_lead.f
        rw [if_neg (by omega), if_neg (by omega), if_neg (by omega), if_pos (by omega), u8_and7 _ (by omega) (by omega), show ((a.toNat : Int) % 8) = ((a.toNat - 240 : Nat) : Int) by omega]
        rfl
      refine lead 4 (a.toNat - 240) 65536 e (by omega) (by omega) ?_
      have hx : nx (a :: r) = match d4 a.toNat r with
          | some (c, r) => ((c : Int), ((enc c).length : Int))
          | none => (0, 0) := by
        unfold nx
        rw [dec1_cons, if_neg h1, if_neg (by omega), if_neg h2, if_neg h3, if_pos (by omega)]
      match r, hx with
      | [], hx => exact short 4 _ _ (by simp) (by rw [hx]; rfl)
      | [_], hx => exact short 4 _ _ (by simp) (by rw [hx]; rfl)
      | [_, _], hx => exact short 4 _ _ (by simp) (by rw [hx]; rfl)
      | b :: c :: d :: r, hx =>
        rw [hx]
        refine long 4 _ _ _ (by simp) (by omega) ?_
        cases hb : con b
        · refine Ev.step (f := fun _ => some _) (fun k => ?_) (Ev.now _)
          rw [l0_bad (c := b) rfl (by omega) hb, d4, if_neg (by simp [hb])]
        · have hb2 := con_iff.1 hb
          refine Ev.step (fun k => l0_con (c := b) rfl (by omega) hb (by omega) (by omega)) ?_
          cases hc : con c
          · refine Ev.step (f := fun _ => some _) (fun k => ?_) (Ev.now _)
            rw [l0_bad (c := c) rfl (by omega) hc, d4, if_neg (by simp [hc])]
          · have hc2 := con_iff.1 hc
            refine Ev.step (fun k => l0_con (c := c) rfl (by omega) hc (by omega) (by omega)) ?_
            cases hd : con d
            · refine Ev.step (f := fun _ => some _) (fun k => ?_) (Ev.now _)
              rw [l0_bad (c := d) rfl (by omega) hd, d4, if_neg (by simp [hd])]
            · have hd2 := con_iff.1 hd
              refine Ev.step (fun k => l0_con (c := d) rfl (by omega) hd (by omega) (by omega)) (Ev.step (f := fun _ => some _) (fun k => ?_) (Ev.now _))
              rw [l0_end (by omega), d4]
              have en : (((a.toNat - 240) * 64 + (b.toNat - 128)) * 64 + (c.toNat - 128)) * 64 + (d.toNat - 128) = n4 a.toNat b.toNat c.toNat d.toNat := rfl
              rw [en]
              by_cases h4 : 65536 ≤ n4 a.toNat b.toNat c.toNat d.toNat ∧ valid (n4 a.toNat b.toNat c.toNat d.toNat) = true
              · rw [if_pos h4, if_pos ⟨⟨hb, hc, hd⟩, h4⟩]
                simp only
                rw [enc4 h4.1]
              · rw [if_neg h4, if_neg (fun q => h4 q.2)]
theorem nx_enc {c : Nat} (h : valid c = true) (r : Bs) : nx (enc c ++ r) = ((c : Int), ((enc c).length : Int)) := by
  unfold nx
  rw [dec1_enc h]
theorem nx_some {l : Bs} (h : (nx l).2 ≠ 0) : ∃ c r, valid c = true ∧ l = enc c ++ r := by
  unfold nx at h
  split at h
  · rename_i c r hd
    obtain ⟨h1, h2⟩ := dec1_some hd
    exact ⟨c, r, h1, h2⟩
  · exact absurd rfl h
end Go.Proofs.YtmlihcknkgfhaaaDoor.M
