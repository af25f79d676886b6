/- What the putter's bytes answer for an element: the walk. Condition: what lies in a memory, not too many bytes in one. -/
import Derived.Test.YtkhghgmonjebnaaBerA
namespace Go.Proofs.Ytkhghgmonjebnaa.B
open Go.RowKit Go.Proofs.YtkhghgmonjebnaaW.PrintWords Go.Proofs.YtkhghgmonjebnaaW.PrintLast Go.Proofs.YtkhghgmonjebnaaW.PrintMore
open Go.Proofs.Ytkhghgmonjebnaa.H Go.Proofs.Ytkhghgmonjebnaa.K
set_option linter.unusedVariables false
set_option linter.unusedSimpArgs false

set_option maxHeartbeats 2000000 in
theorem clone_calls (A : Option Addr) (c : Nat) (l : List Int) (w : World) (HR : Kd.C (Kd.int .u8) w A l.length l) (hc : l.length ≤ c) (hl : l.length < 140737488350000) :
    Calls Try.prog 37 #[.slice A l.length c] w fun e w' => ∃ v0_ : Value, e = .returned v0_ ∧ Kd.R (Kd.int .u8) 5 w' w.heap.size (fun _ => True) v0_ l ∧ Below w.heap.size w w' := by
  cases A with
  | none =>
    have hl0 : l = [] := by
      cases l with
      | nil => rfl
      | cons x l =>
        obtain ⟨ad, e, _⟩ := Kd.at_int HR 0 (by omega) (by simp)
        cases e
    subst hl0
    have hq : ∀ W : World, (binOp .eql 24 (.slice none 0 c) (.slice none 0 0)).run Try.prog W = .ok (.bool true) W := fun W => Lib.run_eql_slice_nil W 24 5 none 0 c 0 0 Try.underlying24
    go_enter Try.func37, Try.ntmps37
    go_wp2_with fail
    go_ret
    exact ⟨_, rfl, Kd.R_nil _ _ _ _ _, Below.refl _ _⟩
  | some ad =>
    have HR := Lib.hid HR
    have hq : ∀ W : World, (binOp .eql 24 (.slice (some ad) l.length c) (.slice none 0 0)).run Try.prog W = .ok (.bool false) W := fun W => Lib.run_eql_slice_nil W 24 5 (some ad) l.length c 0 0 Try.underlying24
    go_enter Try.func37, Try.ntmps37
    go_wp2_with (first | ((with_reducible refine gate_dst (N := 5) rfl ?_); refine Kd.R_lit (Kd.int .u8) (w0 := w) w.heap.size 5 ?hg (N := 5) ?hd (xs := ([] : List Int)) (inner := []) (ok := fun _ => True) (okp := fun _ => True) ?hr ?hp (fun _ hk => hk) trivial (Below.refl _ _) (Nat.le_refl _) (by simp) ?_; (case hd => rfl); (case hg => rfl); (case hr => first | (go_simp; done) | (go_simp; rfl)); (case hp => exact (Reps.none _ _)); intro v7 w7 ho7 hb7 hg7 hnew7; clear hg7 hnew7; have HO := Lib.hid ho7; have HB := Lib.hid hb7; clear ho7 hb7) | ((with_reducible refine gate_builtin (b := .append) (xs := #[.tmp 5, .tmp 6]) rfl ?_); at_builtin; refine Kd.R_append_rows (Kd.int .u8) (w0 := w) w.heap.size rfl (.tmp 5) (.tmp 6) 24 5 (.int .u8 0) 1 rfl Try.underlying24 info5 rfl (by decide) (by omega) v7 [] l _ _ _ (fun _ => True) (fun _ => False) rfl rfl HO.out (Kd.C_below HR.out HB.out) (fun _ _ h => h) (fun _ h => h.elim) (fun _ _ => trivial) HB.out HB.out.size (by simp; omega) ?_; intro v9 w9 ho9 hb9 hg9 hat9; clear hg9 hat9 HB HO; rw [List.nil_append] at ho9; (obtain ⟨A9, c9, e9⟩ := Kd.R_slice ho9); subst e9; have HO := Lib.hid ho9; have HB := Lib.hid hb9; clear ho9 hb9))
    go_ret
    exact ⟨_, rfl, HO.out, HB.out⟩

mutual
/-- What the putter lays, and the greatest size that it has met. -/
def layE : S27 → Int → List Int × Int
  | ⟨t, b, k⟩, s => (putLen (put [] t.f0 t.f1 t.f2) ((layL k b s).1.length : Int) ++ (layL k b s).1, max (layL k b s).2 ((putLen (put [] t.f0 t.f1 t.f2) ((layL k b s).1.length : Int) ++ (layL k b s).1).length : Int))
def layL : List S27 → List Int → Int → List Int × Int
  | [], inn, s => (inn, s)
  | k :: l, inn, s => if 16384 < (inn ++ (layE k s).1).length then layL l [] ((inn ++ (layE k s).1).length : Int) else layL l (inn ++ (layE k s).1) (layE k s).2
end
mutual
/-- Not too many bytes in one. -/
def thinE : S27 → Prop | ⟨_, b, k⟩ => b.length ≤ 30000 ∧ thinL k
def thinL : List S27 → Prop | [] => True | k :: l => thinE k ∧ thinL l
end
theorem thinL_iff (l : List S27) : thinL l ↔ ∀ x ∈ l, thinE x := by
  induction l with
  | nil => simp [thinL]
  | cons a l ih => simp [thinL, ih]
/-- A fault is told from other panics. -/
theorem assert80 (v : Value) (W : World) : (Instr.typeAssert (.iface 80 v) 20 80 true).run Try.prog W = .ok (.tuple #[v, .bool true]) W := by
  simp [Instr.typeAssert, Try.underlying80, go_sem, Result.andThen]
theorem head_len (cl nn n : Int) (md : Bool) : (putLen (put [] cl md nn) n).length ≤ 15 := by
  unfold putLen put
  have h7 : ∀ n m, (grp7 n m).length = m + 1 := fun n m => by
    induction m with
    | zero => rfl
    | succ m ih => simp [grp7, ih]
  have := m7_most nn
  have := m8_most n
  repeat' split
  all_goals simp [h7, grp8_len]
  all_goals omega
theorem head_len0 (cl nn : Int) (md : Bool) : (put [] cl md nn).length ≤ 5 := by
  unfold put
  have h7 : ∀ n m, (grp7 n m).length = m + 1 := fun n m => by
    induction m with
    | zero => rfl
    | succ m ih => simp [grp7, ih]
  have := m7_most nn
  repeat' split
  all_goals simp [h7]
  all_goals omega
theorem C_of_R {w : World} {base : Nat} {ok : Nat → Prop} {A : Option Addr} {n c : Nat} {xs : List Int} (h : Kd.R (Kd.int .u8) 5 w base ok (.slice A n c) xs) : Kd.C (Kd.int .u8) w A xs.length xs := by
  obtain ⟨A', c', e, _, hC⟩ := Kd.R_reads h
  injection e with e1
  subst e1
  exact hC
theorem layL_len (l : List S27) : ∀ inn s, inn.length ≤ 30000 → (layL l inn s).1.length ≤ 30000 := by
  induction l with
  | nil => intro inn s h; simpa [layL] using h
  | cons k l ih =>
    intro inn s h
    rw [layL]
    split
    · exact ih _ _ (by simp)
    · exact ih _ _ (by omega)
theorem layE_len (x : S27) (s : Int) (h : thinE x) : (layE x s).1.length ≤ 30015 := by
  obtain ⟨⟨t0, t1, t2⟩, b, k⟩ := x
  simp only [thinE] at h
  have := layL_len k b s h.1
  have := head_len t0 t2 ((layL k b s).1.length : Int) t1
  simp only [layE, List.length_append]
  omega
theorem deepL_le (n : Nat) : ∀ l : List S27, (∀ x ∈ l, deepE x ≤ n) → deepL l ≤ n
  | [], _ => by simp [deepL]
  | k :: l, h => by
    simp only [deepL]
    have := h k (by simp)
    have := deepL_le n l (fun x hx => h x (by simp [hx]))
    omega
theorem deepL_ge : ∀ (l : List S27) (x : S27), x ∈ l → deepE x ≤ deepL l
  | [], _, h => by simp at h
  | k :: l, x, h => by
    simp only [deepL]
    rcases List.mem_cons.1 h with rfl | h
    · omega
    · have := deepL_ge l x h
      omega
theorem deepE_pos (x : S27) : 1 ≤ deepE x := by
  obtain ⟨t, b, k⟩ := x
  simp [deepE]
theorem cut0 (A : Option Addr) (c : Nat) (l : List Int) (hc : l.length ≤ c) : ∀ W : World, (Instr.slice 24 (.slice A l.length c) none (some (.int .i64 0)) none).run Try.prog W = .ok (.slice A 0 c) W := by
  obtain ⟨i5, hi5, _, hsz5, _⟩ := info_parts info5
  obtain ⟨h, _⟩ := print_take_of (P := Try.prog) (Value.int .u8) 0 24 5 .i64 Try.underlying24 hi5 hsz5 A c l 0 (by omega) (by omega) hc
  exact h
/-- What a call may have turned: its new memory, and the size that the putter holds. -/
structure PutTo (w0 w w' : World) (pb : Nat) (s : Int) : Prop where
  keep : KeepBut w w' pb none
  blk : w'.heap[pb]? = some (.cells #[.int .i64 s] 59 (0, 0))
  low : Below w0.heap.size w0 w'
theorem R_put {w w' : World} {base pb : Nat} {v : Value} {xs : List Int} {cs : Array Value} (h : Kd.R (Kd.int .u8) 5 w base (fun _ => True) v xs) (hp : w.heap[pb]? = some (.cells cs 59 (0, 0))) (hk : KeepBut w w' pb none) : Kd.R (Kd.int .u8) 5 w' base (fun _ => True) v xs :=
  Kd.R_mono (Kd.R_keep (Kd.R_types h hp (by decide)) hk (fun _ h => h.2)) (fun _ _ => trivial)
abbrev chain15 : List PanicEntry := [{ v := .iface 80 (.agg #[.int .i64 15]), recovered := false }]
def BytesQ (w0 w : World) (pb : Nat) (s : Int) (deep : Nat) (x : S27) (e : Ending) (w' : World) : Prop :=
  if deep + deepE x ≤ 24 then ∃ v, e = .returned v ∧ Kd.R (Kd.int .u8) 5 w' w.heap.size (fun _ => True) v (layE x s).1 ∧ PutTo w0 w w' pb (layE x s).2
  else e = .panicked chain15 ∧ ∃ s', PutTo w0 w w' pb s'
def BytesP (x : S27) : Prop := ∀ (w0 w : World) (A3 : Option Addr) (c3 : Nat) (A4 : Option Addr) (c4 : Nat) (pb : Nat) (s : Int) (deep : Nat), Lies w0 x A3 c3 A4 c4 → Below w0.heap.size w0 w → w0.heap.size ≤ pb → w.heap[pb]? = some (.cells #[.int .i64 s] 59 (0, 0)) → deep ≤ 24 →
  Calls Try.prog 22 #[.pointer (some ⟨pb, 0, none⟩), ev x A3 c3 A4 c4, .int .i64 deep] w fun e w' => BytesQ w0 w pb s deep x e w'

set_option maxRecDepth 100000 in
set_option maxHeartbeats 8000000 in
theorem bytes_walk (x : S27) : fitE x → thinE x → BytesP x := by
  refine ind (P := fun x => fitE x → thinE x → BytesP x) ?_ x
  rintro ⟨t0, t1, t2⟩ b k ih hf ht w0 w A3 c3 A4 c4 pb s0 deep hL hB hlow hp hd
  simp only [fitE] at hf
  simp only [thinE] at ht
  have HX0 := Lib.hid (show ∀ x ∈ k, BytesP x from fun x hx => ih x hx ((fitL_iff k).1 hf.2.2.2 x hx) ((thinL_iff k).1 ht.2 x hx))
  have HTH := Lib.hid ht.1
  have HTL := Lib.hid ((thinL_iff k).1 ht.2)
  have hkl := hf.2.2.1
  have HC := Lib.hid hL.g4
  have HL := Lib.hid hL
  have HP := Lib.hid hp
  have HPL := Lib.hid (blk_lt hp)
  have HLOW := Lib.hid hlow
  have HB0 := Lib.hid hB
  have e0 : ev ⟨⟨t0, t1, t2⟩, b, k⟩ A3 c3 A4 c4 = .agg #[.int .i64 t0, .bool t1, .int .i64 t2, .slice A3 b.length c3, .slice A4 k.length c4] := rfl
  rw [e0]
  have HB00 := HB0
  generalize hkn : k.length = kn at HC hkl ⊢
  have HKN := Lib.hid hkn
  clear e0 ih hf ht hL hp hlow hB hkn
  by_cases hd24 : 24 ≤ deep
  · obtain rfl : deep = 24 := by omega
    have main : Calls Try.prog 22 #[.pointer (some ⟨pb, 0, none⟩), .agg #[.int .i64 t0, .bool t1, .int .i64 t2, .slice A3 b.length c3, .slice A4 kn c4], .int .i64 24] w fun e w' => e = .panicked chain15 ∧ PutTo w0 w w' pb s0 := by
      go_enter Try.func22, Try.ntmps22
      go_wp2_with fail
      exact ⟨rfl, rfl, ⟨KeepBut.of_below (below_alloc (Below.refl _ _) _) _ _, blk_below HP.out (below_alloc (Below.refl _ _) _), below_alloc HB0.out _⟩⟩
    exact main.mono (fun e w' hh => by unfold BytesQ; rw [if_neg (by have := deepE_pos ⟨⟨t0, t1, t2⟩, b, k⟩; omega)]; exact ⟨hh.1, s0, hh.2⟩)
  · have hdn : ¬ (24 : Int) ≤ (deep : Int) := by omega
    have HBa : Hid (Below w0.heap.size w0 (w.alloc (.cells #[.int .i64 t0, .bool t1, .int .i64 t2, .slice A3 b.length c3, .slice A4 kn c4] 27))) := Lib.hid (below_alloc HB0.out _)
    go_enter Try.func22, Try.ntmps22
    go_wp2_with (go_at_call 37; refine (clone_calls A3 c3 b _ (Kd.C_below HL.out.g3 HBa.out) HL.out.l3 (by have := HTH.out; omega)).mono ?_; rintro e w1 ⟨v7, rfl, ho, hb1⟩; have HR := Lib.hid (Kd.R_lower ho (by simp) : Kd.R (Kd.int .u8) 5 w1 w.heap.size (fun _ => True) v7 b); have HP1 := Lib.hid (blk_below (blk_below HP.out (below_alloc (Below.refl _ _) _)) hb1); have HV1 := Lib.hid (blk_below (blk_new w _) hb1 : w1.heap[w.heap.size]? = some (.cells #[.int .i64 t0, .bool t1, .int .i64 t2, .slice A3 b.length c3, .slice A4 kn c4] 27 (0, 0))); have HK1 := Lib.hid (KeepBut.of_below (below_then (below_alloc (Below.refl _ _) _) (by simp) hb1) pb none : KeepBut w w1 pb none); have HB1 := Lib.hid (below_then HBa.out HBa.out.size hb1); have r4 : w1.cell? ⟨w.heap.size, 4, none⟩ = some (.slice A4 kn c4) := blk_cell HV1.out 4; clear ho hb1)
    have HNE := Lib.hid (show w.heap.size ≠ pb from fun h => by have := blk_lt HP.out; omega)
    have HDN := Lib.hid hd24
    clear hd24 hdn
    go_loopw [7, 21] (fun v7 v21 wr => ∃ (i : Nat) (inn : List Int) (s : Int), i ≤ kn ∧ v21 = .int .i64 i ∧ Hid (Kd.R (Kd.int .u8) 5 wr w.heap.size (fun _ => True) v7 inn) ∧ Hid (layL (k.drop i) inn s = layL k b s0) ∧ Hid (∀ j (h : j < k.length), j < i → deep + 1 + deepE k[j] ≤ 24) ∧ Hid (inn.length ≤ 30000)
      ∧ Hid (wr.heap[pb]? = some (.cells #[.int .i64 s] 59 (0, 0))) ∧ Hid (wr.heap[w.heap.size]? = some (.cells #[.int .i64 t0, .bool t1, .int .i64 t2, .slice A3 b.length c3, .slice A4 kn c4] 27 (0, 0))) ∧ Hid (KeepBut w wr pb none) ∧ Hid (Below w0.heap.size w0 wr)) (fun _ v21 _ => kn - (intOf v21).toNat)
    case atStart => exact ⟨0, b, s0, Nat.zero_le _, rfl, HR, Lib.hid (by rw [List.drop_zero]), Lib.hid (by omega), HTH, HP1, HV1, HK1, HB1⟩
    case round =>
      clear HR HP1 HV1 HK1 HB1 r4 HBa
      obtain ⟨i, inn, s, hi, rfl, HR, HLAY, HDS, HI, HP, HV, HK, HB⟩ := hrel
      obtain ⟨A7, c7, rfl, hl7, hC7⟩ := Kd.R_reads HR.out
      by_cases hlt : i < kn
      · have hlt2 : i < k.length := by have := HKN.out; omega
        obtain ⟨ad, a3, e3, a4, e4, rfl, hLx, h0, h1, h2, h3, h4⟩ := at_ HC.out i hlt2 HKN.out.symm
        replace h0 := pw_cell_below HB.out h0
        replace h1 := pw_cell_below HB.out h1
        replace h2 := pw_cell_below HB.out h2
        replace h3 := pw_cell_below HB.out h3
        replace h4 := pw_cell_below HB.out h4
        have HLx := Lib.hid hLx
        have HX := Lib.hid (HX0.out k[i] (List.getElem_mem hlt2))
        have HTx := Lib.hid (HTL.out k[i] (List.getElem_mem hlt2))
        have HSt := Lib.hid (show layL (k.drop i) inn s = if 16384 < (inn ++ (layE k[i] s).1).length then layL (k.drop (i + 1)) [] ((inn ++ (layE k[i] s).1).length : Int) else layL (k.drop (i + 1)) (inn ++ (layE k[i] s).1) (layE k[i] s).2 by rw [List.drop_eq_getElem_cons hlt2, layL])
        have HGE := Lib.hid (deepL_ge k k[i] (List.getElem_mem hlt2))
        have HDS2 := Lib.hid (show deep + 1 + deepE k[i] ≤ 24 → ∀ j (h : j < k.length), j < i + 1 → deep + 1 + deepE k[j] ≤ 24 from fun hh j h hj => by
          rcases (by omega : j < i ∨ j = i) with hj | rfl
          · exact HDS.out j h hj
          · exact hh)
        have HD1 := Lib.hid (show ((deep : Int) + 1) = ((deep + 1 : Nat) : Int) by omega)
        clear hLx hC7 HDS
        generalize k[i] = x at h0 h1 h2 h3 h4 HLx HX HTx HSt HGE HDS2
        have HL30 := Lib.hid (layE_len x s HTx.out)
        obtain ⟨inn2, hin2⟩ : ∃ l, l = inn ++ (layE x s).1 := ⟨_, rfl⟩
        have HIN := Lib.hid hin2
        rw [← hin2] at HSt
        clear hin2
        by_cases hok : deep + 1 + deepE x ≤ 24
        · by_cases hbig : (16384 : Int) < (inn2.length : Int)
          · go_wp2_with (first | (go_at_call 22; rw [HD1.out]; refine (HX.out w0 _ a3 e3 a4 e4 pb s (deep + 1) HLx.out (below_alloc HB.out _) HLOW.out (blk_below HP.out (below_alloc (Below.refl _ _) _)) (by have := HDN.out; omega)).mono ?_; intro e w2 hpost; unfold BytesQ at hpost; rw [if_pos (by omega)] at hpost; obtain ⟨v30, rfl, ho, ⟨hk2, hp2, hb2⟩⟩ := hpost; (obtain ⟨A30, c30, rfl, hl30, hC30⟩ := Kd.R_reads ho); have HR2 := Lib.hid (R_put (Kd.R_below HR.out (below_alloc (Below.refl _ _) _)) (blk_below HP.out (below_alloc (Below.refl _ _) _)) hk2); have HV2 := Lib.hid (hk2.blk (blk_below HV.out (below_alloc (Below.refl _ _) _)) HNE.out (by simp)); have HP2 := Lib.hid hp2; have HB2 := Lib.hid hb2; have HK2 := Lib.hid ((keep_alloc HK.out _).trans hk2 (.inl rfl)); have HC30 := Lib.hid hC30; clear ho hk2 hp2 hb2 hl30 hC30 HR HV HP HB HK) | ((with_reducible refine gate_builtin (b := .append) (xs := #[.tmp 25, .tmp 30]) rfl ?_); at_builtin; refine Kd.R_append_rows (Kd.int .u8) (w0 := w2) w.heap.size rfl (.tmp 25) (.tmp 30) 24 5 (.int .u8 0) 1 rfl Try.underlying24 info5 rfl (by decide) (by omega) _ inn (layE x s).1 A30 (layE x s).1.length c30 (fun _ => True) (fun _ => False) rfl rfl HR2.out HC30.out (fun _ _ h => h) (fun _ h => h.elim) (fun _ _ => trivial) (Below.refl _ _) HK2.out.1 (by have := HL30.out; have := HI.out; omega) ?_; intro v9 w9 ho9 hb9 hg9 hat9; rw [← HIN.out] at ho9; (obtain ⟨A9, c9, rfl, hl9, _⟩ := Kd.R_reads ho9); have hcut := cut0 A9 c9 inn2 hl9; have HR3 := Lib.hid ho9; have HB3 := Lib.hid (HB2.out.trans (Below.mono hb9 HB0.out.size)); have HK3 := Lib.hid (show KeepBut w w9 pb none from ⟨Nat.le_trans HK2.out.1 hb9.size, fun i hi hne hr => (hb9.block i hi).trans (HK2.out.2 i hi hne hr)⟩); have HP3 := Lib.hid ((hb9.block pb HPL.out).trans HP2.out); have HV3 := Lib.hid (blk_grown HV2.out hg9 (Kd.R_ne HR2.out HV2.out (by decide))); have hcp : w9.cell? ⟨pb, 0, none⟩ = some (.int .i64 (layE x s).2) := blk_cell HP3.out 0; have hfz : w9.frozen? ⟨pb, 0, none⟩ = false := blk_frozen HP3.out 0; clear ho9 hb9 hg9 hat9 HR2 HB2 HK2 HP2 HV2))
            go_roundw
            case rel => exact ⟨i + 1, [], (inn2.length : Int), by omega, by go_num, Lib.hid (R_put (by have h := Kd.R_take HR3.out (Nat.zero_le inn2.length); rwa [List.take_zero] at h) HP3.out (KeepBut.set_ (KeepBut.refl _ _ _) 0 _)), Lib.hid (by rw [← HLAY.out, HSt.out, if_pos (by omega)]), Lib.hid (HDS2.out hok), Lib.hid (by simp), Lib.hid (blk_put HP3.out 0 _ rfl), Lib.hid (blk_far HV3.out HNE.out _), Lib.hid (KeepBut.set_ HK3.out 0 _), Lib.hid (Below.setCell HB3.out HLOW.out _)⟩
            case measure => simp [intOf]; omega
          · go_wp2_with (first | (go_at_call 22; rw [HD1.out]; refine (HX.out w0 _ a3 e3 a4 e4 pb s (deep + 1) HLx.out (below_alloc HB.out _) HLOW.out (blk_below HP.out (below_alloc (Below.refl _ _) _)) (by have := HDN.out; omega)).mono ?_; intro e w2 hpost; unfold BytesQ at hpost; rw [if_pos (by omega)] at hpost; obtain ⟨v30, rfl, ho, ⟨hk2, hp2, hb2⟩⟩ := hpost; (obtain ⟨A30, c30, rfl, hl30, hC30⟩ := Kd.R_reads ho); have HR2 := Lib.hid (R_put (Kd.R_below HR.out (below_alloc (Below.refl _ _) _)) (blk_below HP.out (below_alloc (Below.refl _ _) _)) hk2); have HV2 := Lib.hid (hk2.blk (blk_below HV.out (below_alloc (Below.refl _ _) _)) HNE.out (by simp)); have HP2 := Lib.hid hp2; have HB2 := Lib.hid hb2; have HK2 := Lib.hid ((keep_alloc HK.out _).trans hk2 (.inl rfl)); have HC30 := Lib.hid hC30; clear ho hk2 hp2 hb2 hl30 hC30 HR HV HP HB HK) | ((with_reducible refine gate_builtin (b := .append) (xs := #[.tmp 25, .tmp 30]) rfl ?_); at_builtin; refine Kd.R_append_rows (Kd.int .u8) (w0 := w2) w.heap.size rfl (.tmp 25) (.tmp 30) 24 5 (.int .u8 0) 1 rfl Try.underlying24 info5 rfl (by decide) (by omega) _ inn (layE x s).1 A30 (layE x s).1.length c30 (fun _ => True) (fun _ => False) rfl rfl HR2.out HC30.out (fun _ _ h => h) (fun _ h => h.elim) (fun _ _ => trivial) (Below.refl _ _) HK2.out.1 (by have := HL30.out; have := HI.out; omega) ?_; intro v9 w9 ho9 hb9 hg9 hat9; rw [← HIN.out] at ho9; (obtain ⟨A9, c9, rfl, hl9, _⟩ := Kd.R_reads ho9); have hcut := cut0 A9 c9 inn2 hl9; have HR3 := Lib.hid ho9; have HB3 := Lib.hid (HB2.out.trans (Below.mono hb9 HB0.out.size)); have HK3 := Lib.hid (show KeepBut w w9 pb none from ⟨Nat.le_trans HK2.out.1 hb9.size, fun i hi hne hr => (hb9.block i hi).trans (HK2.out.2 i hi hne hr)⟩); have HP3 := Lib.hid ((hb9.block pb HPL.out).trans HP2.out); have HV3 := Lib.hid (blk_grown HV2.out hg9 (Kd.R_ne HR2.out HV2.out (by decide))); have hcp : w9.cell? ⟨pb, 0, none⟩ = some (.int .i64 (layE x s).2) := blk_cell HP3.out 0; have hfz : w9.frozen? ⟨pb, 0, none⟩ = false := blk_frozen HP3.out 0; clear ho9 hb9 hg9 hat9 HR2 HB2 HK2 HP2 HV2))
            go_roundw
            case rel => exact ⟨i + 1, inn2, (layE x s).2, by omega, by go_num, HR3, Lib.hid (by rw [← HLAY.out, HSt.out, if_neg (by omega)]), Lib.hid (HDS2.out hok), Lib.hid (by omega), HP3, HV3, HK3, HB3⟩
            case measure => simp [intOf]; omega
        · go_wp2_with (go_at_call 22; rw [HD1.out]; refine (HX.out w0 _ a3 e3 a4 e4 pb s (deep + 1) HLx.out (below_alloc HB.out _) HLOW.out (blk_below HP.out (below_alloc (Below.refl _ _) _)) (by have := HDN.out; omega)).mono ?_; intro e w2 hpost; unfold BytesQ at hpost; rw [if_neg (by omega)] at hpost; obtain ⟨rfl, s', hk2, hp2, hb2⟩ := hpost)
          refine ⟨rfl, ?_⟩
          simp only [BytesQ, deepE]
          rw [if_neg (by have := HGE.out; omega)]
          exact ⟨by first | rfl | trivial, s', ⟨(keep_alloc HK.out _).trans hk2 (.inl rfl), hp2, hb2⟩⟩
      · obtain rfl : i = kn := by omega
        have r0 : wr.cell? ⟨w.heap.size, 0, none⟩ = some (.int .i64 t0) := blk_cell HV.out 0
        have r1 : wr.cell? ⟨w.heap.size, 1, none⟩ = some (.bool t1) := blk_cell HV.out 1
        have r2 : wr.cell? ⟨w.heap.size, 2, none⟩ = some (.int .i64 t2) := blk_cell HV.out 2
        have hE : layL k b s0 = (inn, s) := by rw [← HLAY.out, List.drop_eq_nil_of_le (by have := HKN.out; omega), layL]
        obtain ⟨out, hout⟩ : ∃ l, l = putLen (put [] t0 t1 t2) (inn.length : Int) ++ inn := ⟨_, rfl⟩
        have HIN := Lib.hid hout
        have HEE := Lib.hid hE
        clear hE hout hC7
        go_wp2_with (first | (go_at_call 38; refine (tag_Put.calls none 0 [] t0 t1 t2 _ _ (Kd.C_nil _ _) (Nat.le_refl _) (if_pos (by decide))).mono ?_; rintro e w3 ⟨v45, rfl, ho, hb⟩; (obtain ⟨A45, c45, rfl, hl45, hC45⟩ := Kd.R_reads ho); have HL45 := Lib.hid hl45; have HC45 := Lib.hid hC45; have HR4 := Lib.hid (Kd.R_below HR.out hb); have HP4 := Lib.hid (blk_below HP.out hb); have HK4 := Lib.hid (HK.out.trans (KeepBut.of_below hb pb none) (.inl rfl)); have HB4 := Lib.hid (below_then HB.out HB.out.size hb); clear ho hb hl45 hC45) | (go_at_call 19; refine (tag_PutLen.calls A45 c45 (put [] t0 t1 t2) (inn.length : Int) _ _ HC45.out HL45.out (if_pos ⟨by have := head_len0 t0 t2 t1; omega, by have := HI.out; omega⟩)).mono ?_; rintro e w4 ⟨v48, rfl, ho, hb⟩; have HR5 := Lib.hid (Kd.R_below HR4.out hb); have HO5 := Lib.hid (Kd.R_lower ho HK4.out.1 : Kd.R (Kd.int .u8) 5 w4 w.heap.size (fun _ => True) v48 (putLen (put [] t0 t1 t2) (inn.length : Int))); have HP5 := Lib.hid (blk_below HP4.out hb); have HK5 := Lib.hid (HK4.out.trans (KeepBut.of_below hb pb none) (.inl rfl)); have HB5 := Lib.hid (below_then HB4.out HB4.out.size hb); (obtain ⟨A48, c48, hv48⟩ := Kd.R_slice ho); subst hv48; clear ho hb) | ((with_reducible refine gate_builtin (b := .append) (xs := #[.tmp 48, .tmp 49]) rfl ?_); at_builtin; refine Kd.R_append_rows (Kd.int .u8) (w0 := w4) w.heap.size rfl (.tmp 48) (.tmp 49) 24 5 (.int .u8 0) 1 rfl Try.underlying24 info5 rfl (by decide) (by omega) _ (putLen (put [] t0 t1 t2) (inn.length : Int)) inn A7 inn.length c7 (fun _ => True) (fun _ => False) rfl rfl HO5.out (C_of_R HR5.out) (fun _ _ h => h) (fun _ h => h.elim) (fun _ _ => trivial) (Below.refl _ _) HK5.out.1 (by have := head_len t0 t2 (inn.length : Int) t1; have := HI.out; omega) ?_; intro v9 w9 ho9 hb9 hg9 hat9; rw [← HIN.out] at ho9; (obtain ⟨A9, c9, hv9⟩ := Kd.R_slice ho9); subst hv9; have HR3 := Lib.hid ho9; have HB3 := Lib.hid (HB5.out.trans (Below.mono hb9 HB00.out.size)); have HK3 := Lib.hid (show KeepBut w w9 pb none from ⟨Nat.le_trans HK5.out.1 hb9.size, fun i hi hne hr => (hb9.block i hi).trans (HK5.out.2 i hi hne hr)⟩); have HP3 := Lib.hid ((hb9.block pb HPL.out).trans HP5.out); have hcp : w9.cell? ⟨pb, 0, none⟩ = some (.int .i64 s) := blk_cell HP3.out 0; have hfz : w9.frozen? ⟨pb, 0, none⟩ = false := blk_frozen HP3.out 0; clear ho9 hb9 hg9 hat9))
        all_goals
          have hall : deep + deepE ⟨⟨t0, t1, t2⟩, b, k⟩ ≤ 24 := by
            have := deepL_le (24 - deep - 1) k (fun x hx => by
              obtain ⟨j, hj, rfl⟩ := List.mem_iff_getElem.1 hx
              have := HDS.out j hj (by have := HKN.out; omega)
              omega)
            simp only [deepE]
            have := HDN.out
            omega
          have hF : ∀ m : Int, m = max s (out.length : Int) → BytesQ w0 w pb s0 deep ⟨⟨t0, t1, t2⟩, b, k⟩ (.returned (.slice A9 out.length c9)) (w9.setCell ⟨pb, 0, none⟩ (.int .i64 m)) := by
            rintro m rfl
            unfold BytesQ
            rw [if_pos hall]
            have hLE : layE ⟨⟨t0, t1, t2⟩, b, k⟩ s0 = (out, max s (out.length : Int)) := by
              simp only [layE]
              rw [HEE.out, HIN.out]
            rw [hLE]
            exact ⟨_, rfl, R_put HR3.out HP3.out (KeepBut.set_ (KeepBut.refl _ _ _) 0 _), ⟨KeepBut.set_ HK3.out 0 _, blk_put HP3.out 0 _ rfl, Below.setCell HB3.out HLOW.out _⟩⟩
          go_ret
          exact hF _ (by omega)
end Go.Proofs.Ytkhghgmonjebnaa.B
