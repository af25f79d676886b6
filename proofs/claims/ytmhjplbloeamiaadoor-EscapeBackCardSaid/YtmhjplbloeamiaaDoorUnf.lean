/- Hex and Filter of texts behind one another; what Unfilter tells of texts that stand in a filter. Plain Lean over the printed functions. -/
import Derived.Test.YtmhjplbloeamiaaDoorPut
import Derived.Test.YtmhjplbloeamiaaDoorPEscx3
namespace Go.Proofs.YtmhjplbloeamiaaDoor.H
open Go.RowKit Go.Proofs.YtmhjplbloeamiaaDoor.M Go.Proofs.YtmhjplbloeamiaaDoor.PEsc Go.Proofs.YtmhjplbloeamiaaDoorW.PrintWords Go.Proofs.YtmhjplbloeamiaaDoorW.PrintLast Go.Proofs.YtmhjplbloeamiaaDoorW.PrintMore
set_option linter.unusedVariables false
set_option linter.unusedSimpArgs false
theorem pre_take (h : UInt8 → Bs) (l : Bs) : ∀ i, i ≤ l.length → pre (fun _ c => h c) l i = (l.take i).flatMap h
  | 0, _ => rfl
  | i + 1, hi => by
    have hlt : i < l.length := hi
    rw [pre, pre_take h l i (by omega), List.take_add_one, List.flatMap_append, List.getElem?_eq_getElem hlt, List.getD_eq_getElem?_getD, List.getElem?_eq_getElem hlt]
    simp
theorem pre_flat (h : UInt8 → Bs) (l : Bs) : pre (fun _ c => h c) l l.length = l.flatMap h := by
  rw [pre_take h l l.length (Nat.le_refl _), List.take_length]
theorem hexs_flat (l : Bs) : hexs l = l.flatMap two2 := pre_flat two2 l
theorem hexs_append (a b : Bs) : hexs (a ++ b) = hexs a ++ hexs b := by rw [hexs_flat, hexs_flat, hexs_flat, List.flatMap_append]
def gf (r : Bool) (c : UInt8) : Bs := if p17 r c = true then 92 :: two2 c else [c]
theorem fils_flat (l : Bs) : fils l = l.flatMap (gf (right l).isSome) := pre_flat (gf (right l).isSome) l
theorem right_append {a b : Bs} (ha : (right a).isSome = true) (hb : (right b).isSome = true) : (right (a ++ b)).isSome = true := by
  obtain ⟨x, hx⟩ := Option.isSome_iff_exists.1 ha
  obtain ⟨y, hy⟩ := Option.isSome_iff_exists.1 hb
  obtain ⟨vx, ex⟩ := right_some hx
  obtain ⟨vy, ey⟩ := right_some hy
  have : a ++ b = E (x ++ y) := by rw [E_append, ← ex, ← ey]
  rw [this, right_E (by rw [vs_append, vx, vy]; exact ⟨rfl, rfl⟩)]
  rfl
theorem fils_append {a b : Bs} (ha : (right a).isSome = true) (hb : (right b).isSome = true) : fils (a ++ b) = fils a ++ fils b := by
  rw [fils_flat, fils_flat, fils_flat, ha, hb, right_append ha hb, List.flatMap_append]
/-- Bytes that stand for a text in a filter. -/
inductive Un : Bs → Bs → Prop
  | nil : Un [] []
  | one {c : UInt8} {x y : Bs} (h : amg [42, 40, 41] c = false) (h1 : c.toNat ≠ 92) (h2 : c.toNat ≠ 0) (k : Un x y) : Un (c :: x) (c :: y)
  | esc {c : UInt8} {x y : Bs} (k : Un x y) : Un (92 :: (two2 c ++ x)) (c :: y)
theorem Un.append {a b x y : Bs} (h : Un a x) (k : Un b y) : Un (a ++ b) (x ++ y) := by
  induction h with
  | nil => exact k
  | one h h1 h2 _ ih => exact .one h h1 h2 ih
  | esc _ ih =>
    simp only [List.cons_append, List.append_assoc]
    exact .esc ih
theorem un_gf (r : Bool) (c : UInt8) : Un (gf r c) [c] := by
  unfold gf
  split
  · exact .esc (x := []) .nil
  · rename_i h
    simp only [p17, Bool.or_eq_true, not_or, Bool.not_eq_true, decide_eq_true_eq, decide_eq_false_iff_not] at h
    exact .one h.1.1.1 h.1.1.2 h.1.2 .nil
theorem un_flat (r : Bool) : ∀ l : Bs, Un (l.flatMap (gf r)) l
  | [] => .nil
  | c :: l => by
    rw [List.flatMap_cons]
    exact (un_gf r c).append (un_flat r l)
theorem un_fils (l : Bs) : Un (fils l) l := by rw [fils_flat]; exact un_flat _ l
theorem unhex_all : ∀ n : Fin 256, escape_Unhex.f 5 (mk (two2 (UInt8.ofNat n.val))) = some (mk [UInt8.ofNat n.val], true) := by decide +kernel
theorem unhex_two (c : UInt8) : Ev (fun k => escape_Unhex.f k (mk (two2 c))) (mk [c], true) := by
  refine Ev.of (fun k => escape_Unhex.mono _ k) (k := 5) ?_
  have := unhex_all ⟨c.toNat, c.toNat_lt⟩
  simpa using this
theorem among_f (S : ByteArray) (c : UInt8) : escape_among.f S (c.toNat : Int) = some (amg S.data.toList c) := by
  unfold escape_among.f strings_IndexByte.f amg
  simp only [Int.toNat_natCast, Nat.toUInt8, UInt8.ofNat_toNat]
  rfl
theorem sign_two (c : UInt8) (x : Bs) : Ev (fun k => escape_sign.f k (mk (two2 c ++ x)) (⟨#[]⟩ : ByteArray)) ((c.toNat : Int), 2) := by
  have hne : (mk (two2 c ++ x)).toList ≠ [] := by rw [mk_toList]; simp [two2]
  have hz : (mk (two2 c ++ x)).size = x.length + 2 := by rw [mk_size, List.length_append, two_len]; omega
  have h0 : bt (mk (two2 c ++ x)) 0 = ((dig (c.toNat / 16)).toNat : Int) := bt_head _ _
  have ha : escape_among.f (⟨#[]⟩ : ByteArray) (bt (mk (two2 c ++ x)) 0) = some false := by rw [h0, among_f]; rfl
  have hx : (mk (two2 c ++ x)).extract 0 2 = mk (two2 c) := by rw [mk_extract]; rfl
  have g0 : (0 : Int) < ((x.length + 2 : Nat) : Int) := by omega
  have g1 : ¬ ((x.length + 2 : Nat) : Int) < 2 := by omega
  have g2 : (2 : Int) ≤ ((x.length + 2 : Nat) : Int) := by omega
  have g3 : (0 : Nat) ≤ 2 := by omega
  have hj : Ev (fun k => escape_sign.j0 k (mk (two2 c ++ x)) false) ((c.toNat : Int), 2) := by
    refine Ev.step (f := fun k => (escape_Unhex.f k (mk (two2 c))).bind fun bt123 => (if bt123.2 = true then (if 0 < (bt123.1.size : Int) then (some (bt bt123.1 0, 2)) else (none)) else (some (0, 0)))) (fun k => ?_) (Ev.bind (unhex_two c) ?_)
    · simp only [escape_sign.j0]
      rw [if_neg (by decide), hz, if_neg g1, if_pos g3, if_pos g2, hx]
    · have : bt (mk [c]) 0 = (c.toNat : Int) := bt_head _ _
      have hz1 : ((mk [c]).size : Int) = 1 := rfl
      simp only [if_true, hz1, this]
      exact Ev.now _
  refine Ev.congr (fun k => ?_) hj
  unfold escape_sign.f
  rw [if_neg hne, hz, if_pos g0, ha]
  rfl
def nums8 (l : Bs) : List Int := l.map fun c => (c.toNat : Int)
theorem strOf_nums8 (l : Bs) : strOfNums (nums8 l) = mk l := by
  unfold strOfNums nums8 mk
  rw [List.map_map]
  congr 2
  rw [List.map_congr_left (g := id) (fun c _ => by simp), List.map_id]
theorem unfilter_l0 {x y : Bs} (h : Un x y) : ∀ (p : Bs) (acc : Bs), p.length + x.length ≤ 100000 → acc.length + y.length ≤ 100000 →
    Ev (fun k => escape_Unfilter.l0 k (mk (p ++ x)) (nums8 acc) (p.length : Int)) (mk (acc ++ y), true) := by
  induction h with
  | nil =>
    intro p acc h1 h2
    refine Ev.step (f := fun _ => some _) (fun k => ?_) (Ev.now _)
    simp only [escape_Unfilter.l0]
    rw [mk_size, List.append_nil, if_neg (by omega), strOf_nums8, List.append_nil]
  | @one c x y ha h92 h0 _ ih =>
    intro p acc h1 h2
    simp only [List.length_cons] at h1 h2
    have ih := ih (p ++ [c]) (acc ++ [c]) (by simp; omega) (by simp; omega)
    rw [List.append_assoc, List.singleton_append, List.append_assoc, List.singleton_append] at ih
    have hat : (p ++ c :: x)[p.length]? = some c := by rw [List.getElem?_append_right (Nat.le_refl _)]; simp
    have hbt := bt_mk hat
    have hz : (mk (p ++ c :: x)).size = p.length + x.length + 1 := by rw [mk_size]; simp; omega
    have g0 : (p.length : Int) < ((p.length + x.length + 1 : Nat) : Int) := by omega
    have g1 : (0 : Int) ≤ (p.length : Int) := by omega
    have g2 : ¬ (c.toNat : Int) = 92 := by omega
    have g3 : (nums8 acc).length < 140737488355328 := by unfold nums8; rw [List.length_map]; omega
    have g4 : ((c.toNat : Int) == 0) = false := by rw [beq_eq_false_iff_ne]; omega
    have hw : wrap64 ((p.length : Int) + 1) = ((p ++ [c]).length : Int) := by rw [w64 (by omega) (by omega), List.length_append, List.length_singleton]; omega
    have hn : nums8 acc ++ [(c.toNat : Int)] = nums8 (acc ++ [c]) := by unfold nums8; rw [List.map_append]; rfl
    have hj : Ev (fun k => escape_Unfilter.j1 k (mk (p ++ c :: x)) (nums8 acc) (p.length : Int) (c.toNat : Int) false) (mk (acc ++ c :: y), true) := by
      refine Ev.step (f := fun k => escape_Unfilter.l0 k (mk (p ++ c :: x)) (nums8 (acc ++ [c])) ((p ++ [c]).length : Int)) (fun k => ?_) ih
      simp only [escape_Unfilter.j1]
      rw [if_neg (by decide), if_neg g2, if_pos g3, hn, hw]
    refine Ev.step (f := fun k => escape_Unfilter.j1 k (mk (p ++ c :: x)) (nums8 acc) (p.length : Int) (c.toNat : Int) false) (fun k => ?_) hj
    simp only [escape_Unfilter.l0]
    rw [hz, if_pos g0, if_pos g1, hbt, among_f]
    show (some (amg [42, 40, 41] c)).bind _ = _
    rw [ha, Option.bind_some, if_neg (by decide), g4]
  | @esc c x y _ ih =>
    intro p acc h1 h2
    simp only [List.length_cons, List.length_append, two_len] at h1 h2
    have ih := ih (p ++ (92 :: two2 c)) (acc ++ [c]) (by simp [two_len]; omega) (by simp; omega)
    rw [List.append_assoc, List.cons_append, List.append_assoc, List.singleton_append] at ih
    have hat : (p ++ 92 :: (two2 c ++ x))[p.length]? = some 92 := by rw [List.getElem?_append_right (Nat.le_refl _)]; simp
    have hbt : bt (mk (p ++ 92 :: (two2 c ++ x))) (p.length : Int) = 92 := bt_mk hat
    have hz : (mk (p ++ 92 :: (two2 c ++ x))).size = p.length + x.length + 3 := by rw [mk_size]; simp [two_len]; omega
    have g0 : (p.length : Int) < ((p.length + x.length + 3 : Nat) : Int) := by omega
    have g1 : (0 : Int) ≤ (p.length : Int) := by omega
    have g3 : (nums8 acc).length < 140737488355328 := by unfold nums8; rw [List.length_map]; omega
    have hw1 : wrap64 ((p.length : Int) + 1) = ((p.length + 1 : Nat) : Int) := by rw [w64 (by omega) (by omega)]; omega
    have hw2 : wrap64 (wrap64 ((p.length : Int) + 2) + 1) = ((p ++ (92 :: two2 c)).length : Int) := by rw [w64 (n := (p.length : Int) + 2) (by omega) (by omega), w64 (by omega) (by omega)]; simp [two_len]; omega
    have g4 : (0 : Int) ≤ ((p.length + 1 : Nat) : Int) := by omega
    have g5 : ((p.length + 1 : Nat) : Int) ≤ ((p.length + x.length + 3 : Nat) : Int) := by omega
    have hx : (mk (p ++ 92 :: (two2 c ++ x))).extract (p.length + 1) (p.length + x.length + 3) = mk (two2 c ++ x) := by
      rw [mk_extract]
      congr 1
      rw [List.drop_append, List.drop_eq_nil_of_le (by omega), List.nil_append, show p.length + 1 - p.length = 1 by omega, List.drop_one, List.tail_cons]
      exact List.take_of_length_le (by simp [two_len]; omega)
    have hn : nums8 acc ++ [(c.toNat : Int)] = nums8 (acc ++ [c]) := by unfold nums8; rw [List.map_append]; rfl
    have hj : Ev (fun k => escape_Unfilter.j1 k (mk (p ++ 92 :: (two2 c ++ x))) (nums8 acc) (p.length : Int) 92 false) (mk (acc ++ c :: y), true) := by
      refine Ev.step (f := fun k => (escape_sign.f k (mk (two2 c ++ x)) (⟨#[]⟩ : ByteArray)).bind fun bt126 => (if bt126.2 = 0 then (some ((⟨#[]⟩ : ByteArray), false)) else (if (nums8 acc).length < 140737488355328 then (escape_Unfilter.l0 k (mk (p ++ 92 :: (two2 c ++ x))) (nums8 acc ++ [bt126.1]) (wrap64 ((wrap64 ((p.length : Int) + bt126.2)) + 1))) else (none)))) (fun k => ?_) (Ev.bind (sign_two c x) ?_)
      · simp only [escape_Unfilter.j1]
        rw [if_neg (by decide), if_pos trivial, hw1, if_pos g4, hz, if_pos g5, Int.toNat_natCast, hx]
      · refine Ev.congr (fun k => ?_) ih
        simp only
        rw [if_neg (by decide), if_pos g3, hn, hw2]
    refine Ev.step (f := fun k => escape_Unfilter.j1 k (mk (p ++ 92 :: (two2 c ++ x))) (nums8 acc) (p.length : Int) 92 false) (fun k => ?_) hj
    simp only [escape_Unfilter.l0]
    rw [hz, if_pos g0, if_pos g1, hbt]
    rfl
theorem unfilter_f {x y : Bs} (h : Un x y) (h1 : x.length ≤ 100000) (h2 : y.length ≤ 100000) : Ev (fun k => escape_Unfilter.f k (mk x)) (mk y, true) := by
  have := unfilter_l0 h [] [] (by simpa using h1) (by simpa using h2)
  exact this
end Go.Proofs.YtmhjplbloeamiaaDoor.H
