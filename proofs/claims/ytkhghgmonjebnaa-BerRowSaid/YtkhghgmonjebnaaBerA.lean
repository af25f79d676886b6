/- Elements as trees: what right, the depth and the bytes of one are; plain definitions. -/
import Derived.Test.YtkhghgmonjebnaaKinds
import Derived.Test.YtkhghgmonjebnaaHand2
namespace Go.Proofs.Ytkhghgmonjebnaa.B
open Go.RowKit Go.Proofs.YtkhghgmonjebnaaW.PrintWords Go.Proofs.YtkhghgmonjebnaaW.PrintLast Go.Proofs.YtkhghgmonjebnaaW.PrintMore
open Go.Proofs.Ytkhghgmonjebnaa.H Go.Proofs.Ytkhghgmonjebnaa.K
set_option linter.unusedVariables false
set_option linter.unusedSimpArgs false

theorem ind {P : S27 → Prop} (h : ∀ t b k, (∀ x ∈ k, P x) → P ⟨t, b, k⟩) (x : S27) : P x := by
  refine S27.rec (motive_1 := P) (motive_2 := fun l => ∀ x ∈ l, P x) (fun t b k ih => h t b k ih) (by simp) ?_ x
  intro a l ha hl x hx
  rcases List.mem_cons.1 hx with rfl | hx
  · exact ha
  · exact hl x hx

mutual
/-- Is an element right, but for its depth? -/
def rightE : S27 → Bool | ⟨t, b, k⟩ => right t.f0 t.f2 && (t.f1 || k.isEmpty) && (!t.f1 || b.isEmpty) && rightL k
def rightL : List S27 → Bool | [] => true | k :: l => rightE k && rightL l
end
theorem rightL_all (l : List S27) : rightL l = l.all rightE := by
  induction l with
  | nil => simp [rightL]
  | cons a l ih => simp [rightL, ih]
mutual
/-- How deep. -/
def deepE : S27 → Nat | ⟨_, _, k⟩ => deepL k + 1
def deepL : List S27 → Nat | [] => 0 | k :: l => max (deepE k) (deepL l)
end
mutual
/-- The bytes of an element, of any depth and size. -/
def encE : S27 → List Int | ⟨t, b, k⟩ => put [] t.f0 t.f1 t.f2 ++ putLen [] ((b ++ encL k).length : Int) ++ (b ++ encL k)
def encL : List S27 → List Int | [] => [] | k :: l => encE k ++ encL l
end
mutual
/-- Are two elements one? -/
def sameE : S27 → S27 → Bool | ⟨t, b, k⟩, ⟨u, c, m⟩ => (t.f0 == u.f0) && (t.f1 == u.f1) && (t.f2 == u.f2) && (b == c) && sameL k m
def sameL : List S27 → List S27 → Bool | [], [] => true | k :: l, m :: n => sameE k m && sameL l n | [], _ :: _ => false | _ :: _, [] => false
end

mutual
/-- What lies in a memory: bytes, and not more of them than there can be. -/
def fitE : S27 → Prop | ⟨_, b, k⟩ => okb b = true ∧ b.length ≤ 9223372036854775807 ∧ k.length ≤ 9223372036854775807 ∧ fitL k
def fitL : List S27 → Prop | [] => True | k :: l => fitE k ∧ fitL l
end
theorem fitL_iff (l : List S27) : fitL l ↔ ∀ x ∈ l, fitE x := by
  induction l with
  | nil => simp [fitL]
  | cons a l ih => simp [fitL, ih]

/-- An element as an argument. -/
abbrev ev (x : S27) (A3 : Option Addr) (c3 : Nat) (A4 : Option Addr) (c4 : Nat) : Value :=
  (.agg #[.int .i64 x.f0.f0, .bool x.f0.f1, .int .i64 x.f0.f2, .slice A3 x.f1.length c3, .slice A4 x.f2.length c4])
structure Lies (w : World) (x : S27) (A3 : Option Addr) (c3 : Nat) (A4 : Option Addr) (c4 : Nat) : Prop where
  l3 : x.f1.length ≤ c3
  g3 : Kd.C (Kd.int .u8) w A3 x.f1.length x.f1
  l4 : x.f2.length ≤ c4
  g4 : Kd.C k27 w A4 x.f2.length x.f2
theorem Lies.below {w w' : World} {x : S27} {A3 : Option Addr} {c3 : Nat} {A4 : Option Addr} {c4 : Nat} (h : Lies w x A3 c3 A4 c4) (hb : Below w.heap.size w w') : Lies w' x A3 c3 A4 c4 :=
  ⟨h.l3, Kd.C_below h.g3 hb, h.l4, Kd.C_below h.g4 hb⟩
/-- Element i of a row of elements. -/
theorem at_ {w : World} {A : Option Addr} {n : Nat} {xs : List S27} (h : Kd.C k27 w A n xs) (k : Nat) (hk : k < xs.length) (hn : n = xs.length) : ∃ ad A3 c3 A4 c4, A = some ad ∧ Lies w xs[k] A3 c3 A4 c4 ∧
    w.cell? (ad.add (k * 5)) = some (.int .i64 xs[k].f0.f0) ∧ w.cell? ⟨(ad.add (k * 5)).block, (ad.add (k * 5)).off + 1, none⟩ = some (.bool xs[k].f0.f1) ∧ w.cell? ⟨(ad.add (k * 5)).block, (ad.add (k * 5)).off + 2, none⟩ = some (.int .i64 xs[k].f0.f2) ∧
    w.cell? ⟨(ad.add (k * 5)).block, (ad.add (k * 5)).off + 3, none⟩ = some (.slice A3 xs[k].f1.length c3) ∧ w.cell? ⟨(ad.add (k * 5)).block, (ad.add (k * 5)).off + 4, none⟩ = some (.slice A4 xs[k].f2.length c4) := by
  obtain ⟨ad, A3, c3, A4, c4, e, h0, h1, h2, h3, h4, l3, g3, l4, g4⟩ := at_T27 h (k : Int) (by omega) (by omega)
  have hr : rd_T27 xs (k : Int) = xs[k] := by simp [rd_T27, List.getD_eq_getElem?_getD, hk]
  simp only [hr, Int.toNat_natCast] at h0 h1 h2 h3 h4 l3 g3 l4 g4
  exact ⟨ad, A3, c3, A4, c4, e, ⟨l3, g3, l4, g4⟩, h0, h1, h2, h3, h4⟩
end Go.Proofs.Ytkhghgmonjebnaa.B
