/- What Cut answers: contracts. Condition: a disk that was made, that any number of calls may write. -/
import Derived.Test.YtkckmikpmjecdaaCutB
namespace Go.Proofs.Ytkckmikpmjecdaa.H
open Go.RowKit Go.Proofs.YtkckmikpmjecdaaW.PrintWords Go.Proofs.YtkckmikpmjecdaaW.PrintLast Go.Proofs.YtkckmikpmjecdaaW.PrintMore
set_option linter.unusedVariables false
set_option linter.unusedSimpArgs false
theorem on_cut_bad (p g : Nat) (v : Value) (s x : Int) (w : World) (h : Dk w p v s) (hg : w.cell? ⟨g, 0, none⟩ = some (.int .i64 x)) (hx : x < 0) :
    Calls Try.prog 28 #[.pointer (some ⟨p, 0, none⟩), .func (Fn.func 41) #[] #[.pointer (some ⟨g, 0, none⟩)], .func (Fn.func 42) #[] #[.pointer (some ⟨g, 0, none⟩)]] w fun e w' => e = .returned (.int .i64 2) ∧ ∃ q, w' = w.drewN q := by
  have H := Lib.hid h
  have HG := Lib.hid hg
  have HX := Lib.hid hx
  clear h hg hx
  go_enter Try.func28, Try.ntmps28
  go_wp2_with (first | (go_at_call 33; refine (is_calls _ _ _ _ H.out).mono ?_; rintro e w1 ⟨rfl, rfl⟩) | (go_at_call 41; refine (cut_bad p g _ s x _ H.out HG.out HX.out).mono ?_; rintro e w2 ⟨rfl, q, rfl⟩))
  go_ret
  exact ⟨rfl, _, rfl⟩
theorem on_cut_ok (w0 : World) (p g k : Nat) (A : Option Addr) (n c : Nat) (s : Int) (xs : List Int) (w : World) (h : Dk w p (.slice A n c) s) (hR : Br w w0.heap.size (.slice A n c) xs) (hp : w0.heap.size ≤ p) (hB : Below w0.heap.size w0 w)
    (hg : w.cell? ⟨g, 0, none⟩ = some (.int .i64 (k : Int))) (hk : k ≤ xs.length) (hx : xs.length ≤ 100000) :
    Calls Try.prog 28 #[.pointer (some ⟨p, 0, none⟩), .func (Fn.func 41) #[] #[.pointer (some ⟨g, 0, none⟩)], .func (Fn.func 42) #[] #[.pointer (some ⟨g, 0, none⟩)]] w fun e w' => e = .returned (.int .i64 0) ∧ Dk w' p (.slice A k k) k ∧ Br w' w0.heap.size (.slice A k k) (xs.take k) ∧ Below w0.heap.size w0 w' ∧ KeepBut w w' p none := by
  have hn : n = xs.length := by
    obtain ⟨_, _, e, _⟩ := hR.reads (by omega)
    injection e
  have H := Lib.hid h
  have HR := Lib.hid hR
  have HB := Lib.hid hB
  have HP := Lib.hid hp
  have HG := Lib.hid hg
  have HK := Lib.hid hk
  have HX := Lib.hid hx
  have HN := Lib.hid hn
  have h3 := h.c3
  clear h hR hB hg hp hk hx hn
  go_enter Try.func28, Try.ntmps28
  go_wp2_with (first | (go_at_call 33; refine (is_calls _ _ _ _ H.out).mono ?_; rintro e w1 ⟨rfl, rfl⟩) | (go_at_call 41; refine (cut_ok p g A n c s (k : Int) _ H.out HG.out (by omega) (by have := HK.out; have := HN.out; omega)).mono ?_; rintro e w2 ⟨rfl, q, rfl⟩; have h3' := (show Dk (w.drewN q) p (.slice A n c) s from H.out).c3) | (go_at_call 42; refine (cut_what w0 p g k A n c s xs _ (show Dk (w.drewN q) p (.slice A n c) s from H.out) (HR.out.below (pw_below_drewN (Below.refl _ _) _)) HP.out (pw_below_drewN HB.out _) (by exact HG.out) HK.out HX.out).mono ?_; rintro e w3 ⟨rfl, hd, hr, hb, hk⟩; have D3 := Lib.hid hd; have R3 := Lib.hid hr; have B3 := Lib.hid hb; have K3 := Lib.hid ((keep_drewN (KeepBut.refl w p none) q).trans hk (.inl rfl)); clear hd hr hb hk))
  go_ret
  exact ⟨rfl, D3.out, R3.out, B3.out, K3.out⟩
theorem cut_bad_calls (p : Nat) (v : Value) (s x : Int) (w : World) (h : Dk w p v s) (hx : x < 0) :
    Calls Try.prog 34 #[.pointer (some ⟨p, 0, none⟩), .int .i64 x] w fun e w' => e = .returned (.int .i64 2) ∧ Below w.heap.size w w' := by
  have H := Lib.hid h
  have HX := Lib.hid hx
  clear h hx
  go_enter Try.func34, Try.ntmps34
  go_wp2_with (first | ((with_reducible refine gate_dst (N := 3) rfl ?_); refine box_event ?hg (N := 3) ?hd (cs := #[.int .i64 x]) (t := 3) ?hr ?_; (case hd => rfl); (case hg => rfl); (case hr => first | (go_simp; done) | (go_simp; rfl)); intro g hgz w3 hbox hb; have D3 := Lib.hid (show Dk w3 p v s from blk_below H.out hb); have G3 := Lib.hid ((blk_cell hbox 0).trans (show (#[.int .i64 x] : Array Value)[0]? = some (.int .i64 x) from rfl)); have B3 := Lib.hid hb; clear hbox hb hgz) | (go_at_call 28; refine (on_cut_bad p g v s x _ D3.out G3.out HX.out).mono ?_; rintro e w1 ⟨rfl, q, rfl⟩))
  go_ret
  exact ⟨rfl, pw_below_drewN B3.out _⟩
theorem cut_ok_calls (w0 : World) (p k : Nat) (A : Option Addr) (n c : Nat) (s : Int) (xs : List Int) (w : World) (h : Dk w p (.slice A n c) s) (hR : Br w w0.heap.size (.slice A n c) xs) (hp : w0.heap.size ≤ p) (hB : Below w0.heap.size w0 w)
    (hk : k ≤ xs.length) (hx : xs.length ≤ 100000) :
    Calls Try.prog 34 #[.pointer (some ⟨p, 0, none⟩), .int .i64 (k : Int)] w fun e w' => e = .returned (.int .i64 0) ∧ Dk w' p (.slice A k k) k ∧ Br w' w0.heap.size (.slice A k k) (xs.take k) ∧ Below w0.heap.size w0 w' ∧ KeepBut w w' p none := by
  have H := Lib.hid h
  have HR := Lib.hid hR
  have HB := Lib.hid hB
  have HP := Lib.hid hp
  have HK := Lib.hid hk
  have HX := Lib.hid hx
  clear h hR hB hp hk hx
  go_enter Try.func34, Try.ntmps34
  go_wp2_with (first | ((with_reducible refine gate_dst (N := 3) rfl ?_); refine box_event ?hg (N := 3) ?hd (cs := #[.int .i64 (k : Int)]) (t := 3) ?hr ?_; (case hd => rfl); (case hg => rfl); (case hr => first | (go_simp; done) | (go_simp; rfl)); intro g hgz w3 hbox hb; have D3 := Lib.hid (show Dk w3 p _ s from blk_below H.out hb); have R3 := Lib.hid (HR.out.below hb); have G3 := Lib.hid ((blk_cell hbox 0).trans (show (#[.int .i64 (k : Int)] : Array Value)[0]? = some (.int .i64 (k : Int)) from rfl)); have B3 := Lib.hid (below_then HB.out HB.out.size hb); have K3 := Lib.hid (KeepBut.of_below hb p none); clear hbox hb hgz) | (go_at_call 28; refine (on_cut_ok w0 p g k A n c s xs _ D3.out R3.out HP.out B3.out G3.out HK.out HX.out).mono ?_; rintro e w1 ⟨rfl, hd, hr, hb, hk⟩; have D4 := Lib.hid hd; have R4 := Lib.hid hr; have B4 := Lib.hid hb; have K4 := Lib.hid (K3.out.trans hk (.inl rfl)); clear hd hr hb hk))
  go_ret
  exact ⟨rfl, D4.out, R4.out, B4.out, K4.out⟩
end Go.Proofs.Ytkckmikpmjecdaa.H
