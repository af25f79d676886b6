/- Parse, Text, Plain and Order tell the document's results for any string and any two numbers: the walk. Conditions: the numbers are 64 bits wide. -/
import Derived.Test.YtfgamapnoonklaaTellsP
namespace Go.Proofs.Ytfgamapnoonklaa.H
open Go.RowKit Key Go.Proofs.YtfgamapnoonklaaW.PrintWords Go.Proofs.YtfgamapnoonklaaW.PrintLast Go.Proofs.YtfgamapnoonklaaW.PrintMore
set_option linter.unusedVariables false
set_option linter.unusedSimpArgs false
theorem plain_plain (x : Nat) : plain (plain x) = plain x := by
  unfold plain
  cases h : isNaN x
  · by_cases h0 : key x = 0
    · simp [h0]; decide
    · simp [h, h0]
  · simp; decide

set_option maxHeartbeats 4000000 in
theorem tells_short_false (s : ByteArray) (a b p : Nat) (k : Bool) (w : World) (hs : s.size ≤ 100) (ha : a < 2 ^ 64) (hp : ((parsed s).getD 0).toNat = p) (hk : (parsed s).isSome = k) (hn : isNaN p = false) :
    Calls Try.prog 7 #[.string s, .float .f64 a, .float .f64 b] w fun e w' => e = .returned (.bool true) ∧ Below w.heap.size w w' := by
  have HP := Lib.hid hp
  have HK := Lib.hid hk
  have HA := Lib.hid ha
  have HB := Lib.hid (show Below w.heap.size w w from Below.refl _ _)
  have SZ := Lib.hid (show (s).size < 1000000 by omega)
  have qp : (FloatKind.f64.format.order p p != some .eq) = false := by rw [← hn]; exact order_self p
  have qe : (FloatKind.f64.format.order p p == some .eq) = true := by rw [show (FloatKind.f64.format.order p p == some .eq) = !(FloatKind.f64.format.order p p != some .eq) by simp [bne], qp]; rfl
  have cut : decide ((100 : Int) < (s.size : Int)) = false := by simp; omega
  have b1 : (((plain p : Nat) : Int) == ((plain p : Nat) : Int)) = true := by simp
  have b2 : (((plain a : Nat) : Int) == ((plain a : Nat) : Int)) = true := by simp
  have b3 : ((strOfNums (digs (plain a))).toList == (strOfNums (digs (plain a))).toList) = true := by simp
  have b4 : (ord a b == ord a b) = true := by simp
  have b5 : (k == k) = true := by simp
  have b6 : ((strOfNums (digs (plain 4607182418800017408))).toList == [51, 102, 102, 48, 48, 48, 48, 48, 48, 48, 48, 48, 48, 48, 48, 48]) = true := by decide +kernel
  clear hp hk ha hn
  go_enter Try.func7, Try.ntmps7
  go_wp2_with (first | (go_at_call 18; refine (parse1_calls _ _ SZ.out).mono ?_; rintro e w' ⟨q1, rfl, rfl⟩; rw [HP.out, HK.out]) | (go_at_call 19; refine (parse2_calls _ _ SZ.out).mono ?_; rintro e w' ⟨q2, rfl, rfl⟩; rw [HP.out, HK.out]) | (go_at_call 15; refine (bits_calls _ _).mono ?_; rintro e w' ⟨rfl, rfl⟩; (try rw [plain_plain])) | (go_at_call 20; refine (text2_calls _ _ HA.out).mono ?_; rintro e w' ⟨rfl, rfl⟩) | (go_at_call 21; refine (plain_calls _ _).mono ?_; rintro e w' ⟨rfl, rfl⟩) | (go_at_call 10; refine (order_calls _ _ _).mono ?_; rintro e w' ⟨rfl, rfl⟩) | (go_at_call 22; refine (order2_calls _ _ _).mono ?_; rintro e w' ⟨rfl, rfl⟩) | (go_at_call 12; refine (text_calls _ _ (by first | exact HA.out | exact plain_lt HA.out | decide)).mono ?_; rintro e w' ⟨rfl, hb⟩; (try rw [plain_plain]); (have HB' := Lib.hid (below_step (by repeat (first | exact HB.out | apply below_drew | apply pw_below_drewN)) hb); clear HB hb; have HB := HB'; clear HB')))
  go_ret
  exact ⟨rfl, by repeat (first | exact HB.out | apply below_drew | apply pw_below_drewN)⟩

set_option maxHeartbeats 4000000 in
theorem tells_short_true (s : ByteArray) (a b p : Nat) (k : Bool) (w : World) (hs : s.size ≤ 100) (ha : a < 2 ^ 64) (hp : ((parsed s).getD 0).toNat = p) (hk : (parsed s).isSome = k) (hn : isNaN p = true) :
    Calls Try.prog 7 #[.string s, .float .f64 a, .float .f64 b] w fun e w' => e = .returned (.bool true) ∧ Below w.heap.size w w' := by
  have HP := Lib.hid hp
  have HK := Lib.hid hk
  have HA := Lib.hid ha
  have HB := Lib.hid (show Below w.heap.size w w from Below.refl _ _)
  have SZ := Lib.hid (show (s).size < 1000000 by omega)
  have qp : (FloatKind.f64.format.order p p != some .eq) = true := by rw [← hn]; exact order_self p
  have qe : (FloatKind.f64.format.order p p == some .eq) = false := by rw [show (FloatKind.f64.format.order p p == some .eq) = !(FloatKind.f64.format.order p p != some .eq) by simp [bne], qp]; rfl
  have cut : decide ((100 : Int) < (s.size : Int)) = false := by simp; omega
  have b1 : (((plain p : Nat) : Int) == ((plain p : Nat) : Int)) = true := by simp
  have b2 : (((plain a : Nat) : Int) == ((plain a : Nat) : Int)) = true := by simp
  have b3 : ((strOfNums (digs (plain a))).toList == (strOfNums (digs (plain a))).toList) = true := by simp
  have b4 : (ord a b == ord a b) = true := by simp
  have b5 : (k == k) = true := by simp
  have b6 : ((strOfNums (digs (plain 4607182418800017408))).toList == [51, 102, 102, 48, 48, 48, 48, 48, 48, 48, 48, 48, 48, 48, 48, 48]) = true := by decide +kernel
  clear hp hk ha hn
  go_enter Try.func7, Try.ntmps7
  go_wp2_with (first | (go_at_call 18; refine (parse1_calls _ _ SZ.out).mono ?_; rintro e w' ⟨q1, rfl, rfl⟩; rw [HP.out, HK.out]) | (go_at_call 19; refine (parse2_calls _ _ SZ.out).mono ?_; rintro e w' ⟨q2, rfl, rfl⟩; rw [HP.out, HK.out]) | (go_at_call 15; refine (bits_calls _ _).mono ?_; rintro e w' ⟨rfl, rfl⟩; (try rw [plain_plain])) | (go_at_call 20; refine (text2_calls _ _ HA.out).mono ?_; rintro e w' ⟨rfl, rfl⟩) | (go_at_call 21; refine (plain_calls _ _).mono ?_; rintro e w' ⟨rfl, rfl⟩) | (go_at_call 10; refine (order_calls _ _ _).mono ?_; rintro e w' ⟨rfl, rfl⟩) | (go_at_call 22; refine (order2_calls _ _ _).mono ?_; rintro e w' ⟨rfl, rfl⟩) | (go_at_call 12; refine (text_calls _ _ (by first | exact HA.out | exact plain_lt HA.out | decide)).mono ?_; rintro e w' ⟨rfl, hb⟩; (try rw [plain_plain]); (have HB' := Lib.hid (below_step (by repeat (first | exact HB.out | apply below_drew | apply pw_below_drewN)) hb); clear HB hb; have HB := HB'; clear HB')))
  go_ret
  exact ⟨rfl, by repeat (first | exact HB.out | apply below_drew | apply pw_below_drewN)⟩

set_option maxHeartbeats 4000000 in
theorem tells_long_false (s : ByteArray) (a b p : Nat) (k : Bool) (w : World) (hs : 100 < s.size) (ha : a < 2 ^ 64) (hp : ((parsed (s.extract 0 100)).getD 0).toNat = p) (hk : (parsed (s.extract 0 100)).isSome = k) (hn : isNaN p = false) :
    Calls Try.prog 7 #[.string s, .float .f64 a, .float .f64 b] w fun e w' => e = .returned (.bool true) ∧ Below w.heap.size w w' := by
  have HP := Lib.hid hp
  have HK := Lib.hid hk
  have HA := Lib.hid ha
  have HB := Lib.hid (show Below w.heap.size w w from Below.refl _ _)
  have SZ := Lib.hid (show ((s.extract 0 100)).size < 1000000 by simp [ByteArray.size_extract]; omega)
  have qp : (FloatKind.f64.format.order p p != some .eq) = false := by rw [← hn]; exact order_self p
  have qe : (FloatKind.f64.format.order p p == some .eq) = true := by rw [show (FloatKind.f64.format.order p p == some .eq) = !(FloatKind.f64.format.order p p != some .eq) by simp [bne], qp]; rfl
  have cut : decide ((100 : Int) < (s.size : Int)) = true := by simp; omega
  have b1 : (((plain p : Nat) : Int) == ((plain p : Nat) : Int)) = true := by simp
  have b2 : (((plain a : Nat) : Int) == ((plain a : Nat) : Int)) = true := by simp
  have b3 : ((strOfNums (digs (plain a))).toList == (strOfNums (digs (plain a))).toList) = true := by simp
  have b4 : (ord a b == ord a b) = true := by simp
  have b5 : (k == k) = true := by simp
  have b6 : ((strOfNums (digs (plain 4607182418800017408))).toList == [51, 102, 102, 48, 48, 48, 48, 48, 48, 48, 48, 48, 48, 48, 48, 48]) = true := by decide +kernel
  clear hp hk ha hn
  go_enter Try.func7, Try.ntmps7
  go_wp2_with (first | (go_at_call 18; refine (parse1_calls _ _ SZ.out).mono ?_; rintro e w' ⟨q1, rfl, rfl⟩; rw [HP.out, HK.out]) | (go_at_call 19; refine (parse2_calls _ _ SZ.out).mono ?_; rintro e w' ⟨q2, rfl, rfl⟩; rw [HP.out, HK.out]) | (go_at_call 15; refine (bits_calls _ _).mono ?_; rintro e w' ⟨rfl, rfl⟩; (try rw [plain_plain])) | (go_at_call 20; refine (text2_calls _ _ HA.out).mono ?_; rintro e w' ⟨rfl, rfl⟩) | (go_at_call 21; refine (plain_calls _ _).mono ?_; rintro e w' ⟨rfl, rfl⟩) | (go_at_call 10; refine (order_calls _ _ _).mono ?_; rintro e w' ⟨rfl, rfl⟩) | (go_at_call 22; refine (order2_calls _ _ _).mono ?_; rintro e w' ⟨rfl, rfl⟩) | (go_at_call 12; refine (text_calls _ _ (by first | exact HA.out | exact plain_lt HA.out | decide)).mono ?_; rintro e w' ⟨rfl, hb⟩; (try rw [plain_plain]); (have HB' := Lib.hid (below_step (by repeat (first | exact HB.out | apply below_drew | apply pw_below_drewN)) hb); clear HB hb; have HB := HB'; clear HB')))
  go_ret
  exact ⟨rfl, by repeat (first | exact HB.out | apply below_drew | apply pw_below_drewN)⟩

set_option maxHeartbeats 4000000 in
theorem tells_long_true (s : ByteArray) (a b p : Nat) (k : Bool) (w : World) (hs : 100 < s.size) (ha : a < 2 ^ 64) (hp : ((parsed (s.extract 0 100)).getD 0).toNat = p) (hk : (parsed (s.extract 0 100)).isSome = k) (hn : isNaN p = true) :
    Calls Try.prog 7 #[.string s, .float .f64 a, .float .f64 b] w fun e w' => e = .returned (.bool true) ∧ Below w.heap.size w w' := by
  have HP := Lib.hid hp
  have HK := Lib.hid hk
  have HA := Lib.hid ha
  have HB := Lib.hid (show Below w.heap.size w w from Below.refl _ _)
  have SZ := Lib.hid (show ((s.extract 0 100)).size < 1000000 by simp [ByteArray.size_extract]; omega)
  have qp : (FloatKind.f64.format.order p p != some .eq) = true := by rw [← hn]; exact order_self p
  have qe : (FloatKind.f64.format.order p p == some .eq) = false := by rw [show (FloatKind.f64.format.order p p == some .eq) = !(FloatKind.f64.format.order p p != some .eq) by simp [bne], qp]; rfl
  have cut : decide ((100 : Int) < (s.size : Int)) = true := by simp; omega
  have b1 : (((plain p : Nat) : Int) == ((plain p : Nat) : Int)) = true := by simp
  have b2 : (((plain a : Nat) : Int) == ((plain a : Nat) : Int)) = true := by simp
  have b3 : ((strOfNums (digs (plain a))).toList == (strOfNums (digs (plain a))).toList) = true := by simp
  have b4 : (ord a b == ord a b) = true := by simp
  have b5 : (k == k) = true := by simp
  have b6 : ((strOfNums (digs (plain 4607182418800017408))).toList == [51, 102, 102, 48, 48, 48, 48, 48, 48, 48, 48, 48, 48, 48, 48, 48]) = true := by decide +kernel
  clear hp hk ha hn
  go_enter Try.func7, Try.ntmps7
  go_wp2_with (first | (go_at_call 18; refine (parse1_calls _ _ SZ.out).mono ?_; rintro e w' ⟨q1, rfl, rfl⟩; rw [HP.out, HK.out]) | (go_at_call 19; refine (parse2_calls _ _ SZ.out).mono ?_; rintro e w' ⟨q2, rfl, rfl⟩; rw [HP.out, HK.out]) | (go_at_call 15; refine (bits_calls _ _).mono ?_; rintro e w' ⟨rfl, rfl⟩; (try rw [plain_plain])) | (go_at_call 20; refine (text2_calls _ _ HA.out).mono ?_; rintro e w' ⟨rfl, rfl⟩) | (go_at_call 21; refine (plain_calls _ _).mono ?_; rintro e w' ⟨rfl, rfl⟩) | (go_at_call 10; refine (order_calls _ _ _).mono ?_; rintro e w' ⟨rfl, rfl⟩) | (go_at_call 22; refine (order2_calls _ _ _).mono ?_; rintro e w' ⟨rfl, rfl⟩) | (go_at_call 12; refine (text_calls _ _ (by first | exact HA.out | exact plain_lt HA.out | decide)).mono ?_; rintro e w' ⟨rfl, hb⟩; (try rw [plain_plain]); (have HB' := Lib.hid (below_step (by repeat (first | exact HB.out | apply below_drew | apply pw_below_drewN)) hb); clear HB hb; have HB := HB'; clear HB')))
  go_ret
  exact ⟨rfl, by repeat (first | exact HB.out | apply below_drew | apply pw_below_drewN)⟩
end Go.Proofs.Ytfgamapnoonklaa.H
