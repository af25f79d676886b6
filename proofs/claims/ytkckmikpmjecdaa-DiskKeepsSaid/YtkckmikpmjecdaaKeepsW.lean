/- After a crash a disk has exactly the flushed bytes and the documented prefix of the others; crashing it again loses nothing: the walk. -/
import Derived.Test.YtkckmikpmjecdaaDiskY
import Derived.Test.YtkckmikpmjecdaaGrow
namespace Go.Proofs.Ytkckmikpmjecdaa.H
open Go.RowKit Go.Proofs.YtkckmikpmjecdaaW.PrintWords Go.Proofs.YtkckmikpmjecdaaW.PrintLast Go.Proofs.YtkckmikpmjecdaaW.PrintMore
set_option linter.unusedVariables false
set_option linter.unusedSimpArgs false
theorem strOfNums_app (xs ys : List Int) : strOfNums xs ++ strOfNums ys = strOfNums (xs ++ ys) := by
  apply ByteArray.ext
  apply Array.ext'
  rw [ByteArray.data_append, Array.toList_append]
  simp only [strOfNums, List.map_append]
theorem str_cut (zs : List Int) (k : Nat) : (strOfNums zs).extract 0 k = strOfNums (zs.take k) := by
  apply ByteArray.ext
  apply Array.ext'
  rw [ByteArray.data_extract, Array.toList_extract]
  simp [strOfNums, List.map_take]
theorem kk_one {k : Nat} (x : Int) (hk : k ≤ 4000) : kk k ((k : Int) - k + 1) x = k := by
  have h := kk_range (s := (k : Int)) (N := (k : Int) - k + 1) (x := x) (by omega) (by omega) (by omega) (by omega)
  omega
set_option maxHeartbeats 2000000 in
theorem keeps_big (A D : Option Addr) (la ca lb cb : Nat) (x : Int) (w : World) (hab : 2000 < la + lb) (h1 : la ≤ 140737488351232) (h2 : lb ≤ 140737488351232) :
    Calls Try.prog 3 #[.slice A la ca, .slice D lb cb, .int .i64 x] w fun e w' => e = .returned (.bool true) ∧ Below w.heap.size w w' := by
  have hw : wrap64 ((la : Int) + (lb : Int)) = (la : Int) + (lb : Int) := by unfold wrap64; omega
  have t1 : decide ((2000 : Int) < (la : Int) + (lb : Int)) = true := by simp; omega
  go_enter Try.func3, Try.ntmps3
  go_wp2_with (go_at_call 8; refine (new_calls _).mono ?_; rintro e w12 ⟨d, rfl, hq, hd, hb⟩; have B1 := Lib.hid hb; clear hq hd hb)
  go_ret
  exact ⟨rfl, B1.out⟩

set_option maxHeartbeats 8000000 in
theorem keeps_all (A D : Option Addr) (la ca lb cb k : Nat) (x : Int) (xs ys : List Int) (w : World) (hX : Kd.C (Kd.int .u8) w A la xs) (hY : Kd.C (Kd.int .u8) w D lb ys) (hn : la + lb ≤ 2000) (hk : kk la (((la + lb : Nat) : Int) - la + 1) x = k) :
    Calls Try.prog 3 #[.slice A la ca, .slice D lb cb, .int .i64 x] w fun e w' => e = .returned (.bool true) ∧ Below w.heap.size w w' := by
  have hrg := kk_range (s := (la : Int)) (N := ((la + lb : Nat) : Int) - la + 1) (x := x) (by omega) (by omega) (by omega) (by omega)
  rw [hk] at hrg
  have HX := Lib.hid hX
  have HY := Lib.hid hY
  have HN := Lib.hid hn
  have HLX := Lib.hid hX.1
  have HLZ := Lib.hid (show (xs ++ ys).length = la + lb by rw [List.length_append, hX.1, hY.1])
  have HK := Lib.hid hk
  have HK4 := Lib.hid (show k ≤ la + lb ∧ la + lb ≤ 2000 by omega)
  have HLK := Lib.hid (show ((xs ++ ys).take k).length = k by rw [List.length_take, List.length_append, hX.1, hY.1]; omega)
  have hk8 : wrap64 ((la : Int) + (wrap64 (x.tmod ((lb : Int) + 1) + ((lb : Int) + 1))).tmod ((lb : Int) + 1)) = (k : Int) := by
    rw [← hk, show (((la + lb : Nat) : Int) - la + 1) = (lb : Int) + 1 by omega]
    rfl
  have hw : wrap64 ((la : Int) + (lb : Int)) = (la : Int) + (lb : Int) := by unfold wrap64; omega
  have hw1 : wrap64 ((lb : Int) + 1) = (lb : Int) + 1 := by unfold wrap64; omega
  have hz1 : ¬ ((lb : Int) + 1 = 0) := by omega
  have hlb : (lb : Int) ≤ 2000 := by omega
  have hla : (la : Int) ≤ 2000 := by omega
  have t1 : decide ((2000 : Int) < (la : Int) + (lb : Int)) = false := by simp; omega
  have e1 : ((la : Int) != (la : Int)) = false := by simp
  have e2 : ((la : Int) + (lb : Int) != (la : Int) + (lb : Int)) = false := by simp
  have e3 : ((k : Int) == (k : Int)) = true := by simp
  have e4 : ((la : Int) + (lb : Int) == (la : Int) + (lb : Int)) = true := by simp
  have HS := Lib.hid (show strOfNums xs ++ strOfNums ys = strOfNums (xs ++ ys) from strOfNums_app xs ys)
  have hsz : ¬ (9223372036854775807 < (strOfNums xs).size + (strOfNums ys).size) := by rw [strOfNums_size, strOfNums_size, hX.1, hY.1]; omega
  have hcutn : (k : Int) ≤ ((strOfNums xs ++ strOfNums ys).size : Int) := by rw [strOfNums_app, strOfNums_size, List.length_append, hX.1, hY.1]; omega
  have hcutm : (k : Int) ≤ ((strOfNums xs).size : Int) + ((strOfNums ys).size : Int) := by rw [strOfNums_size, strOfNums_size, hX.1, hY.1]; omega
  have f1 : ((strOfNums ((xs ++ ys).take k)).toList == ((strOfNums xs ++ strOfNums ys).extract 0 k).toList) = true := by rw [strOfNums_app, str_cut]; simp
  have f2 : ((strOfNums ((xs ++ ys).take k)).toList == (strOfNums ((xs ++ ys).take k)).toList) = true := by simp
  clear hX hY hn hk hrg
  go_enter Try.func3, Try.ntmps3
  go_wp2_with (first | (go_at_call 8; refine (new_calls _).mono ?_; rintro e w1 ⟨d, rfl, hq, hd, hb⟩; have D1 := Lib.hid hd; have B1 := Lib.hid hb; have HD := Lib.hid hq; have X1 := Lib.hid (Kd.C_below HX.out hb); clear hd hb hq) | (go_at_call_of 9 (Value.slice A la ca); refine (append_calls w d none A 0 0 la ca 0 [] xs _ D1.out (Kd.R_nil _ _ _ _ _) HD.out B1.out X1.out (by have := HN.out; simp; omega)).mono ?_; rintro e w2 ⟨rfl, A2, c2, hd, ho, hb⟩; rw [List.nil_append, HLX.out] at hd ho; have D2 := Lib.hid hd; have R2 := Lib.hid ho; have B2 := Lib.hid hb; clear hd ho hb) | (go_at_call 10; refine (sync_calls w d A2 la c2 0 xs _ D2.out R2.out HD.out B2.out).mono ?_; rintro e w3 ⟨rfl, hd, ho, hb⟩; have D3 := Lib.hid hd; have R3 := Lib.hid ho; have B3 := Lib.hid hb; have Y3 := Lib.hid (Kd.C_below HY.out hb); clear hd ho hb) | (go_at_call 9; refine (append_calls w d A2 D la c2 lb cb la xs ys _ D3.out R3.out HD.out B3.out Y3.out (by have := HN.out; have := HLX.out; omega)).mono ?_; rintro e w4 ⟨rfl, A4, c4, hd, ho, hb⟩; rw [HLZ.out] at hd ho; have D4 := Lib.hid hd; have R4 := Lib.hid ho; have B4 := Lib.hid hb; have C4 := Lib.hid (show Kd.C (Kd.int .u8) w4 A4 (la + lb) (xs ++ ys) from by have h := (Kd.R_reads' ho).2.2; rw [HLZ.out] at h; exact h); have HC4 := Lib.hid (show la + lb ≤ c4 from by have h := (Kd.R_reads' ho).2.1; exact h); clear hd ho hb) | (go_at_call 11; refine (synced_calls _ _ _ _ D4.out).mono ?_; rintro e w5 ⟨rfl, rfl⟩) | (go_at_call 12; refine (len_calls _ _ _ _ _ _ D4.out).mono ?_; rintro e w5 ⟨rfl, rfl⟩) | (go_at_call_of 13 (Value.pointer (some (Addr.mk d 0 none))); refine (crash_calls d A4 (la + lb) c4 la k x (xs ++ ys) _ D4.out C4.out HC4.out (by omega) (by have := HN.out; omega) HK.out).mono ?_; rintro e w6 ⟨q, A6, c6, rfl, hq, hd, ho, hb⟩; have D6 := Lib.hid hd; have E6 := Lib.hid (show Dk w6 d (.slice A4 (la + lb) c4) la from blk_below D4.out hb); have HC6 := Lib.hid (Kd.R_reads' ho).2.1; have C6 := Lib.hid (show Kd.C (Kd.int .u8) w6 A6 k ((xs ++ ys).take k) from by have h := (Kd.R_reads' ho).2.2; rw [HLK.out] at h; exact h); have B6 := Lib.hid (show Below w.heap.size w w6 from below_then B4.out B4.out.size hb); clear hq hd ho hb) | (go_at_call 13; refine (crash_calls q A6 k c6 k k x ((xs ++ ys).take k) _ D6.out C6.out HC6.out (by omega) (by have := HK4.out; omega) (kk_one x (by have := HK4.out; omega))).mono ?_; rintro e w7 ⟨r, A7, c7, rfl, hq, hd, ho, hb⟩; rw [List.take_take, Nat.min_self] at ho; have D7 := Lib.hid hd; have E7 := Lib.hid (show Dk w7 d (.slice A4 (la + lb) c4) la from blk_below E6.out hb); have F7 := Lib.hid (show Dk w7 q (.slice A6 k c6) k from blk_below D6.out hb); have C7 := Lib.hid (show Kd.C (Kd.int .u8) w7 A7 k ((xs ++ ys).take k) from by have h := (Kd.R_reads' ho).2.2; rw [HLK.out] at h; exact h); have G7 := Lib.hid (Kd.C_below C6.out hb); have B7 := Lib.hid (show Below w.heap.size w w7 from below_then B6.out B6.out.size hb); have X7 := Lib.hid (Kd.C_below HX.out B7.out); have Y7 := Lib.hid (Kd.C_below HY.out B7.out); clear hq hd ho hb))
  refine start_ (n := 42) (S := fun w' => (Dk w' d (.slice A4 (la + lb) c4) la) ∧ (Dk w' q (.slice A6 k c6) k) ∧ (Dk w' r (.slice A7 k c7) k) ∧ (Kd.C (Kd.int .u8) w' A6 k ((xs ++ ys).take k)) ∧ (Kd.C (Kd.int .u8) w' A7 k ((xs ++ ys).take k)) ∧ (Kd.C (Kd.int .u8) w' A la xs) ∧ (Kd.C (Kd.int .u8) w' D lb ys) ∧ (Below w.heap.size w w')) (ds := []) #[false, false, false, false, false, false, false, false, false, false, false, false, false, false, false, false, false, false, false, false, false, false, false, false, false, false, false, false, false, false, false, false, false, false, false, false, false, false, false, false, false, false] (by kernel_rfl) rfl rfl ⟨(by exact E7.out), (by exact F7.out), (by exact D7.out), (Kd.C_drew G7.out), (Kd.C_drew C7.out), (Kd.C_drew X7.out), (Kd.C_drew Y7.out), (below_drew B7.out)⟩ (fun hHeld => ?_)
  refine pure_ (i := 0) (N := some 76) (v := ?_) (a' := ?_) #[true, false, false, false, false, false, false, false, false, false, false, false, false, false, false, false, false, false, false, false, false, false, false, false, false, false, false, false, false, false, false, false, false, false, false, false, false, false, false, false, false, false] rfl rfl (by kernel_rfl) (fun _ _ _ h => h) (Or.inl ⟨by rfl, ?_⟩) ?_ ?_
  rotate_left
  · intro w'
    go_simp
    with_reducible rfl
  rotate_left
  · simp only [Act.put, List.setIfInBounds_toArray, List.set_cons_zero, List.set_cons_succ, i64_w, i32_w]
    rfl
  refine pure_ (i := 3) (N := some 79) (v := ?_) (a' := ?_) #[true, false, false, true, false, false, false, false, false, false, false, false, false, false, false, false, false, false, false, false, false, false, false, false, false, false, false, false, false, false, false, false, false, false, false, false, false, false, false, false, false, false] rfl rfl (by kernel_rfl) (fun _ _ _ h => h) (Or.inl ⟨by rfl, ?_⟩) ?_ ?_
  rotate_left
  · intro w'
    go_simp
    with_reducible rfl
  rotate_left
  · simp only [Act.put, List.setIfInBounds_toArray, List.set_cons_zero, List.set_cons_succ, i64_w, i32_w]
    rfl
  refine pure_ (i := 5) (N := some 81) (v := ?_) (a' := ?_) #[true, false, false, true, false, true, false, false, false, false, false, false, false, false, false, false, false, false, false, false, false, false, false, false, false, false, false, false, false, false, false, false, false, false, false, false, false, false, false, false, false, false] rfl rfl (by kernel_rfl) (fun _ _ _ h => h) (Or.inl ⟨by rfl, ?_⟩) ?_ ?_
  rotate_left
  · intro w'
    go_simp
    with_reducible rfl
  rotate_left
  · simp only [Act.put, List.setIfInBounds_toArray, List.set_cons_zero, List.set_cons_succ, i64_w, i32_w]
    rfl
  refine pure_ (i := 8) (N := some 84) (v := ?_) (a' := ?_) #[true, false, false, true, false, true, false, false, true, false, false, false, false, false, false, false, false, false, false, false, false, false, false, false, false, false, false, false, false, false, false, false, false, false, false, false, false, false, false, false, false, false] rfl rfl (by kernel_rfl) (fun _ _ _ h => h) (Or.inl ⟨by rfl, ?_⟩) ?_ ?_
  rotate_left
  · intro w'
    go_simp
    with_reducible rfl
  rotate_left
  · simp only [Act.put, List.setIfInBounds_toArray, List.set_cons_zero, List.set_cons_succ, i64_w, i32_w]
    rfl
  refine take_ (i := 4) (N := some 80) (v := ?_) (a' := ?_) #[true, false, false, true, true, true, false, false, true, false, false, false, false, false, false, false, false, false, false, false, false, false, false, false, false, false, false, false, false, false, false, false, false, false, false, false, false, false, false, false, false, false] rfl rfl (by kernel_rfl) (fun _ _ _ h => h) (Or.inl ⟨by rfl, ?_⟩) hHeld ?_ ?_
  rotate_left
  · rintro w' ⟨dd, dc, de, cc, ce, cx, cy, hB⟩
    have cvs := Kd.C_string (P := Try.prog) (c := ca) Try.underlying22 Try.underlying5 Try.underlying9 cx
    go_simp
    with_reducible rfl
  rotate_left
  · simp only [Act.put, List.setIfInBounds_toArray, List.set_cons_zero, List.set_cons_succ, i64_w, i32_w]
    rfl
  refine take_ (i := 6) (N := some 82) (v := ?_) (a' := ?_) #[true, false, false, true, true, true, true, false, true, false, false, false, false, false, false, false, false, false, false, false, false, false, false, false, false, false, false, false, false, false, false, false, false, false, false, false, false, false, false, false, false, false] rfl rfl (by kernel_rfl) (fun _ _ _ h => h) (Or.inl ⟨by rfl, ?_⟩) hHeld ?_ ?_
  rotate_left
  · rintro w' ⟨dd, dc, de, cc, ce, cx, cy, hB⟩
    have cvs := Kd.C_string (P := Try.prog) (c := cb) Try.underlying22 Try.underlying5 Try.underlying9 cy
    go_simp
    with_reducible rfl
  rotate_left
  · simp only [Act.put, List.setIfInBounds_toArray, List.set_cons_zero, List.set_cons_succ, i64_w, i32_w]
    rfl
  refine pure_ (i := 7) (N := some 83) (v := ?_) (a' := ?_) #[true, false, false, true, true, true, true, true, true, false, false, false, false, false, false, false, false, false, false, false, false, false, false, false, false, false, false, false, false, false, false, false, false, false, false, false, false, false, false, false, false, false] rfl rfl (by kernel_rfl) (fun _ _ _ h => h) (Or.inl ⟨by rfl, ?_⟩) ?_ ?_
  rotate_left
  · intro w'
    go_simp
    with_reducible rfl
  rotate_left
  · simp only [Act.put, List.setIfInBounds_toArray, List.set_cons_zero, List.set_cons_succ, i64_w, i32_w]
    rfl
  refine pure_ (i := 9) (N := some 85) (v := ?_) (a' := ?_) #[true, false, false, true, true, true, true, true, true, true, false, false, false, false, false, false, false, false, false, false, false, false, false, false, false, false, false, false, false, false, false, false, false, false, false, false, false, false, false, false, false, false] rfl rfl (by kernel_rfl) (fun _ _ _ h => h) (Or.inl ⟨by rfl, ?_⟩) ?_ ?_
  rotate_left
  · intro w'
    go_simp
    with_reducible rfl
  rotate_left
  · simp only [Act.put, List.setIfInBounds_toArray, List.set_cons_zero, List.set_cons_succ, i64_w, i32_w]
    rfl
  refine one_ (i := 1) (N := some 77) #[true, true, false, true, true, true, true, true, true, true, false, false, false, false, false, false, false, false, false, false, false, false, false, false, false, false, false, false, false, false, false, false, false, false, false, false, false, false, false, false, false, false] rfl rfl (by kernel_rfl) (by decide) (fun K hK => ?_)
  obtain ⟨dd, dc, de, cc, ce, cx, cy, hB⟩ := hHeld
  refine goes_ Try.func14 (by kernel_rfl) rfl #[.pointer (some ⟨q, 0, none⟩)] (by rfl) rfl rfl (by simp only [List.map_toArray, List.map_cons, List.map_nil]; rfl) ?_
  with_reducible refine (bytes_calls q A6 k c6 k ((xs ++ ys).take k) _ dc cc (by have := HK4.out; omega)).mono ?_
  rintro e w77 ⟨v77, rfl, ho, hb⟩
  refine ⟨_, rfl, ?_⟩
  obtain ⟨b77, ho⟩ : ∃ q, Kd.R (Kd.int .u8) 5 w77 q (fun _ => True) v77 ((xs ++ ys).take k) := ⟨_, ho⟩
  refine hK.out _ _ ⟨(show Dk _ _ _ _ from blk_below dd hb), (show Dk _ _ _ _ from blk_below dc hb), (show Dk _ _ _ _ from blk_below de hb), (Kd.C_below cc hb), (Kd.C_below ce hb), (Kd.C_below cx hb), (Kd.C_below cy hb), (below_then hB hB.size hb)⟩ (fun hHeld => ?_)
  clear hK K
  obtain ⟨dd, dc, de, cc, ce, cx, cy, hB⟩ := hHeld
  refine more_ (S1 := fun w' => (Dk w' d (.slice A4 (la + lb) c4) la) ∧ (Dk w' q (.slice A6 k c6) k) ∧ (Dk w' r (.slice A7 k c7) k) ∧ (Kd.C (Kd.int .u8) w' A6 k ((xs ++ ys).take k)) ∧ (Kd.C (Kd.int .u8) w' A7 k ((xs ++ ys).take k)) ∧ (Kd.C (Kd.int .u8) w' A la xs) ∧ (Kd.C (Kd.int .u8) w' D lb ys) ∧ (Below w.heap.size w w') ∧ (Kd.R (Kd.int .u8) 5 w' b77 (fun _ => True) v77 ((xs ++ ys).take k))) (fun w' h' => by have ⟨dd, dc, de, cc, ce, cx, cy, hB, o77⟩ := h'; exact ⟨dd, dc, de, cc, ce, cx, cy, hB⟩) ⟨dd, dc, de, cc, ce, cx, cy, hB, ho⟩ (fun hHeld => ?_)
  refine norm_ (a' := ?_) ?_ ?_
  rotate_left
  · show Act.put _ (some 77) _ = _
    simp only [Act.put, List.setIfInBounds_toArray, List.set_cons_zero, List.set_cons_succ, i64_w, i32_w]
    rfl
  refine take_ (i := 2) (N := some 78) (v := ?_) (a' := ?_) #[true, true, true, true, true, true, true, true, true, true, false, false, false, false, false, false, false, false, false, false, false, false, false, false, false, false, false, false, false, false, false, false, false, false, false, false, false, false, false, false, false, false] rfl rfl (by kernel_rfl) (fun _ _ _ h => h) (Or.inl ⟨by rfl, ?_⟩) hHeld ?_ ?_
  rotate_left
  · rintro w' ⟨dd, dc, de, cc, ce, cx, cy, hB, o77⟩
    have cv77 := own_string (P := Try.prog) Try.underlying22 Try.underlying5 Try.underlying9 (Kd.own_of_R o77)
    go_simp
    with_reducible rfl
  rotate_left
  · simp only [Act.put, List.setIfInBounds_toArray, List.set_cons_zero, List.set_cons_succ, i64_w, i32_w]
    rfl
  refine pure_ (i := 10) (N := some 86) (v := ?_) (a' := ?_) #[true, true, true, true, true, true, true, true, true, true, true, false, false, false, false, false, false, false, false, false, false, false, false, false, false, false, false, false, false, false, false, false, false, false, false, false, false, false, false, false, false, false] rfl rfl (by kernel_rfl) (fun _ _ _ h => h) (Or.inl ⟨by rfl, ?_⟩) ?_ ?_
  rotate_left
  · intro w'
    go_simp
    with_reducible rfl
  rotate_left
  · simp only [Act.put, List.setIfInBounds_toArray, List.set_cons_zero, List.set_cons_succ, i64_w, i32_w]
    rfl
  refine pure_ (i := 11) (N := some 87) (v := ?_) (a' := ?_) #[true, true, true, true, true, true, true, true, true, true, true, true, false, false, false, false, false, false, false, false, false, false, false, false, false, false, false, false, false, false, false, false, false, false, false, false, false, false, false, false, false, false] rfl rfl (by kernel_rfl) (fun _ _ _ h => h) (Or.inl ⟨by rfl, ?_⟩) ?_ ?_
  rotate_left
  · intro w'
    go_simp
    with_reducible rfl
  rotate_left
  · simp only [Act.put, List.setIfInBounds_toArray, List.set_cons_zero, List.set_cons_succ, i64_w, i32_w]
    rfl
  refine pure_ (i := 12) (N := some 88) (v := ?_) (a' := ?_) #[true, true, true, true, true, true, true, true, true, true, true, true, true, false, false, false, false, false, false, false, false, false, false, false, false, false, false, false, false, false, false, false, false, false, false, false, false, false, false, false, false, false] rfl rfl (by kernel_rfl) (fun _ _ _ h => h) (Or.inl ⟨by rfl, ?_⟩) ?_ ?_
  rotate_left
  · intro w'
    go_simp
    with_reducible rfl
  rotate_left
  · simp only [Act.put, List.setIfInBounds_toArray, List.set_cons_zero, List.set_cons_succ, i64_w, i32_w]
    rfl
  refine pure_ (i := 14) (N := some 90) (v := ?_) (a' := ?_) #[true, true, true, true, true, true, true, true, true, true, true, true, true, false, true, false, false, false, false, false, false, false, false, false, false, false, false, false, false, false, false, false, false, false, false, false, false, false, false, false, false, false] rfl rfl (by kernel_rfl) (fun _ _ _ h => h) (Or.inl ⟨by rfl, ?_⟩) ?_ ?_
  rotate_left
  · intro w'
    go_simp
    with_reducible rfl
  rotate_left
  · simp only [Act.put, List.setIfInBounds_toArray, List.set_cons_zero, List.set_cons_succ, i64_w, i32_w]
    rfl
  refine one_ (i := 13) (N := some 89) #[true, true, true, true, true, true, true, true, true, true, true, true, true, true, true, false, false, false, false, false, false, false, false, false, false, false, false, false, false, false, false, false, false, false, false, false, false, false, false, false, false, false] rfl rfl (by kernel_rfl) (by decide) (fun K hK => ?_)
  obtain ⟨dd, dc, de, cc, ce, cx, cy, hB, o77⟩ := hHeld
  refine goes_ Try.func11 (by kernel_rfl) rfl #[.pointer (some ⟨q, 0, none⟩)] (by rfl) rfl rfl (by simp only [List.map_toArray, List.map_cons, List.map_nil]; rfl) ?_
  with_reducible refine (synced_calls _ _ _ _ dc).mono ?_
  rintro e w1 ⟨rfl, rfl⟩
  refine ⟨_, rfl, ?_⟩
  refine hK.out _ _ ⟨dd, dc, de, cc, ce, cx, cy, hB, o77⟩ (fun hHeld => ?_)
  clear hK K
  refine norm_ (a' := ?_) ?_ ?_
  rotate_left
  · show Act.put _ (some 89) _ = _
    simp only [Act.put, List.setIfInBounds_toArray, List.set_cons_zero, List.set_cons_succ, i64_w, i32_w]
    rfl
  refine pure_ (i := 15) (N := some 91) (v := ?_) (a' := ?_) #[true, true, true, true, true, true, true, true, true, true, true, true, true, true, true, true, false, false, false, false, false, false, false, false, false, false, false, false, false, false, false, false, false, false, false, false, false, false, false, false, false, false] rfl rfl (by kernel_rfl) (fun _ _ _ h => h) (Or.inl ⟨by rfl, ?_⟩) ?_ ?_
  rotate_left
  · intro w'
    go_simp
    with_reducible rfl
  rotate_left
  · simp only [Act.put, List.setIfInBounds_toArray, List.set_cons_zero, List.set_cons_succ, i64_w, i32_w]
    rfl
  refine pure_ (i := 16) (N := some 92) (v := ?_) (a' := ?_) #[true, true, true, true, true, true, true, true, true, true, true, true, true, true, true, true, true, false, false, false, false, false, false, false, false, false, false, false, false, false, false, false, false, false, false, false, false, false, false, false, false, false] rfl rfl (by kernel_rfl) (fun _ _ _ h => h) (Or.inl ⟨by rfl, ?_⟩) ?_ ?_
  rotate_left
  · intro w'
    go_simp
    with_reducible rfl
  rotate_left
  · simp only [Act.put, List.setIfInBounds_toArray, List.set_cons_zero, List.set_cons_succ, i64_w, i32_w]
    rfl
  refine pure_ (i := 17) (N := some 93) (v := ?_) (a' := ?_) #[true, true, true, true, true, true, true, true, true, true, true, true, true, true, true, true, true, true, false, false, false, false, false, false, false, false, false, false, false, false, false, false, false, false, false, false, false, false, false, false, false, false] rfl rfl (by kernel_rfl) (fun _ _ _ h => h) (Or.inl ⟨by rfl, ?_⟩) ?_ ?_
  rotate_left
  · intro w'
    go_simp
    with_reducible rfl
  rotate_left
  · simp only [Act.put, List.setIfInBounds_toArray, List.set_cons_zero, List.set_cons_succ, i64_w, i32_w]
    rfl
  refine pure_ (i := 18) (N := some 94) (v := ?_) (a' := ?_) #[true, true, true, true, true, true, true, true, true, true, true, true, true, true, true, true, true, true, true, false, false, false, false, false, false, false, false, false, false, false, false, false, false, false, false, false, false, false, false, false, false, false] rfl rfl (by kernel_rfl) (fun _ _ _ h => h) (Or.inl ⟨by rfl, ?_⟩) ?_ ?_
  rotate_left
  · intro w'
    go_simp
    with_reducible rfl
  rotate_left
  · simp only [Act.put, List.setIfInBounds_toArray, List.set_cons_zero, List.set_cons_succ, i64_w, i32_w]
    rfl
  refine pure_ (i := 21) (N := some 97) (v := ?_) (a' := ?_) #[true, true, true, true, true, true, true, true, true, true, true, true, true, true, true, true, true, true, true, false, false, true, false, false, false, false, false, false, false, false, false, false, false, false, false, false, false, false, false, false, false, false] rfl rfl (by kernel_rfl) (fun _ _ _ h => h) (Or.inl ⟨by rfl, ?_⟩) ?_ ?_
  rotate_left
  · intro w'
    go_simp
    with_reducible rfl
  rotate_left
  · simp only [Act.put, List.setIfInBounds_toArray, List.set_cons_zero, List.set_cons_succ, i64_w, i32_w]
    rfl
  refine one_ (i := 19) (N := some 95) #[true, true, true, true, true, true, true, true, true, true, true, true, true, true, true, true, true, true, true, true, false, true, false, false, false, false, false, false, false, false, false, false, false, false, false, false, false, false, false, false, false, false] rfl rfl (by kernel_rfl) (by decide) (fun K hK => ?_)
  obtain ⟨dd, dc, de, cc, ce, cx, cy, hB, o77⟩ := hHeld
  refine goes_ Try.func14 (by kernel_rfl) rfl #[.pointer (some ⟨r, 0, none⟩)] (by rfl) rfl rfl (by simp only [List.map_toArray, List.map_cons, List.map_nil]; rfl) ?_
  with_reducible refine (bytes_calls r A7 k c7 k ((xs ++ ys).take k) _ de ce (by have := HK4.out; omega)).mono ?_
  rintro e w95 ⟨v95, rfl, ho, hb⟩
  refine ⟨_, rfl, ?_⟩
  obtain ⟨b95, ho⟩ : ∃ q, Kd.R (Kd.int .u8) 5 w95 q (fun _ => True) v95 ((xs ++ ys).take k) := ⟨_, ho⟩
  refine hK.out _ _ ⟨(show Dk _ _ _ _ from blk_below dd hb), (show Dk _ _ _ _ from blk_below dc hb), (show Dk _ _ _ _ from blk_below de hb), (Kd.C_below cc hb), (Kd.C_below ce hb), (Kd.C_below cx hb), (Kd.C_below cy hb), (below_then hB hB.size hb), (Kd.R_below o77 hb)⟩ (fun hHeld => ?_)
  clear hK K
  obtain ⟨dd, dc, de, cc, ce, cx, cy, hB, o77⟩ := hHeld
  refine more_ (S1 := fun w' => (Dk w' d (.slice A4 (la + lb) c4) la) ∧ (Dk w' q (.slice A6 k c6) k) ∧ (Dk w' r (.slice A7 k c7) k) ∧ (Kd.C (Kd.int .u8) w' A6 k ((xs ++ ys).take k)) ∧ (Kd.C (Kd.int .u8) w' A7 k ((xs ++ ys).take k)) ∧ (Kd.C (Kd.int .u8) w' A la xs) ∧ (Kd.C (Kd.int .u8) w' D lb ys) ∧ (Below w.heap.size w w') ∧ (Kd.R (Kd.int .u8) 5 w' b77 (fun _ => True) v77 ((xs ++ ys).take k)) ∧ (Kd.R (Kd.int .u8) 5 w' b95 (fun _ => True) v95 ((xs ++ ys).take k))) (fun w' h' => by have ⟨dd, dc, de, cc, ce, cx, cy, hB, o77, o95⟩ := h'; exact ⟨dd, dc, de, cc, ce, cx, cy, hB, o77⟩) ⟨dd, dc, de, cc, ce, cx, cy, hB, o77, ho⟩ (fun hHeld => ?_)
  refine norm_ (a' := ?_) ?_ ?_
  rotate_left
  · show Act.put _ (some 95) _ = _
    simp only [Act.put, List.setIfInBounds_toArray, List.set_cons_zero, List.set_cons_succ, i64_w, i32_w]
    rfl
  refine take_ (i := 20) (N := some 96) (v := ?_) (a' := ?_) #[true, true, true, true, true, true, true, true, true, true, true, true, true, true, true, true, true, true, true, true, true, true, false, false, false, false, false, false, false, false, false, false, false, false, false, false, false, false, false, false, false, false] rfl rfl (by kernel_rfl) (fun _ _ _ h => h) (Or.inl ⟨by rfl, ?_⟩) hHeld ?_ ?_
  rotate_left
  · rintro w' ⟨dd, dc, de, cc, ce, cx, cy, hB, o77, o95⟩
    have cv95 := own_string (P := Try.prog) Try.underlying22 Try.underlying5 Try.underlying9 (Kd.own_of_R o95)
    go_simp
    with_reducible rfl
  rotate_left
  · simp only [Act.put, List.setIfInBounds_toArray, List.set_cons_zero, List.set_cons_succ, i64_w, i32_w]
    rfl
  refine one_ (i := 22) (N := some 98) #[true, true, true, true, true, true, true, true, true, true, true, true, true, true, true, true, true, true, true, true, true, true, true, false, false, false, false, false, false, false, false, false, false, false, false, false, false, false, false, false, false, false] rfl rfl (by kernel_rfl) (by decide) (fun K hK => ?_)
  obtain ⟨dd, dc, de, cc, ce, cx, cy, hB, o77, o95⟩ := hHeld
  refine goes_ Try.func14 (by kernel_rfl) rfl #[.pointer (some ⟨q, 0, none⟩)] (by rfl) rfl rfl (by simp only [List.map_toArray, List.map_cons, List.map_nil]; rfl) ?_
  with_reducible refine (bytes_calls q A6 k c6 k ((xs ++ ys).take k) _ dc cc (by have := HK4.out; omega)).mono ?_
  rintro e w98 ⟨v98, rfl, ho, hb⟩
  refine ⟨_, rfl, ?_⟩
  obtain ⟨b98, ho⟩ : ∃ q, Kd.R (Kd.int .u8) 5 w98 q (fun _ => True) v98 ((xs ++ ys).take k) := ⟨_, ho⟩
  refine hK.out _ _ ⟨(show Dk _ _ _ _ from blk_below dd hb), (show Dk _ _ _ _ from blk_below dc hb), (show Dk _ _ _ _ from blk_below de hb), (Kd.C_below cc hb), (Kd.C_below ce hb), (Kd.C_below cx hb), (Kd.C_below cy hb), (below_then hB hB.size hb), (Kd.R_below o77 hb), (Kd.R_below o95 hb)⟩ (fun hHeld => ?_)
  clear hK K
  obtain ⟨dd, dc, de, cc, ce, cx, cy, hB, o77, o95⟩ := hHeld
  refine more_ (S1 := fun w' => (Dk w' d (.slice A4 (la + lb) c4) la) ∧ (Dk w' q (.slice A6 k c6) k) ∧ (Dk w' r (.slice A7 k c7) k) ∧ (Kd.C (Kd.int .u8) w' A6 k ((xs ++ ys).take k)) ∧ (Kd.C (Kd.int .u8) w' A7 k ((xs ++ ys).take k)) ∧ (Kd.C (Kd.int .u8) w' A la xs) ∧ (Kd.C (Kd.int .u8) w' D lb ys) ∧ (Below w.heap.size w w') ∧ (Kd.R (Kd.int .u8) 5 w' b77 (fun _ => True) v77 ((xs ++ ys).take k)) ∧ (Kd.R (Kd.int .u8) 5 w' b95 (fun _ => True) v95 ((xs ++ ys).take k)) ∧ (Kd.R (Kd.int .u8) 5 w' b98 (fun _ => True) v98 ((xs ++ ys).take k))) (fun w' h' => by have ⟨dd, dc, de, cc, ce, cx, cy, hB, o77, o95, o98⟩ := h'; exact ⟨dd, dc, de, cc, ce, cx, cy, hB, o77, o95⟩) ⟨dd, dc, de, cc, ce, cx, cy, hB, o77, o95, ho⟩ (fun hHeld => ?_)
  refine norm_ (a' := ?_) ?_ ?_
  rotate_left
  · show Act.put _ (some 98) _ = _
    simp only [Act.put, List.setIfInBounds_toArray, List.set_cons_zero, List.set_cons_succ, i64_w, i32_w]
    rfl
  refine take_ (i := 23) (N := some 99) (v := ?_) (a' := ?_) #[true, true, true, true, true, true, true, true, true, true, true, true, true, true, true, true, true, true, true, true, true, true, true, true, false, false, false, false, false, false, false, false, false, false, false, false, false, false, false, false, false, false] rfl rfl (by kernel_rfl) (fun _ _ _ h => h) (Or.inl ⟨by rfl, ?_⟩) hHeld ?_ ?_
  rotate_left
  · rintro w' ⟨dd, dc, de, cc, ce, cx, cy, hB, o77, o95, o98⟩
    have cv98 := own_string (P := Try.prog) Try.underlying22 Try.underlying5 Try.underlying9 (Kd.own_of_R o98)
    go_simp
    with_reducible rfl
  rotate_left
  · simp only [Act.put, List.setIfInBounds_toArray, List.set_cons_zero, List.set_cons_succ, i64_w, i32_w]
    rfl
  refine pure_ (i := 24) (N := some 100) (v := ?_) (a' := ?_) #[true, true, true, true, true, true, true, true, true, true, true, true, true, true, true, true, true, true, true, true, true, true, true, true, true, false, false, false, false, false, false, false, false, false, false, false, false, false, false, false, false, false] rfl rfl (by kernel_rfl) (fun _ _ _ h => h) (Or.inl ⟨by rfl, ?_⟩) ?_ ?_
  rotate_left
  · intro w'
    go_simp
    with_reducible rfl
  rotate_left
  · simp only [Act.put, List.setIfInBounds_toArray, List.set_cons_zero, List.set_cons_succ, i64_w, i32_w]
    rfl
  refine pure_ (i := 25) (N := some 101) (v := ?_) (a' := ?_) #[true, true, true, true, true, true, true, true, true, true, true, true, true, true, true, true, true, true, true, true, true, true, true, true, true, true, false, false, false, false, false, false, false, false, false, false, false, false, false, false, false, false] rfl rfl (by kernel_rfl) (fun _ _ _ h => h) (Or.inl ⟨by rfl, ?_⟩) ?_ ?_
  rotate_left
  · intro w'
    go_simp
    with_reducible rfl
  rotate_left
  · simp only [Act.put, List.setIfInBounds_toArray, List.set_cons_zero, List.set_cons_succ, i64_w, i32_w]
    rfl
  refine pure_ (i := 26) (N := some 102) (v := ?_) (a' := ?_) #[true, true, true, true, true, true, true, true, true, true, true, true, true, true, true, true, true, true, true, true, true, true, true, true, true, true, true, false, false, false, false, false, false, false, false, false, false, false, false, false, false, false] rfl rfl (by kernel_rfl) (fun _ _ _ h => h) (Or.inl ⟨by rfl, ?_⟩) ?_ ?_
  rotate_left
  · intro w'
    go_simp
    with_reducible rfl
  rotate_left
  · simp only [Act.put, List.setIfInBounds_toArray, List.set_cons_zero, List.set_cons_succ, i64_w, i32_w]
    rfl
  refine pure_ (i := 27) (N := some 103) (v := ?_) (a' := ?_) #[true, true, true, true, true, true, true, true, true, true, true, true, true, true, true, true, true, true, true, true, true, true, true, true, true, true, true, true, false, false, false, false, false, false, false, false, false, false, false, false, false, false] rfl rfl (by kernel_rfl) (fun _ _ _ h => h) (Or.inl ⟨by rfl, ?_⟩) ?_ ?_
  rotate_left
  · intro w'
    go_simp
    with_reducible rfl
  rotate_left
  · simp only [Act.put, List.setIfInBounds_toArray, List.set_cons_zero, List.set_cons_succ, i64_w, i32_w]
    rfl
  refine pure_ (i := 29) (N := some 105) (v := ?_) (a' := ?_) #[true, true, true, true, true, true, true, true, true, true, true, true, true, true, true, true, true, true, true, true, true, true, true, true, true, true, true, true, false, true, false, false, false, false, false, false, false, false, false, false, false, false] rfl rfl (by kernel_rfl) (fun _ _ _ h => h) (Or.inl ⟨by rfl, ?_⟩) ?_ ?_
  rotate_left
  · intro w'
    go_simp
    with_reducible rfl
  rotate_left
  · simp only [Act.put, List.setIfInBounds_toArray, List.set_cons_zero, List.set_cons_succ, i64_w, i32_w]
    rfl
  refine pure_ (i := 30) (N := some 106) (v := ?_) (a' := ?_) #[true, true, true, true, true, true, true, true, true, true, true, true, true, true, true, true, true, true, true, true, true, true, true, true, true, true, true, true, false, true, true, false, false, false, false, false, false, false, false, false, false, false] rfl rfl (by kernel_rfl) (fun _ _ _ h => h) (Or.inl ⟨by rfl, ?_⟩) ?_ ?_
  rotate_left
  · intro w'
    go_simp
    with_reducible rfl
  rotate_left
  · simp only [Act.put, List.setIfInBounds_toArray, List.set_cons_zero, List.set_cons_succ, i64_w, i32_w]
    rfl
  refine pure_ (i := 31) (N := some 107) (v := ?_) (a' := ?_) #[true, true, true, true, true, true, true, true, true, true, true, true, true, true, true, true, true, true, true, true, true, true, true, true, true, true, true, true, false, true, true, true, false, false, false, false, false, false, false, false, false, false] rfl rfl (by kernel_rfl) (fun _ _ _ h => h) (Or.inl ⟨by rfl, ?_⟩) ?_ ?_
  rotate_left
  · intro w'
    go_simp
    with_reducible rfl
  rotate_left
  · simp only [Act.put, List.setIfInBounds_toArray, List.set_cons_zero, List.set_cons_succ, i64_w, i32_w]
    rfl
  refine pure_ (i := 32) (N := some 108) (v := ?_) (a' := ?_) #[true, true, true, true, true, true, true, true, true, true, true, true, true, true, true, true, true, true, true, true, true, true, true, true, true, true, true, true, false, true, true, true, true, false, false, false, false, false, false, false, false, false] rfl rfl (by kernel_rfl) (fun _ _ _ h => h) (Or.inl ⟨by rfl, ?_⟩) ?_ ?_
  rotate_left
  · intro w'
    go_simp
    with_reducible rfl
  rotate_left
  · simp only [Act.put, List.setIfInBounds_toArray, List.set_cons_zero, List.set_cons_succ, i64_w, i32_w]
    rfl
  refine pure_ (i := 33) (N := some 109) (v := ?_) (a' := ?_) #[true, true, true, true, true, true, true, true, true, true, true, true, true, true, true, true, true, true, true, true, true, true, true, true, true, true, true, true, false, true, true, true, true, true, false, false, false, false, false, false, false, false] rfl rfl (by kernel_rfl) (fun _ _ _ h => h) (Or.inl ⟨by rfl, ?_⟩) ?_ ?_
  rotate_left
  · intro w'
    go_simp
    with_reducible rfl
  rotate_left
  · simp only [Act.put, List.setIfInBounds_toArray, List.set_cons_zero, List.set_cons_succ, i64_w, i32_w]
    rfl
  refine one_ (i := 28) (N := some 104) #[true, true, true, true, true, true, true, true, true, true, true, true, true, true, true, true, true, true, true, true, true, true, true, true, true, true, true, true, true, true, true, true, true, true, false, false, false, false, false, false, false, false] rfl rfl (by kernel_rfl) (by decide) (fun K hK => ?_)
  obtain ⟨dd, dc, de, cc, ce, cx, cy, hB, o77, o95, o98⟩ := hHeld
  refine goes_ Try.func12 (by kernel_rfl) rfl #[.pointer (some ⟨d, 0, none⟩)] (by rfl) rfl rfl (by simp only [List.map_toArray, List.map_cons, List.map_nil]; rfl) ?_
  with_reducible refine (len_calls _ _ _ _ _ _ dd).mono ?_
  rintro e w1 ⟨rfl, rfl⟩
  refine ⟨_, rfl, ?_⟩
  refine hK.out _ _ ⟨dd, dc, de, cc, ce, cx, cy, hB, o77, o95, o98⟩ (fun hHeld => ?_)
  clear hK K
  refine norm_ (a' := ?_) ?_ ?_
  rotate_left
  · show Act.put _ (some 104) _ = _
    simp only [Act.put, List.setIfInBounds_toArray, List.set_cons_zero, List.set_cons_succ, i64_w, i32_w]
    rfl
  refine pure_ (i := 34) (N := some 110) (v := ?_) (a' := ?_) #[true, true, true, true, true, true, true, true, true, true, true, true, true, true, true, true, true, true, true, true, true, true, true, true, true, true, true, true, true, true, true, true, true, true, true, false, false, false, false, false, false, false] rfl rfl (by kernel_rfl) (fun _ _ _ h => h) (Or.inl ⟨by rfl, ?_⟩) ?_ ?_
  rotate_left
  · intro w'
    go_simp
    with_reducible rfl
  rotate_left
  · simp only [Act.put, List.setIfInBounds_toArray, List.set_cons_zero, List.set_cons_succ, i64_w, i32_w]
    rfl
  refine pure_ (i := 35) (N := some 111) (v := ?_) (a' := ?_) #[true, true, true, true, true, true, true, true, true, true, true, true, true, true, true, true, true, true, true, true, true, true, true, true, true, true, true, true, true, true, true, true, true, true, true, true, false, false, false, false, false, false] rfl rfl (by kernel_rfl) (fun _ _ _ h => h) (Or.inl ⟨by rfl, ?_⟩) ?_ ?_
  rotate_left
  · intro w'
    go_simp
    with_reducible rfl
  rotate_left
  · simp only [Act.put, List.setIfInBounds_toArray, List.set_cons_zero, List.set_cons_succ, i64_w, i32_w]
    rfl
  refine pure_ (i := 36) (N := some 112) (v := ?_) (a' := ?_) #[true, true, true, true, true, true, true, true, true, true, true, true, true, true, true, true, true, true, true, true, true, true, true, true, true, true, true, true, true, true, true, true, true, true, true, true, true, false, false, false, false, false] rfl rfl (by kernel_rfl) (fun _ _ _ h => h) (Or.inl ⟨by rfl, ?_⟩) ?_ ?_
  rotate_left
  · intro w'
    go_simp
    with_reducible rfl
  rotate_left
  · simp only [Act.put, List.setIfInBounds_toArray, List.set_cons_zero, List.set_cons_succ, i64_w, i32_w]
    rfl
  refine pure_ (i := 37) (N := some 113) (v := ?_) (a' := ?_) #[true, true, true, true, true, true, true, true, true, true, true, true, true, true, true, true, true, true, true, true, true, true, true, true, true, true, true, true, true, true, true, true, true, true, true, true, true, true, false, false, false, false] rfl rfl (by kernel_rfl) (fun _ _ _ h => h) (Or.inl ⟨by rfl, ?_⟩) ?_ ?_
  rotate_left
  · intro w'
    go_simp
    with_reducible rfl
  rotate_left
  · simp only [Act.put, List.setIfInBounds_toArray, List.set_cons_zero, List.set_cons_succ, i64_w, i32_w]
    rfl
  refine one_ (i := 38) (N := some 114) #[true, true, true, true, true, true, true, true, true, true, true, true, true, true, true, true, true, true, true, true, true, true, true, true, true, true, true, true, true, true, true, true, true, true, true, true, true, true, true, false, false, false] rfl rfl (by kernel_rfl) (by decide) (fun K hK => ?_)
  obtain ⟨dd, dc, de, cc, ce, cx, cy, hB, o77, o95, o98⟩ := hHeld
  refine goes_ Try.func15 (by kernel_rfl) rfl #[.pointer (some ⟨q, 0, none⟩)] (by rfl) rfl rfl (by simp only [List.map_toArray, List.map_cons, List.map_nil]; rfl) ?_
  with_reducible refine (left_calls _ _ _ _ dc).mono ?_
  rintro e w1 ⟨rfl, rfl⟩
  refine ⟨_, rfl, ?_⟩
  refine hK.out _ _ ⟨dd, dc, de, cc, ce, cx, cy, hB, o77, o95, o98⟩ (fun hHeld => ?_)
  clear hK K
  refine norm_ (a' := ?_) ?_ ?_
  rotate_left
  · show Act.put _ (some 114) _ = _
    simp only [Act.put, List.setIfInBounds_toArray, List.set_cons_zero, List.set_cons_succ, i64_w, i32_w]
    rfl
  refine pure_ (i := 39) (N := some 115) (v := ?_) (a' := ?_) #[true, true, true, true, true, true, true, true, true, true, true, true, true, true, true, true, true, true, true, true, true, true, true, true, true, true, true, true, true, true, true, true, true, true, true, true, true, true, true, true, false, false] rfl rfl (by kernel_rfl) (fun _ _ _ h => h) (Or.inl ⟨by rfl, ?_⟩) ?_ ?_
  rotate_left
  · intro w'
    go_simp
    with_reducible rfl
  rotate_left
  · simp only [Act.put, List.setIfInBounds_toArray, List.set_cons_zero, List.set_cons_succ, i64_w, i32_w]
    rfl
  refine pure_ (i := 40) (N := some 116) (v := ?_) (a' := ?_) #[true, true, true, true, true, true, true, true, true, true, true, true, true, true, true, true, true, true, true, true, true, true, true, true, true, true, true, true, true, true, true, true, true, true, true, true, true, true, true, true, true, false] rfl rfl (by kernel_rfl) (fun _ _ _ h => h) (Or.inl ⟨by rfl, ?_⟩) ?_ ?_
  rotate_left
  · intro w'
    go_simp
    with_reducible rfl
  rotate_left
  · simp only [Act.put, List.setIfInBounds_toArray, List.set_cons_zero, List.set_cons_succ, i64_w, i32_w]
    rfl
  refine pure_ (i := 41) (N := some 6) (v := ?_) (a' := ?_) #[true, true, true, true, true, true, true, true, true, true, true, true, true, true, true, true, true, true, true, true, true, true, true, true, true, true, true, true, true, true, true, true, true, true, true, true, true, true, true, true, true, true] rfl rfl (by kernel_rfl) (fun _ _ _ h => h) (Or.inl ⟨by rfl, ?_⟩) ?_ ?_
  rotate_left
  · intro w'
    go_simp
    with_reducible rfl
  rotate_left
  · simp only [Act.put, List.setIfInBounds_toArray, List.set_cons_zero, List.set_cons_succ, i64_w, i32_w]
    rfl
  refine done_ (by kernel_rfl) ?_
  obtain ⟨dd, dc, de, cc, ce, cx, cy, hB, _⟩ := hHeld
  go_wp2_with fail
  go_ret
  exact ⟨rfl, hB⟩

theorem keeps_walk (a0 a1 : Option Addr) (len0 cap0 len1 cap1 : Nat) (z0 z1 : List Int) (x : Int) (w : World) (w0 : ((a0 = none ∧ len0 = 0 ∧ cap0 = 0 ∧ z0 = []) ∨ ∃ x, a0 = some x ∧ len0 ≤ cap0 ∧ cap0 ≤ maxLen ∧ z0.length = cap0 ∧ (∀ i, i < z0.length → w.cell? (x.add i) = some (.int .u8 (z0.getD i 0))) ∧ ∀ n ∈ z0, (Lit.int .u8 n).wf = true)) (w1 : ((a1 = none ∧ len1 = 0 ∧ cap1 = 0 ∧ z1 = []) ∨ ∃ x, a1 = some x ∧ len1 ≤ cap1 ∧ cap1 ≤ maxLen ∧ z1.length = cap1 ∧ (∀ i, i < z1.length → w.cell? (x.add i) = some (.int .u8 (z1.getD i 0))) ∧ ∀ n ∈ z1, (Lit.int .u8 n).wf = true)) (h0 : len0 ≤ 140737488351232) (h1 : len1 ≤ 140737488351232) :
    Calls Try.prog 3 #[.slice a0 len0 cap0, .slice a1 len1 cap1, .int .i64 x] w fun e w' => e = .returned (.bool true) ∧ Below w.heap.size w w' := by
  obtain ⟨l, rfl, hr0, hm0, hw0, hc0⟩ := ReadsInt.ofRowC w0
  obtain ⟨m, rfl, hr1, hm1, hw1, hc1⟩ := ReadsInt.ofRowC w1
  have hX : Kd.C (Kd.int .u8) w a0 l.length l := Kd.C_of_reads (d := (0 : Int)) (h1 := fun _ => rfl) hr0
  have hY : Kd.C (Kd.int .u8) w a1 m.length m := Kd.C_of_reads (d := (0 : Int)) (h1 := fun _ => rfl) hr1
  rcases Nat.lt_or_ge 2000 (l.length + m.length) with h | h
  · exact keeps_big a0 a1 l.length cap0 m.length cap1 x w h h0 h1
  · have hrg := kk_range (s := (l.length : Int)) (N := ((l.length + m.length : Nat) : Int) - l.length + 1) (x := x) (by omega) (by omega) (by omega) (by omega)
    obtain ⟨k, hk⟩ := Int.eq_ofNat_of_zero_le (show 0 ≤ kk l.length (((l.length + m.length : Nat) : Int) - l.length + 1) x by omega)
    exact keeps_all a0 a1 l.length cap0 m.length cap1 k x l m w hX hY h hk
end Go.Proofs.Ytkckmikpmjecdaa.H
