/- What the closures of Put and Filter answer: contracts. -/
import Derived.Test.YtmhjplbloeamiaaDoorPEscx2
import Derived.Test.YtmhjplbloeamiaaDoorUtf
import Derived.Lib.Hide
import Derived.Deep.QuietTactic
namespace Go.Proofs.YtmhjplbloeamiaaDoor.H
open Go.RowKit Go.Proofs.YtmhjplbloeamiaaDoor.M Go.Proofs.YtmhjplbloeamiaaDoor.PEsc Go.Proofs.YtmhjplbloeamiaaDoorW.PrintWords Go.Proofs.YtmhjplbloeamiaaDoorW.PrintLast Go.Proofs.YtmhjplbloeamiaaDoorW.PrintMore
set_option linter.unusedVariables false
set_option linter.unusedSimpArgs false
/-- Is the byte among these? -/
def amg (l : Bs) (c : UInt8) : Bool := decide (Lib.indexByte l c ≥ 0)
theorem among_calls (S : ByteArray) (c : UInt8) (w : World) :
    Calls Tryd.prog 14 #[.string S, .int .u8 (c.toNat : Int)] w fun e w' => e = .returned (.bool (amg S.data.toList c)) ∧ Drawn0 w w' :=
  escape_among.calls S (c.toNat : Int) _ w (by
    show (strings_IndexByte.f S (c.toNat : Int)).bind _ = _
    unfold strings_IndexByte.f amg
    simp only [Int.toNat_natCast, Nat.toUInt8, UInt8.ofNat_toNat]
    rfl)
theorem among_n (S : ByteArray) (c : UInt8) (n : Nat) (A : Bool) (w : World) (hn : c.toNat = n) (hA : amg S.data.toList c = A) :
    Calls Tryd.prog 14 #[.string S, .int .u8 (n : Int)] w fun e w' => e = .returned (.bool A) ∧ Drawn0 w w' := by
  subst hn hA
  exact among_calls S c w
theorem nat_lt (a b : Nat) (h : a < b) : decide ((a : Int) < (b : Int)) = true := by rw [decide_eq_true_eq]; omega
theorem nat_nlt (a b : Nat) (h : ¬ a < b) : decide ((a : Int) < (b : Int)) = false := by rw [decide_eq_false_iff_not]; omega
theorem nat_eq (a b : Nat) (h : a = b) : ((a : Int) == (b : Int)) = true := by rw [beq_iff_eq]; omega
theorem nat_neq (a b : Nat) (h : ¬ a = b) : ((a : Int) == (b : Int)) = false := by rw [beq_eq_false_iff_ne]; omega
def p14 (r : Bool) (c : UInt8) : Bool := decide (c.toNat < 32) || decide (c.toNat = 127) || (decide (127 < c.toNat) && !r)
def p15 (i last : Int) (c : UInt8) : Bool := amg [34, 43, 44, 59, 60, 62, 61, 92] c || (decide (c.toNat = 32) && (decide (i = 0) || decide (i = last))) || (decide (c.toNat = 35) && decide (i = 0))
def p17 (r : Bool) (c : UInt8) : Bool := amg [42, 40, 41] c || decide (c.toNat = 92) || decide (c.toNat = 0) || (decide (127 < c.toNat) && !r)
set_option maxHeartbeats 1000000 in
theorem put1_calls (i : Int) (c : UInt8) (r : Bool) (b : Nat) (w : World) (h : w.cell? ⟨b, 0, none⟩ = some (.bool r)) :
    Calls Tryd.prog 12 #[.int .i64 i, .int .u8 (c.toNat : Int), .pointer (some ⟨b, 0, none⟩)] w fun e w' => e = .returned (.bool (p14 r c)) ∧ Drawn0 w w' := by
  unfold p14
  generalize hn : c.toNat = n
  clear hn c
  by_cases c : n < 32
  · have t0 : decide ((n : Int) < 32) = true := nat_lt n 32 c
    rw [decide_eq_true c]
    clear c
    go_enter Tryd.func12, Tryd.ntmps12
    go_wp2
    go_ret
    exact ⟨by first | rfl | (simp only [Bool.true_or, Bool.false_or, Bool.or_true, Bool.or_false, Bool.false_and, Bool.true_and, Bool.and_false, Bool.and_true]; first | rfl | done) | (simp [*]; done), by repeat (first | exact Drawn0.refl _ | apply Drawn0.step)⟩
  · have t0 : decide ((n : Int) < 32) = false := nat_nlt n 32 c
    rw [decide_eq_false c]
    clear c
    by_cases c : n = 127
    · have t1 : ((n : Int) == 127) = true := nat_eq n 127 c
      rw [decide_eq_true c]
      clear c
      go_enter Tryd.func12, Tryd.ntmps12
      go_wp2
      go_ret
      exact ⟨by first | rfl | (simp only [Bool.true_or, Bool.false_or, Bool.or_true, Bool.or_false, Bool.false_and, Bool.true_and, Bool.and_false, Bool.and_true]; first | rfl | done) | (simp [*]; done), by repeat (first | exact Drawn0.refl _ | apply Drawn0.step)⟩
    · have t1 : ((n : Int) == 127) = false := nat_neq n 127 c
      rw [decide_eq_false c]
      clear c
      by_cases c : 127 < n
      · have t2 : decide (127 < (n : Int)) = true := nat_lt 127 n c
        rw [decide_eq_true c]
        clear c
        go_enter Tryd.func12, Tryd.ntmps12
        go_wp2
        go_ret
        exact ⟨by first | rfl | (simp only [Bool.true_or, Bool.false_or, Bool.or_true, Bool.or_false, Bool.false_and, Bool.true_and, Bool.and_false, Bool.and_true]; first | rfl | done) | (simp [*]; done), by repeat (first | exact Drawn0.refl _ | apply Drawn0.step)⟩
      · have t2 : decide (127 < (n : Int)) = false := nat_nlt 127 n c
        rw [decide_eq_false c]
        clear c
        go_enter Tryd.func12, Tryd.ntmps12
        go_wp2
        go_ret
        exact ⟨by first | rfl | (simp only [Bool.true_or, Bool.false_or, Bool.or_true, Bool.or_false, Bool.false_and, Bool.true_and, Bool.and_false, Bool.and_true]; first | rfl | done) | (simp [*]; done), by repeat (first | exact Drawn0.refl _ | apply Drawn0.step)⟩
set_option maxHeartbeats 1000000 in
theorem put2_calls (i last : Int) (c : UInt8) (b : Nat) (w : World) (h : w.cell? ⟨b, 0, none⟩ = some (.int .i64 last)) :
    Calls Tryd.prog 13 #[.int .i64 i, .int .u8 (c.toNat : Int), .pointer (some ⟨b, 0, none⟩)] w fun e w' => e = .returned (.bool (p15 i last c)) ∧ Drawn0 w w' := by
  unfold p15
  generalize hA0 : amg [34, 43, 44, 59, 60, 62, 61, 92] c = A
  have hA := Lib.hid hA0
  clear hA0
  generalize hn0 : c.toNat = n
  have hn := Lib.hid hn0
  clear hn0
  cases A
  · skip
    by_cases c : n = 32
    · have t0 : ((n : Int) == 32) = true := nat_eq n 32 c
      rw [decide_eq_true c]
      clear c
      by_cases c : i = 0
      · have t1 : (i == 0) = true := beq_iff_eq.2 c
        rw [decide_eq_true c]
        clear c
        go_enter Tryd.func13, Tryd.ntmps13
        go_wp2_with (go_at_call 14; refine (among_n (⟨#[34, 43, 44, 59, 60, 62, 61, 92]⟩ : ByteArray) c n _ _ hn.out hA.out).mono ?_; rintro e w1 ⟨rfl, ⟨n1, rfl⟩⟩)
        go_ret
        exact ⟨by first | rfl | (simp only [Bool.true_or, Bool.false_or, Bool.or_true, Bool.or_false, Bool.false_and, Bool.true_and, Bool.and_false, Bool.and_true]; first | rfl | done) | (simp [*]; done), by repeat (first | exact Drawn0.refl _ | apply Drawn0.step)⟩
      · have t1 : (i == 0) = false := beq_eq_false_iff_ne.2 c
        rw [decide_eq_false c]
        clear c
        by_cases c : i = last
        · have t2 : (i == last) = true := beq_iff_eq.2 c
          rw [decide_eq_true c]
          clear c
          go_enter Tryd.func13, Tryd.ntmps13
          go_wp2_with (go_at_call 14; refine (among_n (⟨#[34, 43, 44, 59, 60, 62, 61, 92]⟩ : ByteArray) c n _ _ hn.out hA.out).mono ?_; rintro e w1 ⟨rfl, ⟨n1, rfl⟩⟩)
          go_ret
          exact ⟨by first | rfl | (simp only [Bool.true_or, Bool.false_or, Bool.or_true, Bool.or_false, Bool.false_and, Bool.true_and, Bool.and_false, Bool.and_true]; first | rfl | done) | (simp [*]; done), by repeat (first | exact Drawn0.refl _ | apply Drawn0.step)⟩
        · have t2 : (i == last) = false := beq_eq_false_iff_ne.2 c
          rw [decide_eq_false c]
          clear c
          by_cases c : n = 35
          · have s0 : ((n : Int) == 35) = true := nat_eq n 35 c
            rw [decide_eq_true c]
            clear c
            go_enter Tryd.func13, Tryd.ntmps13
            go_wp2_with (go_at_call 14; refine (among_n (⟨#[34, 43, 44, 59, 60, 62, 61, 92]⟩ : ByteArray) c n _ _ hn.out hA.out).mono ?_; rintro e w1 ⟨rfl, ⟨n1, rfl⟩⟩)
            go_ret
            exact ⟨by first | rfl | (simp only [Bool.true_or, Bool.false_or, Bool.or_true, Bool.or_false, Bool.false_and, Bool.true_and, Bool.and_false, Bool.and_true]; first | rfl | done) | (simp [*]; done), by repeat (first | exact Drawn0.refl _ | apply Drawn0.step)⟩
          · have s0 : ((n : Int) == 35) = false := nat_neq n 35 c
            rw [decide_eq_false c]
            clear c
            go_enter Tryd.func13, Tryd.ntmps13
            go_wp2_with (go_at_call 14; refine (among_n (⟨#[34, 43, 44, 59, 60, 62, 61, 92]⟩ : ByteArray) c n _ _ hn.out hA.out).mono ?_; rintro e w1 ⟨rfl, ⟨n1, rfl⟩⟩)
            go_ret
            exact ⟨by first | rfl | (simp only [Bool.true_or, Bool.false_or, Bool.or_true, Bool.or_false, Bool.false_and, Bool.true_and, Bool.and_false, Bool.and_true]; first | rfl | done) | (simp [*]; done), by repeat (first | exact Drawn0.refl _ | apply Drawn0.step)⟩
    · have t0 : ((n : Int) == 32) = false := nat_neq n 32 c
      rw [decide_eq_false c]
      clear c
      by_cases c : n = 35
      · have s0 : ((n : Int) == 35) = true := nat_eq n 35 c
        rw [decide_eq_true c]
        clear c
        by_cases c : i = 0
        · have s1 : (i == 0) = true := beq_iff_eq.2 c
          rw [decide_eq_true c]
          clear c
          go_enter Tryd.func13, Tryd.ntmps13
          go_wp2_with (go_at_call 14; refine (among_n (⟨#[34, 43, 44, 59, 60, 62, 61, 92]⟩ : ByteArray) c n _ _ hn.out hA.out).mono ?_; rintro e w1 ⟨rfl, ⟨n1, rfl⟩⟩)
          go_ret
          exact ⟨by first | rfl | (simp only [Bool.true_or, Bool.false_or, Bool.or_true, Bool.or_false, Bool.false_and, Bool.true_and, Bool.and_false, Bool.and_true]; first | rfl | done) | (simp [*]; done), by repeat (first | exact Drawn0.refl _ | apply Drawn0.step)⟩
        · have s1 : (i == 0) = false := beq_eq_false_iff_ne.2 c
          rw [decide_eq_false c]
          clear c
          go_enter Tryd.func13, Tryd.ntmps13
          go_wp2_with (go_at_call 14; refine (among_n (⟨#[34, 43, 44, 59, 60, 62, 61, 92]⟩ : ByteArray) c n _ _ hn.out hA.out).mono ?_; rintro e w1 ⟨rfl, ⟨n1, rfl⟩⟩)
          go_ret
          exact ⟨by first | rfl | (simp only [Bool.true_or, Bool.false_or, Bool.or_true, Bool.or_false, Bool.false_and, Bool.true_and, Bool.and_false, Bool.and_true]; first | rfl | done) | (simp [*]; done), by repeat (first | exact Drawn0.refl _ | apply Drawn0.step)⟩
      · have s0 : ((n : Int) == 35) = false := nat_neq n 35 c
        rw [decide_eq_false c]
        clear c
        go_enter Tryd.func13, Tryd.ntmps13
        go_wp2_with (go_at_call 14; refine (among_n (⟨#[34, 43, 44, 59, 60, 62, 61, 92]⟩ : ByteArray) c n _ _ hn.out hA.out).mono ?_; rintro e w1 ⟨rfl, ⟨n1, rfl⟩⟩)
        go_ret
        exact ⟨by first | rfl | (simp only [Bool.true_or, Bool.false_or, Bool.or_true, Bool.or_false, Bool.false_and, Bool.true_and, Bool.and_false, Bool.and_true]; first | rfl | done) | (simp [*]; done), by repeat (first | exact Drawn0.refl _ | apply Drawn0.step)⟩
  · skip
    go_enter Tryd.func13, Tryd.ntmps13
    go_wp2_with (go_at_call 14; refine (among_n (⟨#[34, 43, 44, 59, 60, 62, 61, 92]⟩ : ByteArray) c n _ _ hn.out hA.out).mono ?_; rintro e w1 ⟨rfl, ⟨n1, rfl⟩⟩)
    go_ret
    exact ⟨by first | rfl | (simp only [Bool.true_or, Bool.false_or, Bool.or_true, Bool.or_false, Bool.false_and, Bool.true_and, Bool.and_false, Bool.and_true]; first | rfl | done) | (simp [*]; done), by repeat (first | exact Drawn0.refl _ | apply Drawn0.step)⟩
set_option maxHeartbeats 1000000 in
theorem fil1_calls (i : Int) (c : UInt8) (r : Bool) (b : Nat) (w : World) (h : w.cell? ⟨b, 0, none⟩ = some (.bool r)) :
    Calls Tryd.prog 20 #[.int .i64 i, .int .u8 (c.toNat : Int), .pointer (some ⟨b, 0, none⟩)] w fun e w' => e = .returned (.bool (p17 r c)) ∧ Drawn0 w w' := by
  unfold p17
  generalize hA0 : amg [42, 40, 41] c = A
  have hA := Lib.hid hA0
  clear hA0
  generalize hn0 : c.toNat = n
  have hn := Lib.hid hn0
  clear hn0
  cases A
  · skip
    by_cases c : n = 92
    · have t0 : ((n : Int) == 92) = true := nat_eq n 92 c
      rw [decide_eq_true c]
      clear c
      go_enter Tryd.func20, Tryd.ntmps20
      go_wp2_with (go_at_call 14; refine (among_n (⟨#[42, 40, 41]⟩ : ByteArray) c n _ _ hn.out hA.out).mono ?_; rintro e w1 ⟨rfl, ⟨n1, rfl⟩⟩)
      go_ret
      exact ⟨by first | rfl | (simp only [Bool.true_or, Bool.false_or, Bool.or_true, Bool.or_false, Bool.false_and, Bool.true_and, Bool.and_false, Bool.and_true]; first | rfl | done) | (simp [*]; done), by repeat (first | exact Drawn0.refl _ | apply Drawn0.step)⟩
    · have t0 : ((n : Int) == 92) = false := nat_neq n 92 c
      rw [decide_eq_false c]
      clear c
      by_cases c : n = 0
      · have t1 : ((n : Int) == 0) = true := nat_eq n 0 c
        rw [decide_eq_true c]
        clear c
        go_enter Tryd.func20, Tryd.ntmps20
        go_wp2_with (go_at_call 14; refine (among_n (⟨#[42, 40, 41]⟩ : ByteArray) c n _ _ hn.out hA.out).mono ?_; rintro e w1 ⟨rfl, ⟨n1, rfl⟩⟩)
        go_ret
        exact ⟨by first | rfl | (simp only [Bool.true_or, Bool.false_or, Bool.or_true, Bool.or_false, Bool.false_and, Bool.true_and, Bool.and_false, Bool.and_true]; first | rfl | done) | (simp [*]; done), by repeat (first | exact Drawn0.refl _ | apply Drawn0.step)⟩
      · have t1 : ((n : Int) == 0) = false := nat_neq n 0 c
        rw [decide_eq_false c]
        clear c
        by_cases c : 127 < n
        · have t2 : decide (127 < (n : Int)) = true := nat_lt 127 n c
          rw [decide_eq_true c]
          clear c
          go_enter Tryd.func20, Tryd.ntmps20
          go_wp2_with (go_at_call 14; refine (among_n (⟨#[42, 40, 41]⟩ : ByteArray) c n _ _ hn.out hA.out).mono ?_; rintro e w1 ⟨rfl, ⟨n1, rfl⟩⟩)
          go_ret
          exact ⟨by first | rfl | (simp only [Bool.true_or, Bool.false_or, Bool.or_true, Bool.or_false, Bool.false_and, Bool.true_and, Bool.and_false, Bool.and_true]; first | rfl | done) | (simp [*]; done), by repeat (first | exact Drawn0.refl _ | apply Drawn0.step)⟩
        · have t2 : decide (127 < (n : Int)) = false := nat_nlt 127 n c
          rw [decide_eq_false c]
          clear c
          go_enter Tryd.func20, Tryd.ntmps20
          go_wp2_with (go_at_call 14; refine (among_n (⟨#[42, 40, 41]⟩ : ByteArray) c n _ _ hn.out hA.out).mono ?_; rintro e w1 ⟨rfl, ⟨n1, rfl⟩⟩)
          go_ret
          exact ⟨by first | rfl | (simp only [Bool.true_or, Bool.false_or, Bool.or_true, Bool.or_false, Bool.false_and, Bool.true_and, Bool.and_false, Bool.and_true]; first | rfl | done) | (simp [*]; done), by repeat (first | exact Drawn0.refl _ | apply Drawn0.step)⟩
  · skip
    go_enter Tryd.func20, Tryd.ntmps20
    go_wp2_with (go_at_call 14; refine (among_n (⟨#[42, 40, 41]⟩ : ByteArray) c n _ _ hn.out hA.out).mono ?_; rintro e w1 ⟨rfl, ⟨n1, rfl⟩⟩)
    go_ret
    exact ⟨by first | rfl | (simp only [Bool.true_or, Bool.false_or, Bool.or_true, Bool.or_false, Bool.false_and, Bool.true_and, Bool.and_false, Bool.and_true]; first | rfl | done) | (simp [*]; done), by repeat (first | exact Drawn0.refl _ | apply Drawn0.step)⟩
theorem fil2_calls (i : Int) (c : UInt8) (w : World) :
    Calls Tryd.prog 21 #[.int .i64 i, .int .u8 (c.toNat : Int)] w fun e w' => e = .returned (.bool false) ∧ Drawn0 w w' := by
  go_enter Tryd.func21, Tryd.ntmps21
  go_wp2
  go_ret
  exact ⟨by first | rfl | (simp only [Bool.true_or, Bool.false_or, Bool.or_true, Bool.or_false, Bool.false_and, Bool.true_and, Bool.and_false, Bool.and_true]; first | rfl | done) | (simp [*]; done), by repeat (first | exact Drawn0.refl _ | apply Drawn0.step)⟩
end Go.Proofs.YtmhjplbloeamiaaDoor.H
