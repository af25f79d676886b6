/- What Find answers: its contract, in a world whose variable MaxLen holds some number. Condition: texts of at most four thousand million bytes. -/
import Derived.Test.YtmlihcknkgfhaaaDoorRep
import Derived.Test.YtmlihcknkgfhaaaDoorWWords
import Derived.Test.YtmlihcknkgfhaaaDoorWLast
import Derived.Test.YtmlihcknkgfhaaaDoorWMore
import Derived.Below
import Derived.Deep.LoopGhost
import Derived.Laws.Rows
import Derived.Lib.IndexBytes
import Derived.Lib.IndexMore
import Derived.Lib.Hide
import Derived.Lib.IndexLaws
namespace Go.Proofs.YtmlihcknkgfhaaaDoor.H
open Go.RowKit Go.Lib Go.Proofs.YtmlihcknkgfhaaaDoorW.PrintWords Go.Proofs.YtmlihcknkgfhaaaDoorW.PrintLast Go.Proofs.YtmlihcknkgfhaaaDoorW.PrintMore
set_option linter.unusedVariables false
set_option linter.unusedSimpArgs false
attribute [local go_sem] max2_int min2_int max_two min_two
/-- Find, in plain words. -/
def found (s t : ByteArray) (n : Int) : Int :=
  if (s.size : Int) < mx n 0 then -1 else
    let k := Lib.index (s.data.toList.drop (mx n 0).toNat) t.data.toList
    if k < 0 then -1 else mx n 0 + k
def fold_Find.f (s t : ByteArray) (n : Int) : Option Int := if s.size < 4294967281 then some (found s t n) else none
theorem fold_Find.calls (s t : ByteArray) (n : Int) (r : Int) (w : World) (h : fold_Find.f s t n = some r) (HM : MX w) :
    Calls Tryd.prog 18 #[.string s, .string t, .int .i64 n] w fun e w' => e = .returned (.int .i64 r) ∧ Below w.heap.size w w' := by
  unfold fold_Find.f at h
  split at h
  case isFalse => cases h
  rename_i hs
  obtain rfl := Option.some.inj h
  obtain ⟨m, hm⟩ := HM
  unfold found
  have HS := Lib.hid hs
  clear hs
  by_cases cn : n < 0
  · have hb : mx n 0 = 0 := by unfold mx; rw [if_pos cn]
    rw [hb]
    have c0 : ¬ (s.size : Int) < 0 := by omega
    rw [if_neg c0]
    have c1 : decide ((s.size : Int) < 0) = false := decide_eq_false c0
    simp only [show (0 : Int).toNat = 0 from rfl, List.drop_zero]
    have hi := index_le s.data.toList t.data.toList
    generalize hK : Lib.index s.data.toList t.data.toList = K at hi ⊢
    have HK := Lib.hid hK
    have HHI := Lib.hid hi
    clear hK hi c0 hb
    by_cases ck : K < 0
    · have ck1 : decide (K < 0) = true := decide_eq_true ck
      rw [if_pos ck]
      go_enter Tryd.func18, Tryd.ntmps18
      go_wp2_with (go_at_call 24; refine (Tryd.strings_Index s t m _ (by exact HS.out) (by exact hm)).mono ?_; rintro e w1 ⟨rfl, rfl⟩; rw [HK.out])
      go_ret
      exact ⟨by first | rfl | (rw [hw]; rfl), Below.refl _ _⟩
    · have ck1 : decide (K < 0) = false := decide_eq_false ck
      rw [if_neg ck]
      have hw : wrap64 K = K := by
        have h1 := HHI.out
        have h2 : s.data.toList.length = s.size := rfl
        have h3 := HS.out
        unfold wrap64
        omega
      go_enter Tryd.func18, Tryd.ntmps18
      go_wp2_with (go_at_call 24; refine (Tryd.strings_Index s t m _ (by exact HS.out) (by exact hm)).mono ?_; rintro e w1 ⟨rfl, rfl⟩; rw [HK.out])
      go_ret
      exact ⟨by first | rfl | simp [hw], Below.refl _ _⟩
  · have hb : mx n 0 = n := by unfold mx; rw [if_neg cn]
    rw [hb]
    by_cases c0 : (s.size : Int) < n
    · have c1 : decide ((s.size : Int) < n) = true := decide_eq_true c0
      rw [if_pos c0]
      go_enter Tryd.func18, Tryd.ntmps18
      go_wp2
      go_ret
      exact ⟨by first | rfl | (rw [hw]; rfl), Below.refl _ _⟩
    · have c1 : decide ((s.size : Int) < n) = false := decide_eq_false c0
      have c2 : n ≤ (s.size : Int) := by omega
      have c3 : 0 ≤ n := by omega
      rw [if_neg c0]
      have kd : (s.extract n.toNat s.size).data.toList = s.data.toList.drop n.toNat := by
        have : s.data.toList.length = s.size := rfl
        rw [ByteArray.data_extract, Array.toList_extract, List.extract_eq_take_drop, List.take_of_length_le (by rw [List.length_drop]; omega)]
      have ks : (s.extract n.toNat s.size).size < 4294967281 := by
        have := HS.out
        simp only [ByteArray.size_extract]
        omega
      have hi := index_le (s.data.toList.drop n.toNat) t.data.toList
      rw [← kd] at hi ⊢
      have hl : (s.extract n.toNat s.size).data.toList.length = s.size - n.toNat := by rw [kd, List.length_drop]; rfl
      rw [hl] at hi
      generalize hK : Lib.index (s.extract n.toNat s.size).data.toList t.data.toList = K at hi ⊢
      have HK := Lib.hid hK
      have HKS := Lib.hid ks
      have HHI := Lib.hid hi
      clear hK ks hi kd hl c0 hb
      by_cases ck : K < 0
      · have ck1 : decide (K < 0) = true := decide_eq_true ck
        simp only [if_pos ck]
        go_enter Tryd.func18, Tryd.ntmps18
        go_wp2_with (go_at_call 24; refine (Tryd.strings_Index (s.extract n.toNat s.size) t m _ (by exact HKS.out) (by exact hm)).mono ?_; rintro e w1 ⟨rfl, rfl⟩; rw [HK.out])
        go_ret
        exact ⟨by first | rfl | (rw [hw]; rfl), Below.refl _ _⟩
      · have ck1 : decide (K < 0) = false := decide_eq_false ck
        simp only [if_neg ck]
        have hw : wrap64 (n + K) = n + K := by
          have h1 := HHI.out
          have h3 := HS.out
          unfold wrap64
          omega
        go_enter Tryd.func18, Tryd.ntmps18
        go_wp2_with (go_at_call 24; refine (Tryd.strings_Index (s.extract n.toNat s.size) t m _ (by exact HKS.out) (by exact hm)).mono ?_; rintro e w1 ⟨rfl, rfl⟩; rw [HK.out])
        go_ret
        exact ⟨by first | rfl | (rw [hw]; rfl), Below.refl _ _⟩
end Go.Proofs.YtmlihcknkgfhaaaDoor.H
