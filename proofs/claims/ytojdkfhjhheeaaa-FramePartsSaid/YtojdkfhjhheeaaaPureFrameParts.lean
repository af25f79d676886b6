/- The sum goes on over parts, however bytes are cut: the statement over lists of bytes. Conditions: none beyond the statement's own. -/
import Derived.Test.YtojdkfhjhheeaaaLPartsx1
import Derived.Test.YtojdkfhjhheeaaaSums
namespace Go.Proofs.Ytojdkfhjhheeaaa.Pure
open Go.RowKit Go.Proofs.Ytojdkfhjhheeaaa.LParts Go.Proofs.Ytojdkfhjhheeaaa.H Go.Proofs.YtojdkfhjhheeaaaW.PrintWords Go.Proofs.YtojdkfhjhheeaaaW.PrintLast

theorem FrameParts : peeragelaw04_FrameParts.Pure := by
  intro l0 l1 m0 r0 w0 m1 r1 w1
  have b0 := okb_of w0
  have b1 := okb_of w1
  unfold peeragelaw04_FrameParts.f
  split
  · rfl
  · rename_i hc
    have hs : (l0.length : Int) + l1.length ≤ 3000 := by unfold wrap64 at hc; omega
    have sm : ∀ l, okb l = true → frame_Sum.f l = some (more 0 l) := fun l h => by unfold frame_Sum.f; rw [sum_some h]; rfl
    have s0 := sm _ b0
    have s1 : frame_More.f (more 0 l0) l1 = some (more (more 0 l0) l1) := by
      have := more_range 0 l0
      simp [frame_More.f, b1, this]
    have s2 : frame_Sum.f ([] ++ l0 ++ l1) = some (more 0 (l0 ++ l1)) := by
      rw [List.nil_append]; exact sm _ (okb_append b0 b1)
    have s3 : frame_Sum.f [] = some 0 := by rw [sm _ rfl, more_nil]
    have s4 : frame_Sum.f [0] = some (more 0 [0]) := sm _ rfl
    rw [s0]; simp only [Option.bind_some]
    rw [s1]; simp only [Option.bind_some]
    rw [if_pos (by simp; omega), if_pos (by simp; omega), s2]
    simp only [Option.bind_some]
    rw [if_pos (more_more l1), s3]
    simp only [Option.bind_some, if_true]
    rw [s4]
    simp only [Option.bind_some]
    have := more_zero
    simp [this]
end Go.Proofs.Ytojdkfhjhheeaaa.Pure
