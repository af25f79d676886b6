/- Two valid tags have the same bytes if and only if they are equal, and so two lengths: the walk. Conditions: none beyond the statement's own. -/
import Derived.Test.YtalbgdjclfahjaaOneW
import Derived.Test.YtalbgdjclfahjaaOneN
import Derived.WideKeyPair
namespace Go.Proofs.Ytalbgdjclfahjaa.OneW
open Go.RowKit H
theorem one_walk (c1 n1 c2 n2 x y : Int) (m1 m2 : Bool) (w : World) :
    Calls Try.prog 4 #[.agg #[.int .i64 c1, .bool m1, .int .i64 n1], .agg #[.int .i64 c2, .bool m2, .int .i64 n2], .agg #[.int .i64 x, .int .i64 y]] w fun e w' => e = .returned (.bool true) ∧ Below w.heap.size w w' := by
  cases h1 : right c1 n1 with
  | false => exact not1 c1 n1 c2 n2 x y m1 m2 w h1
  | true =>
    cases h2 : right c2 n2 with
    | false => exact not2 c1 n1 c2 n2 x y m1 m2 w h1 h2
    | true => exact both c1 n1 c2 n2 x y m1 m2 w h1 h2
theorem arr31 : Go.WideMaps.ArrKey Try.prog 31 3 2 := ⟨Try.underlying31, by kernel_rfl, by kernel_rfl, by kernel_rfl⟩
end Go.Proofs.Ytalbgdjclfahjaa.OneW
