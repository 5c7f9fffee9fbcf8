/- Words and contracts for a claim. -/
import Derived.Test.YthoeindopljmkaaPumpTried1
import Derived.Test.YthoeindopljmkaaProg
import Derived.OrdersHeld
import Derived.Laws.BitsLemmas
section
namespace Go.Proofs.Ythoeindopljmkaa.P
open Go.RowKit Go.Proofs.YthoeindopljmkaaW.PrintWords Go.Proofs.YthoeindopljmkaaW.PrintLast Go.Proofs.YthoeindopljmkaaW.PrintMore
attribute [local go_sem] max2_int min2_int max_two min_two max_three min_three max_four min_four
set_option linter.unusedVariables false
set_option linter.unusedSimpArgs false
theorem k86_mk (w : World) (x : S86)  : k86.K w x [.int .u8 x.f0, .int .u8 x.f1] := ⟨[.int .u8 x.f0], [.int .u8 x.f1], rfl, rfl, rfl⟩
end Go.Proofs.Ythoeindopljmkaa.P
end
