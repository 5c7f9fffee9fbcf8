/- Words and contracts for a claim. -/
import Derived.Test.YthoeindopljmkaaPumpOrder4
import Derived.Lib.SliceRun
section
namespace Go.Proofs.Ythoeindopljmkaa.P
open Go.RowKit Go.Proofs.YthoeindopljmkaaW.PrintWords Go.Proofs.YthoeindopljmkaaW.PrintLast Go.Proofs.YthoeindopljmkaaW.PrintMore
set_option linter.unusedVariables false
set_option linter.unusedSimpArgs false
theorem btw_iff {a b c : Int} : btw a b c = true ↔ a ≤ b ∧ b ≤ c := by simp [btw]
end Go.Proofs.Ythoeindopljmkaa.P
end
