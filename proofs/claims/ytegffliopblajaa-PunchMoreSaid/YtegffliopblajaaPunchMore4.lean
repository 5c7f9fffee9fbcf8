/- Words and contracts for a claim. -/
import Derived.Test.YtegffliopblajaaPunchMore3
import Derived.Deep.SlicePairs
import Derived.ProofKit
section
namespace Go.Proofs.Ytegffliopblajaa.P
open Go.ChangeShapes Go.WideShapes Go.Deep Go.RowKit Go.Proofs.YtegffliopblajaaW.PrintWords
set_option linter.unusedVariables false
set_option linter.unusedSimpArgs false
set_option maxRecDepth 100000
theorem list_two {α : Type} {l : List α} (h : l.length = 2) : ∃ a b, l = [a, b] := by
  match l, h with
  | [a, b], _ => exact ⟨a, b, rfl⟩
end Go.Proofs.Ytegffliopblajaa.P
end
