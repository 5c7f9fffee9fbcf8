/- Words and contracts for a claim. -/
import Derived.Test.YtegffliopblajaaPunchDays2
import Derived.Test.YtegffliopblajaaProg
section
namespace Go.Proofs.Ytegffliopblajaa.P
open Go.RowKit Go.Proofs.YtegffliopblajaaW.PrintWords Go.Proofs.YtegffliopblajaaW.PrintLast Go.Proofs.YtegffliopblajaaW.PrintMore
attribute [local go_sem] max2_int min2_int max_two min_two max_three min_three max_four min_four
set_option linter.unusedVariables false
set_option linter.unusedSimpArgs false
structure S52 where
  f0 : Int
  f1 : Int
end Go.Proofs.Ytegffliopblajaa.P
end
