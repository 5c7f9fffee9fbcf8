/-
  No cell of these rows narrows 'for every input' (looked for: loops, veiled, ifaces, maps, wideKeys, modest, calm, conditions, laid).
  DERIVED. THE GIVEN ROWS OF THIS SEAT. 12 by the template 'for every input the law returns true; each argument reads behind the call as it read before'; 0 by the template 'total and deterministic' (their statements: YtegffliopblajaaTotals.lean).
  GIVEN WITH THE SEED: the statements are not yours to turn. If you find one false, say at which input.
  Laid BY PROGRAM, IN A SANDBOX (cutbox-rows.mjs): the forced cells as the released guide's own fill.sh prints them over the translation 282276a5d701d87f… (all of the seat's roots in one cut). By AI agents, Wed Nov 11 2026. No macro, syntax, notation, axiom, sorry.
-/
import Derived.Test.YtegffliopblajaaChecked
import GoSem.Claim
import GoSem.ClaimJoined
import GoSem.ClaimMapViews
import Derived.JoinedTies
import Derived.KernelRfl
namespace Go.Proofs.Ytegffliopblajaa
/- THE CELL 'sum', in the pinned program and in every row, IS THE sha256 OF THE DUMP (.gsa) THAT YtegffliopblajaaProg.lean LOADS. Nothing in Lean hashes anything: it is a label: what it is worth is what the hold of that sum in a sandbox is worth. -/
noncomputable def Try.pinned : Pinned := { name := "ytegffliopblajaa", sum := "282276a5d701d87f27a2bf6fe886f08088e4f7dae69af667d841a3f3672d77c7", checked := Try.checked }
namespace Rows
def none {H : Type} : Left H := { results := [], args := [] }

/-- 'pianolalaw03.PunchJobs': WHATEVER THE INPUT: true; the input reads as it did. -/
def punchJobsSpec : ChangeSpec := { name := "punchJobs", fn := fun _ => fun
  | [d1, d2] => { results := [.lit (.bool true)], args := [d1, d2] }
  | _ => none }
def punchJobsRow : OpenClaim := { program := "ytegffliopblajaa", sum := "282276a5d701d87f27a2bf6fe886f08088e4f7dae69af667d841a3f3672d77c7", func := "pianola/pianolalaw03.PunchJobs", spec := "punchJobs", unfollowed := true, recurses := true, apart := false }
def PunchJobsSaid : Prop := punchJobsRow.holds Try.pinned (OpenSpec.ofChange punchJobsSpec)

/-- ITS FALSE NEIGHBOUR: 'it returns false'. Refute it at one input. -/
def punchJobsWrong : ChangeSpec := { name := "punchJobs", fn := fun _ => fun
  | [d1, d2] => { results := [.lit (.bool false)], args := [d1, d2] }
  | _ => none }
def PunchJobsWrongFalsely : Prop := punchJobsRow.holds Try.pinned (OpenSpec.ofChange punchJobsWrong)

/-- 'pianolalaw03.PunchPlans': WHATEVER THE INPUT: true; the input reads as it did. -/
def punchPlansSpec : ChangeSpec := { name := "punchPlans", fn := fun _ => fun
  | [d] => { results := [.lit (.bool true)], args := [d] }
  | _ => none }
def punchPlansRow : OpenClaim := { program := "ytegffliopblajaa", sum := "282276a5d701d87f27a2bf6fe886f08088e4f7dae69af667d841a3f3672d77c7", func := "pianola/pianolalaw03.PunchPlans", spec := "punchPlans", unfollowed := true, recurses := true, apart := false }
def PunchPlansSaid : Prop := punchPlansRow.holds Try.pinned (OpenSpec.ofChange punchPlansSpec)

/-- ITS FALSE NEIGHBOUR: 'it returns false'. Refute it at one input. -/
def punchPlansWrong : ChangeSpec := { name := "punchPlans", fn := fun _ => fun
  | [d] => { results := [.lit (.bool false)], args := [d] }
  | _ => none }
def PunchPlansWrongFalsely : Prop := punchPlansRow.holds Try.pinned (OpenSpec.ofChange punchPlansWrong)

/-- 'pianolalaw03.PunchVerifies': WHATEVER THE INPUT: true; the input reads as it did. -/
def punchVerifiesSpec : ChangeSpec := { name := "punchVerifies", fn := fun _ => fun
  | [d1, d2, d3] => { results := [.lit (.bool true)], args := [d1, d2, d3] }
  | _ => none }
def punchVerifiesRow : OpenClaim := { program := "ytegffliopblajaa", sum := "282276a5d701d87f27a2bf6fe886f08088e4f7dae69af667d841a3f3672d77c7", func := "pianola/pianolalaw03.PunchVerifies", spec := "punchVerifies", unfollowed := true, recurses := true, apart := false }
def PunchVerifiesSaid : Prop := punchVerifiesRow.holds Try.pinned (OpenSpec.ofChange punchVerifiesSpec)

/-- ITS FALSE NEIGHBOUR: 'it returns false'. Refute it at one input. -/
def punchVerifiesWrong : ChangeSpec := { name := "punchVerifies", fn := fun _ => fun
  | [d1, d2, d3] => { results := [.lit (.bool false)], args := [d1, d2, d3] }
  | _ => none }
def PunchVerifiesWrongFalsely : Prop := punchVerifiesRow.holds Try.pinned (OpenSpec.ofChange punchVerifiesWrong)

/-- 'pianolalaw03.PunchBars': WHATEVER THE INPUT: true; the input reads as it did. -/
def punchBarsSpec : ChangeSpec := { name := "punchBars", fn := fun _ => fun
  | [d1, d2] => { results := [.lit (.bool true)], args := [d1, d2] }
  | _ => none }
def punchBarsRow : OpenClaim := { program := "ytegffliopblajaa", sum := "282276a5d701d87f27a2bf6fe886f08088e4f7dae69af667d841a3f3672d77c7", func := "pianola/pianolalaw03.PunchBars", spec := "punchBars", unfollowed := true, recurses := true, apart := false }
def PunchBarsSaid : Prop := punchBarsRow.holds Try.pinned (OpenSpec.ofChange punchBarsSpec)

/-- ITS FALSE NEIGHBOUR: 'it returns false'. Refute it at one input. -/
def punchBarsWrong : ChangeSpec := { name := "punchBars", fn := fun _ => fun
  | [d1, d2] => { results := [.lit (.bool false)], args := [d1, d2] }
  | _ => none }
def PunchBarsWrongFalsely : Prop := punchBarsRow.holds Try.pinned (OpenSpec.ofChange punchBarsWrong)

/-- 'pianolalaw03.PunchHolds': WHATEVER THE INPUT: true; the input reads as it did. -/
def punchHoldsSpec : ChangeSpec := { name := "punchHolds", fn := fun _ => fun
  | [d1, d2, d3] => { results := [.lit (.bool true)], args := [d1, d2, d3] }
  | _ => none }
def punchHoldsRow : OpenClaim := { program := "ytegffliopblajaa", sum := "282276a5d701d87f27a2bf6fe886f08088e4f7dae69af667d841a3f3672d77c7", func := "pianola/pianolalaw03.PunchHolds", spec := "punchHolds", unfollowed := true, recurses := true, apart := false }
def PunchHoldsSaid : Prop := punchHoldsRow.holds Try.pinned (OpenSpec.ofChange punchHoldsSpec)

/-- ITS FALSE NEIGHBOUR: 'it returns false'. Refute it at one input. -/
def punchHoldsWrong : ChangeSpec := { name := "punchHolds", fn := fun _ => fun
  | [d1, d2, d3] => { results := [.lit (.bool false)], args := [d1, d2, d3] }
  | _ => none }
def PunchHoldsWrongFalsely : Prop := punchHoldsRow.holds Try.pinned (OpenSpec.ofChange punchHoldsWrong)

/-- 'pianolalaw03.PunchBest': WHATEVER THE INPUT: true; the input reads as it did. -/
def punchBestSpec : ChangeSpec := { name := "punchBest", fn := fun _ => fun
  | [d] => { results := [.lit (.bool true)], args := [d] }
  | _ => none }
def punchBestRow : OpenClaim := { program := "ytegffliopblajaa", sum := "282276a5d701d87f27a2bf6fe886f08088e4f7dae69af667d841a3f3672d77c7", func := "pianola/pianolalaw03.PunchBest", spec := "punchBest", unfollowed := true, recurses := true, apart := false }
def PunchBestSaid : Prop := punchBestRow.holds Try.pinned (OpenSpec.ofChange punchBestSpec)

/-- ITS FALSE NEIGHBOUR: 'it returns false'. Refute it at one input. -/
def punchBestWrong : ChangeSpec := { name := "punchBest", fn := fun _ => fun
  | [d] => { results := [.lit (.bool false)], args := [d] }
  | _ => none }
def PunchBestWrongFalsely : Prop := punchBestRow.holds Try.pinned (OpenSpec.ofChange punchBestWrong)

/-- 'pianolalaw03.PunchCrowds': WHATEVER THE INPUT: true; the input reads as it did. -/
def punchCrowdsSpec : ChangeSpec := { name := "punchCrowds", fn := fun _ => fun
  | [d1, d2, d3] => { results := [.lit (.bool true)], args := [d1, d2, d3] }
  | _ => none }
def punchCrowdsRow : OpenClaim := { program := "ytegffliopblajaa", sum := "282276a5d701d87f27a2bf6fe886f08088e4f7dae69af667d841a3f3672d77c7", func := "pianola/pianolalaw03.PunchCrowds", spec := "punchCrowds", unfollowed := true, recurses := true, apart := false }
def PunchCrowdsSaid : Prop := punchCrowdsRow.holds Try.pinned (OpenSpec.ofChange punchCrowdsSpec)

/-- ITS FALSE NEIGHBOUR: 'it returns false'. Refute it at one input. -/
def punchCrowdsWrong : ChangeSpec := { name := "punchCrowds", fn := fun _ => fun
  | [d1, d2, d3] => { results := [.lit (.bool false)], args := [d1, d2, d3] }
  | _ => none }
def PunchCrowdsWrongFalsely : Prop := punchCrowdsRow.holds Try.pinned (OpenSpec.ofChange punchCrowdsWrong)

/-- 'pianolalaw03.PunchMore': WHATEVER THE INPUT: true; the input reads as it did. -/
def punchMoreSpec : ChangeSpec := { name := "punchMore", fn := fun _ => fun
  | [d1, d2, d3, d4, d5] => { results := [.lit (.bool true)], args := [d1, d2, d3, d4, d5] }
  | _ => none }
def punchMoreRow : OpenClaim := { program := "ytegffliopblajaa", sum := "282276a5d701d87f27a2bf6fe886f08088e4f7dae69af667d841a3f3672d77c7", func := "pianola/pianolalaw03.PunchMore", spec := "punchMore", unfollowed := true, recurses := true, apart := false }
def PunchMoreSaid : Prop := punchMoreRow.holds Try.pinned (OpenSpec.ofChange punchMoreSpec)

/-- ITS FALSE NEIGHBOUR: 'it returns false'. Refute it at one input. -/
def punchMoreWrong : ChangeSpec := { name := "punchMore", fn := fun _ => fun
  | [d1, d2, d3, d4, d5] => { results := [.lit (.bool false)], args := [d1, d2, d3, d4, d5] }
  | _ => none }
def PunchMoreWrongFalsely : Prop := punchMoreRow.holds Try.pinned (OpenSpec.ofChange punchMoreWrong)

/-- 'pianolalaw03.PunchAdded': WHATEVER THE INPUT: true; the input reads as it did. -/
def punchAddedSpec : ChangeSpec := { name := "punchAdded", fn := fun _ => fun
  | [d1, d2] => { results := [.lit (.bool true)], args := [d1, d2] }
  | _ => none }
def punchAddedRow : OpenClaim := { program := "ytegffliopblajaa", sum := "282276a5d701d87f27a2bf6fe886f08088e4f7dae69af667d841a3f3672d77c7", func := "pianola/pianolalaw03.PunchAdded", spec := "punchAdded", unfollowed := true, recurses := true, apart := false }
def PunchAddedSaid : Prop := punchAddedRow.holds Try.pinned (OpenSpec.ofChange punchAddedSpec)

/-- ITS FALSE NEIGHBOUR: 'it returns false'. Refute it at one input. -/
def punchAddedWrong : ChangeSpec := { name := "punchAdded", fn := fun _ => fun
  | [d1, d2] => { results := [.lit (.bool false)], args := [d1, d2] }
  | _ => none }
def PunchAddedWrongFalsely : Prop := punchAddedRow.holds Try.pinned (OpenSpec.ofChange punchAddedWrong)

/-- 'pianolalaw03.PunchDays': WHATEVER THE INPUT: true; the input reads as it did. -/
def punchDaysSpec : ChangeSpec := { name := "punchDays", fn := fun _ => fun
  | [d1, d2, d3, d4] => { results := [.lit (.bool true)], args := [d1, d2, d3, d4] }
  | _ => none }
def punchDaysRow : OpenClaim := { program := "ytegffliopblajaa", sum := "282276a5d701d87f27a2bf6fe886f08088e4f7dae69af667d841a3f3672d77c7", func := "pianola/pianolalaw03.PunchDays", spec := "punchDays", unfollowed := true, recurses := true, apart := false }
def PunchDaysSaid : Prop := punchDaysRow.holds Try.pinned (OpenSpec.ofChange punchDaysSpec)

/-- ITS FALSE NEIGHBOUR: 'it returns false'. Refute it at one input. -/
def punchDaysWrong : ChangeSpec := { name := "punchDays", fn := fun _ => fun
  | [d1, d2, d3, d4] => { results := [.lit (.bool false)], args := [d1, d2, d3, d4] }
  | _ => none }
def PunchDaysWrongFalsely : Prop := punchDaysRow.holds Try.pinned (OpenSpec.ofChange punchDaysWrong)

/-- 'pianolalaw03.PunchFewest': WHATEVER THE INPUT: true; the input reads as it did. -/
def punchFewestSpec : ChangeSpec := { name := "punchFewest", fn := fun _ => fun
  | [d1, d2] => { results := [.lit (.bool true)], args := [d1, d2] }
  | _ => none }
def punchFewestRow : OpenClaim := { program := "ytegffliopblajaa", sum := "282276a5d701d87f27a2bf6fe886f08088e4f7dae69af667d841a3f3672d77c7", func := "pianola/pianolalaw03.PunchFewest", spec := "punchFewest", unfollowed := true, recurses := true, apart := false }
def PunchFewestSaid : Prop := punchFewestRow.holds Try.pinned (OpenSpec.ofChange punchFewestSpec)

/-- ITS FALSE NEIGHBOUR: 'it returns false'. Refute it at one input. -/
def punchFewestWrong : ChangeSpec := { name := "punchFewest", fn := fun _ => fun
  | [d1, d2] => { results := [.lit (.bool false)], args := [d1, d2] }
  | _ => none }
def PunchFewestWrongFalsely : Prop := punchFewestRow.holds Try.pinned (OpenSpec.ofChange punchFewestWrong)

/-- 'pianolalaw03.PunchKnown': WHATEVER THE INPUT: true; the input reads as it did. -/
def punchKnownSpec : ChangeSpec := { name := "punchKnown", fn := fun _ => fun
  | [] => { results := [.lit (.bool true)], args := [] }
  | _ => none }
def punchKnownRow : OpenClaim := { program := "ytegffliopblajaa", sum := "282276a5d701d87f27a2bf6fe886f08088e4f7dae69af667d841a3f3672d77c7", func := "pianola/pianolalaw03.PunchKnown", spec := "punchKnown", unfollowed := true, recurses := true, apart := false }
def PunchKnownSaid : Prop := punchKnownRow.holds Try.pinned (OpenSpec.ofChange punchKnownSpec)

/-- ITS FALSE NEIGHBOUR: 'it returns false'. Refute it at one input. -/
def punchKnownWrong : ChangeSpec := { name := "punchKnown", fn := fun _ => fun
  | [] => { results := [.lit (.bool false)], args := [] }
  | _ => none }
def PunchKnownWrongFalsely : Prop := punchKnownRow.holds Try.pinned (OpenSpec.ofChange punchKnownWrong)

/- THE SECOND FORM. 'bulk': how many values and letters a reading holds, each counted each time it is reached (what is shared counts as often as it is met; a slice's spare places count too). A statement '..UptoSaid' is the law's where the arguments, and the package variables that the reading takes, are together of bulk at most 1048576: NARROWER than '..Said'. Prove '..Said' where nothing that the law and all that it calls make is longer than what came in: it says more and counts as full. Else prove '..UptoSaid'. A law counts once. -/
mutual
def uptoBulk {H : Type} : DataW H → Nat
  | .lit (.string bytes) => bytes.length + 1
  | .lit _ => 1
  | .nil => 1
  | .ptr d => uptoBulk d + 1
  | .slice elems spare => uptoBulkAll elems + uptoBulkAll spare + 1
  | .agg parts => uptoBulkAll parts + 1
  | .iface _ d => uptoBulk d + 1
  | .map entries => uptoBulkEntries entries + 1
  | .held _ => 1
def uptoBulkAll {H : Type} : List (DataW H) → Nat
  | [] => 0
  | d :: r => uptoBulk d + uptoBulkAll r
def uptoBulkEntries {H : Type} : List (Lit × DataW H) → Nat
  | [] => 0
  | x :: r => uptoBulkEntry x + uptoBulkEntries r
def uptoBulkEntry {H : Type} : Lit × DataW H → Nat
  | (.string bytes, d) => bytes.length + uptoBulk d + 1
  | (_, d) => uptoBulk d + 1
 end
def uptoSmall : (H : Type) → List (DataW H) → Bool := fun _ ds => decide (uptoBulkAll ds ≤ 1048576)
def OpenSpec.upto (s : _root_.Go.ChangeSpec) : _root_.Go.OpenSpec := { _root_.Go.OpenSpec.ofChange s with cond := some uptoSmall }

/-- 'pianolalaw03.PunchJobs', WHERE WHAT IT READS IS OF BULK AT MOST 1048576: true; the input reads as it did. -/
def punchJobsUptoRow : OpenClaim := { program := "ytegffliopblajaa", sum := "282276a5d701d87f27a2bf6fe886f08088e4f7dae69af667d841a3f3672d77c7", func := "pianola/pianolalaw03.PunchJobs", spec := "punchJobs", unfollowed := true, recurses := true, apart := false, narrowed := true }
def PunchJobsUptoSaid : Prop := punchJobsUptoRow.holds Try.pinned (OpenSpec.upto punchJobsSpec)

/-- 'pianolalaw03.PunchPlans', WHERE WHAT IT READS IS OF BULK AT MOST 1048576: true; the input reads as it did. -/
def punchPlansUptoRow : OpenClaim := { program := "ytegffliopblajaa", sum := "282276a5d701d87f27a2bf6fe886f08088e4f7dae69af667d841a3f3672d77c7", func := "pianola/pianolalaw03.PunchPlans", spec := "punchPlans", unfollowed := true, recurses := true, apart := false, narrowed := true }
def PunchPlansUptoSaid : Prop := punchPlansUptoRow.holds Try.pinned (OpenSpec.upto punchPlansSpec)

/-- 'pianolalaw03.PunchVerifies', WHERE WHAT IT READS IS OF BULK AT MOST 1048576: true; the input reads as it did. -/
def punchVerifiesUptoRow : OpenClaim := { program := "ytegffliopblajaa", sum := "282276a5d701d87f27a2bf6fe886f08088e4f7dae69af667d841a3f3672d77c7", func := "pianola/pianolalaw03.PunchVerifies", spec := "punchVerifies", unfollowed := true, recurses := true, apart := false, narrowed := true }
def PunchVerifiesUptoSaid : Prop := punchVerifiesUptoRow.holds Try.pinned (OpenSpec.upto punchVerifiesSpec)

/-- 'pianolalaw03.PunchBars', WHERE WHAT IT READS IS OF BULK AT MOST 1048576: true; the input reads as it did. -/
def punchBarsUptoRow : OpenClaim := { program := "ytegffliopblajaa", sum := "282276a5d701d87f27a2bf6fe886f08088e4f7dae69af667d841a3f3672d77c7", func := "pianola/pianolalaw03.PunchBars", spec := "punchBars", unfollowed := true, recurses := true, apart := false, narrowed := true }
def PunchBarsUptoSaid : Prop := punchBarsUptoRow.holds Try.pinned (OpenSpec.upto punchBarsSpec)

/-- 'pianolalaw03.PunchHolds', WHERE WHAT IT READS IS OF BULK AT MOST 1048576: true; the input reads as it did. -/
def punchHoldsUptoRow : OpenClaim := { program := "ytegffliopblajaa", sum := "282276a5d701d87f27a2bf6fe886f08088e4f7dae69af667d841a3f3672d77c7", func := "pianola/pianolalaw03.PunchHolds", spec := "punchHolds", unfollowed := true, recurses := true, apart := false, narrowed := true }
def PunchHoldsUptoSaid : Prop := punchHoldsUptoRow.holds Try.pinned (OpenSpec.upto punchHoldsSpec)

/-- 'pianolalaw03.PunchBest', WHERE WHAT IT READS IS OF BULK AT MOST 1048576: true; the input reads as it did. -/
def punchBestUptoRow : OpenClaim := { program := "ytegffliopblajaa", sum := "282276a5d701d87f27a2bf6fe886f08088e4f7dae69af667d841a3f3672d77c7", func := "pianola/pianolalaw03.PunchBest", spec := "punchBest", unfollowed := true, recurses := true, apart := false, narrowed := true }
def PunchBestUptoSaid : Prop := punchBestUptoRow.holds Try.pinned (OpenSpec.upto punchBestSpec)

/-- 'pianolalaw03.PunchCrowds', WHERE WHAT IT READS IS OF BULK AT MOST 1048576: true; the input reads as it did. -/
def punchCrowdsUptoRow : OpenClaim := { program := "ytegffliopblajaa", sum := "282276a5d701d87f27a2bf6fe886f08088e4f7dae69af667d841a3f3672d77c7", func := "pianola/pianolalaw03.PunchCrowds", spec := "punchCrowds", unfollowed := true, recurses := true, apart := false, narrowed := true }
def PunchCrowdsUptoSaid : Prop := punchCrowdsUptoRow.holds Try.pinned (OpenSpec.upto punchCrowdsSpec)

/-- 'pianolalaw03.PunchMore', WHERE WHAT IT READS IS OF BULK AT MOST 1048576: true; the input reads as it did. -/
def punchMoreUptoRow : OpenClaim := { program := "ytegffliopblajaa", sum := "282276a5d701d87f27a2bf6fe886f08088e4f7dae69af667d841a3f3672d77c7", func := "pianola/pianolalaw03.PunchMore", spec := "punchMore", unfollowed := true, recurses := true, apart := false, narrowed := true }
def PunchMoreUptoSaid : Prop := punchMoreUptoRow.holds Try.pinned (OpenSpec.upto punchMoreSpec)

/-- 'pianolalaw03.PunchAdded', WHERE WHAT IT READS IS OF BULK AT MOST 1048576: true; the input reads as it did. -/
def punchAddedUptoRow : OpenClaim := { program := "ytegffliopblajaa", sum := "282276a5d701d87f27a2bf6fe886f08088e4f7dae69af667d841a3f3672d77c7", func := "pianola/pianolalaw03.PunchAdded", spec := "punchAdded", unfollowed := true, recurses := true, apart := false, narrowed := true }
def PunchAddedUptoSaid : Prop := punchAddedUptoRow.holds Try.pinned (OpenSpec.upto punchAddedSpec)

/-- 'pianolalaw03.PunchDays', WHERE WHAT IT READS IS OF BULK AT MOST 1048576: true; the input reads as it did. -/
def punchDaysUptoRow : OpenClaim := { program := "ytegffliopblajaa", sum := "282276a5d701d87f27a2bf6fe886f08088e4f7dae69af667d841a3f3672d77c7", func := "pianola/pianolalaw03.PunchDays", spec := "punchDays", unfollowed := true, recurses := true, apart := false, narrowed := true }
def PunchDaysUptoSaid : Prop := punchDaysUptoRow.holds Try.pinned (OpenSpec.upto punchDaysSpec)

/-- 'pianolalaw03.PunchFewest', WHERE WHAT IT READS IS OF BULK AT MOST 1048576: true; the input reads as it did. -/
def punchFewestUptoRow : OpenClaim := { program := "ytegffliopblajaa", sum := "282276a5d701d87f27a2bf6fe886f08088e4f7dae69af667d841a3f3672d77c7", func := "pianola/pianolalaw03.PunchFewest", spec := "punchFewest", unfollowed := true, recurses := true, apart := false, narrowed := true }
def PunchFewestUptoSaid : Prop := punchFewestUptoRow.holds Try.pinned (OpenSpec.upto punchFewestSpec)

/-- 'pianolalaw03.PunchKnown', WHERE WHAT IT READS IS OF BULK AT MOST 1048576: true; the input reads as it did. -/
def punchKnownUptoRow : OpenClaim := { program := "ytegffliopblajaa", sum := "282276a5d701d87f27a2bf6fe886f08088e4f7dae69af667d841a3f3672d77c7", func := "pianola/pianolalaw03.PunchKnown", spec := "punchKnown", unfollowed := true, recurses := true, apart := false, narrowed := true }
def PunchKnownUptoSaid : Prop := punchKnownUptoRow.holds Try.pinned (OpenSpec.upto punchKnownSpec)

end Rows
end Go.Proofs.Ytegffliopblajaa
