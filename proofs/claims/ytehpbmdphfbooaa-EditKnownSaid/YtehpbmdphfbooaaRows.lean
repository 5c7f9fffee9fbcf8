/-
  No cell of these rows narrows 'for every input' (looked for: loops, veiled, ifaces, maps, wideKeys, modest, calm, conditions, laid).
  DERIVED. THE GIVEN ROWS OF THIS SEAT. 10 by the template 'for every input the law returns true; each argument reads behind the call as it read before'; 0 by the template 'total and deterministic' (their statements: YtehpbmdphfbooaaTotals.lean).
  GIVEN WITH THE SEED: the statements are not yours to turn. If you find one false, say at which input.
  Laid BY PROGRAM, IN A SANDBOX (cutbox-rows.mjs): the forced cells as the released guide's own fill.sh prints them over the translation e406bc7cf4514454… (all of the seat's roots in one cut). By AI agents, Wed Nov 11 2026. No macro, syntax, notation, axiom, sorry.
-/
import Derived.Test.YtehpbmdphfbooaaChecked
import GoSem.Claim
import GoSem.ClaimJoined
import GoSem.ClaimMapViews
import Derived.JoinedTies
import Derived.KernelRfl
namespace Go.Proofs.Ytehpbmdphfbooaa
/- THE CELL 'sum', in the pinned program and in every row, IS THE sha256 OF THE DUMP (.gsa) THAT YtehpbmdphfbooaaProg.lean LOADS. Nothing in Lean hashes anything: it is a label: what it is worth is what the hold of that sum in a sandbox is worth. -/
noncomputable def Try.pinned : Pinned := { name := "ytehpbmdphfbooaa", sum := "e406bc7cf451445407a73ae1d5f0cea6a7f4b6817ab2d626b2b2affc6863407e", checked := Try.checked }
namespace Rows
def none {H : Type} : Left H := { results := [], args := [] }

/-- 'pianolalaw02.EditRuns': WHATEVER THE INPUT: true; the input reads as it did. -/
def editRunsSpec : ChangeSpec := { name := "editRuns", fn := fun _ => fun
  | [d1, d2] => { results := [.lit (.bool true)], args := [d1, d2] }
  | _ => none }
def editRunsRow : OpenClaim := { program := "ytehpbmdphfbooaa", sum := "e406bc7cf451445407a73ae1d5f0cea6a7f4b6817ab2d626b2b2affc6863407e", func := "pianola/pianolalaw02.EditRuns", spec := "editRuns", unfollowed := true, recurses := true, plainKeys := false, apart := false }
def EditRunsSaid : Prop := editRunsRow.holds Try.pinned (OpenSpec.ofChange editRunsSpec)

/-- ITS FALSE NEIGHBOUR: 'it returns false'. Refute it at one input. -/
def editRunsWrong : ChangeSpec := { name := "editRuns", fn := fun _ => fun
  | [d1, d2] => { results := [.lit (.bool false)], args := [d1, d2] }
  | _ => none }
def EditRunsWrongFalsely : Prop := editRunsRow.holds Try.pinned (OpenSpec.ofChange editRunsWrong)

/-- 'pianolalaw02.EditAssociates': WHATEVER THE INPUT: true; the input reads as it did. -/
def editAssociatesSpec : ChangeSpec := { name := "editAssociates", fn := fun _ => fun
  | [d1, d2, d3, d4] => { results := [.lit (.bool true)], args := [d1, d2, d3, d4] }
  | _ => none }
def editAssociatesRow : OpenClaim := { program := "ytehpbmdphfbooaa", sum := "e406bc7cf451445407a73ae1d5f0cea6a7f4b6817ab2d626b2b2affc6863407e", func := "pianola/pianolalaw02.EditAssociates", spec := "editAssociates", unfollowed := true, recurses := true, plainKeys := false, apart := false }
def EditAssociatesSaid : Prop := editAssociatesRow.holds Try.pinned (OpenSpec.ofChange editAssociatesSpec)

/-- ITS FALSE NEIGHBOUR: 'it returns false'. Refute it at one input. -/
def editAssociatesWrong : ChangeSpec := { name := "editAssociates", fn := fun _ => fun
  | [d1, d2, d3, d4] => { results := [.lit (.bool false)], args := [d1, d2, d3, d4] }
  | _ => none }
def EditAssociatesWrongFalsely : Prop := editAssociatesRow.holds Try.pinned (OpenSpec.ofChange editAssociatesWrong)

/-- 'pianolalaw02.EditOnce': WHATEVER THE INPUT: true; the input reads as it did. -/
def editOnceSpec : ChangeSpec := { name := "editOnce", fn := fun _ => fun
  | [d1, d2] => { results := [.lit (.bool true)], args := [d1, d2] }
  | _ => none }
def editOnceRow : OpenClaim := { program := "ytehpbmdphfbooaa", sum := "e406bc7cf451445407a73ae1d5f0cea6a7f4b6817ab2d626b2b2affc6863407e", func := "pianola/pianolalaw02.EditOnce", spec := "editOnce", unfollowed := true, recurses := true, plainKeys := false, apart := false }
def EditOnceSaid : Prop := editOnceRow.holds Try.pinned (OpenSpec.ofChange editOnceSpec)

/-- ITS FALSE NEIGHBOUR: 'it returns false'. Refute it at one input. -/
def editOnceWrong : ChangeSpec := { name := "editOnce", fn := fun _ => fun
  | [d1, d2] => { results := [.lit (.bool false)], args := [d1, d2] }
  | _ => none }
def EditOnceWrongFalsely : Prop := editOnceRow.holds Try.pinned (OpenSpec.ofChange editOnceWrong)

/-- 'pianolalaw02.EditKnown': WHATEVER THE INPUT: true; the input reads as it did. -/
def editKnownSpec : ChangeSpec := { name := "editKnown", fn := fun _ => fun
  | [] => { results := [.lit (.bool true)], args := [] }
  | _ => none }
def editKnownRow : OpenClaim := { program := "ytehpbmdphfbooaa", sum := "e406bc7cf451445407a73ae1d5f0cea6a7f4b6817ab2d626b2b2affc6863407e", func := "pianola/pianolalaw02.EditKnown", spec := "editKnown", unfollowed := true, recurses := true, plainKeys := false, apart := false }
def EditKnownSaid : Prop := editKnownRow.holds Try.pinned (OpenSpec.ofChange editKnownSpec)

/-- ITS FALSE NEIGHBOUR: 'it returns false'. Refute it at one input. -/
def editKnownWrong : ChangeSpec := { name := "editKnown", fn := fun _ => fun
  | [] => { results := [.lit (.bool false)], args := [] }
  | _ => none }
def EditKnownWrongFalsely : Prop := editKnownRow.holds Try.pinned (OpenSpec.ofChange editKnownWrong)

/-- 'pianolalaw02.EditThens': WHATEVER THE INPUT: true; the input reads as it did. -/
def editThensSpec : ChangeSpec := { name := "editThens", fn := fun _ => fun
  | [d1, d2] => { results := [.lit (.bool true)], args := [d1, d2] }
  | _ => none }
def editThensRow : OpenClaim := { program := "ytehpbmdphfbooaa", sum := "e406bc7cf451445407a73ae1d5f0cea6a7f4b6817ab2d626b2b2affc6863407e", func := "pianola/pianolalaw02.EditThens", spec := "editThens", unfollowed := true, recurses := true, plainKeys := false, apart := false }
def EditThensSaid : Prop := editThensRow.holds Try.pinned (OpenSpec.ofChange editThensSpec)

/-- ITS FALSE NEIGHBOUR: 'it returns false'. Refute it at one input. -/
def editThensWrong : ChangeSpec := { name := "editThens", fn := fun _ => fun
  | [d1, d2] => { results := [.lit (.bool false)], args := [d1, d2] }
  | _ => none }
def EditThensWrongFalsely : Prop := editThensRow.holds Try.pinned (OpenSpec.ofChange editThensWrong)

/-- 'pianolalaw02.EditUndone': WHATEVER THE INPUT: true; the input reads as it did. -/
def editUndoneSpec : ChangeSpec := { name := "editUndone", fn := fun _ => fun
  | [d1, d2] => { results := [.lit (.bool true)], args := [d1, d2] }
  | _ => none }
def editUndoneRow : OpenClaim := { program := "ytehpbmdphfbooaa", sum := "e406bc7cf451445407a73ae1d5f0cea6a7f4b6817ab2d626b2b2affc6863407e", func := "pianola/pianolalaw02.EditUndone", spec := "editUndone", unfollowed := true, recurses := true, plainKeys := false, apart := false }
def EditUndoneSaid : Prop := editUndoneRow.holds Try.pinned (OpenSpec.ofChange editUndoneSpec)

/-- ITS FALSE NEIGHBOUR: 'it returns false'. Refute it at one input. -/
def editUndoneWrong : ChangeSpec := { name := "editUndone", fn := fun _ => fun
  | [d1, d2] => { results := [.lit (.bool false)], args := [d1, d2] }
  | _ => none }
def EditUndoneWrongFalsely : Prop := editUndoneRow.holds Try.pinned (OpenSpec.ofChange editUndoneWrong)

/-- 'pianolalaw02.EditMerges': WHATEVER THE INPUT: true; the input reads as it did. -/
def editMergesSpec : ChangeSpec := { name := "editMerges", fn := fun _ => fun
  | [d1, d2] => { results := [.lit (.bool true)], args := [d1, d2] }
  | _ => none }
def editMergesRow : OpenClaim := { program := "ytehpbmdphfbooaa", sum := "e406bc7cf451445407a73ae1d5f0cea6a7f4b6817ab2d626b2b2affc6863407e", func := "pianola/pianolalaw02.EditMerges", spec := "editMerges", unfollowed := true, recurses := true, plainKeys := false, apart := false }
def EditMergesSaid : Prop := editMergesRow.holds Try.pinned (OpenSpec.ofChange editMergesSpec)

/-- ITS FALSE NEIGHBOUR: 'it returns false'. Refute it at one input. -/
def editMergesWrong : ChangeSpec := { name := "editMerges", fn := fun _ => fun
  | [d1, d2] => { results := [.lit (.bool false)], args := [d1, d2] }
  | _ => none }
def EditMergesWrongFalsely : Prop := editMergesRow.holds Try.pinned (OpenSpec.ofChange editMergesWrong)

/-- 'pianolalaw02.EditMerged': WHATEVER THE INPUT: true; the input reads as it did. -/
def editMergedSpec : ChangeSpec := { name := "editMerged", fn := fun _ => fun
  | [d1, d2, d3] => { results := [.lit (.bool true)], args := [d1, d2, d3] }
  | _ => none }
def editMergedRow : OpenClaim := { program := "ytehpbmdphfbooaa", sum := "e406bc7cf451445407a73ae1d5f0cea6a7f4b6817ab2d626b2b2affc6863407e", func := "pianola/pianolalaw02.EditMerged", spec := "editMerged", unfollowed := true, recurses := true, plainKeys := false, apart := false }
def EditMergedSaid : Prop := editMergedRow.holds Try.pinned (OpenSpec.ofChange editMergedSpec)

/-- ITS FALSE NEIGHBOUR: 'it returns false'. Refute it at one input. -/
def editMergedWrong : ChangeSpec := { name := "editMerged", fn := fun _ => fun
  | [d1, d2, d3] => { results := [.lit (.bool false)], args := [d1, d2, d3] }
  | _ => none }
def EditMergedWrongFalsely : Prop := editMergedRow.holds Try.pinned (OpenSpec.ofChange editMergedWrong)

/-- 'pianolalaw02.EditSteps': WHATEVER THE INPUT: true; the input reads as it did. -/
def editStepsSpec : ChangeSpec := { name := "editSteps", fn := fun _ => fun
  | [d] => { results := [.lit (.bool true)], args := [d] }
  | _ => none }
def editStepsRow : OpenClaim := { program := "ytehpbmdphfbooaa", sum := "e406bc7cf451445407a73ae1d5f0cea6a7f4b6817ab2d626b2b2affc6863407e", func := "pianola/pianolalaw02.EditSteps", spec := "editSteps", unfollowed := true, recurses := true, plainKeys := false, apart := false }
def EditStepsSaid : Prop := editStepsRow.holds Try.pinned (OpenSpec.ofChange editStepsSpec)

/-- ITS FALSE NEIGHBOUR: 'it returns false'. Refute it at one input. -/
def editStepsWrong : ChangeSpec := { name := "editSteps", fn := fun _ => fun
  | [d] => { results := [.lit (.bool false)], args := [d] }
  | _ => none }
def EditStepsWrongFalsely : Prop := editStepsRow.holds Try.pinned (OpenSpec.ofChange editStepsWrong)

/-- 'pianolalaw02.EditScripts': WHATEVER THE INPUT: true; the input reads as it did. -/
def editScriptsSpec : ChangeSpec := { name := "editScripts", fn := fun _ => fun
  | [d1, d2] => { results := [.lit (.bool true)], args := [d1, d2] }
  | _ => none }
def editScriptsRow : OpenClaim := { program := "ytehpbmdphfbooaa", sum := "e406bc7cf451445407a73ae1d5f0cea6a7f4b6817ab2d626b2b2affc6863407e", func := "pianola/pianolalaw02.EditScripts", spec := "editScripts", unfollowed := true, recurses := true, plainKeys := false, apart := false }
def EditScriptsSaid : Prop := editScriptsRow.holds Try.pinned (OpenSpec.ofChange editScriptsSpec)

/-- ITS FALSE NEIGHBOUR: 'it returns false'. Refute it at one input. -/
def editScriptsWrong : ChangeSpec := { name := "editScripts", fn := fun _ => fun
  | [d1, d2] => { results := [.lit (.bool false)], args := [d1, d2] }
  | _ => none }
def EditScriptsWrongFalsely : Prop := editScriptsRow.holds Try.pinned (OpenSpec.ofChange editScriptsWrong)

/- THE SECOND FORM. 'bulk': how many values and letters a reading holds, each counted each time it is reached (what is shared counts as often as it is met; a slice's spare places count too). A statement '..UptoSaid' is the law's where the arguments, and the package variables that the reading takes, are together of bulk at most 1048576: NARROWER than '..Said'. Prove '..Said' where nothing that the law and all that it calls make is longer than what came in: it says more and counts as full. Else prove '..UptoSaid'. A law counts once. -/
mutual
def uptoBulk {H : Type} : DataW H → Nat
  | .lit (.string bytes) => bytes.length + 1
  | .lit _ => 1
  | .nil => 1
  | .ptr d => uptoBulk d + 1
  | .slice elems spare => uptoBulkAll elems + uptoBulkAll spare + 1
  | .agg parts => uptoBulkAll parts + 1
  | .iface _ d => uptoBulk d + 1
  | .map entries => uptoBulkEntries entries + 1
  | .held _ => 1
def uptoBulkAll {H : Type} : List (DataW H) → Nat
  | [] => 0
  | d :: r => uptoBulk d + uptoBulkAll r
def uptoBulkEntries {H : Type} : List (Lit × DataW H) → Nat
  | [] => 0
  | x :: r => uptoBulkEntry x + uptoBulkEntries r
def uptoBulkEntry {H : Type} : Lit × DataW H → Nat
  | (.string bytes, d) => bytes.length + uptoBulk d + 1
  | (_, d) => uptoBulk d + 1
 end
def uptoSmall : (H : Type) → List (DataW H) → Bool := fun _ ds => decide (uptoBulkAll ds ≤ 1048576)
def OpenSpec.upto (s : _root_.Go.ChangeSpec) : _root_.Go.OpenSpec := { _root_.Go.OpenSpec.ofChange s with cond := some uptoSmall }

/-- 'pianolalaw02.EditRuns', WHERE WHAT IT READS IS OF BULK AT MOST 1048576: true; the input reads as it did. -/
def editRunsUptoRow : OpenClaim := { program := "ytehpbmdphfbooaa", sum := "e406bc7cf451445407a73ae1d5f0cea6a7f4b6817ab2d626b2b2affc6863407e", func := "pianola/pianolalaw02.EditRuns", spec := "editRuns", unfollowed := true, recurses := true, plainKeys := false, apart := false, narrowed := true }
def EditRunsUptoSaid : Prop := editRunsUptoRow.holds Try.pinned (OpenSpec.upto editRunsSpec)

/-- 'pianolalaw02.EditAssociates', WHERE WHAT IT READS IS OF BULK AT MOST 1048576: true; the input reads as it did. -/
def editAssociatesUptoRow : OpenClaim := { program := "ytehpbmdphfbooaa", sum := "e406bc7cf451445407a73ae1d5f0cea6a7f4b6817ab2d626b2b2affc6863407e", func := "pianola/pianolalaw02.EditAssociates", spec := "editAssociates", unfollowed := true, recurses := true, plainKeys := false, apart := false, narrowed := true }
def EditAssociatesUptoSaid : Prop := editAssociatesUptoRow.holds Try.pinned (OpenSpec.upto editAssociatesSpec)

/-- 'pianolalaw02.EditOnce', WHERE WHAT IT READS IS OF BULK AT MOST 1048576: true; the input reads as it did. -/
def editOnceUptoRow : OpenClaim := { program := "ytehpbmdphfbooaa", sum := "e406bc7cf451445407a73ae1d5f0cea6a7f4b6817ab2d626b2b2affc6863407e", func := "pianola/pianolalaw02.EditOnce", spec := "editOnce", unfollowed := true, recurses := true, plainKeys := false, apart := false, narrowed := true }
def EditOnceUptoSaid : Prop := editOnceUptoRow.holds Try.pinned (OpenSpec.upto editOnceSpec)

/-- 'pianolalaw02.EditKnown', WHERE WHAT IT READS IS OF BULK AT MOST 1048576: true; the input reads as it did. -/
def editKnownUptoRow : OpenClaim := { program := "ytehpbmdphfbooaa", sum := "e406bc7cf451445407a73ae1d5f0cea6a7f4b6817ab2d626b2b2affc6863407e", func := "pianola/pianolalaw02.EditKnown", spec := "editKnown", unfollowed := true, recurses := true, plainKeys := false, apart := false, narrowed := true }
def EditKnownUptoSaid : Prop := editKnownUptoRow.holds Try.pinned (OpenSpec.upto editKnownSpec)

/-- 'pianolalaw02.EditThens', WHERE WHAT IT READS IS OF BULK AT MOST 1048576: true; the input reads as it did. -/
def editThensUptoRow : OpenClaim := { program := "ytehpbmdphfbooaa", sum := "e406bc7cf451445407a73ae1d5f0cea6a7f4b6817ab2d626b2b2affc6863407e", func := "pianola/pianolalaw02.EditThens", spec := "editThens", unfollowed := true, recurses := true, plainKeys := false, apart := false, narrowed := true }
def EditThensUptoSaid : Prop := editThensUptoRow.holds Try.pinned (OpenSpec.upto editThensSpec)

/-- 'pianolalaw02.EditUndone', WHERE WHAT IT READS IS OF BULK AT MOST 1048576: true; the input reads as it did. -/
def editUndoneUptoRow : OpenClaim := { program := "ytehpbmdphfbooaa", sum := "e406bc7cf451445407a73ae1d5f0cea6a7f4b6817ab2d626b2b2affc6863407e", func := "pianola/pianolalaw02.EditUndone", spec := "editUndone", unfollowed := true, recurses := true, plainKeys := false, apart := false, narrowed := true }
def EditUndoneUptoSaid : Prop := editUndoneUptoRow.holds Try.pinned (OpenSpec.upto editUndoneSpec)

/-- 'pianolalaw02.EditMerges', WHERE WHAT IT READS IS OF BULK AT MOST 1048576: true; the input reads as it did. -/
def editMergesUptoRow : OpenClaim := { program := "ytehpbmdphfbooaa", sum := "e406bc7cf451445407a73ae1d5f0cea6a7f4b6817ab2d626b2b2affc6863407e", func := "pianola/pianolalaw02.EditMerges", spec := "editMerges", unfollowed := true, recurses := true, plainKeys := false, apart := false, narrowed := true }
def EditMergesUptoSaid : Prop := editMergesUptoRow.holds Try.pinned (OpenSpec.upto editMergesSpec)

/-- 'pianolalaw02.EditMerged', WHERE WHAT IT READS IS OF BULK AT MOST 1048576: true; the input reads as it did. -/
def editMergedUptoRow : OpenClaim := { program := "ytehpbmdphfbooaa", sum := "e406bc7cf451445407a73ae1d5f0cea6a7f4b6817ab2d626b2b2affc6863407e", func := "pianola/pianolalaw02.EditMerged", spec := "editMerged", unfollowed := true, recurses := true, plainKeys := false, apart := false, narrowed := true }
def EditMergedUptoSaid : Prop := editMergedUptoRow.holds Try.pinned (OpenSpec.upto editMergedSpec)

/-- 'pianolalaw02.EditSteps', WHERE WHAT IT READS IS OF BULK AT MOST 1048576: true; the input reads as it did. -/
def editStepsUptoRow : OpenClaim := { program := "ytehpbmdphfbooaa", sum := "e406bc7cf451445407a73ae1d5f0cea6a7f4b6817ab2d626b2b2affc6863407e", func := "pianola/pianolalaw02.EditSteps", spec := "editSteps", unfollowed := true, recurses := true, plainKeys := false, apart := false, narrowed := true }
def EditStepsUptoSaid : Prop := editStepsUptoRow.holds Try.pinned (OpenSpec.upto editStepsSpec)

/-- 'pianolalaw02.EditScripts', WHERE WHAT IT READS IS OF BULK AT MOST 1048576: true; the input reads as it did. -/
def editScriptsUptoRow : OpenClaim := { program := "ytehpbmdphfbooaa", sum := "e406bc7cf451445407a73ae1d5f0cea6a7f4b6817ab2d626b2b2affc6863407e", func := "pianola/pianolalaw02.EditScripts", spec := "editScripts", unfollowed := true, recurses := true, plainKeys := false, apart := false, narrowed := true }
def EditScriptsUptoSaid : Prop := editScriptsUptoRow.holds Try.pinned (OpenSpec.upto editScriptsSpec)

end Rows
end Go.Proofs.Ytehpbmdphfbooaa
