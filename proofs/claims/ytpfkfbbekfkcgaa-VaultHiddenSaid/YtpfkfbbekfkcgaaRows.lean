/-
  No cell of these rows narrows 'for every input' (looked for: loops, veiled, ifaces, maps, wideKeys, modest, calm, conditions, laid).
  DERIVED. THE GIVEN ROWS OF THIS SEAT. 14 by the template 'for every input the law returns true; each argument reads behind the call as it read before'; 0 by the template 'total and deterministic' (their statements: YtpfkfbbekfkcgaaTotals.lean).
  GIVEN WITH THE SEED: the statements are not yours to turn. If you find one false, say at which input.
  Laid BY PROGRAM, IN A SANDBOX (cutbox-rows.mjs): the forced cells as the released guide's own fill.sh prints them over the translation dd52582ea4bde948… (all of the seat's roots in one cut). By AI agents, Wed Nov 11 2026. No macro, syntax, notation, axiom, sorry.
-/
import Derived.Test.YtpfkfbbekfkcgaaChecked
import GoSem.Claim
import GoSem.ClaimJoined
import GoSem.ClaimMapViews
import Derived.JoinedTies
import Derived.KernelRfl
namespace Go.Proofs.Ytpfkfbbekfkcgaa
/- THE CELL 'sum', in the pinned program and in every row, IS THE sha256 OF THE DUMP (.gsa) THAT YtpfkfbbekfkcgaaProg.lean LOADS. Nothing in Lean hashes anything: it is a label: what it is worth is what the hold of that sum in a sandbox is worth. -/
noncomputable def Try.pinned : Pinned := { name := "ytpfkfbbekfkcgaa", sum := "dd52582ea4bde9489527be1194f802b80d30efef8102270fbdfcb6355c441f83", checked := Try.checked }
namespace Rows
def none {H : Type} : Left H := { results := [], args := [] }

/-- 'pianolalaw09.VaultDeals': WHATEVER THE INPUT: true; the input reads as it did. -/
def vaultDealsSpec : ChangeSpec := { name := "vaultDeals", fn := fun _ => fun
  | [d1, d2, d3] => { results := [.lit (.bool true)], args := [d1, d2, d3] }
  | _ => none }
def vaultDealsRow : OpenClaim := { program := "ytpfkfbbekfkcgaa", sum := "dd52582ea4bde9489527be1194f802b80d30efef8102270fbdfcb6355c441f83", func := "pianola/pianolalaw09.VaultDeals", spec := "vaultDeals", unfollowed := true, recurses := true, plainKeys := false, apart := false }
def VaultDealsSaid : Prop := vaultDealsRow.holds Try.pinned (OpenSpec.ofChange vaultDealsSpec)

/-- ITS FALSE NEIGHBOUR: 'it returns false'. Refute it at one input. -/
def vaultDealsWrong : ChangeSpec := { name := "vaultDeals", fn := fun _ => fun
  | [d1, d2, d3] => { results := [.lit (.bool false)], args := [d1, d2, d3] }
  | _ => none }
def VaultDealsWrongFalsely : Prop := vaultDealsRow.holds Try.pinned (OpenSpec.ofChange vaultDealsWrong)

/-- 'pianolalaw09.VaultAgrees': WHATEVER THE INPUT: true; the input reads as it did. -/
def vaultAgreesSpec : ChangeSpec := { name := "vaultAgrees", fn := fun _ => fun
  | [d1, d2] => { results := [.lit (.bool true)], args := [d1, d2] }
  | _ => none }
def vaultAgreesRow : OpenClaim := { program := "ytpfkfbbekfkcgaa", sum := "dd52582ea4bde9489527be1194f802b80d30efef8102270fbdfcb6355c441f83", func := "pianola/pianolalaw09.VaultAgrees", spec := "vaultAgrees", unfollowed := true, recurses := true, plainKeys := false, apart := false }
def VaultAgreesSaid : Prop := vaultAgreesRow.holds Try.pinned (OpenSpec.ofChange vaultAgreesSpec)

/-- ITS FALSE NEIGHBOUR: 'it returns false'. Refute it at one input. -/
def vaultAgreesWrong : ChangeSpec := { name := "vaultAgrees", fn := fun _ => fun
  | [d1, d2] => { results := [.lit (.bool false)], args := [d1, d2] }
  | _ => none }
def VaultAgreesWrongFalsely : Prop := vaultAgreesRow.holds Try.pinned (OpenSpec.ofChange vaultAgreesWrong)

/-- 'pianolalaw09.VaultPossible': WHATEVER THE INPUT: true; the input reads as it did. -/
def vaultPossibleSpec : ChangeSpec := { name := "vaultPossible", fn := fun _ => fun
  | [d1, d2, d3] => { results := [.lit (.bool true)], args := [d1, d2, d3] }
  | _ => none }
def vaultPossibleRow : OpenClaim := { program := "ytpfkfbbekfkcgaa", sum := "dd52582ea4bde9489527be1194f802b80d30efef8102270fbdfcb6355c441f83", func := "pianola/pianolalaw09.VaultPossible", spec := "vaultPossible", unfollowed := true, recurses := true, plainKeys := false, apart := false }
def VaultPossibleSaid : Prop := vaultPossibleRow.holds Try.pinned (OpenSpec.ofChange vaultPossibleSpec)

/-- ITS FALSE NEIGHBOUR: 'it returns false'. Refute it at one input. -/
def vaultPossibleWrong : ChangeSpec := { name := "vaultPossible", fn := fun _ => fun
  | [d1, d2, d3] => { results := [.lit (.bool false)], args := [d1, d2, d3] }
  | _ => none }
def VaultPossibleWrongFalsely : Prop := vaultPossibleRow.holds Try.pinned (OpenSpec.ofChange vaultPossibleWrong)

/-- 'pianolalaw09.VaultWrongs': WHATEVER THE INPUT: true; the input reads as it did. -/
def vaultWrongsSpec : ChangeSpec := { name := "vaultWrongs", fn := fun _ => fun
  | [d1, d2, d3] => { results := [.lit (.bool true)], args := [d1, d2, d3] }
  | _ => none }
def vaultWrongsRow : OpenClaim := { program := "ytpfkfbbekfkcgaa", sum := "dd52582ea4bde9489527be1194f802b80d30efef8102270fbdfcb6355c441f83", func := "pianola/pianolalaw09.VaultWrongs", spec := "vaultWrongs", unfollowed := true, recurses := true, plainKeys := false, apart := false }
def VaultWrongsSaid : Prop := vaultWrongsRow.holds Try.pinned (OpenSpec.ofChange vaultWrongsSpec)

/-- ITS FALSE NEIGHBOUR: 'it returns false'. Refute it at one input. -/
def vaultWrongsWrong : ChangeSpec := { name := "vaultWrongs", fn := fun _ => fun
  | [d1, d2, d3] => { results := [.lit (.bool false)], args := [d1, d2, d3] }
  | _ => none }
def VaultWrongsWrongFalsely : Prop := vaultWrongsRow.holds Try.pinned (OpenSpec.ofChange vaultWrongsWrong)

/-- 'pianolalaw09.VaultAdds': WHATEVER THE INPUT: true; the input reads as it did. -/
def vaultAddsSpec : ChangeSpec := { name := "vaultAdds", fn := fun _ => fun
  | [d1, d2] => { results := [.lit (.bool true)], args := [d1, d2] }
  | _ => none }
def vaultAddsRow : OpenClaim := { program := "ytpfkfbbekfkcgaa", sum := "dd52582ea4bde9489527be1194f802b80d30efef8102270fbdfcb6355c441f83", func := "pianola/pianolalaw09.VaultAdds", spec := "vaultAdds", unfollowed := true, recurses := true, plainKeys := false, apart := false }
def VaultAddsSaid : Prop := vaultAddsRow.holds Try.pinned (OpenSpec.ofChange vaultAddsSpec)

/-- ITS FALSE NEIGHBOUR: 'it returns false'. Refute it at one input. -/
def vaultAddsWrong : ChangeSpec := { name := "vaultAdds", fn := fun _ => fun
  | [d1, d2] => { results := [.lit (.bool false)], args := [d1, d2] }
  | _ => none }
def VaultAddsWrongFalsely : Prop := vaultAddsRow.holds Try.pinned (OpenSpec.ofChange vaultAddsWrong)

/-- 'pianolalaw09.VaultRestored': WHATEVER THE INPUT: true; the input reads as it did. -/
def vaultRestoredSpec : ChangeSpec := { name := "vaultRestored", fn := fun _ => fun
  | [d1, d2, d3] => { results := [.lit (.bool true)], args := [d1, d2, d3] }
  | _ => none }
def vaultRestoredRow : OpenClaim := { program := "ytpfkfbbekfkcgaa", sum := "dd52582ea4bde9489527be1194f802b80d30efef8102270fbdfcb6355c441f83", func := "pianola/pianolalaw09.VaultRestored", spec := "vaultRestored", unfollowed := true, recurses := true, plainKeys := false, apart := false }
def VaultRestoredSaid : Prop := vaultRestoredRow.holds Try.pinned (OpenSpec.ofChange vaultRestoredSpec)

/-- ITS FALSE NEIGHBOUR: 'it returns false'. Refute it at one input. -/
def vaultRestoredWrong : ChangeSpec := { name := "vaultRestored", fn := fun _ => fun
  | [d1, d2, d3] => { results := [.lit (.bool false)], args := [d1, d2, d3] }
  | _ => none }
def VaultRestoredWrongFalsely : Prop := vaultRestoredRow.holds Try.pinned (OpenSpec.ofChange vaultRestoredWrong)

/-- 'pianolalaw09.VaultBlind': WHATEVER THE INPUT: true; the input reads as it did. -/
def vaultBlindSpec : ChangeSpec := { name := "vaultBlind", fn := fun _ => fun
  | [d1, d2, d3, d4] => { results := [.lit (.bool true)], args := [d1, d2, d3, d4] }
  | _ => none }
def vaultBlindRow : OpenClaim := { program := "ytpfkfbbekfkcgaa", sum := "dd52582ea4bde9489527be1194f802b80d30efef8102270fbdfcb6355c441f83", func := "pianola/pianolalaw09.VaultBlind", spec := "vaultBlind", unfollowed := true, recurses := true, plainKeys := false, apart := false }
def VaultBlindSaid : Prop := vaultBlindRow.holds Try.pinned (OpenSpec.ofChange vaultBlindSpec)

/-- ITS FALSE NEIGHBOUR: 'it returns false'. Refute it at one input. -/
def vaultBlindWrong : ChangeSpec := { name := "vaultBlind", fn := fun _ => fun
  | [d1, d2, d3, d4] => { results := [.lit (.bool false)], args := [d1, d2, d3, d4] }
  | _ => none }
def VaultBlindWrongFalsely : Prop := vaultBlindRow.holds Try.pinned (OpenSpec.ofChange vaultBlindWrong)

/-- 'pianolatop.TopLocked': WHATEVER THE INPUT: true; the input reads as it did. -/
def topLockedSpec : ChangeSpec := { name := "topLocked", fn := fun _ => fun
  | [d1, d2, d3, d4, d5] => { results := [.lit (.bool true)], args := [d1, d2, d3, d4, d5] }
  | _ => none }
def topLockedRow : OpenClaim := { program := "ytpfkfbbekfkcgaa", sum := "dd52582ea4bde9489527be1194f802b80d30efef8102270fbdfcb6355c441f83", func := "pianola/pianolatop.TopLocked", spec := "topLocked", unfollowed := true, recurses := true, plainKeys := false, apart := false }
def TopLockedSaid : Prop := topLockedRow.holds Try.pinned (OpenSpec.ofChange topLockedSpec)

/-- ITS FALSE NEIGHBOUR: 'it returns false'. Refute it at one input. -/
def topLockedWrong : ChangeSpec := { name := "topLocked", fn := fun _ => fun
  | [d1, d2, d3, d4, d5] => { results := [.lit (.bool false)], args := [d1, d2, d3, d4, d5] }
  | _ => none }
def TopLockedWrongFalsely : Prop := topLockedRow.holds Try.pinned (OpenSpec.ofChange topLockedWrong)

/-- 'pianolalaw09.VaultHidden': WHATEVER THE INPUT: true; the input reads as it did. -/
def vaultHiddenSpec : ChangeSpec := { name := "vaultHidden", fn := fun _ => fun
  | [d1, d2, d3] => { results := [.lit (.bool true)], args := [d1, d2, d3] }
  | _ => none }
def vaultHiddenRow : OpenClaim := { program := "ytpfkfbbekfkcgaa", sum := "dd52582ea4bde9489527be1194f802b80d30efef8102270fbdfcb6355c441f83", func := "pianola/pianolalaw09.VaultHidden", spec := "vaultHidden", unfollowed := true, recurses := true, plainKeys := false, apart := false }
def VaultHiddenSaid : Prop := vaultHiddenRow.holds Try.pinned (OpenSpec.ofChange vaultHiddenSpec)

/-- ITS FALSE NEIGHBOUR: 'it returns false'. Refute it at one input. -/
def vaultHiddenWrong : ChangeSpec := { name := "vaultHidden", fn := fun _ => fun
  | [d1, d2, d3] => { results := [.lit (.bool false)], args := [d1, d2, d3] }
  | _ => none }
def VaultHiddenWrongFalsely : Prop := vaultHiddenRow.holds Try.pinned (OpenSpec.ofChange vaultHiddenWrong)

/-- 'pianolalaw09.VaultWrong': WHATEVER THE INPUT: true; the input reads as it did. -/
def vaultWrongSpec : ChangeSpec := { name := "vaultWrong", fn := fun _ => fun
  | [d1, d2, d3, d4] => { results := [.lit (.bool true)], args := [d1, d2, d3, d4] }
  | _ => none }
def vaultWrongRow : OpenClaim := { program := "ytpfkfbbekfkcgaa", sum := "dd52582ea4bde9489527be1194f802b80d30efef8102270fbdfcb6355c441f83", func := "pianola/pianolalaw09.VaultWrong", spec := "vaultWrong", unfollowed := true, recurses := true, plainKeys := false, apart := false }
def VaultWrongSaid : Prop := vaultWrongRow.holds Try.pinned (OpenSpec.ofChange vaultWrongSpec)

/-- ITS FALSE NEIGHBOUR: 'it returns false'. Refute it at one input. -/
def vaultWrongWrong : ChangeSpec := { name := "vaultWrong", fn := fun _ => fun
  | [d1, d2, d3, d4] => { results := [.lit (.bool false)], args := [d1, d2, d3, d4] }
  | _ => none }
def VaultWrongWrongFalsely : Prop := vaultWrongRow.holds Try.pinned (OpenSpec.ofChange vaultWrongWrong)

/-- 'pianolalaw09.VaultAlarm': WHATEVER THE INPUT: true; the input reads as it did. -/
def vaultAlarmSpec : ChangeSpec := { name := "vaultAlarm", fn := fun _ => fun
  | [d1, d2, d3, d4] => { results := [.lit (.bool true)], args := [d1, d2, d3, d4] }
  | _ => none }
def vaultAlarmRow : OpenClaim := { program := "ytpfkfbbekfkcgaa", sum := "dd52582ea4bde9489527be1194f802b80d30efef8102270fbdfcb6355c441f83", func := "pianola/pianolalaw09.VaultAlarm", spec := "vaultAlarm", unfollowed := true, recurses := true, plainKeys := false, apart := false }
def VaultAlarmSaid : Prop := vaultAlarmRow.holds Try.pinned (OpenSpec.ofChange vaultAlarmSpec)

/-- ITS FALSE NEIGHBOUR: 'it returns false'. Refute it at one input. -/
def vaultAlarmWrong : ChangeSpec := { name := "vaultAlarm", fn := fun _ => fun
  | [d1, d2, d3, d4] => { results := [.lit (.bool false)], args := [d1, d2, d3, d4] }
  | _ => none }
def VaultAlarmWrongFalsely : Prop := vaultAlarmRow.holds Try.pinned (OpenSpec.ofChange vaultAlarmWrong)

/-- 'pianolalaw09.VaultSums': WHATEVER THE INPUT: true; the input reads as it did. -/
def vaultSumsSpec : ChangeSpec := { name := "vaultSums", fn := fun _ => fun
  | [d1, d2, d3] => { results := [.lit (.bool true)], args := [d1, d2, d3] }
  | _ => none }
def vaultSumsRow : OpenClaim := { program := "ytpfkfbbekfkcgaa", sum := "dd52582ea4bde9489527be1194f802b80d30efef8102270fbdfcb6355c441f83", func := "pianola/pianolalaw09.VaultSums", spec := "vaultSums", unfollowed := true, recurses := true, plainKeys := false, apart := false }
def VaultSumsSaid : Prop := vaultSumsRow.holds Try.pinned (OpenSpec.ofChange vaultSumsSpec)

/-- ITS FALSE NEIGHBOUR: 'it returns false'. Refute it at one input. -/
def vaultSumsWrong : ChangeSpec := { name := "vaultSums", fn := fun _ => fun
  | [d1, d2, d3] => { results := [.lit (.bool false)], args := [d1, d2, d3] }
  | _ => none }
def VaultSumsWrongFalsely : Prop := vaultSumsRow.holds Try.pinned (OpenSpec.ofChange vaultSumsWrong)

/-- 'pianolalaw09.VaultOrder': WHATEVER THE INPUT: true; the input reads as it did. -/
def vaultOrderSpec : ChangeSpec := { name := "vaultOrder", fn := fun _ => fun
  | [d1, d2, d3, d4] => { results := [.lit (.bool true)], args := [d1, d2, d3, d4] }
  | _ => none }
def vaultOrderRow : OpenClaim := { program := "ytpfkfbbekfkcgaa", sum := "dd52582ea4bde9489527be1194f802b80d30efef8102270fbdfcb6355c441f83", func := "pianola/pianolalaw09.VaultOrder", spec := "vaultOrder", unfollowed := true, recurses := true, plainKeys := false, apart := false }
def VaultOrderSaid : Prop := vaultOrderRow.holds Try.pinned (OpenSpec.ofChange vaultOrderSpec)

/-- ITS FALSE NEIGHBOUR: 'it returns false'. Refute it at one input. -/
def vaultOrderWrong : ChangeSpec := { name := "vaultOrder", fn := fun _ => fun
  | [d1, d2, d3, d4] => { results := [.lit (.bool false)], args := [d1, d2, d3, d4] }
  | _ => none }
def VaultOrderWrongFalsely : Prop := vaultOrderRow.holds Try.pinned (OpenSpec.ofChange vaultOrderWrong)

/-- 'pianolalaw09.VaultKnown': WHATEVER THE INPUT: true; the input reads as it did. -/
def vaultKnownSpec : ChangeSpec := { name := "vaultKnown", fn := fun _ => fun
  | [] => { results := [.lit (.bool true)], args := [] }
  | _ => none }
def vaultKnownRow : OpenClaim := { program := "ytpfkfbbekfkcgaa", sum := "dd52582ea4bde9489527be1194f802b80d30efef8102270fbdfcb6355c441f83", func := "pianola/pianolalaw09.VaultKnown", spec := "vaultKnown", unfollowed := true, recurses := true, plainKeys := false, apart := false }
def VaultKnownSaid : Prop := vaultKnownRow.holds Try.pinned (OpenSpec.ofChange vaultKnownSpec)

/-- ITS FALSE NEIGHBOUR: 'it returns false'. Refute it at one input. -/
def vaultKnownWrong : ChangeSpec := { name := "vaultKnown", fn := fun _ => fun
  | [] => { results := [.lit (.bool false)], args := [] }
  | _ => none }
def VaultKnownWrongFalsely : Prop := vaultKnownRow.holds Try.pinned (OpenSpec.ofChange vaultKnownWrong)

/- THE SECOND FORM. 'bulk': how many values and letters a reading holds, each counted each time it is reached (what is shared counts as often as it is met; a slice's spare places count too). A statement '..UptoSaid' is the law's where the arguments, and the package variables that the reading takes, are together of bulk at most 1048576: NARROWER than '..Said'. Prove '..Said' where nothing that the law and all that it calls make is longer than what came in: it says more and counts as full. Else prove '..UptoSaid'. A law counts once. -/
mutual
def uptoBulk {H : Type} : DataW H → Nat
  | .lit (.string bytes) => bytes.length + 1
  | .lit _ => 1
  | .nil => 1
  | .ptr d => uptoBulk d + 1
  | .slice elems spare => uptoBulkAll elems + uptoBulkAll spare + 1
  | .agg parts => uptoBulkAll parts + 1
  | .iface _ d => uptoBulk d + 1
  | .map entries => uptoBulkEntries entries + 1
  | .held _ => 1
def uptoBulkAll {H : Type} : List (DataW H) → Nat
  | [] => 0
  | d :: r => uptoBulk d + uptoBulkAll r
def uptoBulkEntries {H : Type} : List (Lit × DataW H) → Nat
  | [] => 0
  | x :: r => uptoBulkEntry x + uptoBulkEntries r
def uptoBulkEntry {H : Type} : Lit × DataW H → Nat
  | (.string bytes, d) => bytes.length + uptoBulk d + 1
  | (_, d) => uptoBulk d + 1
 end
def uptoSmall : (H : Type) → List (DataW H) → Bool := fun _ ds => decide (uptoBulkAll ds ≤ 1048576)
def OpenSpec.upto (s : _root_.Go.ChangeSpec) : _root_.Go.OpenSpec := { _root_.Go.OpenSpec.ofChange s with cond := some uptoSmall }

/-- 'pianolalaw09.VaultDeals', WHERE WHAT IT READS IS OF BULK AT MOST 1048576: true; the input reads as it did. -/
def vaultDealsUptoRow : OpenClaim := { program := "ytpfkfbbekfkcgaa", sum := "dd52582ea4bde9489527be1194f802b80d30efef8102270fbdfcb6355c441f83", func := "pianola/pianolalaw09.VaultDeals", spec := "vaultDeals", unfollowed := true, recurses := true, plainKeys := false, apart := false, narrowed := true }
def VaultDealsUptoSaid : Prop := vaultDealsUptoRow.holds Try.pinned (OpenSpec.upto vaultDealsSpec)

/-- 'pianolalaw09.VaultAgrees', WHERE WHAT IT READS IS OF BULK AT MOST 1048576: true; the input reads as it did. -/
def vaultAgreesUptoRow : OpenClaim := { program := "ytpfkfbbekfkcgaa", sum := "dd52582ea4bde9489527be1194f802b80d30efef8102270fbdfcb6355c441f83", func := "pianola/pianolalaw09.VaultAgrees", spec := "vaultAgrees", unfollowed := true, recurses := true, plainKeys := false, apart := false, narrowed := true }
def VaultAgreesUptoSaid : Prop := vaultAgreesUptoRow.holds Try.pinned (OpenSpec.upto vaultAgreesSpec)

/-- 'pianolalaw09.VaultPossible', WHERE WHAT IT READS IS OF BULK AT MOST 1048576: true; the input reads as it did. -/
def vaultPossibleUptoRow : OpenClaim := { program := "ytpfkfbbekfkcgaa", sum := "dd52582ea4bde9489527be1194f802b80d30efef8102270fbdfcb6355c441f83", func := "pianola/pianolalaw09.VaultPossible", spec := "vaultPossible", unfollowed := true, recurses := true, plainKeys := false, apart := false, narrowed := true }
def VaultPossibleUptoSaid : Prop := vaultPossibleUptoRow.holds Try.pinned (OpenSpec.upto vaultPossibleSpec)

/-- 'pianolalaw09.VaultWrongs', WHERE WHAT IT READS IS OF BULK AT MOST 1048576: true; the input reads as it did. -/
def vaultWrongsUptoRow : OpenClaim := { program := "ytpfkfbbekfkcgaa", sum := "dd52582ea4bde9489527be1194f802b80d30efef8102270fbdfcb6355c441f83", func := "pianola/pianolalaw09.VaultWrongs", spec := "vaultWrongs", unfollowed := true, recurses := true, plainKeys := false, apart := false, narrowed := true }
def VaultWrongsUptoSaid : Prop := vaultWrongsUptoRow.holds Try.pinned (OpenSpec.upto vaultWrongsSpec)

/-- 'pianolalaw09.VaultAdds', WHERE WHAT IT READS IS OF BULK AT MOST 1048576: true; the input reads as it did. -/
def vaultAddsUptoRow : OpenClaim := { program := "ytpfkfbbekfkcgaa", sum := "dd52582ea4bde9489527be1194f802b80d30efef8102270fbdfcb6355c441f83", func := "pianola/pianolalaw09.VaultAdds", spec := "vaultAdds", unfollowed := true, recurses := true, plainKeys := false, apart := false, narrowed := true }
def VaultAddsUptoSaid : Prop := vaultAddsUptoRow.holds Try.pinned (OpenSpec.upto vaultAddsSpec)

/-- 'pianolalaw09.VaultRestored', WHERE WHAT IT READS IS OF BULK AT MOST 1048576: true; the input reads as it did. -/
def vaultRestoredUptoRow : OpenClaim := { program := "ytpfkfbbekfkcgaa", sum := "dd52582ea4bde9489527be1194f802b80d30efef8102270fbdfcb6355c441f83", func := "pianola/pianolalaw09.VaultRestored", spec := "vaultRestored", unfollowed := true, recurses := true, plainKeys := false, apart := false, narrowed := true }
def VaultRestoredUptoSaid : Prop := vaultRestoredUptoRow.holds Try.pinned (OpenSpec.upto vaultRestoredSpec)

/-- 'pianolalaw09.VaultBlind', WHERE WHAT IT READS IS OF BULK AT MOST 1048576: true; the input reads as it did. -/
def vaultBlindUptoRow : OpenClaim := { program := "ytpfkfbbekfkcgaa", sum := "dd52582ea4bde9489527be1194f802b80d30efef8102270fbdfcb6355c441f83", func := "pianola/pianolalaw09.VaultBlind", spec := "vaultBlind", unfollowed := true, recurses := true, plainKeys := false, apart := false, narrowed := true }
def VaultBlindUptoSaid : Prop := vaultBlindUptoRow.holds Try.pinned (OpenSpec.upto vaultBlindSpec)

/-- 'pianolatop.TopLocked', WHERE WHAT IT READS IS OF BULK AT MOST 1048576: true; the input reads as it did. -/
def topLockedUptoRow : OpenClaim := { program := "ytpfkfbbekfkcgaa", sum := "dd52582ea4bde9489527be1194f802b80d30efef8102270fbdfcb6355c441f83", func := "pianola/pianolatop.TopLocked", spec := "topLocked", unfollowed := true, recurses := true, plainKeys := false, apart := false, narrowed := true }
def TopLockedUptoSaid : Prop := topLockedUptoRow.holds Try.pinned (OpenSpec.upto topLockedSpec)

/-- 'pianolalaw09.VaultHidden', WHERE WHAT IT READS IS OF BULK AT MOST 1048576: true; the input reads as it did. -/
def vaultHiddenUptoRow : OpenClaim := { program := "ytpfkfbbekfkcgaa", sum := "dd52582ea4bde9489527be1194f802b80d30efef8102270fbdfcb6355c441f83", func := "pianola/pianolalaw09.VaultHidden", spec := "vaultHidden", unfollowed := true, recurses := true, plainKeys := false, apart := false, narrowed := true }
def VaultHiddenUptoSaid : Prop := vaultHiddenUptoRow.holds Try.pinned (OpenSpec.upto vaultHiddenSpec)

/-- 'pianolalaw09.VaultWrong', WHERE WHAT IT READS IS OF BULK AT MOST 1048576: true; the input reads as it did. -/
def vaultWrongUptoRow : OpenClaim := { program := "ytpfkfbbekfkcgaa", sum := "dd52582ea4bde9489527be1194f802b80d30efef8102270fbdfcb6355c441f83", func := "pianola/pianolalaw09.VaultWrong", spec := "vaultWrong", unfollowed := true, recurses := true, plainKeys := false, apart := false, narrowed := true }
def VaultWrongUptoSaid : Prop := vaultWrongUptoRow.holds Try.pinned (OpenSpec.upto vaultWrongSpec)

/-- 'pianolalaw09.VaultAlarm', WHERE WHAT IT READS IS OF BULK AT MOST 1048576: true; the input reads as it did. -/
def vaultAlarmUptoRow : OpenClaim := { program := "ytpfkfbbekfkcgaa", sum := "dd52582ea4bde9489527be1194f802b80d30efef8102270fbdfcb6355c441f83", func := "pianola/pianolalaw09.VaultAlarm", spec := "vaultAlarm", unfollowed := true, recurses := true, plainKeys := false, apart := false, narrowed := true }
def VaultAlarmUptoSaid : Prop := vaultAlarmUptoRow.holds Try.pinned (OpenSpec.upto vaultAlarmSpec)

/-- 'pianolalaw09.VaultSums', WHERE WHAT IT READS IS OF BULK AT MOST 1048576: true; the input reads as it did. -/
def vaultSumsUptoRow : OpenClaim := { program := "ytpfkfbbekfkcgaa", sum := "dd52582ea4bde9489527be1194f802b80d30efef8102270fbdfcb6355c441f83", func := "pianola/pianolalaw09.VaultSums", spec := "vaultSums", unfollowed := true, recurses := true, plainKeys := false, apart := false, narrowed := true }
def VaultSumsUptoSaid : Prop := vaultSumsUptoRow.holds Try.pinned (OpenSpec.upto vaultSumsSpec)

/-- 'pianolalaw09.VaultOrder', WHERE WHAT IT READS IS OF BULK AT MOST 1048576: true; the input reads as it did. -/
def vaultOrderUptoRow : OpenClaim := { program := "ytpfkfbbekfkcgaa", sum := "dd52582ea4bde9489527be1194f802b80d30efef8102270fbdfcb6355c441f83", func := "pianola/pianolalaw09.VaultOrder", spec := "vaultOrder", unfollowed := true, recurses := true, plainKeys := false, apart := false, narrowed := true }
def VaultOrderUptoSaid : Prop := vaultOrderUptoRow.holds Try.pinned (OpenSpec.upto vaultOrderSpec)

/-- 'pianolalaw09.VaultKnown', WHERE WHAT IT READS IS OF BULK AT MOST 1048576: true; the input reads as it did. -/
def vaultKnownUptoRow : OpenClaim := { program := "ytpfkfbbekfkcgaa", sum := "dd52582ea4bde9489527be1194f802b80d30efef8102270fbdfcb6355c441f83", func := "pianola/pianolalaw09.VaultKnown", spec := "vaultKnown", unfollowed := true, recurses := true, plainKeys := false, apart := false, narrowed := true }
def VaultKnownUptoSaid : Prop := vaultKnownUptoRow.holds Try.pinned (OpenSpec.upto vaultKnownSpec)

end Rows
end Go.Proofs.Ytpfkfbbekfkcgaa
