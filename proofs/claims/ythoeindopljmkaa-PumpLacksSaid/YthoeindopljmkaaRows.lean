/-
  No cell of these rows narrows 'for every input' (looked for: loops, veiled, ifaces, maps, wideKeys, modest, calm, conditions, laid).
  DERIVED. THE GIVEN ROWS OF THIS SEAT. 12 by the template 'for every input the law returns true; each argument reads behind the call as it read before'; 0 by the template 'total and deterministic' (their statements: YthoeindopljmkaaTotals.lean).
  GIVEN WITH THE SEED: the statements are not yours to turn. If you find one false, say at which input.
  Laid BY PROGRAM, IN A SANDBOX (cutbox-rows.mjs): the forced cells as the released guide's own fill.sh prints them over the translation db7289352b3c118c… (all of the seat's roots in one cut). By AI agents, Wed Nov 11 2026. No macro, syntax, notation, axiom, sorry.
-/
import Derived.Test.YthoeindopljmkaaChecked
import GoSem.Claim
import GoSem.ClaimJoined
import GoSem.ClaimMapViews
import Derived.JoinedTies
import Derived.KernelRfl
namespace Go.Proofs.Ythoeindopljmkaa
/- THE CELL 'sum', in the pinned program and in every row, IS THE sha256 OF THE DUMP (.gsa) THAT YthoeindopljmkaaProg.lean LOADS. Nothing in Lean hashes anything: it is a label: what it is worth is what the hold of that sum in a sandbox is worth. -/
noncomputable def Try.pinned : Pinned := { name := "ythoeindopljmkaa", sum := "db7289352b3c118c493df5e0f7324b5e8217877e66d3e090d4d02952d9e78f30", checked := Try.checked }
namespace Rows
def none {H : Type} : Left H := { results := [], args := [] }

/-- 'pianolalaw04.PumpBounds': WHATEVER THE INPUT: true; the input reads as it did. -/
def pumpBoundsSpec : ChangeSpec := { name := "pumpBounds", fn := fun _ => fun
  | [d1, d2] => { results := [.lit (.bool true)], args := [d1, d2] }
  | _ => none }
def pumpBoundsRow : OpenClaim := { program := "ythoeindopljmkaa", sum := "db7289352b3c118c493df5e0f7324b5e8217877e66d3e090d4d02952d9e78f30", func := "pianola/pianolalaw04.PumpBounds", spec := "pumpBounds", unfollowed := true, recurses := true, apart := false }
def PumpBoundsSaid : Prop := pumpBoundsRow.holds Try.pinned (OpenSpec.ofChange pumpBoundsSpec)

/-- ITS FALSE NEIGHBOUR: 'it returns false'. Refute it at one input. -/
def pumpBoundsWrong : ChangeSpec := { name := "pumpBounds", fn := fun _ => fun
  | [d1, d2] => { results := [.lit (.bool false)], args := [d1, d2] }
  | _ => none }
def PumpBoundsWrongFalsely : Prop := pumpBoundsRow.holds Try.pinned (OpenSpec.ofChange pumpBoundsWrong)

/-- 'pianolalaw04.PumpRows': WHATEVER THE INPUT: true; the input reads as it did. -/
def pumpRowsSpec : ChangeSpec := { name := "pumpRows", fn := fun _ => fun
  | [d1, d2] => { results := [.lit (.bool true)], args := [d1, d2] }
  | _ => none }
def pumpRowsRow : OpenClaim := { program := "ythoeindopljmkaa", sum := "db7289352b3c118c493df5e0f7324b5e8217877e66d3e090d4d02952d9e78f30", func := "pianola/pianolalaw04.PumpRows", spec := "pumpRows", unfollowed := true, recurses := true, apart := false }
def PumpRowsSaid : Prop := pumpRowsRow.holds Try.pinned (OpenSpec.ofChange pumpRowsSpec)

/-- ITS FALSE NEIGHBOUR: 'it returns false'. Refute it at one input. -/
def pumpRowsWrong : ChangeSpec := { name := "pumpRows", fn := fun _ => fun
  | [d1, d2] => { results := [.lit (.bool false)], args := [d1, d2] }
  | _ => none }
def PumpRowsWrongFalsely : Prop := pumpRowsRow.holds Try.pinned (OpenSpec.ofChange pumpRowsWrong)

/-- 'pianolalaw04.PumpWorsts': WHATEVER THE INPUT: true; the input reads as it did. -/
def pumpWorstsSpec : ChangeSpec := { name := "pumpWorsts", fn := fun _ => fun
  | [d1, d2] => { results := [.lit (.bool true)], args := [d1, d2] }
  | _ => none }
def pumpWorstsRow : OpenClaim := { program := "ythoeindopljmkaa", sum := "db7289352b3c118c493df5e0f7324b5e8217877e66d3e090d4d02952d9e78f30", func := "pianola/pianolalaw04.PumpWorsts", spec := "pumpWorsts", unfollowed := true, recurses := true, apart := false }
def PumpWorstsSaid : Prop := pumpWorstsRow.holds Try.pinned (OpenSpec.ofChange pumpWorstsSpec)

/-- ITS FALSE NEIGHBOUR: 'it returns false'. Refute it at one input. -/
def pumpWorstsWrong : ChangeSpec := { name := "pumpWorsts", fn := fun _ => fun
  | [d1, d2] => { results := [.lit (.bool false)], args := [d1, d2] }
  | _ => none }
def PumpWorstsWrongFalsely : Prop := pumpWorstsRow.holds Try.pinned (OpenSpec.ofChange pumpWorstsWrong)

/-- 'pianolalaw04.PumpLacks': WHATEVER THE INPUT: true; the input reads as it did. -/
def pumpLacksSpec : ChangeSpec := { name := "pumpLacks", fn := fun _ => fun
  | [d1, d2] => { results := [.lit (.bool true)], args := [d1, d2] }
  | _ => none }
def pumpLacksRow : OpenClaim := { program := "ythoeindopljmkaa", sum := "db7289352b3c118c493df5e0f7324b5e8217877e66d3e090d4d02952d9e78f30", func := "pianola/pianolalaw04.PumpLacks", spec := "pumpLacks", unfollowed := true, recurses := true, apart := false }
def PumpLacksSaid : Prop := pumpLacksRow.holds Try.pinned (OpenSpec.ofChange pumpLacksSpec)

/-- ITS FALSE NEIGHBOUR: 'it returns false'. Refute it at one input. -/
def pumpLacksWrong : ChangeSpec := { name := "pumpLacks", fn := fun _ => fun
  | [d1, d2] => { results := [.lit (.bool false)], args := [d1, d2] }
  | _ => none }
def PumpLacksWrongFalsely : Prop := pumpLacksRow.holds Try.pinned (OpenSpec.ofChange pumpLacksWrong)

/-- 'pianolalaw04.PumpSides': WHATEVER THE INPUT: true; the input reads as it did. -/
def pumpSidesSpec : ChangeSpec := { name := "pumpSides", fn := fun _ => fun
  | [d1, d2, d3, d4] => { results := [.lit (.bool true)], args := [d1, d2, d3, d4] }
  | _ => none }
def pumpSidesRow : OpenClaim := { program := "ythoeindopljmkaa", sum := "db7289352b3c118c493df5e0f7324b5e8217877e66d3e090d4d02952d9e78f30", func := "pianola/pianolalaw04.PumpSides", spec := "pumpSides", unfollowed := true, recurses := true, apart := false }
def PumpSidesSaid : Prop := pumpSidesRow.holds Try.pinned (OpenSpec.ofChange pumpSidesSpec)

/-- ITS FALSE NEIGHBOUR: 'it returns false'. Refute it at one input. -/
def pumpSidesWrong : ChangeSpec := { name := "pumpSides", fn := fun _ => fun
  | [d1, d2, d3, d4] => { results := [.lit (.bool false)], args := [d1, d2, d3, d4] }
  | _ => none }
def PumpSidesWrongFalsely : Prop := pumpSidesRow.holds Try.pinned (OpenSpec.ofChange pumpSidesWrong)

/-- 'pianolalaw04.PumpTried': WHATEVER THE INPUT: true; the input reads as it did. -/
def pumpTriedSpec : ChangeSpec := { name := "pumpTried", fn := fun _ => fun
  | [d1, d2] => { results := [.lit (.bool true)], args := [d1, d2] }
  | _ => none }
def pumpTriedRow : OpenClaim := { program := "ythoeindopljmkaa", sum := "db7289352b3c118c493df5e0f7324b5e8217877e66d3e090d4d02952d9e78f30", func := "pianola/pianolalaw04.PumpTried", spec := "pumpTried", unfollowed := true, recurses := true, apart := false }
def PumpTriedSaid : Prop := pumpTriedRow.holds Try.pinned (OpenSpec.ofChange pumpTriedSpec)

/-- ITS FALSE NEIGHBOUR: 'it returns false'. Refute it at one input. -/
def pumpTriedWrong : ChangeSpec := { name := "pumpTried", fn := fun _ => fun
  | [d1, d2] => { results := [.lit (.bool false)], args := [d1, d2] }
  | _ => none }
def PumpTriedWrongFalsely : Prop := pumpTriedRow.holds Try.pinned (OpenSpec.ofChange pumpTriedWrong)

/-- 'pianolalaw04.PumpNever': WHATEVER THE INPUT: true; the input reads as it did. -/
def pumpNeverSpec : ChangeSpec := { name := "pumpNever", fn := fun _ => fun
  | [d1, d2, d3] => { results := [.lit (.bool true)], args := [d1, d2, d3] }
  | _ => none }
def pumpNeverRow : OpenClaim := { program := "ythoeindopljmkaa", sum := "db7289352b3c118c493df5e0f7324b5e8217877e66d3e090d4d02952d9e78f30", func := "pianola/pianolalaw04.PumpNever", spec := "pumpNever", unfollowed := true, recurses := true, apart := false }
def PumpNeverSaid : Prop := pumpNeverRow.holds Try.pinned (OpenSpec.ofChange pumpNeverSpec)

/-- ITS FALSE NEIGHBOUR: 'it returns false'. Refute it at one input. -/
def pumpNeverWrong : ChangeSpec := { name := "pumpNever", fn := fun _ => fun
  | [d1, d2, d3] => { results := [.lit (.bool false)], args := [d1, d2, d3] }
  | _ => none }
def PumpNeverWrongFalsely : Prop := pumpNeverRow.holds Try.pinned (OpenSpec.ofChange pumpNeverWrong)

/-- 'pianolalaw04.PumpWaits': WHATEVER THE INPUT: true; the input reads as it did. -/
def pumpWaitsSpec : ChangeSpec := { name := "pumpWaits", fn := fun _ => fun
  | [d1, d2] => { results := [.lit (.bool true)], args := [d1, d2] }
  | _ => none }
def pumpWaitsRow : OpenClaim := { program := "ythoeindopljmkaa", sum := "db7289352b3c118c493df5e0f7324b5e8217877e66d3e090d4d02952d9e78f30", func := "pianola/pianolalaw04.PumpWaits", spec := "pumpWaits", unfollowed := true, recurses := true, apart := false }
def PumpWaitsSaid : Prop := pumpWaitsRow.holds Try.pinned (OpenSpec.ofChange pumpWaitsSpec)

/-- ITS FALSE NEIGHBOUR: 'it returns false'. Refute it at one input. -/
def pumpWaitsWrong : ChangeSpec := { name := "pumpWaits", fn := fun _ => fun
  | [d1, d2] => { results := [.lit (.bool false)], args := [d1, d2] }
  | _ => none }
def PumpWaitsWrongFalsely : Prop := pumpWaitsRow.holds Try.pinned (OpenSpec.ofChange pumpWaitsWrong)

/-- 'pianolalaw04.PumpLonger': WHATEVER THE INPUT: true; the input reads as it did. -/
def pumpLongerSpec : ChangeSpec := { name := "pumpLonger", fn := fun _ => fun
  | [d1, d2] => { results := [.lit (.bool true)], args := [d1, d2] }
  | _ => none }
def pumpLongerRow : OpenClaim := { program := "ythoeindopljmkaa", sum := "db7289352b3c118c493df5e0f7324b5e8217877e66d3e090d4d02952d9e78f30", func := "pianola/pianolalaw04.PumpLonger", spec := "pumpLonger", unfollowed := true, recurses := true, apart := false }
def PumpLongerSaid : Prop := pumpLongerRow.holds Try.pinned (OpenSpec.ofChange pumpLongerSpec)

/-- ITS FALSE NEIGHBOUR: 'it returns false'. Refute it at one input. -/
def pumpLongerWrong : ChangeSpec := { name := "pumpLonger", fn := fun _ => fun
  | [d1, d2] => { results := [.lit (.bool false)], args := [d1, d2] }
  | _ => none }
def PumpLongerWrongFalsely : Prop := pumpLongerRow.holds Try.pinned (OpenSpec.ofChange pumpLongerWrong)

/-- 'pianolalaw04.PumpOrder': WHATEVER THE INPUT: true; the input reads as it did. -/
def pumpOrderSpec : ChangeSpec := { name := "pumpOrder", fn := fun _ => fun
  | [d1, d2] => { results := [.lit (.bool true)], args := [d1, d2] }
  | _ => none }
def pumpOrderRow : OpenClaim := { program := "ythoeindopljmkaa", sum := "db7289352b3c118c493df5e0f7324b5e8217877e66d3e090d4d02952d9e78f30", func := "pianola/pianolalaw04.PumpOrder", spec := "pumpOrder", unfollowed := true, recurses := true, apart := false }
def PumpOrderSaid : Prop := pumpOrderRow.holds Try.pinned (OpenSpec.ofChange pumpOrderSpec)

/-- ITS FALSE NEIGHBOUR: 'it returns false'. Refute it at one input. -/
def pumpOrderWrong : ChangeSpec := { name := "pumpOrder", fn := fun _ => fun
  | [d1, d2] => { results := [.lit (.bool false)], args := [d1, d2] }
  | _ => none }
def PumpOrderWrongFalsely : Prop := pumpOrderRow.holds Try.pinned (OpenSpec.ofChange pumpOrderWrong)

/-- 'pianolalaw04.PumpMore': WHATEVER THE INPUT: true; the input reads as it did. -/
def pumpMoreSpec : ChangeSpec := { name := "pumpMore", fn := fun _ => fun
  | [d1, d2, d3, d4, d5] => { results := [.lit (.bool true)], args := [d1, d2, d3, d4, d5] }
  | _ => none }
def pumpMoreRow : OpenClaim := { program := "ythoeindopljmkaa", sum := "db7289352b3c118c493df5e0f7324b5e8217877e66d3e090d4d02952d9e78f30", func := "pianola/pianolalaw04.PumpMore", spec := "pumpMore", unfollowed := true, recurses := true, apart := false }
def PumpMoreSaid : Prop := pumpMoreRow.holds Try.pinned (OpenSpec.ofChange pumpMoreSpec)

/-- ITS FALSE NEIGHBOUR: 'it returns false'. Refute it at one input. -/
def pumpMoreWrong : ChangeSpec := { name := "pumpMore", fn := fun _ => fun
  | [d1, d2, d3, d4, d5] => { results := [.lit (.bool false)], args := [d1, d2, d3, d4, d5] }
  | _ => none }
def PumpMoreWrongFalsely : Prop := pumpMoreRow.holds Try.pinned (OpenSpec.ofChange pumpMoreWrong)

/-- 'pianolalaw04.PumpKnown': WHATEVER THE INPUT: true; the input reads as it did. -/
def pumpKnownSpec : ChangeSpec := { name := "pumpKnown", fn := fun _ => fun
  | [] => { results := [.lit (.bool true)], args := [] }
  | _ => none }
def pumpKnownRow : OpenClaim := { program := "ythoeindopljmkaa", sum := "db7289352b3c118c493df5e0f7324b5e8217877e66d3e090d4d02952d9e78f30", func := "pianola/pianolalaw04.PumpKnown", spec := "pumpKnown", unfollowed := true, recurses := true, apart := false }
def PumpKnownSaid : Prop := pumpKnownRow.holds Try.pinned (OpenSpec.ofChange pumpKnownSpec)

/-- ITS FALSE NEIGHBOUR: 'it returns false'. Refute it at one input. -/
def pumpKnownWrong : ChangeSpec := { name := "pumpKnown", fn := fun _ => fun
  | [] => { results := [.lit (.bool false)], args := [] }
  | _ => none }
def PumpKnownWrongFalsely : Prop := pumpKnownRow.holds Try.pinned (OpenSpec.ofChange pumpKnownWrong)

/- THE SECOND FORM. 'bulk': how many values and letters a reading holds, each counted each time it is reached (what is shared counts as often as it is met; a slice's spare places count too). A statement '..UptoSaid' is the law's where the arguments, and the package variables that the reading takes, are together of bulk at most 1048576: NARROWER than '..Said'. Prove '..Said' where nothing that the law and all that it calls make is longer than what came in: it says more and counts as full. Else prove '..UptoSaid'. A law counts once. -/
mutual
def uptoBulk {H : Type} : DataW H → Nat
  | .lit (.string bytes) => bytes.length + 1
  | .lit _ => 1
  | .nil => 1
  | .ptr d => uptoBulk d + 1
  | .slice elems spare => uptoBulkAll elems + uptoBulkAll spare + 1
  | .agg parts => uptoBulkAll parts + 1
  | .iface _ d => uptoBulk d + 1
  | .map entries => uptoBulkEntries entries + 1
  | .held _ => 1
def uptoBulkAll {H : Type} : List (DataW H) → Nat
  | [] => 0
  | d :: r => uptoBulk d + uptoBulkAll r
def uptoBulkEntries {H : Type} : List (Lit × DataW H) → Nat
  | [] => 0
  | x :: r => uptoBulkEntry x + uptoBulkEntries r
def uptoBulkEntry {H : Type} : Lit × DataW H → Nat
  | (.string bytes, d) => bytes.length + uptoBulk d + 1
  | (_, d) => uptoBulk d + 1
 end
def uptoSmall : (H : Type) → List (DataW H) → Bool := fun _ ds => decide (uptoBulkAll ds ≤ 1048576)
def OpenSpec.upto (s : _root_.Go.ChangeSpec) : _root_.Go.OpenSpec := { _root_.Go.OpenSpec.ofChange s with cond := some uptoSmall }

/-- 'pianolalaw04.PumpBounds', WHERE WHAT IT READS IS OF BULK AT MOST 1048576: true; the input reads as it did. -/
def pumpBoundsUptoRow : OpenClaim := { program := "ythoeindopljmkaa", sum := "db7289352b3c118c493df5e0f7324b5e8217877e66d3e090d4d02952d9e78f30", func := "pianola/pianolalaw04.PumpBounds", spec := "pumpBounds", unfollowed := true, recurses := true, apart := false, narrowed := true }
def PumpBoundsUptoSaid : Prop := pumpBoundsUptoRow.holds Try.pinned (OpenSpec.upto pumpBoundsSpec)

/-- 'pianolalaw04.PumpRows', WHERE WHAT IT READS IS OF BULK AT MOST 1048576: true; the input reads as it did. -/
def pumpRowsUptoRow : OpenClaim := { program := "ythoeindopljmkaa", sum := "db7289352b3c118c493df5e0f7324b5e8217877e66d3e090d4d02952d9e78f30", func := "pianola/pianolalaw04.PumpRows", spec := "pumpRows", unfollowed := true, recurses := true, apart := false, narrowed := true }
def PumpRowsUptoSaid : Prop := pumpRowsUptoRow.holds Try.pinned (OpenSpec.upto pumpRowsSpec)

/-- 'pianolalaw04.PumpWorsts', WHERE WHAT IT READS IS OF BULK AT MOST 1048576: true; the input reads as it did. -/
def pumpWorstsUptoRow : OpenClaim := { program := "ythoeindopljmkaa", sum := "db7289352b3c118c493df5e0f7324b5e8217877e66d3e090d4d02952d9e78f30", func := "pianola/pianolalaw04.PumpWorsts", spec := "pumpWorsts", unfollowed := true, recurses := true, apart := false, narrowed := true }
def PumpWorstsUptoSaid : Prop := pumpWorstsUptoRow.holds Try.pinned (OpenSpec.upto pumpWorstsSpec)

/-- 'pianolalaw04.PumpLacks', WHERE WHAT IT READS IS OF BULK AT MOST 1048576: true; the input reads as it did. -/
def pumpLacksUptoRow : OpenClaim := { program := "ythoeindopljmkaa", sum := "db7289352b3c118c493df5e0f7324b5e8217877e66d3e090d4d02952d9e78f30", func := "pianola/pianolalaw04.PumpLacks", spec := "pumpLacks", unfollowed := true, recurses := true, apart := false, narrowed := true }
def PumpLacksUptoSaid : Prop := pumpLacksUptoRow.holds Try.pinned (OpenSpec.upto pumpLacksSpec)

/-- 'pianolalaw04.PumpSides', WHERE WHAT IT READS IS OF BULK AT MOST 1048576: true; the input reads as it did. -/
def pumpSidesUptoRow : OpenClaim := { program := "ythoeindopljmkaa", sum := "db7289352b3c118c493df5e0f7324b5e8217877e66d3e090d4d02952d9e78f30", func := "pianola/pianolalaw04.PumpSides", spec := "pumpSides", unfollowed := true, recurses := true, apart := false, narrowed := true }
def PumpSidesUptoSaid : Prop := pumpSidesUptoRow.holds Try.pinned (OpenSpec.upto pumpSidesSpec)

/-- 'pianolalaw04.PumpTried', WHERE WHAT IT READS IS OF BULK AT MOST 1048576: true; the input reads as it did. -/
def pumpTriedUptoRow : OpenClaim := { program := "ythoeindopljmkaa", sum := "db7289352b3c118c493df5e0f7324b5e8217877e66d3e090d4d02952d9e78f30", func := "pianola/pianolalaw04.PumpTried", spec := "pumpTried", unfollowed := true, recurses := true, apart := false, narrowed := true }
def PumpTriedUptoSaid : Prop := pumpTriedUptoRow.holds Try.pinned (OpenSpec.upto pumpTriedSpec)

/-- 'pianolalaw04.PumpNever', WHERE WHAT IT READS IS OF BULK AT MOST 1048576: true; the input reads as it did. -/
def pumpNeverUptoRow : OpenClaim := { program := "ythoeindopljmkaa", sum := "db7289352b3c118c493df5e0f7324b5e8217877e66d3e090d4d02952d9e78f30", func := "pianola/pianolalaw04.PumpNever", spec := "pumpNever", unfollowed := true, recurses := true, apart := false, narrowed := true }
def PumpNeverUptoSaid : Prop := pumpNeverUptoRow.holds Try.pinned (OpenSpec.upto pumpNeverSpec)

/-- 'pianolalaw04.PumpWaits', WHERE WHAT IT READS IS OF BULK AT MOST 1048576: true; the input reads as it did. -/
def pumpWaitsUptoRow : OpenClaim := { program := "ythoeindopljmkaa", sum := "db7289352b3c118c493df5e0f7324b5e8217877e66d3e090d4d02952d9e78f30", func := "pianola/pianolalaw04.PumpWaits", spec := "pumpWaits", unfollowed := true, recurses := true, apart := false, narrowed := true }
def PumpWaitsUptoSaid : Prop := pumpWaitsUptoRow.holds Try.pinned (OpenSpec.upto pumpWaitsSpec)

/-- 'pianolalaw04.PumpLonger', WHERE WHAT IT READS IS OF BULK AT MOST 1048576: true; the input reads as it did. -/
def pumpLongerUptoRow : OpenClaim := { program := "ythoeindopljmkaa", sum := "db7289352b3c118c493df5e0f7324b5e8217877e66d3e090d4d02952d9e78f30", func := "pianola/pianolalaw04.PumpLonger", spec := "pumpLonger", unfollowed := true, recurses := true, apart := false, narrowed := true }
def PumpLongerUptoSaid : Prop := pumpLongerUptoRow.holds Try.pinned (OpenSpec.upto pumpLongerSpec)

/-- 'pianolalaw04.PumpOrder', WHERE WHAT IT READS IS OF BULK AT MOST 1048576: true; the input reads as it did. -/
def pumpOrderUptoRow : OpenClaim := { program := "ythoeindopljmkaa", sum := "db7289352b3c118c493df5e0f7324b5e8217877e66d3e090d4d02952d9e78f30", func := "pianola/pianolalaw04.PumpOrder", spec := "pumpOrder", unfollowed := true, recurses := true, apart := false, narrowed := true }
def PumpOrderUptoSaid : Prop := pumpOrderUptoRow.holds Try.pinned (OpenSpec.upto pumpOrderSpec)

/-- 'pianolalaw04.PumpMore', WHERE WHAT IT READS IS OF BULK AT MOST 1048576: true; the input reads as it did. -/
def pumpMoreUptoRow : OpenClaim := { program := "ythoeindopljmkaa", sum := "db7289352b3c118c493df5e0f7324b5e8217877e66d3e090d4d02952d9e78f30", func := "pianola/pianolalaw04.PumpMore", spec := "pumpMore", unfollowed := true, recurses := true, apart := false, narrowed := true }
def PumpMoreUptoSaid : Prop := pumpMoreUptoRow.holds Try.pinned (OpenSpec.upto pumpMoreSpec)

/-- 'pianolalaw04.PumpKnown', WHERE WHAT IT READS IS OF BULK AT MOST 1048576: true; the input reads as it did. -/
def pumpKnownUptoRow : OpenClaim := { program := "ythoeindopljmkaa", sum := "db7289352b3c118c493df5e0f7324b5e8217877e66d3e090d4d02952d9e78f30", func := "pianola/pianolalaw04.PumpKnown", spec := "pumpKnown", unfollowed := true, recurses := true, apart := false, narrowed := true }
def PumpKnownUptoSaid : Prop := pumpKnownUptoRow.holds Try.pinned (OpenSpec.upto pumpKnownSpec)

end Rows
end Go.Proofs.Ythoeindopljmkaa
