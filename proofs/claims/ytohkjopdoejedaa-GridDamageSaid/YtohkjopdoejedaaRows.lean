/-
  No cell of these rows narrows 'for every input' (looked for: loops, veiled, ifaces, maps, wideKeys, modest, calm, conditions, laid).
  DERIVED. THE GIVEN ROWS OF THIS SEAT. 6 by the template 'for every input the law returns true; each argument reads behind the call as it read before'; 0 by the template 'total and deterministic' (their statements: YtohkjopdoejedaaTotals.lean).
  GIVEN WITH THE SEED: the statements are not yours to turn. If you find one false, say at which input.
  Laid BY PROGRAM, IN A SANDBOX (cutbox-rows.mjs): the forced cells as the released guide's own fill.sh prints them over the translation 2c0e794dd06e4930… (all of the seat's roots in one cut). By AI agents, Wed Nov 11 2026. No macro, syntax, notation, axiom, sorry.
-/
import Derived.Test.YtohkjopdoejedaaChecked
import GoSem.Claim
import GoSem.ClaimJoined
import GoSem.ClaimMapViews
import Derived.JoinedTies
import Derived.KernelRfl
namespace Go.Proofs.Ytohkjopdoejedaa
/- THE CELL 'sum', in the pinned program and in every row, IS THE sha256 OF THE DUMP (.gsa) THAT YtohkjopdoejedaaProg.lean LOADS. Nothing in Lean hashes anything: it is a label: what it is worth is what the hold of that sum in a sandbox is worth. -/
noncomputable def Try.pinned : Pinned := { name := "ytohkjopdoejedaa", sum := "2c0e794dd06e49306bba2b5abf424c6b90f9e673923511dc43c6fe3441df497b", checked := Try.checked }
namespace Rows
def none {H : Type} : Left H := { results := [], args := [] }

/-- 'shuttlelaw24.GridPlays': WHATEVER THE INPUT: true; the input reads as it did. -/
def gridPlaysSpec : ChangeSpec := { name := "gridPlays", fn := fun _ => fun
  | [d1, d2, d3] => { results := [.lit (.bool true)], args := [d1, d2, d3] }
  | _ => none }
def gridPlaysRow : OpenClaim := { program := "ytohkjopdoejedaa", sum := "2c0e794dd06e49306bba2b5abf424c6b90f9e673923511dc43c6fe3441df497b", func := "shuttle/shuttlelaw24.GridPlays", spec := "gridPlays", unfollowed := true, recurses := true, apart := false }
def GridPlaysSaid : Prop := gridPlaysRow.holds Try.pinned (OpenSpec.ofChange gridPlaysSpec)

/-- ITS FALSE NEIGHBOUR: 'it returns false'. Refute it at one input. -/
def gridPlaysWrong : ChangeSpec := { name := "gridPlays", fn := fun _ => fun
  | [d1, d2, d3] => { results := [.lit (.bool false)], args := [d1, d2, d3] }
  | _ => none }
def GridPlaysWrongFalsely : Prop := gridPlaysRow.holds Try.pinned (OpenSpec.ofChange gridPlaysWrong)

/-- 'shuttlelaw24.GridDamage': WHATEVER THE INPUT: true; the input reads as it did. -/
def gridDamageSpec : ChangeSpec := { name := "gridDamage", fn := fun _ => fun
  | [d1, d2, d3, d4] => { results := [.lit (.bool true)], args := [d1, d2, d3, d4] }
  | _ => none }
def gridDamageRow : OpenClaim := { program := "ytohkjopdoejedaa", sum := "2c0e794dd06e49306bba2b5abf424c6b90f9e673923511dc43c6fe3441df497b", func := "shuttle/shuttlelaw24.GridDamage", spec := "gridDamage", unfollowed := true, recurses := true, apart := false }
def GridDamageSaid : Prop := gridDamageRow.holds Try.pinned (OpenSpec.ofChange gridDamageSpec)

/-- ITS FALSE NEIGHBOUR: 'it returns false'. Refute it at one input. -/
def gridDamageWrong : ChangeSpec := { name := "gridDamage", fn := fun _ => fun
  | [d1, d2, d3, d4] => { results := [.lit (.bool false)], args := [d1, d2, d3, d4] }
  | _ => none }
def GridDamageWrongFalsely : Prop := gridDamageRow.holds Try.pinned (OpenSpec.ofChange gridDamageWrong)

/-- 'shuttlelaw24.GridScrolls': WHATEVER THE INPUT: true; the input reads as it did. -/
def gridScrollsSpec : ChangeSpec := { name := "gridScrolls", fn := fun _ => fun
  | [d1, d2, d3, d4] => { results := [.lit (.bool true)], args := [d1, d2, d3, d4] }
  | _ => none }
def gridScrollsRow : OpenClaim := { program := "ytohkjopdoejedaa", sum := "2c0e794dd06e49306bba2b5abf424c6b90f9e673923511dc43c6fe3441df497b", func := "shuttle/shuttlelaw24.GridScrolls", spec := "gridScrolls", unfollowed := true, recurses := true, apart := false }
def GridScrollsSaid : Prop := gridScrollsRow.holds Try.pinned (OpenSpec.ofChange gridScrollsSpec)

/-- ITS FALSE NEIGHBOUR: 'it returns false'. Refute it at one input. -/
def gridScrollsWrong : ChangeSpec := { name := "gridScrolls", fn := fun _ => fun
  | [d1, d2, d3, d4] => { results := [.lit (.bool false)], args := [d1, d2, d3, d4] }
  | _ => none }
def GridScrollsWrongFalsely : Prop := gridScrollsRow.holds Try.pinned (OpenSpec.ofChange gridScrollsWrong)

/-- 'shuttlelaw24.GridAgain': WHATEVER THE INPUT: true; the input reads as it did. -/
def gridAgainSpec : ChangeSpec := { name := "gridAgain", fn := fun _ => fun
  | [d1, d2, d3, d4, d5] => { results := [.lit (.bool true)], args := [d1, d2, d3, d4, d5] }
  | _ => none }
def gridAgainRow : OpenClaim := { program := "ytohkjopdoejedaa", sum := "2c0e794dd06e49306bba2b5abf424c6b90f9e673923511dc43c6fe3441df497b", func := "shuttle/shuttlelaw24.GridAgain", spec := "gridAgain", unfollowed := true, recurses := true, apart := false }
def GridAgainSaid : Prop := gridAgainRow.holds Try.pinned (OpenSpec.ofChange gridAgainSpec)

/-- ITS FALSE NEIGHBOUR: 'it returns false'. Refute it at one input. -/
def gridAgainWrong : ChangeSpec := { name := "gridAgain", fn := fun _ => fun
  | [d1, d2, d3, d4, d5] => { results := [.lit (.bool false)], args := [d1, d2, d3, d4, d5] }
  | _ => none }
def GridAgainWrongFalsely : Prop := gridAgainRow.holds Try.pinned (OpenSpec.ofChange gridAgainWrong)

/-- 'shuttlelaw24.GridNil': WHATEVER THE INPUT: true; the input reads as it did. -/
def gridNilSpec : ChangeSpec := { name := "gridNil", fn := fun _ => fun
  | [d] => { results := [.lit (.bool true)], args := [d] }
  | _ => none }
def gridNilRow : OpenClaim := { program := "ytohkjopdoejedaa", sum := "2c0e794dd06e49306bba2b5abf424c6b90f9e673923511dc43c6fe3441df497b", func := "shuttle/shuttlelaw24.GridNil", spec := "gridNil", unfollowed := true, recurses := true, apart := false }
def GridNilSaid : Prop := gridNilRow.holds Try.pinned (OpenSpec.ofChange gridNilSpec)

/-- ITS FALSE NEIGHBOUR: 'it returns false'. Refute it at one input. -/
def gridNilWrong : ChangeSpec := { name := "gridNil", fn := fun _ => fun
  | [d] => { results := [.lit (.bool false)], args := [d] }
  | _ => none }
def GridNilWrongFalsely : Prop := gridNilRow.holds Try.pinned (OpenSpec.ofChange gridNilWrong)

/-- 'shuttlelaw24.GridKnown': WHATEVER THE INPUT: true; the input reads as it did. -/
def gridKnownSpec : ChangeSpec := { name := "gridKnown", fn := fun _ => fun
  | [] => { results := [.lit (.bool true)], args := [] }
  | _ => none }
def gridKnownRow : OpenClaim := { program := "ytohkjopdoejedaa", sum := "2c0e794dd06e49306bba2b5abf424c6b90f9e673923511dc43c6fe3441df497b", func := "shuttle/shuttlelaw24.GridKnown", spec := "gridKnown", unfollowed := true, recurses := true, apart := false }
def GridKnownSaid : Prop := gridKnownRow.holds Try.pinned (OpenSpec.ofChange gridKnownSpec)

/-- ITS FALSE NEIGHBOUR: 'it returns false'. Refute it at one input. -/
def gridKnownWrong : ChangeSpec := { name := "gridKnown", fn := fun _ => fun
  | [] => { results := [.lit (.bool false)], args := [] }
  | _ => none }
def GridKnownWrongFalsely : Prop := gridKnownRow.holds Try.pinned (OpenSpec.ofChange gridKnownWrong)

/- THE SECOND FORM. 'bulk': how many values and letters a reading holds, each counted each time it is reached (what is shared counts as often as it is met; a slice's spare places count too). A statement '..UptoSaid' is the law's where the arguments, and the package variables that the reading takes, are together of bulk at most 1048576: NARROWER than '..Said'. Prove '..Said' where nothing that the law and all that it calls make is longer than what came in: it says more and counts as full. Else prove '..UptoSaid'. A law counts once. -/
mutual
def uptoBulk {H : Type} : DataW H → Nat
  | .lit (.string bytes) => bytes.length + 1
  | .lit _ => 1
  | .nil => 1
  | .ptr d => uptoBulk d + 1
  | .slice elems spare => uptoBulkAll elems + uptoBulkAll spare + 1
  | .agg parts => uptoBulkAll parts + 1
  | .iface _ d => uptoBulk d + 1
  | .map entries => uptoBulkEntries entries + 1
  | .held _ => 1
def uptoBulkAll {H : Type} : List (DataW H) → Nat
  | [] => 0
  | d :: r => uptoBulk d + uptoBulkAll r
def uptoBulkEntries {H : Type} : List (Lit × DataW H) → Nat
  | [] => 0
  | x :: r => uptoBulkEntry x + uptoBulkEntries r
def uptoBulkEntry {H : Type} : Lit × DataW H → Nat
  | (.string bytes, d) => bytes.length + uptoBulk d + 1
  | (_, d) => uptoBulk d + 1
 end
def uptoSmall : (H : Type) → List (DataW H) → Bool := fun _ ds => decide (uptoBulkAll ds ≤ 1048576)
def OpenSpec.upto (s : _root_.Go.ChangeSpec) : _root_.Go.OpenSpec := { _root_.Go.OpenSpec.ofChange s with cond := some uptoSmall }

/-- 'shuttlelaw24.GridPlays', WHERE WHAT IT READS IS OF BULK AT MOST 1048576: true; the input reads as it did. -/
def gridPlaysUptoRow : OpenClaim := { program := "ytohkjopdoejedaa", sum := "2c0e794dd06e49306bba2b5abf424c6b90f9e673923511dc43c6fe3441df497b", func := "shuttle/shuttlelaw24.GridPlays", spec := "gridPlays", unfollowed := true, recurses := true, apart := false, narrowed := true }
def GridPlaysUptoSaid : Prop := gridPlaysUptoRow.holds Try.pinned (OpenSpec.upto gridPlaysSpec)

/-- 'shuttlelaw24.GridDamage', WHERE WHAT IT READS IS OF BULK AT MOST 1048576: true; the input reads as it did. -/
def gridDamageUptoRow : OpenClaim := { program := "ytohkjopdoejedaa", sum := "2c0e794dd06e49306bba2b5abf424c6b90f9e673923511dc43c6fe3441df497b", func := "shuttle/shuttlelaw24.GridDamage", spec := "gridDamage", unfollowed := true, recurses := true, apart := false, narrowed := true }
def GridDamageUptoSaid : Prop := gridDamageUptoRow.holds Try.pinned (OpenSpec.upto gridDamageSpec)

/-- 'shuttlelaw24.GridScrolls', WHERE WHAT IT READS IS OF BULK AT MOST 1048576: true; the input reads as it did. -/
def gridScrollsUptoRow : OpenClaim := { program := "ytohkjopdoejedaa", sum := "2c0e794dd06e49306bba2b5abf424c6b90f9e673923511dc43c6fe3441df497b", func := "shuttle/shuttlelaw24.GridScrolls", spec := "gridScrolls", unfollowed := true, recurses := true, apart := false, narrowed := true }
def GridScrollsUptoSaid : Prop := gridScrollsUptoRow.holds Try.pinned (OpenSpec.upto gridScrollsSpec)

/-- 'shuttlelaw24.GridAgain', WHERE WHAT IT READS IS OF BULK AT MOST 1048576: true; the input reads as it did. -/
def gridAgainUptoRow : OpenClaim := { program := "ytohkjopdoejedaa", sum := "2c0e794dd06e49306bba2b5abf424c6b90f9e673923511dc43c6fe3441df497b", func := "shuttle/shuttlelaw24.GridAgain", spec := "gridAgain", unfollowed := true, recurses := true, apart := false, narrowed := true }
def GridAgainUptoSaid : Prop := gridAgainUptoRow.holds Try.pinned (OpenSpec.upto gridAgainSpec)

/-- 'shuttlelaw24.GridNil', WHERE WHAT IT READS IS OF BULK AT MOST 1048576: true; the input reads as it did. -/
def gridNilUptoRow : OpenClaim := { program := "ytohkjopdoejedaa", sum := "2c0e794dd06e49306bba2b5abf424c6b90f9e673923511dc43c6fe3441df497b", func := "shuttle/shuttlelaw24.GridNil", spec := "gridNil", unfollowed := true, recurses := true, apart := false, narrowed := true }
def GridNilUptoSaid : Prop := gridNilUptoRow.holds Try.pinned (OpenSpec.upto gridNilSpec)

/-- 'shuttlelaw24.GridKnown', WHERE WHAT IT READS IS OF BULK AT MOST 1048576: true; the input reads as it did. -/
def gridKnownUptoRow : OpenClaim := { program := "ytohkjopdoejedaa", sum := "2c0e794dd06e49306bba2b5abf424c6b90f9e673923511dc43c6fe3441df497b", func := "shuttle/shuttlelaw24.GridKnown", spec := "gridKnown", unfollowed := true, recurses := true, apart := false, narrowed := true }
def GridKnownUptoSaid : Prop := gridKnownUptoRow.holds Try.pinned (OpenSpec.upto gridKnownSpec)

end Rows
end Go.Proofs.Ytohkjopdoejedaa
