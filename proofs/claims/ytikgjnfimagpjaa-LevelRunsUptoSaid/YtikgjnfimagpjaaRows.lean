/-
  No cell of these rows narrows 'for every input' (looked for: loops, veiled, ifaces, maps, wideKeys, modest, calm, conditions, laid).
  DERIVED. THE GIVEN ROWS OF THIS SEAT. 7 by the template 'for every input the law returns true; each argument reads behind the call as it read before'; 0 by the template 'total and deterministic' (their statements: YtikgjnfimagpjaaTotals.lean).
  GIVEN WITH THE SEED: the statements are not yours to turn. If you find one false, say at which input.
  Laid BY PROGRAM, IN A SANDBOX (cutbox-rows.mjs): the forced cells as the released guide's own fill.sh prints them over the translation 5963427ec33d06e3… (all of the seat's roots in one cut). By AI agents, Wed Nov 11 2026. No macro, syntax, notation, axiom, sorry.
-/
import Derived.Test.YtikgjnfimagpjaaChecked
import GoSem.Claim
import GoSem.ClaimJoined
import GoSem.ClaimMapViews
import Derived.JoinedTies
import Derived.KernelRfl
namespace Go.Proofs.Ytikgjnfimagpjaa
/- THE CELL 'sum', in the pinned program and in every row, IS THE sha256 OF THE DUMP (.gsa) THAT YtikgjnfimagpjaaProg.lean LOADS. Nothing in Lean hashes anything: it is a label: what it is worth is what the hold of that sum in a sandbox is worth. -/
noncomputable def Try.pinned : Pinned := { name := "ytikgjnfimagpjaa", sum := "5963427ec33d06e3f67482507573650f949ca83ffa3521597498e6db1deced7b", checked := Try.checked }
namespace Rows
def none {H : Type} : Left H := { results := [], args := [] }

/-- 'shuttlelaw07.LevelBase': WHATEVER THE INPUT: true; the input reads as it did. -/
def levelBaseSpec : ChangeSpec := { name := "levelBase", fn := fun _ => fun
  | [d1, d2] => { results := [.lit (.bool true)], args := [d1, d2] }
  | _ => none }
def levelBaseRow : OpenClaim := { program := "ytikgjnfimagpjaa", sum := "5963427ec33d06e3f67482507573650f949ca83ffa3521597498e6db1deced7b", func := "shuttle/shuttlelaw07.LevelBase", spec := "levelBase", unfollowed := true, recurses := true, apart := false }
def LevelBaseSaid : Prop := levelBaseRow.holds Try.pinned (OpenSpec.ofChange levelBaseSpec)

/-- ITS FALSE NEIGHBOUR: 'it returns false'. Refute it at one input. -/
def levelBaseWrong : ChangeSpec := { name := "levelBase", fn := fun _ => fun
  | [d1, d2] => { results := [.lit (.bool false)], args := [d1, d2] }
  | _ => none }
def LevelBaseWrongFalsely : Prop := levelBaseRow.holds Try.pinned (OpenSpec.ofChange levelBaseWrong)

/-- 'shuttlelaw07.LevelLevels': WHATEVER THE INPUT: true; the input reads as it did. -/
def levelLevelsSpec : ChangeSpec := { name := "levelLevels", fn := fun _ => fun
  | [d1, d2] => { results := [.lit (.bool true)], args := [d1, d2] }
  | _ => none }
def levelLevelsRow : OpenClaim := { program := "ytikgjnfimagpjaa", sum := "5963427ec33d06e3f67482507573650f949ca83ffa3521597498e6db1deced7b", func := "shuttle/shuttlelaw07.LevelLevels", spec := "levelLevels", unfollowed := true, recurses := true, apart := false }
def LevelLevelsSaid : Prop := levelLevelsRow.holds Try.pinned (OpenSpec.ofChange levelLevelsSpec)

/-- ITS FALSE NEIGHBOUR: 'it returns false'. Refute it at one input. -/
def levelLevelsWrong : ChangeSpec := { name := "levelLevels", fn := fun _ => fun
  | [d1, d2] => { results := [.lit (.bool false)], args := [d1, d2] }
  | _ => none }
def LevelLevelsWrongFalsely : Prop := levelLevelsRow.holds Try.pinned (OpenSpec.ofChange levelLevelsWrong)

/-- 'shuttlelaw07.LevelRuns': WHATEVER THE INPUT: true; the input reads as it did. -/
def levelRunsSpec : ChangeSpec := { name := "levelRuns", fn := fun _ => fun
  | [d1, d2, d3] => { results := [.lit (.bool true)], args := [d1, d2, d3] }
  | _ => none }
def levelRunsRow : OpenClaim := { program := "ytikgjnfimagpjaa", sum := "5963427ec33d06e3f67482507573650f949ca83ffa3521597498e6db1deced7b", func := "shuttle/shuttlelaw07.LevelRuns", spec := "levelRuns", unfollowed := true, recurses := true, apart := false }
def LevelRunsSaid : Prop := levelRunsRow.holds Try.pinned (OpenSpec.ofChange levelRunsSpec)

/-- ITS FALSE NEIGHBOUR: 'it returns false'. Refute it at one input. -/
def levelRunsWrong : ChangeSpec := { name := "levelRuns", fn := fun _ => fun
  | [d1, d2, d3] => { results := [.lit (.bool false)], args := [d1, d2, d3] }
  | _ => none }
def LevelRunsWrongFalsely : Prop := levelRunsRow.holds Try.pinned (OpenSpec.ofChange levelRunsWrong)

/-- 'shuttlelaw07.LevelNames': WHATEVER THE INPUT: true; the input reads as it did. -/
def levelNamesSpec : ChangeSpec := { name := "levelNames", fn := fun _ => fun
  | [] => { results := [.lit (.bool true)], args := [] }
  | _ => none }
def levelNamesRow : OpenClaim := { program := "ytikgjnfimagpjaa", sum := "5963427ec33d06e3f67482507573650f949ca83ffa3521597498e6db1deced7b", func := "shuttle/shuttlelaw07.LevelNames", spec := "levelNames", unfollowed := true, recurses := true, apart := false }
def LevelNamesSaid : Prop := levelNamesRow.holds Try.pinned (OpenSpec.ofChange levelNamesSpec)

/-- ITS FALSE NEIGHBOUR: 'it returns false'. Refute it at one input. -/
def levelNamesWrong : ChangeSpec := { name := "levelNames", fn := fun _ => fun
  | [] => { results := [.lit (.bool false)], args := [] }
  | _ => none }
def LevelNamesWrongFalsely : Prop := levelNamesRow.holds Try.pinned (OpenSpec.ofChange levelNamesWrong)

/-- 'shuttlelaw07.LevelWhole': WHATEVER THE INPUT: true; the input reads as it did. -/
def levelWholeSpec : ChangeSpec := { name := "levelWhole", fn := fun _ => fun
  | [d1, d2] => { results := [.lit (.bool true)], args := [d1, d2] }
  | _ => none }
def levelWholeRow : OpenClaim := { program := "ytikgjnfimagpjaa", sum := "5963427ec33d06e3f67482507573650f949ca83ffa3521597498e6db1deced7b", func := "shuttle/shuttlelaw07.LevelWhole", spec := "levelWhole", unfollowed := true, recurses := true, apart := false }
def LevelWholeSaid : Prop := levelWholeRow.holds Try.pinned (OpenSpec.ofChange levelWholeSpec)

/-- ITS FALSE NEIGHBOUR: 'it returns false'. Refute it at one input. -/
def levelWholeWrong : ChangeSpec := { name := "levelWhole", fn := fun _ => fun
  | [d1, d2] => { results := [.lit (.bool false)], args := [d1, d2] }
  | _ => none }
def LevelWholeWrongFalsely : Prop := levelWholeRow.holds Try.pinned (OpenSpec.ofChange levelWholeWrong)

/-- 'shuttlelaw07.LevelApart': WHATEVER THE INPUT: true; the input reads as it did. -/
def levelApartSpec : ChangeSpec := { name := "levelApart", fn := fun _ => fun
  | [d] => { results := [.lit (.bool true)], args := [d] }
  | _ => none }
def levelApartRow : OpenClaim := { program := "ytikgjnfimagpjaa", sum := "5963427ec33d06e3f67482507573650f949ca83ffa3521597498e6db1deced7b", func := "shuttle/shuttlelaw07.LevelApart", spec := "levelApart", unfollowed := true, recurses := true, apart := false }
def LevelApartSaid : Prop := levelApartRow.holds Try.pinned (OpenSpec.ofChange levelApartSpec)

/-- ITS FALSE NEIGHBOUR: 'it returns false'. Refute it at one input. -/
def levelApartWrong : ChangeSpec := { name := "levelApart", fn := fun _ => fun
  | [d] => { results := [.lit (.bool false)], args := [d] }
  | _ => none }
def LevelApartWrongFalsely : Prop := levelApartRow.holds Try.pinned (OpenSpec.ofChange levelApartWrong)

/-- 'shuttlelaw07.LevelParts': WHATEVER THE INPUT: true; the input reads as it did. -/
def levelPartsSpec : ChangeSpec := { name := "levelParts", fn := fun _ => fun
  | [d1, d2, d3] => { results := [.lit (.bool true)], args := [d1, d2, d3] }
  | _ => none }
def levelPartsRow : OpenClaim := { program := "ytikgjnfimagpjaa", sum := "5963427ec33d06e3f67482507573650f949ca83ffa3521597498e6db1deced7b", func := "shuttle/shuttlelaw07.LevelParts", spec := "levelParts", unfollowed := true, recurses := true, apart := false }
def LevelPartsSaid : Prop := levelPartsRow.holds Try.pinned (OpenSpec.ofChange levelPartsSpec)

/-- ITS FALSE NEIGHBOUR: 'it returns false'. Refute it at one input. -/
def levelPartsWrong : ChangeSpec := { name := "levelParts", fn := fun _ => fun
  | [d1, d2, d3] => { results := [.lit (.bool false)], args := [d1, d2, d3] }
  | _ => none }
def LevelPartsWrongFalsely : Prop := levelPartsRow.holds Try.pinned (OpenSpec.ofChange levelPartsWrong)

/- THE SECOND FORM. 'bulk': how many values and letters a reading holds, each counted each time it is reached (what is shared counts as often as it is met; a slice's spare places count too). A statement '..UptoSaid' is the law's where the arguments, and the package variables that the reading takes, are together of bulk at most 1048576: NARROWER than '..Said'. Prove '..Said' where nothing that the law and all that it calls make is longer than what came in: it says more and counts as full. Else prove '..UptoSaid'. A law counts once. -/
mutual
def uptoBulk {H : Type} : DataW H → Nat
  | .lit (.string bytes) => bytes.length + 1
  | .lit _ => 1
  | .nil => 1
  | .ptr d => uptoBulk d + 1
  | .slice elems spare => uptoBulkAll elems + uptoBulkAll spare + 1
  | .agg parts => uptoBulkAll parts + 1
  | .iface _ d => uptoBulk d + 1
  | .map entries => uptoBulkEntries entries + 1
  | .held _ => 1
def uptoBulkAll {H : Type} : List (DataW H) → Nat
  | [] => 0
  | d :: r => uptoBulk d + uptoBulkAll r
def uptoBulkEntries {H : Type} : List (Lit × DataW H) → Nat
  | [] => 0
  | x :: r => uptoBulkEntry x + uptoBulkEntries r
def uptoBulkEntry {H : Type} : Lit × DataW H → Nat
  | (.string bytes, d) => bytes.length + uptoBulk d + 1
  | (_, d) => uptoBulk d + 1
 end
def uptoSmall : (H : Type) → List (DataW H) → Bool := fun _ ds => decide (uptoBulkAll ds ≤ 1048576)
def OpenSpec.upto (s : _root_.Go.ChangeSpec) : _root_.Go.OpenSpec := { _root_.Go.OpenSpec.ofChange s with cond := some uptoSmall }

/-- 'shuttlelaw07.LevelBase', WHERE WHAT IT READS IS OF BULK AT MOST 1048576: true; the input reads as it did. -/
def levelBaseUptoRow : OpenClaim := { program := "ytikgjnfimagpjaa", sum := "5963427ec33d06e3f67482507573650f949ca83ffa3521597498e6db1deced7b", func := "shuttle/shuttlelaw07.LevelBase", spec := "levelBase", unfollowed := true, recurses := true, apart := false, narrowed := true }
def LevelBaseUptoSaid : Prop := levelBaseUptoRow.holds Try.pinned (OpenSpec.upto levelBaseSpec)

/-- 'shuttlelaw07.LevelLevels', WHERE WHAT IT READS IS OF BULK AT MOST 1048576: true; the input reads as it did. -/
def levelLevelsUptoRow : OpenClaim := { program := "ytikgjnfimagpjaa", sum := "5963427ec33d06e3f67482507573650f949ca83ffa3521597498e6db1deced7b", func := "shuttle/shuttlelaw07.LevelLevels", spec := "levelLevels", unfollowed := true, recurses := true, apart := false, narrowed := true }
def LevelLevelsUptoSaid : Prop := levelLevelsUptoRow.holds Try.pinned (OpenSpec.upto levelLevelsSpec)

/-- 'shuttlelaw07.LevelRuns', WHERE WHAT IT READS IS OF BULK AT MOST 1048576: true; the input reads as it did. -/
def levelRunsUptoRow : OpenClaim := { program := "ytikgjnfimagpjaa", sum := "5963427ec33d06e3f67482507573650f949ca83ffa3521597498e6db1deced7b", func := "shuttle/shuttlelaw07.LevelRuns", spec := "levelRuns", unfollowed := true, recurses := true, apart := false, narrowed := true }
def LevelRunsUptoSaid : Prop := levelRunsUptoRow.holds Try.pinned (OpenSpec.upto levelRunsSpec)

/-- 'shuttlelaw07.LevelNames', WHERE WHAT IT READS IS OF BULK AT MOST 1048576: true; the input reads as it did. -/
def levelNamesUptoRow : OpenClaim := { program := "ytikgjnfimagpjaa", sum := "5963427ec33d06e3f67482507573650f949ca83ffa3521597498e6db1deced7b", func := "shuttle/shuttlelaw07.LevelNames", spec := "levelNames", unfollowed := true, recurses := true, apart := false, narrowed := true }
def LevelNamesUptoSaid : Prop := levelNamesUptoRow.holds Try.pinned (OpenSpec.upto levelNamesSpec)

/-- 'shuttlelaw07.LevelWhole', WHERE WHAT IT READS IS OF BULK AT MOST 1048576: true; the input reads as it did. -/
def levelWholeUptoRow : OpenClaim := { program := "ytikgjnfimagpjaa", sum := "5963427ec33d06e3f67482507573650f949ca83ffa3521597498e6db1deced7b", func := "shuttle/shuttlelaw07.LevelWhole", spec := "levelWhole", unfollowed := true, recurses := true, apart := false, narrowed := true }
def LevelWholeUptoSaid : Prop := levelWholeUptoRow.holds Try.pinned (OpenSpec.upto levelWholeSpec)

/-- 'shuttlelaw07.LevelApart', WHERE WHAT IT READS IS OF BULK AT MOST 1048576: true; the input reads as it did. -/
def levelApartUptoRow : OpenClaim := { program := "ytikgjnfimagpjaa", sum := "5963427ec33d06e3f67482507573650f949ca83ffa3521597498e6db1deced7b", func := "shuttle/shuttlelaw07.LevelApart", spec := "levelApart", unfollowed := true, recurses := true, apart := false, narrowed := true }
def LevelApartUptoSaid : Prop := levelApartUptoRow.holds Try.pinned (OpenSpec.upto levelApartSpec)

/-- 'shuttlelaw07.LevelParts', WHERE WHAT IT READS IS OF BULK AT MOST 1048576: true; the input reads as it did. -/
def levelPartsUptoRow : OpenClaim := { program := "ytikgjnfimagpjaa", sum := "5963427ec33d06e3f67482507573650f949ca83ffa3521597498e6db1deced7b", func := "shuttle/shuttlelaw07.LevelParts", spec := "levelParts", unfollowed := true, recurses := true, apart := false, narrowed := true }
def LevelPartsUptoSaid : Prop := levelPartsUptoRow.holds Try.pinned (OpenSpec.upto levelPartsSpec)

end Rows
end Go.Proofs.Ytikgjnfimagpjaa
