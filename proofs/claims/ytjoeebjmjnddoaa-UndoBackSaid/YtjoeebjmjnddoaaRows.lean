/-
  No cell of these rows narrows 'for every input' (looked for: loops, veiled, ifaces, maps, wideKeys, modest, calm, conditions, laid).
  DERIVED. THE GIVEN ROWS OF THIS SEAT. 9 by the template 'for every input the law returns true; each argument reads behind the call as it read before'; 0 by the template 'total and deterministic' (their statements: YtjoeebjmjnddoaaTotals.lean).
  GIVEN WITH THE SEED: the statements are not yours to turn. If you find one false, say at which input.
  Laid BY PROGRAM, IN A SANDBOX (cutbox-rows.mjs): the forced cells as the released guide's own fill.sh prints them over the translation 68de1ca5d122c690… (all of the seat's roots in one cut). By AI agents, Wed Nov 11 2026. No macro, syntax, notation, axiom, sorry.
-/
import Derived.Test.YtjoeebjmjnddoaaChecked
import GoSem.Claim
import GoSem.ClaimJoined
import GoSem.ClaimMapViews
import Derived.JoinedTies
import Derived.KernelRfl
namespace Go.Proofs.Ytjoeebjmjnddoaa
/- THE CELL 'sum', in the pinned program and in every row, IS THE sha256 OF THE DUMP (.gsa) THAT YtjoeebjmjnddoaaProg.lean LOADS. Nothing in Lean hashes anything: it is a label: what it is worth is what the hold of that sum in a sandbox is worth. -/
noncomputable def Try.pinned : Pinned := { name := "ytjoeebjmjnddoaa", sum := "68de1ca5d122c6907a1ce7c24d0b525045726fddc9282492ed02fe58884dc4ae", checked := Try.checked }
namespace Rows
def none {H : Type} : Left H := { results := [], args := [] }

/-- 'shuttlelaw18.RopePlays': WHATEVER THE INPUT: true; the input reads as it did. -/
def ropePlaysSpec : ChangeSpec := { name := "ropePlays", fn := fun _ => fun
  | [d1, d2] => { results := [.lit (.bool true)], args := [d1, d2] }
  | _ => none }
def ropePlaysRow : OpenClaim := { program := "ytjoeebjmjnddoaa", sum := "68de1ca5d122c6907a1ce7c24d0b525045726fddc9282492ed02fe58884dc4ae", func := "shuttle/shuttlelaw18.RopePlays", spec := "ropePlays", inPlace := ["internal/bytealg.CountString", "internal/bytealg.IndexByteString", "internal/bytealg.IndexString", "internal/abi.NoEscape"], unfollowed := true, recurses := true, named := ["internal/bytealg.MaxLen"], apart := false }
def RopePlaysSaid : Prop := ropePlaysRow.holds Try.pinned (OpenSpec.ofChange ropePlaysSpec)

/-- ITS FALSE NEIGHBOUR: 'it returns false'. Refute it at one input. -/
def ropePlaysWrong : ChangeSpec := { name := "ropePlays", fn := fun _ => fun
  | [d1, d2] => { results := [.lit (.bool false)], args := [d1, d2] }
  | _ => none }
def RopePlaysWrongFalsely : Prop := ropePlaysRow.holds Try.pinned (OpenSpec.ofChange ropePlaysWrong)

/-- 'shuttlelaw18.RopeBack': WHATEVER THE INPUT: true; the input reads as it did. -/
def ropeBackSpec : ChangeSpec := { name := "ropeBack", fn := fun _ => fun
  | [d1, d2] => { results := [.lit (.bool true)], args := [d1, d2] }
  | _ => none }
def ropeBackRow : OpenClaim := { program := "ytjoeebjmjnddoaa", sum := "68de1ca5d122c6907a1ce7c24d0b525045726fddc9282492ed02fe58884dc4ae", func := "shuttle/shuttlelaw18.RopeBack", spec := "ropeBack", inPlace := ["internal/bytealg.CountString", "internal/bytealg.IndexByteString", "internal/bytealg.IndexString", "internal/abi.NoEscape"], unfollowed := true, recurses := true, named := ["internal/bytealg.MaxLen"], apart := false }
def RopeBackSaid : Prop := ropeBackRow.holds Try.pinned (OpenSpec.ofChange ropeBackSpec)

/-- ITS FALSE NEIGHBOUR: 'it returns false'. Refute it at one input. -/
def ropeBackWrong : ChangeSpec := { name := "ropeBack", fn := fun _ => fun
  | [d1, d2] => { results := [.lit (.bool false)], args := [d1, d2] }
  | _ => none }
def RopeBackWrongFalsely : Prop := ropeBackRow.holds Try.pinned (OpenSpec.ofChange ropeBackWrong)

/-- 'shuttlelaw18.RopeLines': WHATEVER THE INPUT: true; the input reads as it did. -/
def ropeLinesSpec : ChangeSpec := { name := "ropeLines", fn := fun _ => fun
  | [d1, d2] => { results := [.lit (.bool true)], args := [d1, d2] }
  | _ => none }
def ropeLinesRow : OpenClaim := { program := "ytjoeebjmjnddoaa", sum := "68de1ca5d122c6907a1ce7c24d0b525045726fddc9282492ed02fe58884dc4ae", func := "shuttle/shuttlelaw18.RopeLines", spec := "ropeLines", inPlace := ["internal/bytealg.CountString", "internal/bytealg.IndexByteString", "internal/bytealg.IndexString", "internal/abi.NoEscape"], unfollowed := true, recurses := true, named := ["internal/bytealg.MaxLen"], apart := false }
def RopeLinesSaid : Prop := ropeLinesRow.holds Try.pinned (OpenSpec.ofChange ropeLinesSpec)

/-- ITS FALSE NEIGHBOUR: 'it returns false'. Refute it at one input. -/
def ropeLinesWrong : ChangeSpec := { name := "ropeLines", fn := fun _ => fun
  | [d1, d2] => { results := [.lit (.bool false)], args := [d1, d2] }
  | _ => none }
def RopeLinesWrongFalsely : Prop := ropeLinesRow.holds Try.pinned (OpenSpec.ofChange ropeLinesWrong)

/-- 'shuttlelaw18.RopeNil': WHATEVER THE INPUT: true; the input reads as it did. -/
def ropeNilSpec : ChangeSpec := { name := "ropeNil", fn := fun _ => fun
  | [d] => { results := [.lit (.bool true)], args := [d] }
  | _ => none }
def ropeNilRow : OpenClaim := { program := "ytjoeebjmjnddoaa", sum := "68de1ca5d122c6907a1ce7c24d0b525045726fddc9282492ed02fe58884dc4ae", func := "shuttle/shuttlelaw18.RopeNil", spec := "ropeNil", inPlace := ["internal/abi.NoEscape", "internal/bytealg.CountString", "internal/bytealg.IndexByteString", "internal/bytealg.IndexString"], unfollowed := true, recurses := true, named := ["internal/bytealg.MaxLen"], apart := false }
def RopeNilSaid : Prop := ropeNilRow.holds Try.pinned (OpenSpec.ofChange ropeNilSpec)

/-- ITS FALSE NEIGHBOUR: 'it returns false'. Refute it at one input. -/
def ropeNilWrong : ChangeSpec := { name := "ropeNil", fn := fun _ => fun
  | [d] => { results := [.lit (.bool false)], args := [d] }
  | _ => none }
def RopeNilWrongFalsely : Prop := ropeNilRow.holds Try.pinned (OpenSpec.ofChange ropeNilWrong)

/-- 'shuttlelaw18.RopeKnown': WHATEVER THE INPUT: true; the input reads as it did. -/
def ropeKnownSpec : ChangeSpec := { name := "ropeKnown", fn := fun _ => fun
  | [] => { results := [.lit (.bool true)], args := [] }
  | _ => none }
def ropeKnownRow : OpenClaim := { program := "ytjoeebjmjnddoaa", sum := "68de1ca5d122c6907a1ce7c24d0b525045726fddc9282492ed02fe58884dc4ae", func := "shuttle/shuttlelaw18.RopeKnown", spec := "ropeKnown", inPlace := ["internal/bytealg.CountString", "internal/bytealg.IndexByteString", "internal/bytealg.IndexString", "internal/abi.NoEscape"], unfollowed := true, recurses := true, named := ["internal/bytealg.MaxLen"], apart := false }
def RopeKnownSaid : Prop := ropeKnownRow.holds Try.pinned (OpenSpec.ofChange ropeKnownSpec)

/-- ITS FALSE NEIGHBOUR: 'it returns false'. Refute it at one input. -/
def ropeKnownWrong : ChangeSpec := { name := "ropeKnown", fn := fun _ => fun
  | [] => { results := [.lit (.bool false)], args := [] }
  | _ => none }
def RopeKnownWrongFalsely : Prop := ropeKnownRow.holds Try.pinned (OpenSpec.ofChange ropeKnownWrong)

/-- 'shuttlelaw20.UndoBack': WHATEVER THE INPUT: true; the input reads as it did. -/
def undoBackSpec : ChangeSpec := { name := "undoBack", fn := fun _ => fun
  | [d1, d2] => { results := [.lit (.bool true)], args := [d1, d2] }
  | _ => none }
def undoBackRow : OpenClaim := { program := "ytjoeebjmjnddoaa", sum := "68de1ca5d122c6907a1ce7c24d0b525045726fddc9282492ed02fe58884dc4ae", func := "shuttle/shuttlelaw20.UndoBack", spec := "undoBack", inPlace := ["internal/bytealg.CountString", "internal/bytealg.IndexByteString", "internal/bytealg.IndexString", "internal/abi.NoEscape"], unfollowed := true, recurses := true, named := ["internal/bytealg.MaxLen"], apart := false }
def UndoBackSaid : Prop := undoBackRow.holds Try.pinned (OpenSpec.ofChange undoBackSpec)

/-- ITS FALSE NEIGHBOUR: 'it returns false'. Refute it at one input. -/
def undoBackWrong : ChangeSpec := { name := "undoBack", fn := fun _ => fun
  | [d1, d2] => { results := [.lit (.bool false)], args := [d1, d2] }
  | _ => none }
def UndoBackWrongFalsely : Prop := undoBackRow.holds Try.pinned (OpenSpec.ofChange undoBackWrong)

/-- 'shuttlelaw20.UndoLost': WHATEVER THE INPUT: true; the input reads as it did. -/
def undoLostSpec : ChangeSpec := { name := "undoLost", fn := fun _ => fun
  | [d1, d2, d3] => { results := [.lit (.bool true)], args := [d1, d2, d3] }
  | _ => none }
def undoLostRow : OpenClaim := { program := "ytjoeebjmjnddoaa", sum := "68de1ca5d122c6907a1ce7c24d0b525045726fddc9282492ed02fe58884dc4ae", func := "shuttle/shuttlelaw20.UndoLost", spec := "undoLost", inPlace := ["internal/bytealg.CountString", "internal/bytealg.IndexByteString", "internal/bytealg.IndexString", "internal/abi.NoEscape"], unfollowed := true, recurses := true, named := ["internal/bytealg.MaxLen"], apart := false }
def UndoLostSaid : Prop := undoLostRow.holds Try.pinned (OpenSpec.ofChange undoLostSpec)

/-- ITS FALSE NEIGHBOUR: 'it returns false'. Refute it at one input. -/
def undoLostWrong : ChangeSpec := { name := "undoLost", fn := fun _ => fun
  | [d1, d2, d3] => { results := [.lit (.bool false)], args := [d1, d2, d3] }
  | _ => none }
def UndoLostWrongFalsely : Prop := undoLostRow.holds Try.pinned (OpenSpec.ofChange undoLostWrong)

/-- 'shuttlelaw20.UndoNil': WHATEVER THE INPUT: true; the input reads as it did. -/
def undoNilSpec : ChangeSpec := { name := "undoNil", fn := fun _ => fun
  | [d1, d2] => { results := [.lit (.bool true)], args := [d1, d2] }
  | _ => none }
def undoNilRow : OpenClaim := { program := "ytjoeebjmjnddoaa", sum := "68de1ca5d122c6907a1ce7c24d0b525045726fddc9282492ed02fe58884dc4ae", func := "shuttle/shuttlelaw20.UndoNil", spec := "undoNil", inPlace := ["internal/abi.NoEscape", "internal/bytealg.CountString", "internal/bytealg.IndexByteString", "internal/bytealg.IndexString"], unfollowed := true, recurses := true, named := ["internal/bytealg.MaxLen"], apart := false }
def UndoNilSaid : Prop := undoNilRow.holds Try.pinned (OpenSpec.ofChange undoNilSpec)

/-- ITS FALSE NEIGHBOUR: 'it returns false'. Refute it at one input. -/
def undoNilWrong : ChangeSpec := { name := "undoNil", fn := fun _ => fun
  | [d1, d2] => { results := [.lit (.bool false)], args := [d1, d2] }
  | _ => none }
def UndoNilWrongFalsely : Prop := undoNilRow.holds Try.pinned (OpenSpec.ofChange undoNilWrong)

/-- 'shuttlelaw20.UndoKnown': WHATEVER THE INPUT: true; the input reads as it did. -/
def undoKnownSpec : ChangeSpec := { name := "undoKnown", fn := fun _ => fun
  | [] => { results := [.lit (.bool true)], args := [] }
  | _ => none }
def undoKnownRow : OpenClaim := { program := "ytjoeebjmjnddoaa", sum := "68de1ca5d122c6907a1ce7c24d0b525045726fddc9282492ed02fe58884dc4ae", func := "shuttle/shuttlelaw20.UndoKnown", spec := "undoKnown", inPlace := ["internal/bytealg.CountString", "internal/bytealg.IndexByteString", "internal/bytealg.IndexString", "internal/abi.NoEscape"], unfollowed := true, recurses := true, named := ["internal/bytealg.MaxLen"], apart := false }
def UndoKnownSaid : Prop := undoKnownRow.holds Try.pinned (OpenSpec.ofChange undoKnownSpec)

/-- ITS FALSE NEIGHBOUR: 'it returns false'. Refute it at one input. -/
def undoKnownWrong : ChangeSpec := { name := "undoKnown", fn := fun _ => fun
  | [] => { results := [.lit (.bool false)], args := [] }
  | _ => none }
def UndoKnownWrongFalsely : Prop := undoKnownRow.holds Try.pinned (OpenSpec.ofChange undoKnownWrong)

/- THE SECOND FORM. 'bulk': how many values and letters a reading holds, each counted each time it is reached (what is shared counts as often as it is met; a slice's spare places count too). A statement '..UptoSaid' is the law's where the arguments, and the package variables that the reading takes, are together of bulk at most 1048576: NARROWER than '..Said'. Prove '..Said' where nothing that the law and all that it calls make is longer than what came in: it says more and counts as full. Else prove '..UptoSaid'. A law counts once. -/
mutual
def uptoBulk {H : Type} : DataW H → Nat
  | .lit (.string bytes) => bytes.length + 1
  | .lit _ => 1
  | .nil => 1
  | .ptr d => uptoBulk d + 1
  | .slice elems spare => uptoBulkAll elems + uptoBulkAll spare + 1
  | .agg parts => uptoBulkAll parts + 1
  | .iface _ d => uptoBulk d + 1
  | .map entries => uptoBulkEntries entries + 1
  | .held _ => 1
def uptoBulkAll {H : Type} : List (DataW H) → Nat
  | [] => 0
  | d :: r => uptoBulk d + uptoBulkAll r
def uptoBulkEntries {H : Type} : List (Lit × DataW H) → Nat
  | [] => 0
  | x :: r => uptoBulkEntry x + uptoBulkEntries r
def uptoBulkEntry {H : Type} : Lit × DataW H → Nat
  | (.string bytes, d) => bytes.length + uptoBulk d + 1
  | (_, d) => uptoBulk d + 1
 end
def uptoSmall : (H : Type) → List (DataW H) → Bool := fun _ ds => decide (uptoBulkAll ds ≤ 1048576)
def OpenSpec.upto (s : _root_.Go.ChangeSpec) : _root_.Go.OpenSpec := { _root_.Go.OpenSpec.ofChange s with cond := some uptoSmall }

/-- 'shuttlelaw18.RopePlays', WHERE WHAT IT READS IS OF BULK AT MOST 1048576: true; the input reads as it did. -/
def ropePlaysUptoRow : OpenClaim := { program := "ytjoeebjmjnddoaa", sum := "68de1ca5d122c6907a1ce7c24d0b525045726fddc9282492ed02fe58884dc4ae", func := "shuttle/shuttlelaw18.RopePlays", spec := "ropePlays", inPlace := ["internal/bytealg.CountString", "internal/bytealg.IndexByteString", "internal/bytealg.IndexString", "internal/abi.NoEscape"], unfollowed := true, recurses := true, named := ["internal/bytealg.MaxLen"], apart := false, narrowed := true }
def RopePlaysUptoSaid : Prop := ropePlaysUptoRow.holds Try.pinned (OpenSpec.upto ropePlaysSpec)

/-- 'shuttlelaw18.RopeBack', WHERE WHAT IT READS IS OF BULK AT MOST 1048576: true; the input reads as it did. -/
def ropeBackUptoRow : OpenClaim := { program := "ytjoeebjmjnddoaa", sum := "68de1ca5d122c6907a1ce7c24d0b525045726fddc9282492ed02fe58884dc4ae", func := "shuttle/shuttlelaw18.RopeBack", spec := "ropeBack", inPlace := ["internal/bytealg.CountString", "internal/bytealg.IndexByteString", "internal/bytealg.IndexString", "internal/abi.NoEscape"], unfollowed := true, recurses := true, named := ["internal/bytealg.MaxLen"], apart := false, narrowed := true }
def RopeBackUptoSaid : Prop := ropeBackUptoRow.holds Try.pinned (OpenSpec.upto ropeBackSpec)

/-- 'shuttlelaw18.RopeLines', WHERE WHAT IT READS IS OF BULK AT MOST 1048576: true; the input reads as it did. -/
def ropeLinesUptoRow : OpenClaim := { program := "ytjoeebjmjnddoaa", sum := "68de1ca5d122c6907a1ce7c24d0b525045726fddc9282492ed02fe58884dc4ae", func := "shuttle/shuttlelaw18.RopeLines", spec := "ropeLines", inPlace := ["internal/bytealg.CountString", "internal/bytealg.IndexByteString", "internal/bytealg.IndexString", "internal/abi.NoEscape"], unfollowed := true, recurses := true, named := ["internal/bytealg.MaxLen"], apart := false, narrowed := true }
def RopeLinesUptoSaid : Prop := ropeLinesUptoRow.holds Try.pinned (OpenSpec.upto ropeLinesSpec)

/-- 'shuttlelaw18.RopeNil', WHERE WHAT IT READS IS OF BULK AT MOST 1048576: true; the input reads as it did. -/
def ropeNilUptoRow : OpenClaim := { program := "ytjoeebjmjnddoaa", sum := "68de1ca5d122c6907a1ce7c24d0b525045726fddc9282492ed02fe58884dc4ae", func := "shuttle/shuttlelaw18.RopeNil", spec := "ropeNil", inPlace := ["internal/abi.NoEscape", "internal/bytealg.CountString", "internal/bytealg.IndexByteString", "internal/bytealg.IndexString"], unfollowed := true, recurses := true, named := ["internal/bytealg.MaxLen"], apart := false, narrowed := true }
def RopeNilUptoSaid : Prop := ropeNilUptoRow.holds Try.pinned (OpenSpec.upto ropeNilSpec)

/-- 'shuttlelaw18.RopeKnown', WHERE WHAT IT READS IS OF BULK AT MOST 1048576: true; the input reads as it did. -/
def ropeKnownUptoRow : OpenClaim := { program := "ytjoeebjmjnddoaa", sum := "68de1ca5d122c6907a1ce7c24d0b525045726fddc9282492ed02fe58884dc4ae", func := "shuttle/shuttlelaw18.RopeKnown", spec := "ropeKnown", inPlace := ["internal/bytealg.CountString", "internal/bytealg.IndexByteString", "internal/bytealg.IndexString", "internal/abi.NoEscape"], unfollowed := true, recurses := true, named := ["internal/bytealg.MaxLen"], apart := false, narrowed := true }
def RopeKnownUptoSaid : Prop := ropeKnownUptoRow.holds Try.pinned (OpenSpec.upto ropeKnownSpec)

/-- 'shuttlelaw20.UndoBack', WHERE WHAT IT READS IS OF BULK AT MOST 1048576: true; the input reads as it did. -/
def undoBackUptoRow : OpenClaim := { program := "ytjoeebjmjnddoaa", sum := "68de1ca5d122c6907a1ce7c24d0b525045726fddc9282492ed02fe58884dc4ae", func := "shuttle/shuttlelaw20.UndoBack", spec := "undoBack", inPlace := ["internal/bytealg.CountString", "internal/bytealg.IndexByteString", "internal/bytealg.IndexString", "internal/abi.NoEscape"], unfollowed := true, recurses := true, named := ["internal/bytealg.MaxLen"], apart := false, narrowed := true }
def UndoBackUptoSaid : Prop := undoBackUptoRow.holds Try.pinned (OpenSpec.upto undoBackSpec)

/-- 'shuttlelaw20.UndoLost', WHERE WHAT IT READS IS OF BULK AT MOST 1048576: true; the input reads as it did. -/
def undoLostUptoRow : OpenClaim := { program := "ytjoeebjmjnddoaa", sum := "68de1ca5d122c6907a1ce7c24d0b525045726fddc9282492ed02fe58884dc4ae", func := "shuttle/shuttlelaw20.UndoLost", spec := "undoLost", inPlace := ["internal/bytealg.CountString", "internal/bytealg.IndexByteString", "internal/bytealg.IndexString", "internal/abi.NoEscape"], unfollowed := true, recurses := true, named := ["internal/bytealg.MaxLen"], apart := false, narrowed := true }
def UndoLostUptoSaid : Prop := undoLostUptoRow.holds Try.pinned (OpenSpec.upto undoLostSpec)

/-- 'shuttlelaw20.UndoNil', WHERE WHAT IT READS IS OF BULK AT MOST 1048576: true; the input reads as it did. -/
def undoNilUptoRow : OpenClaim := { program := "ytjoeebjmjnddoaa", sum := "68de1ca5d122c6907a1ce7c24d0b525045726fddc9282492ed02fe58884dc4ae", func := "shuttle/shuttlelaw20.UndoNil", spec := "undoNil", inPlace := ["internal/abi.NoEscape", "internal/bytealg.CountString", "internal/bytealg.IndexByteString", "internal/bytealg.IndexString"], unfollowed := true, recurses := true, named := ["internal/bytealg.MaxLen"], apart := false, narrowed := true }
def UndoNilUptoSaid : Prop := undoNilUptoRow.holds Try.pinned (OpenSpec.upto undoNilSpec)

/-- 'shuttlelaw20.UndoKnown', WHERE WHAT IT READS IS OF BULK AT MOST 1048576: true; the input reads as it did. -/
def undoKnownUptoRow : OpenClaim := { program := "ytjoeebjmjnddoaa", sum := "68de1ca5d122c6907a1ce7c24d0b525045726fddc9282492ed02fe58884dc4ae", func := "shuttle/shuttlelaw20.UndoKnown", spec := "undoKnown", inPlace := ["internal/bytealg.CountString", "internal/bytealg.IndexByteString", "internal/bytealg.IndexString", "internal/abi.NoEscape"], unfollowed := true, recurses := true, named := ["internal/bytealg.MaxLen"], apart := false, narrowed := true }
def UndoKnownUptoSaid : Prop := undoKnownUptoRow.holds Try.pinned (OpenSpec.upto undoKnownSpec)

end Rows
end Go.Proofs.Ytjoeebjmjnddoaa
