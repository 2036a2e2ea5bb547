/-
  No cell of these rows narrows 'for every input' (looked for: loops, veiled, ifaces, maps, wideKeys, modest, calm, conditions, laid).
  DERIVED. THE GIVEN ROWS OF THIS SEAT. 6 by the template 'for every input the law returns true; each argument reads behind the call as it read before'; 0 by the template 'total and deterministic' (their statements: YtlomcnmijfiihaaTotals.lean).
  GIVEN WITH THE SEED: the statements are not yours to turn. If you find one false, say at which input.
  Laid BY PROGRAM, IN A SANDBOX (cutbox-rows.mjs): the forced cells as the released guide's own fill.sh prints them over the translation f27cf5c63fed8f79… (all of the seat's roots in one cut). By AI agents, Wed Nov 11 2026. No macro, syntax, notation, axiom, sorry.
-/
import Derived.Test.YtlomcnmijfiihaaChecked
import GoSem.Claim
import GoSem.ClaimJoined
import GoSem.ClaimMapViews
import Derived.JoinedTies
import Derived.KernelRfl
namespace Go.Proofs.Ytlomcnmijfiihaa
/- THE CELL 'sum', in the pinned program and in every row, IS THE sha256 OF THE DUMP (.gsa) THAT YtlomcnmijfiihaaProg.lean LOADS. Nothing in Lean hashes anything: it is a label: what it is worth is what the hold of that sum in a sandbox is worth. -/
noncomputable def Try.pinned : Pinned := { name := "ytlomcnmijfiihaa", sum := "f27cf5c63fed8f79180a9f656c6b9aff191bd03dde630d63397476b6fdc5e91a", checked := Try.checked }
namespace Rows
def none {H : Type} : Left H := { results := [], args := [] }

/-- 'shuttlelaw08.WeakResolves': WHATEVER THE INPUT: true; the input reads as it did. -/
def weakResolvesSpec : ChangeSpec := { name := "weakResolves", fn := fun _ => fun
  | [d1, d2, d3] => { results := [.lit (.bool true)], args := [d1, d2, d3] }
  | _ => none }
def weakResolvesRow : OpenClaim := { program := "ytlomcnmijfiihaa", sum := "f27cf5c63fed8f79180a9f656c6b9aff191bd03dde630d63397476b6fdc5e91a", func := "shuttle/shuttlelaw08.WeakResolves", spec := "weakResolves", unfollowed := true, recurses := true, apart := false }
def WeakResolvesSaid : Prop := weakResolvesRow.holds Try.pinned (OpenSpec.ofChange weakResolvesSpec)

/-- ITS FALSE NEIGHBOUR: 'it returns false'. Refute it at one input. -/
def weakResolvesWrong : ChangeSpec := { name := "weakResolves", fn := fun _ => fun
  | [d1, d2, d3] => { results := [.lit (.bool false)], args := [d1, d2, d3] }
  | _ => none }
def WeakResolvesWrongFalsely : Prop := weakResolvesRow.holds Try.pinned (OpenSpec.ofChange weakResolvesWrong)

/-- 'shuttlelaw08.WeakSteps': WHATEVER THE INPUT: true; the input reads as it did. -/
def weakStepsSpec : ChangeSpec := { name := "weakSteps", fn := fun _ => fun
  | [d1, d2, d3] => { results := [.lit (.bool true)], args := [d1, d2, d3] }
  | _ => none }
def weakStepsRow : OpenClaim := { program := "ytlomcnmijfiihaa", sum := "f27cf5c63fed8f79180a9f656c6b9aff191bd03dde630d63397476b6fdc5e91a", func := "shuttle/shuttlelaw08.WeakSteps", spec := "weakSteps", unfollowed := true, recurses := true, apart := false }
def WeakStepsSaid : Prop := weakStepsRow.holds Try.pinned (OpenSpec.ofChange weakStepsSpec)

/-- ITS FALSE NEIGHBOUR: 'it returns false'. Refute it at one input. -/
def weakStepsWrong : ChangeSpec := { name := "weakSteps", fn := fun _ => fun
  | [d1, d2, d3] => { results := [.lit (.bool false)], args := [d1, d2, d3] }
  | _ => none }
def WeakStepsWrongFalsely : Prop := weakStepsRow.holds Try.pinned (OpenSpec.ofChange weakStepsWrong)

/-- 'shuttlelaw08.WeakByStep': WHATEVER THE INPUT: true; the input reads as it did. -/
def weakByStepSpec : ChangeSpec := { name := "weakByStep", fn := fun _ => fun
  | [d1, d2] => { results := [.lit (.bool true)], args := [d1, d2] }
  | _ => none }
def weakByStepRow : OpenClaim := { program := "ytlomcnmijfiihaa", sum := "f27cf5c63fed8f79180a9f656c6b9aff191bd03dde630d63397476b6fdc5e91a", func := "shuttle/shuttlelaw08.WeakByStep", spec := "weakByStep", unfollowed := true, recurses := true, apart := false }
def WeakByStepSaid : Prop := weakByStepRow.holds Try.pinned (OpenSpec.ofChange weakByStepSpec)

/-- ITS FALSE NEIGHBOUR: 'it returns false'. Refute it at one input. -/
def weakByStepWrong : ChangeSpec := { name := "weakByStep", fn := fun _ => fun
  | [d1, d2] => { results := [.lit (.bool false)], args := [d1, d2] }
  | _ => none }
def WeakByStepWrongFalsely : Prop := weakByStepRow.holds Try.pinned (OpenSpec.ofChange weakByStepWrong)

/-- 'shuttlelaw08.WeakStays': WHATEVER THE INPUT: true; the input reads as it did. -/
def weakStaysSpec : ChangeSpec := { name := "weakStays", fn := fun _ => fun
  | [d1, d2, d3] => { results := [.lit (.bool true)], args := [d1, d2, d3] }
  | _ => none }
def weakStaysRow : OpenClaim := { program := "ytlomcnmijfiihaa", sum := "f27cf5c63fed8f79180a9f656c6b9aff191bd03dde630d63397476b6fdc5e91a", func := "shuttle/shuttlelaw08.WeakStays", spec := "weakStays", unfollowed := true, recurses := true, apart := false }
def WeakStaysSaid : Prop := weakStaysRow.holds Try.pinned (OpenSpec.ofChange weakStaysSpec)

/-- ITS FALSE NEIGHBOUR: 'it returns false'. Refute it at one input. -/
def weakStaysWrong : ChangeSpec := { name := "weakStays", fn := fun _ => fun
  | [d1, d2, d3] => { results := [.lit (.bool false)], args := [d1, d2, d3] }
  | _ => none }
def WeakStaysWrongFalsely : Prop := weakStaysRow.holds Try.pinned (OpenSpec.ofChange weakStaysWrong)

/-- 'shuttlelaw08.WeakParted': WHATEVER THE INPUT: true; the input reads as it did. -/
def weakPartedSpec : ChangeSpec := { name := "weakParted", fn := fun _ => fun
  | [d1, d2, d3, d4, d5] => { results := [.lit (.bool true)], args := [d1, d2, d3, d4, d5] }
  | _ => none }
def weakPartedRow : OpenClaim := { program := "ytlomcnmijfiihaa", sum := "f27cf5c63fed8f79180a9f656c6b9aff191bd03dde630d63397476b6fdc5e91a", func := "shuttle/shuttlelaw08.WeakParted", spec := "weakParted", unfollowed := true, recurses := true, apart := false }
def WeakPartedSaid : Prop := weakPartedRow.holds Try.pinned (OpenSpec.ofChange weakPartedSpec)

/-- ITS FALSE NEIGHBOUR: 'it returns false'. Refute it at one input. -/
def weakPartedWrong : ChangeSpec := { name := "weakParted", fn := fun _ => fun
  | [d1, d2, d3, d4, d5] => { results := [.lit (.bool false)], args := [d1, d2, d3, d4, d5] }
  | _ => none }
def WeakPartedWrongFalsely : Prop := weakPartedRow.holds Try.pinned (OpenSpec.ofChange weakPartedWrong)

/-- 'shuttlelaw08.WeakKnown': WHATEVER THE INPUT: true; the input reads as it did. -/
def weakKnownSpec : ChangeSpec := { name := "weakKnown", fn := fun _ => fun
  | [] => { results := [.lit (.bool true)], args := [] }
  | _ => none }
def weakKnownRow : OpenClaim := { program := "ytlomcnmijfiihaa", sum := "f27cf5c63fed8f79180a9f656c6b9aff191bd03dde630d63397476b6fdc5e91a", func := "shuttle/shuttlelaw08.WeakKnown", spec := "weakKnown", unfollowed := true, recurses := true, apart := false }
def WeakKnownSaid : Prop := weakKnownRow.holds Try.pinned (OpenSpec.ofChange weakKnownSpec)

/-- ITS FALSE NEIGHBOUR: 'it returns false'. Refute it at one input. -/
def weakKnownWrong : ChangeSpec := { name := "weakKnown", fn := fun _ => fun
  | [] => { results := [.lit (.bool false)], args := [] }
  | _ => none }
def WeakKnownWrongFalsely : Prop := weakKnownRow.holds Try.pinned (OpenSpec.ofChange weakKnownWrong)

/- THE SECOND FORM. 'bulk': how many values and letters a reading holds, each counted each time it is reached (what is shared counts as often as it is met; a slice's spare places count too). A statement '..UptoSaid' is the law's where the arguments, and the package variables that the reading takes, are together of bulk at most 1048576: NARROWER than '..Said'. Prove '..Said' where nothing that the law and all that it calls make is longer than what came in: it says more and counts as full. Else prove '..UptoSaid'. A law counts once. -/
mutual
def uptoBulk {H : Type} : DataW H → Nat
  | .lit (.string bytes) => bytes.length + 1
  | .lit _ => 1
  | .nil => 1
  | .ptr d => uptoBulk d + 1
  | .slice elems spare => uptoBulkAll elems + uptoBulkAll spare + 1
  | .agg parts => uptoBulkAll parts + 1
  | .iface _ d => uptoBulk d + 1
  | .map entries => uptoBulkEntries entries + 1
  | .held _ => 1
def uptoBulkAll {H : Type} : List (DataW H) → Nat
  | [] => 0
  | d :: r => uptoBulk d + uptoBulkAll r
def uptoBulkEntries {H : Type} : List (Lit × DataW H) → Nat
  | [] => 0
  | x :: r => uptoBulkEntry x + uptoBulkEntries r
def uptoBulkEntry {H : Type} : Lit × DataW H → Nat
  | (.string bytes, d) => bytes.length + uptoBulk d + 1
  | (_, d) => uptoBulk d + 1
 end
def uptoSmall : (H : Type) → List (DataW H) → Bool := fun _ ds => decide (uptoBulkAll ds ≤ 1048576)
def OpenSpec.upto (s : _root_.Go.ChangeSpec) : _root_.Go.OpenSpec := { _root_.Go.OpenSpec.ofChange s with cond := some uptoSmall }

/-- 'shuttlelaw08.WeakResolves', WHERE WHAT IT READS IS OF BULK AT MOST 1048576: true; the input reads as it did. -/
def weakResolvesUptoRow : OpenClaim := { program := "ytlomcnmijfiihaa", sum := "f27cf5c63fed8f79180a9f656c6b9aff191bd03dde630d63397476b6fdc5e91a", func := "shuttle/shuttlelaw08.WeakResolves", spec := "weakResolves", unfollowed := true, recurses := true, apart := false, narrowed := true }
def WeakResolvesUptoSaid : Prop := weakResolvesUptoRow.holds Try.pinned (OpenSpec.upto weakResolvesSpec)

/-- 'shuttlelaw08.WeakSteps', WHERE WHAT IT READS IS OF BULK AT MOST 1048576: true; the input reads as it did. -/
def weakStepsUptoRow : OpenClaim := { program := "ytlomcnmijfiihaa", sum := "f27cf5c63fed8f79180a9f656c6b9aff191bd03dde630d63397476b6fdc5e91a", func := "shuttle/shuttlelaw08.WeakSteps", spec := "weakSteps", unfollowed := true, recurses := true, apart := false, narrowed := true }
def WeakStepsUptoSaid : Prop := weakStepsUptoRow.holds Try.pinned (OpenSpec.upto weakStepsSpec)

/-- 'shuttlelaw08.WeakByStep', WHERE WHAT IT READS IS OF BULK AT MOST 1048576: true; the input reads as it did. -/
def weakByStepUptoRow : OpenClaim := { program := "ytlomcnmijfiihaa", sum := "f27cf5c63fed8f79180a9f656c6b9aff191bd03dde630d63397476b6fdc5e91a", func := "shuttle/shuttlelaw08.WeakByStep", spec := "weakByStep", unfollowed := true, recurses := true, apart := false, narrowed := true }
def WeakByStepUptoSaid : Prop := weakByStepUptoRow.holds Try.pinned (OpenSpec.upto weakByStepSpec)

/-- 'shuttlelaw08.WeakStays', WHERE WHAT IT READS IS OF BULK AT MOST 1048576: true; the input reads as it did. -/
def weakStaysUptoRow : OpenClaim := { program := "ytlomcnmijfiihaa", sum := "f27cf5c63fed8f79180a9f656c6b9aff191bd03dde630d63397476b6fdc5e91a", func := "shuttle/shuttlelaw08.WeakStays", spec := "weakStays", unfollowed := true, recurses := true, apart := false, narrowed := true }
def WeakStaysUptoSaid : Prop := weakStaysUptoRow.holds Try.pinned (OpenSpec.upto weakStaysSpec)

/-- 'shuttlelaw08.WeakParted', WHERE WHAT IT READS IS OF BULK AT MOST 1048576: true; the input reads as it did. -/
def weakPartedUptoRow : OpenClaim := { program := "ytlomcnmijfiihaa", sum := "f27cf5c63fed8f79180a9f656c6b9aff191bd03dde630d63397476b6fdc5e91a", func := "shuttle/shuttlelaw08.WeakParted", spec := "weakParted", unfollowed := true, recurses := true, apart := false, narrowed := true }
def WeakPartedUptoSaid : Prop := weakPartedUptoRow.holds Try.pinned (OpenSpec.upto weakPartedSpec)

/-- 'shuttlelaw08.WeakKnown', WHERE WHAT IT READS IS OF BULK AT MOST 1048576: true; the input reads as it did. -/
def weakKnownUptoRow : OpenClaim := { program := "ytlomcnmijfiihaa", sum := "f27cf5c63fed8f79180a9f656c6b9aff191bd03dde630d63397476b6fdc5e91a", func := "shuttle/shuttlelaw08.WeakKnown", spec := "weakKnown", unfollowed := true, recurses := true, apart := false, narrowed := true }
def WeakKnownUptoSaid : Prop := weakKnownUptoRow.holds Try.pinned (OpenSpec.upto weakKnownSpec)

end Rows
end Go.Proofs.Ytlomcnmijfiihaa
