/-
  NARROWER THAN 'FOR EVERY INPUT', by the rows' own cells (each row's printed sentence says how): NormLetters: laid · NormOrder: laid · NormForms: laid · NormSame: laid · NormEach: laid · NormAlike: laid · NormParts: laid · NormPairs: laid · NormOnce: laid · FoldLetters: laid · FoldTexts: laid · FoldSame: laid · FoldRunes: laid · FoldLike: laid · FoldPairs: laid · FoldKnown: laid · FoldBytes: laid · FoldOnce: laid.
  DERIVED. THE GIVEN ROWS OF THIS SEAT. 18 by the template 'for every input the law returns true; each argument reads behind the call as it read before'; 0 by the template 'total and deterministic' (their statements: YtlphmcodajookaaDoorTotals.lean).
  GIVEN WITH THE SEED: the statements are not yours to turn. If you find one false, say at which input.
  Laid BY PROGRAM, IN A SANDBOX (cutbox-rows.mjs): the forced cells as the released guide's own fill.sh prints them over the translation c529dbd9f8049305… (all of the seat's roots in one cut). By AI agents, Wed Nov 11 2026. No macro, syntax, notation, axiom, sorry.
-/
import Derived.Test.YtlphmcodajookaaDoorChecked
import GoSem.PinnedTables
import GoSem.Claim
import GoSem.ClaimJoined
import GoSem.ClaimMapViews
import Derived.JoinedTies
import Derived.KernelRfl
namespace Go.Proofs.YtlphmcodajookaaDoor
/- THE CELL 'sum', in the pinned program and in every row, IS THE sha256 OF THE DUMP (.gsa) THAT YtlphmcodajookaaDoorProg.lean LOADS. Nothing in Lean hashes anything: it is a label: what it is worth is what the hold of that sum in a sandbox is worth. -/
noncomputable def Tryd.pinned : Pinned := { name := "ytlphmcodajookaadoor", sum := "c529dbd9f8049305b7f1c5c3e9f2f43a631676c3f0e50634f7950c6ba0fbb5e0", checked := Tryd.checked }
namespace Rows
def none {H : Type} : Left H := { results := [], args := [] }

/- WHAT THE LISTED PACKAGE-LEVEL VARIABLES READ AS WHEN THE CALL BEGINS. Each datum BY PROGRAM (the guide's laid-datum.mjs) off the statement by which the dump's own 'gosem.cut.vars' lays the variable. In a bare row this is a premise. The card (YtlphmcodajookaaDoorCards.lean) ties it to the program's text. -/
def laid_unicode_utf8_acceptRanges {H : Type} : DataW H := .agg [.agg [.lit (.int .u8 128), .lit (.int .u8 191)], .agg [.lit (.int .u8 160), .lit (.int .u8 191)], .agg [.lit (.int .u8 128), .lit (.int .u8 159)], .agg [.lit (.int .u8 144), .lit (.int .u8 191)], .agg [.lit (.int .u8 128), .lit (.int .u8 143)], .agg [.lit (.int .u8 0), .lit (.int .u8 0)], .agg [.lit (.int .u8 0), .lit (.int .u8 0)], .agg [.lit (.int .u8 0), .lit (.int .u8 0)], .agg [.lit (.int .u8 0), .lit (.int .u8 0)], .agg [.lit (.int .u8 0), .lit (.int .u8 0)], .agg [.lit (.int .u8 0), .lit (.int .u8 0)], .agg [.lit (.int .u8 0), .lit (.int .u8 0)], .agg [.lit (.int .u8 0), .lit (.int .u8 0)], .agg [.lit (.int .u8 0), .lit (.int .u8 0)], .agg [.lit (.int .u8 0), .lit (.int .u8 0)], .agg [.lit (.int .u8 0), .lit (.int .u8 0)]]
/-- One of Go's own tables, pinned by name: the form's constant. -/
def laid_unicode_utf8_first : DataW Unit := Go.Pinned.utf8First

/-- 'shuttlelaw04.NormLetters': WHATEVER THE INPUT: true; the input reads as it did. -/
def normLettersSpec : ChangeSpec := { name := "normLetters", fn := fun _ => fun
  | [d1, d2] => { results := [.lit (.bool true)], args := [d1, d2] }
  | _ => none }
def normLettersRow : OpenClaim := { program := "ytlphmcodajookaadoor", sum := "c529dbd9f8049305b7f1c5c3e9f2f43a631676c3f0e50634f7950c6ba0fbb5e0", func := "shuttle/shuttlelaw04.NormLetters", spec := "normLetters", inPlace := ["internal/abi.NoEscape"], unfollowed := true, recurses := true, named := ["unicode/utf8.first", "unicode/utf8.acceptRanges"], apart := false, laid := [("unicode/utf8.acceptRanges", laid_unicode_utf8_acceptRanges), ("unicode/utf8.first", laid_unicode_utf8_first)] }
def NormLettersSaid : Prop := normLettersRow.holds Tryd.pinned (OpenSpec.ofChange normLettersSpec)

/-- ITS FALSE NEIGHBOUR: 'it returns false'. Refute it at one input. -/
def normLettersWrong : ChangeSpec := { name := "normLetters", fn := fun _ => fun
  | [d1, d2] => { results := [.lit (.bool false)], args := [d1, d2] }
  | _ => none }
def NormLettersWrongFalsely : Prop := normLettersRow.holds Tryd.pinned (OpenSpec.ofChange normLettersWrong)

/-- 'shuttlelaw04.NormOrder': WHATEVER THE INPUT: true; the input reads as it did. -/
def normOrderSpec : ChangeSpec := { name := "normOrder", fn := fun _ => fun
  | [d] => { results := [.lit (.bool true)], args := [d] }
  | _ => none }
def normOrderRow : OpenClaim := { program := "ytlphmcodajookaadoor", sum := "c529dbd9f8049305b7f1c5c3e9f2f43a631676c3f0e50634f7950c6ba0fbb5e0", func := "shuttle/shuttlelaw04.NormOrder", spec := "normOrder", inPlace := ["internal/abi.NoEscape"], unfollowed := true, recurses := true, named := ["unicode/utf8.first", "unicode/utf8.acceptRanges"], apart := false, laid := [("unicode/utf8.acceptRanges", laid_unicode_utf8_acceptRanges), ("unicode/utf8.first", laid_unicode_utf8_first)] }
def NormOrderSaid : Prop := normOrderRow.holds Tryd.pinned (OpenSpec.ofChange normOrderSpec)

/-- ITS FALSE NEIGHBOUR: 'it returns false'. Refute it at one input. -/
def normOrderWrong : ChangeSpec := { name := "normOrder", fn := fun _ => fun
  | [d] => { results := [.lit (.bool false)], args := [d] }
  | _ => none }
def NormOrderWrongFalsely : Prop := normOrderRow.holds Tryd.pinned (OpenSpec.ofChange normOrderWrong)

/-- 'shuttlelaw04.NormForms': WHATEVER THE INPUT: true; the input reads as it did. -/
def normFormsSpec : ChangeSpec := { name := "normForms", fn := fun _ => fun
  | [d] => { results := [.lit (.bool true)], args := [d] }
  | _ => none }
def normFormsRow : OpenClaim := { program := "ytlphmcodajookaadoor", sum := "c529dbd9f8049305b7f1c5c3e9f2f43a631676c3f0e50634f7950c6ba0fbb5e0", func := "shuttle/shuttlelaw04.NormForms", spec := "normForms", inPlace := ["internal/abi.NoEscape"], unfollowed := true, recurses := true, named := ["unicode/utf8.first", "unicode/utf8.acceptRanges"], apart := false, laid := [("unicode/utf8.acceptRanges", laid_unicode_utf8_acceptRanges), ("unicode/utf8.first", laid_unicode_utf8_first)] }
def NormFormsSaid : Prop := normFormsRow.holds Tryd.pinned (OpenSpec.ofChange normFormsSpec)

/-- ITS FALSE NEIGHBOUR: 'it returns false'. Refute it at one input. -/
def normFormsWrong : ChangeSpec := { name := "normForms", fn := fun _ => fun
  | [d] => { results := [.lit (.bool false)], args := [d] }
  | _ => none }
def NormFormsWrongFalsely : Prop := normFormsRow.holds Tryd.pinned (OpenSpec.ofChange normFormsWrong)

/-- 'shuttlelaw04.NormSame': WHATEVER THE INPUT: true; the input reads as it did. -/
def normSameSpec : ChangeSpec := { name := "normSame", fn := fun _ => fun
  | [d1, d2] => { results := [.lit (.bool true)], args := [d1, d2] }
  | _ => none }
def normSameRow : OpenClaim := { program := "ytlphmcodajookaadoor", sum := "c529dbd9f8049305b7f1c5c3e9f2f43a631676c3f0e50634f7950c6ba0fbb5e0", func := "shuttle/shuttlelaw04.NormSame", spec := "normSame", inPlace := ["internal/abi.NoEscape"], unfollowed := true, recurses := true, named := ["unicode/utf8.first", "unicode/utf8.acceptRanges"], apart := false, laid := [("unicode/utf8.acceptRanges", laid_unicode_utf8_acceptRanges), ("unicode/utf8.first", laid_unicode_utf8_first)] }
def NormSameSaid : Prop := normSameRow.holds Tryd.pinned (OpenSpec.ofChange normSameSpec)

/-- ITS FALSE NEIGHBOUR: 'it returns false'. Refute it at one input. -/
def normSameWrong : ChangeSpec := { name := "normSame", fn := fun _ => fun
  | [d1, d2] => { results := [.lit (.bool false)], args := [d1, d2] }
  | _ => none }
def NormSameWrongFalsely : Prop := normSameRow.holds Tryd.pinned (OpenSpec.ofChange normSameWrong)

/-- 'shuttlelaw04.NormEach': WHATEVER THE INPUT: true; the input reads as it did. -/
def normEachSpec : ChangeSpec := { name := "normEach", fn := fun _ => fun
  | [] => { results := [.lit (.bool true)], args := [] }
  | _ => none }
def normEachRow : OpenClaim := { program := "ytlphmcodajookaadoor", sum := "c529dbd9f8049305b7f1c5c3e9f2f43a631676c3f0e50634f7950c6ba0fbb5e0", func := "shuttle/shuttlelaw04.NormEach", spec := "normEach", inPlace := ["internal/abi.NoEscape"], unfollowed := true, recurses := true, named := ["unicode/utf8.first", "unicode/utf8.acceptRanges"], apart := false, laid := [("unicode/utf8.acceptRanges", laid_unicode_utf8_acceptRanges), ("unicode/utf8.first", laid_unicode_utf8_first)] }
def NormEachSaid : Prop := normEachRow.holds Tryd.pinned (OpenSpec.ofChange normEachSpec)

/-- ITS FALSE NEIGHBOUR: 'it returns false'. Refute it at one input. -/
def normEachWrong : ChangeSpec := { name := "normEach", fn := fun _ => fun
  | [] => { results := [.lit (.bool false)], args := [] }
  | _ => none }
def NormEachWrongFalsely : Prop := normEachRow.holds Tryd.pinned (OpenSpec.ofChange normEachWrong)

/-- 'shuttlelaw04.NormAlike': WHATEVER THE INPUT: true; the input reads as it did. -/
def normAlikeSpec : ChangeSpec := { name := "normAlike", fn := fun _ => fun
  | [d1, d2, d3] => { results := [.lit (.bool true)], args := [d1, d2, d3] }
  | _ => none }
def normAlikeRow : OpenClaim := { program := "ytlphmcodajookaadoor", sum := "c529dbd9f8049305b7f1c5c3e9f2f43a631676c3f0e50634f7950c6ba0fbb5e0", func := "shuttle/shuttlelaw04.NormAlike", spec := "normAlike", inPlace := ["internal/abi.NoEscape"], unfollowed := true, recurses := true, named := ["unicode/utf8.first", "unicode/utf8.acceptRanges"], apart := false, laid := [("unicode/utf8.acceptRanges", laid_unicode_utf8_acceptRanges), ("unicode/utf8.first", laid_unicode_utf8_first)] }
def NormAlikeSaid : Prop := normAlikeRow.holds Tryd.pinned (OpenSpec.ofChange normAlikeSpec)

/-- ITS FALSE NEIGHBOUR: 'it returns false'. Refute it at one input. -/
def normAlikeWrong : ChangeSpec := { name := "normAlike", fn := fun _ => fun
  | [d1, d2, d3] => { results := [.lit (.bool false)], args := [d1, d2, d3] }
  | _ => none }
def NormAlikeWrongFalsely : Prop := normAlikeRow.holds Tryd.pinned (OpenSpec.ofChange normAlikeWrong)

/-- 'shuttlelaw04.NormParts': WHATEVER THE INPUT: true; the input reads as it did. -/
def normPartsSpec : ChangeSpec := { name := "normParts", fn := fun _ => fun
  | [d1, d2] => { results := [.lit (.bool true)], args := [d1, d2] }
  | _ => none }
def normPartsRow : OpenClaim := { program := "ytlphmcodajookaadoor", sum := "c529dbd9f8049305b7f1c5c3e9f2f43a631676c3f0e50634f7950c6ba0fbb5e0", func := "shuttle/shuttlelaw04.NormParts", spec := "normParts", inPlace := ["internal/abi.NoEscape"], unfollowed := true, recurses := true, named := ["unicode/utf8.first", "unicode/utf8.acceptRanges"], apart := false, laid := [("unicode/utf8.acceptRanges", laid_unicode_utf8_acceptRanges), ("unicode/utf8.first", laid_unicode_utf8_first)] }
def NormPartsSaid : Prop := normPartsRow.holds Tryd.pinned (OpenSpec.ofChange normPartsSpec)

/-- ITS FALSE NEIGHBOUR: 'it returns false'. Refute it at one input. -/
def normPartsWrong : ChangeSpec := { name := "normParts", fn := fun _ => fun
  | [d1, d2] => { results := [.lit (.bool false)], args := [d1, d2] }
  | _ => none }
def NormPartsWrongFalsely : Prop := normPartsRow.holds Tryd.pinned (OpenSpec.ofChange normPartsWrong)

/-- 'shuttlelaw04.NormPairs': WHATEVER THE INPUT: true; the input reads as it did. -/
def normPairsSpec : ChangeSpec := { name := "normPairs", fn := fun _ => fun
  | [d1, d2, d3] => { results := [.lit (.bool true)], args := [d1, d2, d3] }
  | _ => none }
def normPairsRow : OpenClaim := { program := "ytlphmcodajookaadoor", sum := "c529dbd9f8049305b7f1c5c3e9f2f43a631676c3f0e50634f7950c6ba0fbb5e0", func := "shuttle/shuttlelaw04.NormPairs", spec := "normPairs", inPlace := ["internal/abi.NoEscape"], unfollowed := true, recurses := true, named := ["unicode/utf8.first", "unicode/utf8.acceptRanges"], apart := false, laid := [("unicode/utf8.acceptRanges", laid_unicode_utf8_acceptRanges), ("unicode/utf8.first", laid_unicode_utf8_first)] }
def NormPairsSaid : Prop := normPairsRow.holds Tryd.pinned (OpenSpec.ofChange normPairsSpec)

/-- ITS FALSE NEIGHBOUR: 'it returns false'. Refute it at one input. -/
def normPairsWrong : ChangeSpec := { name := "normPairs", fn := fun _ => fun
  | [d1, d2, d3] => { results := [.lit (.bool false)], args := [d1, d2, d3] }
  | _ => none }
def NormPairsWrongFalsely : Prop := normPairsRow.holds Tryd.pinned (OpenSpec.ofChange normPairsWrong)

/-- 'shuttlelaw04.NormOnce': WHATEVER THE INPUT: true; the input reads as it did. -/
def normOnceSpec : ChangeSpec := { name := "normOnce", fn := fun _ => fun
  | [d] => { results := [.lit (.bool true)], args := [d] }
  | _ => none }
def normOnceRow : OpenClaim := { program := "ytlphmcodajookaadoor", sum := "c529dbd9f8049305b7f1c5c3e9f2f43a631676c3f0e50634f7950c6ba0fbb5e0", func := "shuttle/shuttlelaw04.NormOnce", spec := "normOnce", inPlace := ["internal/abi.NoEscape"], unfollowed := true, recurses := true, named := ["unicode/utf8.first", "unicode/utf8.acceptRanges"], apart := false, laid := [("unicode/utf8.acceptRanges", laid_unicode_utf8_acceptRanges), ("unicode/utf8.first", laid_unicode_utf8_first)] }
def NormOnceSaid : Prop := normOnceRow.holds Tryd.pinned (OpenSpec.ofChange normOnceSpec)

/-- ITS FALSE NEIGHBOUR: 'it returns false'. Refute it at one input. -/
def normOnceWrong : ChangeSpec := { name := "normOnce", fn := fun _ => fun
  | [d] => { results := [.lit (.bool false)], args := [d] }
  | _ => none }
def NormOnceWrongFalsely : Prop := normOnceRow.holds Tryd.pinned (OpenSpec.ofChange normOnceWrong)

/-- 'shuttlelaw05.FoldLetters': WHATEVER THE INPUT: true; the input reads as it did. -/
def foldLettersSpec : ChangeSpec := { name := "foldLetters", fn := fun _ => fun
  | [d] => { results := [.lit (.bool true)], args := [d] }
  | _ => none }
def foldLettersRow : OpenClaim := { program := "ytlphmcodajookaadoor", sum := "c529dbd9f8049305b7f1c5c3e9f2f43a631676c3f0e50634f7950c6ba0fbb5e0", func := "shuttle/shuttlelaw05.FoldLetters", spec := "foldLetters", inPlace := ["internal/abi.NoEscape"], unfollowed := true, recurses := true, named := ["unicode/utf8.first", "unicode/utf8.acceptRanges"], apart := false, laid := [("unicode/utf8.acceptRanges", laid_unicode_utf8_acceptRanges), ("unicode/utf8.first", laid_unicode_utf8_first)] }
def FoldLettersSaid : Prop := foldLettersRow.holds Tryd.pinned (OpenSpec.ofChange foldLettersSpec)

/-- ITS FALSE NEIGHBOUR: 'it returns false'. Refute it at one input. -/
def foldLettersWrong : ChangeSpec := { name := "foldLetters", fn := fun _ => fun
  | [d] => { results := [.lit (.bool false)], args := [d] }
  | _ => none }
def FoldLettersWrongFalsely : Prop := foldLettersRow.holds Tryd.pinned (OpenSpec.ofChange foldLettersWrong)

/-- 'shuttlelaw05.FoldTexts': WHATEVER THE INPUT: true; the input reads as it did. -/
def foldTextsSpec : ChangeSpec := { name := "foldTexts", fn := fun _ => fun
  | [d1, d2] => { results := [.lit (.bool true)], args := [d1, d2] }
  | _ => none }
def foldTextsRow : OpenClaim := { program := "ytlphmcodajookaadoor", sum := "c529dbd9f8049305b7f1c5c3e9f2f43a631676c3f0e50634f7950c6ba0fbb5e0", func := "shuttle/shuttlelaw05.FoldTexts", spec := "foldTexts", inPlace := ["internal/abi.NoEscape"], unfollowed := true, recurses := true, named := ["unicode/utf8.first", "unicode/utf8.acceptRanges"], apart := false, laid := [("unicode/utf8.acceptRanges", laid_unicode_utf8_acceptRanges), ("unicode/utf8.first", laid_unicode_utf8_first)] }
def FoldTextsSaid : Prop := foldTextsRow.holds Tryd.pinned (OpenSpec.ofChange foldTextsSpec)

/-- ITS FALSE NEIGHBOUR: 'it returns false'. Refute it at one input. -/
def foldTextsWrong : ChangeSpec := { name := "foldTexts", fn := fun _ => fun
  | [d1, d2] => { results := [.lit (.bool false)], args := [d1, d2] }
  | _ => none }
def FoldTextsWrongFalsely : Prop := foldTextsRow.holds Tryd.pinned (OpenSpec.ofChange foldTextsWrong)

/-- 'shuttlelaw05.FoldSame': WHATEVER THE INPUT: true; the input reads as it did. -/
def foldSameSpec : ChangeSpec := { name := "foldSame", fn := fun _ => fun
  | [d1, d2] => { results := [.lit (.bool true)], args := [d1, d2] }
  | _ => none }
def foldSameRow : OpenClaim := { program := "ytlphmcodajookaadoor", sum := "c529dbd9f8049305b7f1c5c3e9f2f43a631676c3f0e50634f7950c6ba0fbb5e0", func := "shuttle/shuttlelaw05.FoldSame", spec := "foldSame", inPlace := ["internal/abi.NoEscape"], unfollowed := true, recurses := true, named := ["unicode/utf8.first", "unicode/utf8.acceptRanges"], apart := false, laid := [("unicode/utf8.acceptRanges", laid_unicode_utf8_acceptRanges), ("unicode/utf8.first", laid_unicode_utf8_first)] }
def FoldSameSaid : Prop := foldSameRow.holds Tryd.pinned (OpenSpec.ofChange foldSameSpec)

/-- ITS FALSE NEIGHBOUR: 'it returns false'. Refute it at one input. -/
def foldSameWrong : ChangeSpec := { name := "foldSame", fn := fun _ => fun
  | [d1, d2] => { results := [.lit (.bool false)], args := [d1, d2] }
  | _ => none }
def FoldSameWrongFalsely : Prop := foldSameRow.holds Tryd.pinned (OpenSpec.ofChange foldSameWrong)

/-- 'shuttlelaw05.FoldRunes': WHATEVER THE INPUT: true; the input reads as it did. -/
def foldRunesSpec : ChangeSpec := { name := "foldRunes", fn := fun _ => fun
  | [d1, d2] => { results := [.lit (.bool true)], args := [d1, d2] }
  | _ => none }
def foldRunesRow : OpenClaim := { program := "ytlphmcodajookaadoor", sum := "c529dbd9f8049305b7f1c5c3e9f2f43a631676c3f0e50634f7950c6ba0fbb5e0", func := "shuttle/shuttlelaw05.FoldRunes", spec := "foldRunes", inPlace := ["internal/abi.NoEscape"], unfollowed := true, recurses := true, named := ["unicode/utf8.first", "unicode/utf8.acceptRanges"], apart := false, laid := [("unicode/utf8.acceptRanges", laid_unicode_utf8_acceptRanges), ("unicode/utf8.first", laid_unicode_utf8_first)] }
def FoldRunesSaid : Prop := foldRunesRow.holds Tryd.pinned (OpenSpec.ofChange foldRunesSpec)

/-- ITS FALSE NEIGHBOUR: 'it returns false'. Refute it at one input. -/
def foldRunesWrong : ChangeSpec := { name := "foldRunes", fn := fun _ => fun
  | [d1, d2] => { results := [.lit (.bool false)], args := [d1, d2] }
  | _ => none }
def FoldRunesWrongFalsely : Prop := foldRunesRow.holds Tryd.pinned (OpenSpec.ofChange foldRunesWrong)

/-- 'shuttlelaw05.FoldLike': WHATEVER THE INPUT: true; the input reads as it did. -/
def foldLikeSpec : ChangeSpec := { name := "foldLike", fn := fun _ => fun
  | [d1, d2, d3] => { results := [.lit (.bool true)], args := [d1, d2, d3] }
  | _ => none }
def foldLikeRow : OpenClaim := { program := "ytlphmcodajookaadoor", sum := "c529dbd9f8049305b7f1c5c3e9f2f43a631676c3f0e50634f7950c6ba0fbb5e0", func := "shuttle/shuttlelaw05.FoldLike", spec := "foldLike", inPlace := ["internal/abi.NoEscape"], unfollowed := true, recurses := true, named := ["unicode/utf8.first", "unicode/utf8.acceptRanges"], apart := false, laid := [("unicode/utf8.acceptRanges", laid_unicode_utf8_acceptRanges), ("unicode/utf8.first", laid_unicode_utf8_first)] }
def FoldLikeSaid : Prop := foldLikeRow.holds Tryd.pinned (OpenSpec.ofChange foldLikeSpec)

/-- ITS FALSE NEIGHBOUR: 'it returns false'. Refute it at one input. -/
def foldLikeWrong : ChangeSpec := { name := "foldLike", fn := fun _ => fun
  | [d1, d2, d3] => { results := [.lit (.bool false)], args := [d1, d2, d3] }
  | _ => none }
def FoldLikeWrongFalsely : Prop := foldLikeRow.holds Tryd.pinned (OpenSpec.ofChange foldLikeWrong)

/-- 'shuttlelaw05.FoldPairs': WHATEVER THE INPUT: true; the input reads as it did. -/
def foldPairsSpec : ChangeSpec := { name := "foldPairs", fn := fun _ => fun
  | [d] => { results := [.lit (.bool true)], args := [d] }
  | _ => none }
def foldPairsRow : OpenClaim := { program := "ytlphmcodajookaadoor", sum := "c529dbd9f8049305b7f1c5c3e9f2f43a631676c3f0e50634f7950c6ba0fbb5e0", func := "shuttle/shuttlelaw05.FoldPairs", spec := "foldPairs", inPlace := ["internal/abi.NoEscape"], unfollowed := true, recurses := true, named := ["unicode/utf8.first", "unicode/utf8.acceptRanges"], apart := false, laid := [("unicode/utf8.acceptRanges", laid_unicode_utf8_acceptRanges), ("unicode/utf8.first", laid_unicode_utf8_first)] }
def FoldPairsSaid : Prop := foldPairsRow.holds Tryd.pinned (OpenSpec.ofChange foldPairsSpec)

/-- ITS FALSE NEIGHBOUR: 'it returns false'. Refute it at one input. -/
def foldPairsWrong : ChangeSpec := { name := "foldPairs", fn := fun _ => fun
  | [d] => { results := [.lit (.bool false)], args := [d] }
  | _ => none }
def FoldPairsWrongFalsely : Prop := foldPairsRow.holds Tryd.pinned (OpenSpec.ofChange foldPairsWrong)

/-- 'shuttlelaw05.FoldKnown': WHATEVER THE INPUT: true; the input reads as it did. -/
def foldKnownSpec : ChangeSpec := { name := "foldKnown", fn := fun _ => fun
  | [] => { results := [.lit (.bool true)], args := [] }
  | _ => none }
def foldKnownRow : OpenClaim := { program := "ytlphmcodajookaadoor", sum := "c529dbd9f8049305b7f1c5c3e9f2f43a631676c3f0e50634f7950c6ba0fbb5e0", func := "shuttle/shuttlelaw05.FoldKnown", spec := "foldKnown", inPlace := ["internal/abi.NoEscape"], unfollowed := true, recurses := true, named := ["unicode/utf8.first", "unicode/utf8.acceptRanges"], apart := false, laid := [("unicode/utf8.acceptRanges", laid_unicode_utf8_acceptRanges), ("unicode/utf8.first", laid_unicode_utf8_first)] }
def FoldKnownSaid : Prop := foldKnownRow.holds Tryd.pinned (OpenSpec.ofChange foldKnownSpec)

/-- ITS FALSE NEIGHBOUR: 'it returns false'. Refute it at one input. -/
def foldKnownWrong : ChangeSpec := { name := "foldKnown", fn := fun _ => fun
  | [] => { results := [.lit (.bool false)], args := [] }
  | _ => none }
def FoldKnownWrongFalsely : Prop := foldKnownRow.holds Tryd.pinned (OpenSpec.ofChange foldKnownWrong)

/-- 'shuttlelaw05.FoldBytes': WHATEVER THE INPUT: true; the input reads as it did. -/
def foldBytesSpec : ChangeSpec := { name := "foldBytes", fn := fun _ => fun
  | [d1, d2] => { results := [.lit (.bool true)], args := [d1, d2] }
  | _ => none }
def foldBytesRow : OpenClaim := { program := "ytlphmcodajookaadoor", sum := "c529dbd9f8049305b7f1c5c3e9f2f43a631676c3f0e50634f7950c6ba0fbb5e0", func := "shuttle/shuttlelaw05.FoldBytes", spec := "foldBytes", inPlace := ["internal/abi.NoEscape"], unfollowed := true, recurses := true, named := ["unicode/utf8.first", "unicode/utf8.acceptRanges"], apart := false, laid := [("unicode/utf8.acceptRanges", laid_unicode_utf8_acceptRanges), ("unicode/utf8.first", laid_unicode_utf8_first)] }
def FoldBytesSaid : Prop := foldBytesRow.holds Tryd.pinned (OpenSpec.ofChange foldBytesSpec)

/-- ITS FALSE NEIGHBOUR: 'it returns false'. Refute it at one input. -/
def foldBytesWrong : ChangeSpec := { name := "foldBytes", fn := fun _ => fun
  | [d1, d2] => { results := [.lit (.bool false)], args := [d1, d2] }
  | _ => none }
def FoldBytesWrongFalsely : Prop := foldBytesRow.holds Tryd.pinned (OpenSpec.ofChange foldBytesWrong)

/-- 'shuttlelaw05.FoldOnce': WHATEVER THE INPUT: true; the input reads as it did. -/
def foldOnceSpec : ChangeSpec := { name := "foldOnce", fn := fun _ => fun
  | [d] => { results := [.lit (.bool true)], args := [d] }
  | _ => none }
def foldOnceRow : OpenClaim := { program := "ytlphmcodajookaadoor", sum := "c529dbd9f8049305b7f1c5c3e9f2f43a631676c3f0e50634f7950c6ba0fbb5e0", func := "shuttle/shuttlelaw05.FoldOnce", spec := "foldOnce", inPlace := ["internal/abi.NoEscape"], unfollowed := true, recurses := true, named := ["unicode/utf8.first", "unicode/utf8.acceptRanges"], apart := false, laid := [("unicode/utf8.acceptRanges", laid_unicode_utf8_acceptRanges), ("unicode/utf8.first", laid_unicode_utf8_first)] }
def FoldOnceSaid : Prop := foldOnceRow.holds Tryd.pinned (OpenSpec.ofChange foldOnceSpec)

/-- ITS FALSE NEIGHBOUR: 'it returns false'. Refute it at one input. -/
def foldOnceWrong : ChangeSpec := { name := "foldOnce", fn := fun _ => fun
  | [d] => { results := [.lit (.bool false)], args := [d] }
  | _ => none }
def FoldOnceWrongFalsely : Prop := foldOnceRow.holds Tryd.pinned (OpenSpec.ofChange foldOnceWrong)

/- THE SECOND FORM. 'bulk': how many values and letters a reading holds, each counted each time it is reached (what is shared counts as often as it is met; a slice's spare places count too). A statement '..UptoSaid' is the law's where the arguments, and the package variables that the reading takes, are together of bulk at most 1048576: NARROWER than '..Said'. Prove '..Said' where nothing that the law and all that it calls make is longer than what came in: it says more and counts as full. Else prove '..UptoSaid'. A law counts once. -/
mutual
def uptoBulk {H : Type} : DataW H → Nat
  | .lit (.string bytes) => bytes.length + 1
  | .lit _ => 1
  | .nil => 1
  | .ptr d => uptoBulk d + 1
  | .slice elems spare => uptoBulkAll elems + uptoBulkAll spare + 1
  | .agg parts => uptoBulkAll parts + 1
  | .iface _ d => uptoBulk d + 1
  | .map entries => uptoBulkEntries entries + 1
  | .held _ => 1
def uptoBulkAll {H : Type} : List (DataW H) → Nat
  | [] => 0
  | d :: r => uptoBulk d + uptoBulkAll r
def uptoBulkEntries {H : Type} : List (Lit × DataW H) → Nat
  | [] => 0
  | x :: r => uptoBulkEntry x + uptoBulkEntries r
def uptoBulkEntry {H : Type} : Lit × DataW H → Nat
  | (.string bytes, d) => bytes.length + uptoBulk d + 1
  | (_, d) => uptoBulk d + 1
 end
def uptoSmall : (H : Type) → List (DataW H) → Bool := fun _ ds => decide (uptoBulkAll ds ≤ 1048576)
def OpenSpec.upto (s : _root_.Go.ChangeSpec) : _root_.Go.OpenSpec := { _root_.Go.OpenSpec.ofChange s with cond := some uptoSmall }

/-- 'shuttlelaw04.NormLetters', WHERE WHAT IT READS IS OF BULK AT MOST 1048576: true; the input reads as it did. -/
def normLettersUptoRow : OpenClaim := { program := "ytlphmcodajookaadoor", sum := "c529dbd9f8049305b7f1c5c3e9f2f43a631676c3f0e50634f7950c6ba0fbb5e0", func := "shuttle/shuttlelaw04.NormLetters", spec := "normLetters", inPlace := ["internal/abi.NoEscape"], unfollowed := true, recurses := true, named := ["unicode/utf8.first", "unicode/utf8.acceptRanges"], apart := false, laid := [("unicode/utf8.acceptRanges", laid_unicode_utf8_acceptRanges), ("unicode/utf8.first", laid_unicode_utf8_first)], narrowed := true }
def NormLettersUptoSaid : Prop := normLettersUptoRow.holds Tryd.pinned (OpenSpec.upto normLettersSpec)

/-- 'shuttlelaw04.NormOrder', WHERE WHAT IT READS IS OF BULK AT MOST 1048576: true; the input reads as it did. -/
def normOrderUptoRow : OpenClaim := { program := "ytlphmcodajookaadoor", sum := "c529dbd9f8049305b7f1c5c3e9f2f43a631676c3f0e50634f7950c6ba0fbb5e0", func := "shuttle/shuttlelaw04.NormOrder", spec := "normOrder", inPlace := ["internal/abi.NoEscape"], unfollowed := true, recurses := true, named := ["unicode/utf8.first", "unicode/utf8.acceptRanges"], apart := false, laid := [("unicode/utf8.acceptRanges", laid_unicode_utf8_acceptRanges), ("unicode/utf8.first", laid_unicode_utf8_first)], narrowed := true }
def NormOrderUptoSaid : Prop := normOrderUptoRow.holds Tryd.pinned (OpenSpec.upto normOrderSpec)

/-- 'shuttlelaw04.NormForms', WHERE WHAT IT READS IS OF BULK AT MOST 1048576: true; the input reads as it did. -/
def normFormsUptoRow : OpenClaim := { program := "ytlphmcodajookaadoor", sum := "c529dbd9f8049305b7f1c5c3e9f2f43a631676c3f0e50634f7950c6ba0fbb5e0", func := "shuttle/shuttlelaw04.NormForms", spec := "normForms", inPlace := ["internal/abi.NoEscape"], unfollowed := true, recurses := true, named := ["unicode/utf8.first", "unicode/utf8.acceptRanges"], apart := false, laid := [("unicode/utf8.acceptRanges", laid_unicode_utf8_acceptRanges), ("unicode/utf8.first", laid_unicode_utf8_first)], narrowed := true }
def NormFormsUptoSaid : Prop := normFormsUptoRow.holds Tryd.pinned (OpenSpec.upto normFormsSpec)

/-- 'shuttlelaw04.NormSame', WHERE WHAT IT READS IS OF BULK AT MOST 1048576: true; the input reads as it did. -/
def normSameUptoRow : OpenClaim := { program := "ytlphmcodajookaadoor", sum := "c529dbd9f8049305b7f1c5c3e9f2f43a631676c3f0e50634f7950c6ba0fbb5e0", func := "shuttle/shuttlelaw04.NormSame", spec := "normSame", inPlace := ["internal/abi.NoEscape"], unfollowed := true, recurses := true, named := ["unicode/utf8.first", "unicode/utf8.acceptRanges"], apart := false, laid := [("unicode/utf8.acceptRanges", laid_unicode_utf8_acceptRanges), ("unicode/utf8.first", laid_unicode_utf8_first)], narrowed := true }
def NormSameUptoSaid : Prop := normSameUptoRow.holds Tryd.pinned (OpenSpec.upto normSameSpec)

/-- 'shuttlelaw04.NormEach', WHERE WHAT IT READS IS OF BULK AT MOST 1048576: true; the input reads as it did. -/
def normEachUptoRow : OpenClaim := { program := "ytlphmcodajookaadoor", sum := "c529dbd9f8049305b7f1c5c3e9f2f43a631676c3f0e50634f7950c6ba0fbb5e0", func := "shuttle/shuttlelaw04.NormEach", spec := "normEach", inPlace := ["internal/abi.NoEscape"], unfollowed := true, recurses := true, named := ["unicode/utf8.first", "unicode/utf8.acceptRanges"], apart := false, laid := [("unicode/utf8.acceptRanges", laid_unicode_utf8_acceptRanges), ("unicode/utf8.first", laid_unicode_utf8_first)], narrowed := true }
def NormEachUptoSaid : Prop := normEachUptoRow.holds Tryd.pinned (OpenSpec.upto normEachSpec)

/-- 'shuttlelaw04.NormAlike', WHERE WHAT IT READS IS OF BULK AT MOST 1048576: true; the input reads as it did. -/
def normAlikeUptoRow : OpenClaim := { program := "ytlphmcodajookaadoor", sum := "c529dbd9f8049305b7f1c5c3e9f2f43a631676c3f0e50634f7950c6ba0fbb5e0", func := "shuttle/shuttlelaw04.NormAlike", spec := "normAlike", inPlace := ["internal/abi.NoEscape"], unfollowed := true, recurses := true, named := ["unicode/utf8.first", "unicode/utf8.acceptRanges"], apart := false, laid := [("unicode/utf8.acceptRanges", laid_unicode_utf8_acceptRanges), ("unicode/utf8.first", laid_unicode_utf8_first)], narrowed := true }
def NormAlikeUptoSaid : Prop := normAlikeUptoRow.holds Tryd.pinned (OpenSpec.upto normAlikeSpec)

/-- 'shuttlelaw04.NormParts', WHERE WHAT IT READS IS OF BULK AT MOST 1048576: true; the input reads as it did. -/
def normPartsUptoRow : OpenClaim := { program := "ytlphmcodajookaadoor", sum := "c529dbd9f8049305b7f1c5c3e9f2f43a631676c3f0e50634f7950c6ba0fbb5e0", func := "shuttle/shuttlelaw04.NormParts", spec := "normParts", inPlace := ["internal/abi.NoEscape"], unfollowed := true, recurses := true, named := ["unicode/utf8.first", "unicode/utf8.acceptRanges"], apart := false, laid := [("unicode/utf8.acceptRanges", laid_unicode_utf8_acceptRanges), ("unicode/utf8.first", laid_unicode_utf8_first)], narrowed := true }
def NormPartsUptoSaid : Prop := normPartsUptoRow.holds Tryd.pinned (OpenSpec.upto normPartsSpec)

/-- 'shuttlelaw04.NormPairs', WHERE WHAT IT READS IS OF BULK AT MOST 1048576: true; the input reads as it did. -/
def normPairsUptoRow : OpenClaim := { program := "ytlphmcodajookaadoor", sum := "c529dbd9f8049305b7f1c5c3e9f2f43a631676c3f0e50634f7950c6ba0fbb5e0", func := "shuttle/shuttlelaw04.NormPairs", spec := "normPairs", inPlace := ["internal/abi.NoEscape"], unfollowed := true, recurses := true, named := ["unicode/utf8.first", "unicode/utf8.acceptRanges"], apart := false, laid := [("unicode/utf8.acceptRanges", laid_unicode_utf8_acceptRanges), ("unicode/utf8.first", laid_unicode_utf8_first)], narrowed := true }
def NormPairsUptoSaid : Prop := normPairsUptoRow.holds Tryd.pinned (OpenSpec.upto normPairsSpec)

/-- 'shuttlelaw04.NormOnce', WHERE WHAT IT READS IS OF BULK AT MOST 1048576: true; the input reads as it did. -/
def normOnceUptoRow : OpenClaim := { program := "ytlphmcodajookaadoor", sum := "c529dbd9f8049305b7f1c5c3e9f2f43a631676c3f0e50634f7950c6ba0fbb5e0", func := "shuttle/shuttlelaw04.NormOnce", spec := "normOnce", inPlace := ["internal/abi.NoEscape"], unfollowed := true, recurses := true, named := ["unicode/utf8.first", "unicode/utf8.acceptRanges"], apart := false, laid := [("unicode/utf8.acceptRanges", laid_unicode_utf8_acceptRanges), ("unicode/utf8.first", laid_unicode_utf8_first)], narrowed := true }
def NormOnceUptoSaid : Prop := normOnceUptoRow.holds Tryd.pinned (OpenSpec.upto normOnceSpec)

/-- 'shuttlelaw05.FoldLetters', WHERE WHAT IT READS IS OF BULK AT MOST 1048576: true; the input reads as it did. -/
def foldLettersUptoRow : OpenClaim := { program := "ytlphmcodajookaadoor", sum := "c529dbd9f8049305b7f1c5c3e9f2f43a631676c3f0e50634f7950c6ba0fbb5e0", func := "shuttle/shuttlelaw05.FoldLetters", spec := "foldLetters", inPlace := ["internal/abi.NoEscape"], unfollowed := true, recurses := true, named := ["unicode/utf8.first", "unicode/utf8.acceptRanges"], apart := false, laid := [("unicode/utf8.acceptRanges", laid_unicode_utf8_acceptRanges), ("unicode/utf8.first", laid_unicode_utf8_first)], narrowed := true }
def FoldLettersUptoSaid : Prop := foldLettersUptoRow.holds Tryd.pinned (OpenSpec.upto foldLettersSpec)

/-- 'shuttlelaw05.FoldTexts', WHERE WHAT IT READS IS OF BULK AT MOST 1048576: true; the input reads as it did. -/
def foldTextsUptoRow : OpenClaim := { program := "ytlphmcodajookaadoor", sum := "c529dbd9f8049305b7f1c5c3e9f2f43a631676c3f0e50634f7950c6ba0fbb5e0", func := "shuttle/shuttlelaw05.FoldTexts", spec := "foldTexts", inPlace := ["internal/abi.NoEscape"], unfollowed := true, recurses := true, named := ["unicode/utf8.first", "unicode/utf8.acceptRanges"], apart := false, laid := [("unicode/utf8.acceptRanges", laid_unicode_utf8_acceptRanges), ("unicode/utf8.first", laid_unicode_utf8_first)], narrowed := true }
def FoldTextsUptoSaid : Prop := foldTextsUptoRow.holds Tryd.pinned (OpenSpec.upto foldTextsSpec)

/-- 'shuttlelaw05.FoldSame', WHERE WHAT IT READS IS OF BULK AT MOST 1048576: true; the input reads as it did. -/
def foldSameUptoRow : OpenClaim := { program := "ytlphmcodajookaadoor", sum := "c529dbd9f8049305b7f1c5c3e9f2f43a631676c3f0e50634f7950c6ba0fbb5e0", func := "shuttle/shuttlelaw05.FoldSame", spec := "foldSame", inPlace := ["internal/abi.NoEscape"], unfollowed := true, recurses := true, named := ["unicode/utf8.first", "unicode/utf8.acceptRanges"], apart := false, laid := [("unicode/utf8.acceptRanges", laid_unicode_utf8_acceptRanges), ("unicode/utf8.first", laid_unicode_utf8_first)], narrowed := true }
def FoldSameUptoSaid : Prop := foldSameUptoRow.holds Tryd.pinned (OpenSpec.upto foldSameSpec)

/-- 'shuttlelaw05.FoldRunes', WHERE WHAT IT READS IS OF BULK AT MOST 1048576: true; the input reads as it did. -/
def foldRunesUptoRow : OpenClaim := { program := "ytlphmcodajookaadoor", sum := "c529dbd9f8049305b7f1c5c3e9f2f43a631676c3f0e50634f7950c6ba0fbb5e0", func := "shuttle/shuttlelaw05.FoldRunes", spec := "foldRunes", inPlace := ["internal/abi.NoEscape"], unfollowed := true, recurses := true, named := ["unicode/utf8.first", "unicode/utf8.acceptRanges"], apart := false, laid := [("unicode/utf8.acceptRanges", laid_unicode_utf8_acceptRanges), ("unicode/utf8.first", laid_unicode_utf8_first)], narrowed := true }
def FoldRunesUptoSaid : Prop := foldRunesUptoRow.holds Tryd.pinned (OpenSpec.upto foldRunesSpec)

/-- 'shuttlelaw05.FoldLike', WHERE WHAT IT READS IS OF BULK AT MOST 1048576: true; the input reads as it did. -/
def foldLikeUptoRow : OpenClaim := { program := "ytlphmcodajookaadoor", sum := "c529dbd9f8049305b7f1c5c3e9f2f43a631676c3f0e50634f7950c6ba0fbb5e0", func := "shuttle/shuttlelaw05.FoldLike", spec := "foldLike", inPlace := ["internal/abi.NoEscape"], unfollowed := true, recurses := true, named := ["unicode/utf8.first", "unicode/utf8.acceptRanges"], apart := false, laid := [("unicode/utf8.acceptRanges", laid_unicode_utf8_acceptRanges), ("unicode/utf8.first", laid_unicode_utf8_first)], narrowed := true }
def FoldLikeUptoSaid : Prop := foldLikeUptoRow.holds Tryd.pinned (OpenSpec.upto foldLikeSpec)

/-- 'shuttlelaw05.FoldPairs', WHERE WHAT IT READS IS OF BULK AT MOST 1048576: true; the input reads as it did. -/
def foldPairsUptoRow : OpenClaim := { program := "ytlphmcodajookaadoor", sum := "c529dbd9f8049305b7f1c5c3e9f2f43a631676c3f0e50634f7950c6ba0fbb5e0", func := "shuttle/shuttlelaw05.FoldPairs", spec := "foldPairs", inPlace := ["internal/abi.NoEscape"], unfollowed := true, recurses := true, named := ["unicode/utf8.first", "unicode/utf8.acceptRanges"], apart := false, laid := [("unicode/utf8.acceptRanges", laid_unicode_utf8_acceptRanges), ("unicode/utf8.first", laid_unicode_utf8_first)], narrowed := true }
def FoldPairsUptoSaid : Prop := foldPairsUptoRow.holds Tryd.pinned (OpenSpec.upto foldPairsSpec)

/-- 'shuttlelaw05.FoldKnown', WHERE WHAT IT READS IS OF BULK AT MOST 1048576: true; the input reads as it did. -/
def foldKnownUptoRow : OpenClaim := { program := "ytlphmcodajookaadoor", sum := "c529dbd9f8049305b7f1c5c3e9f2f43a631676c3f0e50634f7950c6ba0fbb5e0", func := "shuttle/shuttlelaw05.FoldKnown", spec := "foldKnown", inPlace := ["internal/abi.NoEscape"], unfollowed := true, recurses := true, named := ["unicode/utf8.first", "unicode/utf8.acceptRanges"], apart := false, laid := [("unicode/utf8.acceptRanges", laid_unicode_utf8_acceptRanges), ("unicode/utf8.first", laid_unicode_utf8_first)], narrowed := true }
def FoldKnownUptoSaid : Prop := foldKnownUptoRow.holds Tryd.pinned (OpenSpec.upto foldKnownSpec)

/-- 'shuttlelaw05.FoldBytes', WHERE WHAT IT READS IS OF BULK AT MOST 1048576: true; the input reads as it did. -/
def foldBytesUptoRow : OpenClaim := { program := "ytlphmcodajookaadoor", sum := "c529dbd9f8049305b7f1c5c3e9f2f43a631676c3f0e50634f7950c6ba0fbb5e0", func := "shuttle/shuttlelaw05.FoldBytes", spec := "foldBytes", inPlace := ["internal/abi.NoEscape"], unfollowed := true, recurses := true, named := ["unicode/utf8.first", "unicode/utf8.acceptRanges"], apart := false, laid := [("unicode/utf8.acceptRanges", laid_unicode_utf8_acceptRanges), ("unicode/utf8.first", laid_unicode_utf8_first)], narrowed := true }
def FoldBytesUptoSaid : Prop := foldBytesUptoRow.holds Tryd.pinned (OpenSpec.upto foldBytesSpec)

/-- 'shuttlelaw05.FoldOnce', WHERE WHAT IT READS IS OF BULK AT MOST 1048576: true; the input reads as it did. -/
def foldOnceUptoRow : OpenClaim := { program := "ytlphmcodajookaadoor", sum := "c529dbd9f8049305b7f1c5c3e9f2f43a631676c3f0e50634f7950c6ba0fbb5e0", func := "shuttle/shuttlelaw05.FoldOnce", spec := "foldOnce", inPlace := ["internal/abi.NoEscape"], unfollowed := true, recurses := true, named := ["unicode/utf8.first", "unicode/utf8.acceptRanges"], apart := false, laid := [("unicode/utf8.acceptRanges", laid_unicode_utf8_acceptRanges), ("unicode/utf8.first", laid_unicode_utf8_first)], narrowed := true }
def FoldOnceUptoSaid : Prop := foldOnceUptoRow.holds Tryd.pinned (OpenSpec.upto foldOnceSpec)

end Rows
end Go.Proofs.YtlphmcodajookaaDoor
