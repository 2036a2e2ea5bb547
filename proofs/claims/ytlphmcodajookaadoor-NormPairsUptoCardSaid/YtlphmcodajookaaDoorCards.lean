/-
  DERIVED. GIVEN WITH THE SEED: THE CARDS: each row of YtlphmcodajookaaDoorRows.lean that lists a variable, with what it lists TIED to the program's text (the seventh form; the later family's looks); each row that meets fmt, with fmt's text TOLD by the authors' own Lean function (tested against real Go, not proved from fmt's source: count such statements apart). THE CARD IS WHAT COUNTS. Prove the row's statement (the work); the ties are given (YtlphmcodajookaaDoorTie.lean); close each card by the builder's one call (the guide's Derived/Test/ToyasCard.lean, 'card_holds'). Laid BY PROGRAM, IN A SANDBOX (cutbox-door.mjs). By AI agents, Wed Nov 11 2026. No macro, syntax, notation, axiom, sorry.
-/
import Derived.Test.YtlphmcodajookaaDoorRows
import GoSem.ClaimSeven
namespace Go.Proofs.YtlphmcodajookaaDoor
namespace Rows

/-- THE TIED CARD OF 'shuttlelaw04.NormLetters'. -/
def normLettersCard : Claim7 := { stood := { row := normLettersRow, standIns := [], harness := (true, "e19f326791202f700d5e8e08682dfd1e7929f717ad0e46618508c9c38d59d323"), looks := false }, kinds := [], alts := [], laidByText := true, laidKinds := [.data, .pinned], laidTests := true, laidLooks := .later }
def NormLettersCardSaid : Prop := Claim7.holds Tryd.pinned (.plain (OpenSpec.ofChange normLettersSpec)) normLettersCard

/-- THE TIED CARD OF 'shuttlelaw04.NormOrder'. -/
def normOrderCard : Claim7 := { stood := { row := normOrderRow, standIns := [], harness := (true, "e19f326791202f700d5e8e08682dfd1e7929f717ad0e46618508c9c38d59d323"), looks := false }, kinds := [], alts := [], laidByText := true, laidKinds := [.data, .pinned], laidTests := true, laidLooks := .later }
def NormOrderCardSaid : Prop := Claim7.holds Tryd.pinned (.plain (OpenSpec.ofChange normOrderSpec)) normOrderCard

/-- THE TIED CARD OF 'shuttlelaw04.NormForms'. -/
def normFormsCard : Claim7 := { stood := { row := normFormsRow, standIns := [], harness := (true, "e19f326791202f700d5e8e08682dfd1e7929f717ad0e46618508c9c38d59d323"), looks := false }, kinds := [], alts := [], laidByText := true, laidKinds := [.data, .pinned], laidTests := true, laidLooks := .later }
def NormFormsCardSaid : Prop := Claim7.holds Tryd.pinned (.plain (OpenSpec.ofChange normFormsSpec)) normFormsCard

/-- THE TIED CARD OF 'shuttlelaw04.NormSame'. -/
def normSameCard : Claim7 := { stood := { row := normSameRow, standIns := [], harness := (true, "e19f326791202f700d5e8e08682dfd1e7929f717ad0e46618508c9c38d59d323"), looks := false }, kinds := [], alts := [], laidByText := true, laidKinds := [.data, .pinned], laidTests := true, laidLooks := .later }
def NormSameCardSaid : Prop := Claim7.holds Tryd.pinned (.plain (OpenSpec.ofChange normSameSpec)) normSameCard

/-- THE TIED CARD OF 'shuttlelaw04.NormEach'. -/
def normEachCard : Claim7 := { stood := { row := normEachRow, standIns := [], harness := (true, "e19f326791202f700d5e8e08682dfd1e7929f717ad0e46618508c9c38d59d323"), looks := false }, kinds := [], alts := [], laidByText := true, laidKinds := [.data, .pinned], laidTests := true, laidLooks := .later }
def NormEachCardSaid : Prop := Claim7.holds Tryd.pinned (.plain (OpenSpec.ofChange normEachSpec)) normEachCard

/-- THE TIED CARD OF 'shuttlelaw04.NormAlike'. -/
def normAlikeCard : Claim7 := { stood := { row := normAlikeRow, standIns := [], harness := (true, "e19f326791202f700d5e8e08682dfd1e7929f717ad0e46618508c9c38d59d323"), looks := false }, kinds := [], alts := [], laidByText := true, laidKinds := [.data, .pinned], laidTests := true, laidLooks := .later }
def NormAlikeCardSaid : Prop := Claim7.holds Tryd.pinned (.plain (OpenSpec.ofChange normAlikeSpec)) normAlikeCard

/-- THE TIED CARD OF 'shuttlelaw04.NormParts'. -/
def normPartsCard : Claim7 := { stood := { row := normPartsRow, standIns := [], harness := (true, "e19f326791202f700d5e8e08682dfd1e7929f717ad0e46618508c9c38d59d323"), looks := false }, kinds := [], alts := [], laidByText := true, laidKinds := [.data, .pinned], laidTests := true, laidLooks := .later }
def NormPartsCardSaid : Prop := Claim7.holds Tryd.pinned (.plain (OpenSpec.ofChange normPartsSpec)) normPartsCard

/-- THE TIED CARD OF 'shuttlelaw04.NormPairs'. -/
def normPairsCard : Claim7 := { stood := { row := normPairsRow, standIns := [], harness := (true, "e19f326791202f700d5e8e08682dfd1e7929f717ad0e46618508c9c38d59d323"), looks := false }, kinds := [], alts := [], laidByText := true, laidKinds := [.data, .pinned], laidTests := true, laidLooks := .later }
def NormPairsCardSaid : Prop := Claim7.holds Tryd.pinned (.plain (OpenSpec.ofChange normPairsSpec)) normPairsCard

/-- THE TIED CARD OF 'shuttlelaw04.NormOnce'. -/
def normOnceCard : Claim7 := { stood := { row := normOnceRow, standIns := [], harness := (true, "e19f326791202f700d5e8e08682dfd1e7929f717ad0e46618508c9c38d59d323"), looks := false }, kinds := [], alts := [], laidByText := true, laidKinds := [.data, .pinned], laidTests := true, laidLooks := .later }
def NormOnceCardSaid : Prop := Claim7.holds Tryd.pinned (.plain (OpenSpec.ofChange normOnceSpec)) normOnceCard

/-- THE TIED CARD OF 'shuttlelaw05.FoldLetters'. -/
def foldLettersCard : Claim7 := { stood := { row := foldLettersRow, standIns := [], harness := (true, "e19f326791202f700d5e8e08682dfd1e7929f717ad0e46618508c9c38d59d323"), looks := false }, kinds := [], alts := [], laidByText := true, laidKinds := [.data, .pinned], laidTests := true, laidLooks := .later }
def FoldLettersCardSaid : Prop := Claim7.holds Tryd.pinned (.plain (OpenSpec.ofChange foldLettersSpec)) foldLettersCard

/-- THE TIED CARD OF 'shuttlelaw05.FoldTexts'. -/
def foldTextsCard : Claim7 := { stood := { row := foldTextsRow, standIns := [], harness := (true, "e19f326791202f700d5e8e08682dfd1e7929f717ad0e46618508c9c38d59d323"), looks := false }, kinds := [], alts := [], laidByText := true, laidKinds := [.data, .pinned], laidTests := true, laidLooks := .later }
def FoldTextsCardSaid : Prop := Claim7.holds Tryd.pinned (.plain (OpenSpec.ofChange foldTextsSpec)) foldTextsCard

/-- THE TIED CARD OF 'shuttlelaw05.FoldSame'. -/
def foldSameCard : Claim7 := { stood := { row := foldSameRow, standIns := [], harness := (true, "e19f326791202f700d5e8e08682dfd1e7929f717ad0e46618508c9c38d59d323"), looks := false }, kinds := [], alts := [], laidByText := true, laidKinds := [.data, .pinned], laidTests := true, laidLooks := .later }
def FoldSameCardSaid : Prop := Claim7.holds Tryd.pinned (.plain (OpenSpec.ofChange foldSameSpec)) foldSameCard

/-- THE TIED CARD OF 'shuttlelaw05.FoldRunes'. -/
def foldRunesCard : Claim7 := { stood := { row := foldRunesRow, standIns := [], harness := (true, "e19f326791202f700d5e8e08682dfd1e7929f717ad0e46618508c9c38d59d323"), looks := false }, kinds := [], alts := [], laidByText := true, laidKinds := [.data, .pinned], laidTests := true, laidLooks := .later }
def FoldRunesCardSaid : Prop := Claim7.holds Tryd.pinned (.plain (OpenSpec.ofChange foldRunesSpec)) foldRunesCard

/-- THE TIED CARD OF 'shuttlelaw05.FoldLike'. -/
def foldLikeCard : Claim7 := { stood := { row := foldLikeRow, standIns := [], harness := (true, "e19f326791202f700d5e8e08682dfd1e7929f717ad0e46618508c9c38d59d323"), looks := false }, kinds := [], alts := [], laidByText := true, laidKinds := [.data, .pinned], laidTests := true, laidLooks := .later }
def FoldLikeCardSaid : Prop := Claim7.holds Tryd.pinned (.plain (OpenSpec.ofChange foldLikeSpec)) foldLikeCard

/-- THE TIED CARD OF 'shuttlelaw05.FoldPairs'. -/
def foldPairsCard : Claim7 := { stood := { row := foldPairsRow, standIns := [], harness := (true, "e19f326791202f700d5e8e08682dfd1e7929f717ad0e46618508c9c38d59d323"), looks := false }, kinds := [], alts := [], laidByText := true, laidKinds := [.data, .pinned], laidTests := true, laidLooks := .later }
def FoldPairsCardSaid : Prop := Claim7.holds Tryd.pinned (.plain (OpenSpec.ofChange foldPairsSpec)) foldPairsCard

/-- THE TIED CARD OF 'shuttlelaw05.FoldKnown'. -/
def foldKnownCard : Claim7 := { stood := { row := foldKnownRow, standIns := [], harness := (true, "e19f326791202f700d5e8e08682dfd1e7929f717ad0e46618508c9c38d59d323"), looks := false }, kinds := [], alts := [], laidByText := true, laidKinds := [.data, .pinned], laidTests := true, laidLooks := .later }
def FoldKnownCardSaid : Prop := Claim7.holds Tryd.pinned (.plain (OpenSpec.ofChange foldKnownSpec)) foldKnownCard

/-- THE TIED CARD OF 'shuttlelaw05.FoldBytes'. -/
def foldBytesCard : Claim7 := { stood := { row := foldBytesRow, standIns := [], harness := (true, "e19f326791202f700d5e8e08682dfd1e7929f717ad0e46618508c9c38d59d323"), looks := false }, kinds := [], alts := [], laidByText := true, laidKinds := [.data, .pinned], laidTests := true, laidLooks := .later }
def FoldBytesCardSaid : Prop := Claim7.holds Tryd.pinned (.plain (OpenSpec.ofChange foldBytesSpec)) foldBytesCard

/-- THE TIED CARD OF 'shuttlelaw05.FoldOnce'. -/
def foldOnceCard : Claim7 := { stood := { row := foldOnceRow, standIns := [], harness := (true, "e19f326791202f700d5e8e08682dfd1e7929f717ad0e46618508c9c38d59d323"), looks := false }, kinds := [], alts := [], laidByText := true, laidKinds := [.data, .pinned], laidTests := true, laidLooks := .later }
def FoldOnceCardSaid : Prop := Claim7.holds Tryd.pinned (.plain (OpenSpec.ofChange foldOnceSpec)) foldOnceCard

/-- THE SECOND FORM's CARD OF 'shuttlelaw04.NormLetters'. -/
def normLettersUptoCard : Claim7 := { stood := { row := normLettersUptoRow, standIns := [], harness := (true, "e19f326791202f700d5e8e08682dfd1e7929f717ad0e46618508c9c38d59d323"), looks := false }, kinds := [], alts := [], laidByText := true, laidKinds := [.data, .pinned], laidTests := true, laidLooks := .later }
def NormLettersUptoCardSaid : Prop := Claim7.holds Tryd.pinned (.plain (OpenSpec.upto normLettersSpec)) normLettersUptoCard

/-- THE SECOND FORM's CARD OF 'shuttlelaw04.NormOrder'. -/
def normOrderUptoCard : Claim7 := { stood := { row := normOrderUptoRow, standIns := [], harness := (true, "e19f326791202f700d5e8e08682dfd1e7929f717ad0e46618508c9c38d59d323"), looks := false }, kinds := [], alts := [], laidByText := true, laidKinds := [.data, .pinned], laidTests := true, laidLooks := .later }
def NormOrderUptoCardSaid : Prop := Claim7.holds Tryd.pinned (.plain (OpenSpec.upto normOrderSpec)) normOrderUptoCard

/-- THE SECOND FORM's CARD OF 'shuttlelaw04.NormForms'. -/
def normFormsUptoCard : Claim7 := { stood := { row := normFormsUptoRow, standIns := [], harness := (true, "e19f326791202f700d5e8e08682dfd1e7929f717ad0e46618508c9c38d59d323"), looks := false }, kinds := [], alts := [], laidByText := true, laidKinds := [.data, .pinned], laidTests := true, laidLooks := .later }
def NormFormsUptoCardSaid : Prop := Claim7.holds Tryd.pinned (.plain (OpenSpec.upto normFormsSpec)) normFormsUptoCard

/-- THE SECOND FORM's CARD OF 'shuttlelaw04.NormSame'. -/
def normSameUptoCard : Claim7 := { stood := { row := normSameUptoRow, standIns := [], harness := (true, "e19f326791202f700d5e8e08682dfd1e7929f717ad0e46618508c9c38d59d323"), looks := false }, kinds := [], alts := [], laidByText := true, laidKinds := [.data, .pinned], laidTests := true, laidLooks := .later }
def NormSameUptoCardSaid : Prop := Claim7.holds Tryd.pinned (.plain (OpenSpec.upto normSameSpec)) normSameUptoCard

/-- THE SECOND FORM's CARD OF 'shuttlelaw04.NormEach'. -/
def normEachUptoCard : Claim7 := { stood := { row := normEachUptoRow, standIns := [], harness := (true, "e19f326791202f700d5e8e08682dfd1e7929f717ad0e46618508c9c38d59d323"), looks := false }, kinds := [], alts := [], laidByText := true, laidKinds := [.data, .pinned], laidTests := true, laidLooks := .later }
def NormEachUptoCardSaid : Prop := Claim7.holds Tryd.pinned (.plain (OpenSpec.upto normEachSpec)) normEachUptoCard

/-- THE SECOND FORM's CARD OF 'shuttlelaw04.NormAlike'. -/
def normAlikeUptoCard : Claim7 := { stood := { row := normAlikeUptoRow, standIns := [], harness := (true, "e19f326791202f700d5e8e08682dfd1e7929f717ad0e46618508c9c38d59d323"), looks := false }, kinds := [], alts := [], laidByText := true, laidKinds := [.data, .pinned], laidTests := true, laidLooks := .later }
def NormAlikeUptoCardSaid : Prop := Claim7.holds Tryd.pinned (.plain (OpenSpec.upto normAlikeSpec)) normAlikeUptoCard

/-- THE SECOND FORM's CARD OF 'shuttlelaw04.NormParts'. -/
def normPartsUptoCard : Claim7 := { stood := { row := normPartsUptoRow, standIns := [], harness := (true, "e19f326791202f700d5e8e08682dfd1e7929f717ad0e46618508c9c38d59d323"), looks := false }, kinds := [], alts := [], laidByText := true, laidKinds := [.data, .pinned], laidTests := true, laidLooks := .later }
def NormPartsUptoCardSaid : Prop := Claim7.holds Tryd.pinned (.plain (OpenSpec.upto normPartsSpec)) normPartsUptoCard

/-- THE SECOND FORM's CARD OF 'shuttlelaw04.NormPairs'. -/
def normPairsUptoCard : Claim7 := { stood := { row := normPairsUptoRow, standIns := [], harness := (true, "e19f326791202f700d5e8e08682dfd1e7929f717ad0e46618508c9c38d59d323"), looks := false }, kinds := [], alts := [], laidByText := true, laidKinds := [.data, .pinned], laidTests := true, laidLooks := .later }
def NormPairsUptoCardSaid : Prop := Claim7.holds Tryd.pinned (.plain (OpenSpec.upto normPairsSpec)) normPairsUptoCard

/-- THE SECOND FORM's CARD OF 'shuttlelaw04.NormOnce'. -/
def normOnceUptoCard : Claim7 := { stood := { row := normOnceUptoRow, standIns := [], harness := (true, "e19f326791202f700d5e8e08682dfd1e7929f717ad0e46618508c9c38d59d323"), looks := false }, kinds := [], alts := [], laidByText := true, laidKinds := [.data, .pinned], laidTests := true, laidLooks := .later }
def NormOnceUptoCardSaid : Prop := Claim7.holds Tryd.pinned (.plain (OpenSpec.upto normOnceSpec)) normOnceUptoCard

/-- THE SECOND FORM's CARD OF 'shuttlelaw05.FoldLetters'. -/
def foldLettersUptoCard : Claim7 := { stood := { row := foldLettersUptoRow, standIns := [], harness := (true, "e19f326791202f700d5e8e08682dfd1e7929f717ad0e46618508c9c38d59d323"), looks := false }, kinds := [], alts := [], laidByText := true, laidKinds := [.data, .pinned], laidTests := true, laidLooks := .later }
def FoldLettersUptoCardSaid : Prop := Claim7.holds Tryd.pinned (.plain (OpenSpec.upto foldLettersSpec)) foldLettersUptoCard

/-- THE SECOND FORM's CARD OF 'shuttlelaw05.FoldTexts'. -/
def foldTextsUptoCard : Claim7 := { stood := { row := foldTextsUptoRow, standIns := [], harness := (true, "e19f326791202f700d5e8e08682dfd1e7929f717ad0e46618508c9c38d59d323"), looks := false }, kinds := [], alts := [], laidByText := true, laidKinds := [.data, .pinned], laidTests := true, laidLooks := .later }
def FoldTextsUptoCardSaid : Prop := Claim7.holds Tryd.pinned (.plain (OpenSpec.upto foldTextsSpec)) foldTextsUptoCard

/-- THE SECOND FORM's CARD OF 'shuttlelaw05.FoldSame'. -/
def foldSameUptoCard : Claim7 := { stood := { row := foldSameUptoRow, standIns := [], harness := (true, "e19f326791202f700d5e8e08682dfd1e7929f717ad0e46618508c9c38d59d323"), looks := false }, kinds := [], alts := [], laidByText := true, laidKinds := [.data, .pinned], laidTests := true, laidLooks := .later }
def FoldSameUptoCardSaid : Prop := Claim7.holds Tryd.pinned (.plain (OpenSpec.upto foldSameSpec)) foldSameUptoCard

/-- THE SECOND FORM's CARD OF 'shuttlelaw05.FoldRunes'. -/
def foldRunesUptoCard : Claim7 := { stood := { row := foldRunesUptoRow, standIns := [], harness := (true, "e19f326791202f700d5e8e08682dfd1e7929f717ad0e46618508c9c38d59d323"), looks := false }, kinds := [], alts := [], laidByText := true, laidKinds := [.data, .pinned], laidTests := true, laidLooks := .later }
def FoldRunesUptoCardSaid : Prop := Claim7.holds Tryd.pinned (.plain (OpenSpec.upto foldRunesSpec)) foldRunesUptoCard

/-- THE SECOND FORM's CARD OF 'shuttlelaw05.FoldLike'. -/
def foldLikeUptoCard : Claim7 := { stood := { row := foldLikeUptoRow, standIns := [], harness := (true, "e19f326791202f700d5e8e08682dfd1e7929f717ad0e46618508c9c38d59d323"), looks := false }, kinds := [], alts := [], laidByText := true, laidKinds := [.data, .pinned], laidTests := true, laidLooks := .later }
def FoldLikeUptoCardSaid : Prop := Claim7.holds Tryd.pinned (.plain (OpenSpec.upto foldLikeSpec)) foldLikeUptoCard

/-- THE SECOND FORM's CARD OF 'shuttlelaw05.FoldPairs'. -/
def foldPairsUptoCard : Claim7 := { stood := { row := foldPairsUptoRow, standIns := [], harness := (true, "e19f326791202f700d5e8e08682dfd1e7929f717ad0e46618508c9c38d59d323"), looks := false }, kinds := [], alts := [], laidByText := true, laidKinds := [.data, .pinned], laidTests := true, laidLooks := .later }
def FoldPairsUptoCardSaid : Prop := Claim7.holds Tryd.pinned (.plain (OpenSpec.upto foldPairsSpec)) foldPairsUptoCard

/-- THE SECOND FORM's CARD OF 'shuttlelaw05.FoldKnown'. -/
def foldKnownUptoCard : Claim7 := { stood := { row := foldKnownUptoRow, standIns := [], harness := (true, "e19f326791202f700d5e8e08682dfd1e7929f717ad0e46618508c9c38d59d323"), looks := false }, kinds := [], alts := [], laidByText := true, laidKinds := [.data, .pinned], laidTests := true, laidLooks := .later }
def FoldKnownUptoCardSaid : Prop := Claim7.holds Tryd.pinned (.plain (OpenSpec.upto foldKnownSpec)) foldKnownUptoCard

/-- THE SECOND FORM's CARD OF 'shuttlelaw05.FoldBytes'. -/
def foldBytesUptoCard : Claim7 := { stood := { row := foldBytesUptoRow, standIns := [], harness := (true, "e19f326791202f700d5e8e08682dfd1e7929f717ad0e46618508c9c38d59d323"), looks := false }, kinds := [], alts := [], laidByText := true, laidKinds := [.data, .pinned], laidTests := true, laidLooks := .later }
def FoldBytesUptoCardSaid : Prop := Claim7.holds Tryd.pinned (.plain (OpenSpec.upto foldBytesSpec)) foldBytesUptoCard

/-- THE SECOND FORM's CARD OF 'shuttlelaw05.FoldOnce'. -/
def foldOnceUptoCard : Claim7 := { stood := { row := foldOnceUptoRow, standIns := [], harness := (true, "e19f326791202f700d5e8e08682dfd1e7929f717ad0e46618508c9c38d59d323"), looks := false }, kinds := [], alts := [], laidByText := true, laidKinds := [.data, .pinned], laidTests := true, laidLooks := .later }
def FoldOnceUptoCardSaid : Prop := Claim7.holds Tryd.pinned (.plain (OpenSpec.upto foldOnceSpec)) foldOnceUptoCard
end Rows
end Go.Proofs.YtlphmcodajookaaDoor
