/-
  DERIVED. GIVEN WITH THE SEED: THE CARDS: each row of YtgkebfeggekkgaaDoorRows.lean that lists a variable, with what it lists TIED to the program's text (the seventh form; the later family's looks); each row that meets fmt, with fmt's text TOLD by the authors' own Lean function (tested against real Go, not proved from fmt's source: count such statements apart). THE CARD IS WHAT COUNTS. Prove the row's statement (the work); the ties are given (YtgkebfeggekkgaaDoorTie.lean); close each card by the builder's one call (the guide's Derived/Test/ToyasCard.lean, 'card_holds'). Laid BY PROGRAM, IN A SANDBOX (cutbox-door.mjs). By AI agents, Wed Nov 11 2026. No macro, syntax, notation, axiom, sorry.
-/
import Derived.Test.YtgkebfeggekkgaaDoorRows
import GoSem.ClaimSeven
namespace Go.Proofs.YtgkebfeggekkgaaDoor
namespace Rows

/-- THE TIED CARD OF 'mjolnerlaw09.PatternBinds'. -/
def patternBindsCard : Claim7 := { stood := { row := patternBindsRow, standIns := [], harness := (true, "a7945d3cc754baf24f36d6726f1b70adf5c59dcbdcfac32cf64749ea603a5ea9"), looks := true }, kinds := [], alts := [], laidByText := true, laidKinds := [.data, .data, .data], laidTests := true, laidLooks := .later }
def PatternBindsCardSaid : Prop := Claim7.holds Tryd.pinned (.plain (OpenSpec.ofChange patternBindsSpec)) patternBindsCard

/-- THE TIED CARD OF 'mjolnerlaw09.PatternBound'. -/
def patternBoundCard : Claim7 := { stood := { row := patternBoundRow, standIns := [], harness := (true, "a7945d3cc754baf24f36d6726f1b70adf5c59dcbdcfac32cf64749ea603a5ea9"), looks := true }, kinds := [], alts := [], laidByText := true, laidKinds := [.data, .data, .data], laidTests := true, laidLooks := .later }
def PatternBoundCardSaid : Prop := Claim7.holds Tryd.pinned (.plain (OpenSpec.ofChange patternBoundSpec)) patternBoundCard

/-- THE TIED CARD OF 'mjolnerlaw09.PatternInner'. -/
def patternInnerCard : Claim7 := { stood := { row := patternInnerRow, standIns := [], harness := (true, "a7945d3cc754baf24f36d6726f1b70adf5c59dcbdcfac32cf64749ea603a5ea9"), looks := true }, kinds := [], alts := [], laidByText := true, laidKinds := [.data, .data, .data], laidTests := true, laidLooks := .later }
def PatternInnerCardSaid : Prop := Claim7.holds Tryd.pinned (.plain (OpenSpec.ofChange patternInnerSpec)) patternInnerCard

/-- THE TIED CARD OF 'mjolnerlaw09.PatternChain'. -/
def patternChainCard : Claim7 := { stood := { row := patternChainRow, standIns := [], harness := (true, "a7945d3cc754baf24f36d6726f1b70adf5c59dcbdcfac32cf64749ea603a5ea9"), looks := true }, kinds := [], alts := [], laidByText := true, laidKinds := [.data, .data, .data], laidTests := true, laidLooks := .later }
def PatternChainCardSaid : Prop := Claim7.holds Tryd.pinned (.plain (OpenSpec.ofChange patternChainSpec)) patternChainCard

/-- THE TIED CARD OF 'mjolnerlaw09.PatternFurther'. -/
def patternFurtherCard : Claim7 := { stood := { row := patternFurtherRow, standIns := [], harness := (true, "a7945d3cc754baf24f36d6726f1b70adf5c59dcbdcfac32cf64749ea603a5ea9"), looks := true }, kinds := [], alts := [], laidByText := true, laidKinds := [.data, .data, .data], laidTests := true, laidLooks := .later }
def PatternFurtherCardSaid : Prop := Claim7.holds Tryd.pinned (.plain (OpenSpec.ofChange patternFurtherSpec)) patternFurtherCard

/-- THE TIED CARD OF 'mjolnerlaw09.PatternAssigns'. -/
def patternAssignsCard : Claim7 := { stood := { row := patternAssignsRow, standIns := [], harness := (true, "a7945d3cc754baf24f36d6726f1b70adf5c59dcbdcfac32cf64749ea603a5ea9"), looks := true }, kinds := [], alts := [], laidByText := true, laidKinds := [.data, .data, .data], laidTests := true, laidLooks := .later }
def PatternAssignsCardSaid : Prop := Claim7.holds Tryd.pinned (.plain (OpenSpec.ofChange patternAssignsSpec)) patternAssignsCard

/-- THE TIED CARD OF 'mjolnerlaw09.PatternWalks'. -/
def patternWalksCard : Claim7 := { stood := { row := patternWalksRow, standIns := [], harness := (true, "a7945d3cc754baf24f36d6726f1b70adf5c59dcbdcfac32cf64749ea603a5ea9"), looks := true }, kinds := [], alts := [], laidByText := true, laidKinds := [.data, .data, .data], laidTests := true, laidLooks := .later }
def PatternWalksCardSaid : Prop := Claim7.holds Tryd.pinned (.plain (OpenSpec.ofChange patternWalksSpec)) patternWalksCard

/-- THE TIED CARD OF 'mjolnerlaw09.PatternMerges'. -/
def patternMergesCard : Claim7 := { stood := { row := patternMergesRow, standIns := [], harness := (true, "a7945d3cc754baf24f36d6726f1b70adf5c59dcbdcfac32cf64749ea603a5ea9"), looks := true }, kinds := [], alts := [], laidByText := true, laidKinds := [.data, .data, .data], laidTests := true, laidLooks := .later }
def PatternMergesCardSaid : Prop := Claim7.holds Tryd.pinned (.plain (OpenSpec.ofChange patternMergesSpec)) patternMergesCard

/-- THE TIED CARD OF 'mjolnerlaw09.PatternMeets'. -/
def patternMeetsCard : Claim7 := { stood := { row := patternMeetsRow, standIns := [], harness := (true, "a7945d3cc754baf24f36d6726f1b70adf5c59dcbdcfac32cf64749ea603a5ea9"), looks := true }, kinds := [], alts := [], laidByText := true, laidKinds := [.data, .data, .data], laidTests := true, laidLooks := .later }
def PatternMeetsCardSaid : Prop := Claim7.holds Tryd.pinned (.plain (OpenSpec.ofChange patternMeetsSpec)) patternMeetsCard

/-- THE TIED CARD OF 'mjolnerlaw09.PatternExtends'. -/
def patternExtendsCard : Claim7 := { stood := { row := patternExtendsRow, standIns := [], harness := (true, "a7945d3cc754baf24f36d6726f1b70adf5c59dcbdcfac32cf64749ea603a5ea9"), looks := true }, kinds := [], alts := [], laidByText := true, laidKinds := [.data, .data, .data], laidTests := true, laidLooks := .later }
def PatternExtendsCardSaid : Prop := Claim7.holds Tryd.pinned (.plain (OpenSpec.ofChange patternExtendsSpec)) patternExtendsCard

/-- THE TIED CARD OF 'mjolnerlaw09.PatternOrders'. -/
def patternOrdersCard : Claim7 := { stood := { row := patternOrdersRow, standIns := [], harness := (true, "a7945d3cc754baf24f36d6726f1b70adf5c59dcbdcfac32cf64749ea603a5ea9"), looks := true }, kinds := [], alts := [], laidByText := true, laidKinds := [.data, .data, .data], laidTests := true, laidLooks := .later }
def PatternOrdersCardSaid : Prop := Claim7.holds Tryd.pinned (.plain (OpenSpec.ofChange patternOrdersSpec)) patternOrdersCard

/-- THE TIED CARD OF 'mjolnerlaw09.PatternNames'. -/
def patternNamesCard : Claim7 := { stood := { row := patternNamesRow, standIns := [], harness := (true, "a7945d3cc754baf24f36d6726f1b70adf5c59dcbdcfac32cf64749ea603a5ea9"), looks := true }, kinds := [], alts := [], laidByText := true, laidKinds := [.data, .data, .data], laidTests := true, laidLooks := .later }
def PatternNamesCardSaid : Prop := Claim7.holds Tryd.pinned (.plain (OpenSpec.ofChange patternNamesSpec)) patternNamesCard

/-- THE TIED CARD OF 'mjolnerlaw09.PatternParents'. -/
def patternParentsCard : Claim7 := { stood := { row := patternParentsRow, standIns := [], harness := (true, "a7945d3cc754baf24f36d6726f1b70adf5c59dcbdcfac32cf64749ea603a5ea9"), looks := true }, kinds := [], alts := [], laidByText := true, laidKinds := [.data, .data, .data], laidTests := true, laidLooks := .later }
def PatternParentsCardSaid : Prop := Claim7.holds Tryd.pinned (.plain (OpenSpec.ofChange patternParentsSpec)) patternParentsCard

/-- THE TIED CARD OF 'mjolnerlaw09.PatternFinds'. -/
def patternFindsCard : Claim7 := { stood := { row := patternFindsRow, standIns := [], harness := (true, "a7945d3cc754baf24f36d6726f1b70adf5c59dcbdcfac32cf64749ea603a5ea9"), looks := true }, kinds := [], alts := [], laidByText := true, laidKinds := [.data, .data, .data], laidTests := true, laidLooks := .later }
def PatternFindsCardSaid : Prop := Claim7.holds Tryd.pinned (.plain (OpenSpec.ofChange patternFindsSpec)) patternFindsCard

/-- THE TIED CARD OF 'mjolnerlaw09.PatternTexts'. -/
def patternTextsCard : Claim7 := { stood := { row := patternTextsRow, standIns := [], harness := (true, "a7945d3cc754baf24f36d6726f1b70adf5c59dcbdcfac32cf64749ea603a5ea9"), looks := true }, kinds := [], alts := [], laidByText := true, laidKinds := [.data, .data, .data, .data, .pinned], laidTests := true, laidLooks := .later }
def PatternTextsCardSaid : Prop := Claim7.holds Tryd.pinned (.plain (OpenSpec.ofChange patternTextsSpec)) patternTextsCard

/-- THE TIED CARD OF 'mjolnerlaw09.PatternBack'. -/
def patternBackCard : Claim7 := { stood := { row := patternBackRow, standIns := [], harness := (true, "a7945d3cc754baf24f36d6726f1b70adf5c59dcbdcfac32cf64749ea603a5ea9"), looks := true }, kinds := [], alts := [], laidByText := true, laidKinds := [.data, .data, .data, .data, .pinned], laidTests := true, laidLooks := .later }
def PatternBackCardSaid : Prop := Claim7.holds Tryd.pinned (.plain (OpenSpec.ofChange patternBackSpec)) patternBackCard

/-- THE SECOND FORM's CARD OF 'mjolnerlaw09.PatternBinds'. -/
def patternBindsUptoCard : Claim7 := { stood := { row := patternBindsUptoRow, standIns := [], harness := (true, "a7945d3cc754baf24f36d6726f1b70adf5c59dcbdcfac32cf64749ea603a5ea9"), looks := true }, kinds := [], alts := [], laidByText := true, laidKinds := [.data, .data, .data], laidTests := true, laidLooks := .later }
def PatternBindsUptoCardSaid : Prop := Claim7.holds Tryd.pinned (.plain (OpenSpec.upto patternBindsSpec)) patternBindsUptoCard

/-- THE SECOND FORM's CARD OF 'mjolnerlaw09.PatternBound'. -/
def patternBoundUptoCard : Claim7 := { stood := { row := patternBoundUptoRow, standIns := [], harness := (true, "a7945d3cc754baf24f36d6726f1b70adf5c59dcbdcfac32cf64749ea603a5ea9"), looks := true }, kinds := [], alts := [], laidByText := true, laidKinds := [.data, .data, .data], laidTests := true, laidLooks := .later }
def PatternBoundUptoCardSaid : Prop := Claim7.holds Tryd.pinned (.plain (OpenSpec.upto patternBoundSpec)) patternBoundUptoCard

/-- THE SECOND FORM's CARD OF 'mjolnerlaw09.PatternInner'. -/
def patternInnerUptoCard : Claim7 := { stood := { row := patternInnerUptoRow, standIns := [], harness := (true, "a7945d3cc754baf24f36d6726f1b70adf5c59dcbdcfac32cf64749ea603a5ea9"), looks := true }, kinds := [], alts := [], laidByText := true, laidKinds := [.data, .data, .data], laidTests := true, laidLooks := .later }
def PatternInnerUptoCardSaid : Prop := Claim7.holds Tryd.pinned (.plain (OpenSpec.upto patternInnerSpec)) patternInnerUptoCard

/-- THE SECOND FORM's CARD OF 'mjolnerlaw09.PatternChain'. -/
def patternChainUptoCard : Claim7 := { stood := { row := patternChainUptoRow, standIns := [], harness := (true, "a7945d3cc754baf24f36d6726f1b70adf5c59dcbdcfac32cf64749ea603a5ea9"), looks := true }, kinds := [], alts := [], laidByText := true, laidKinds := [.data, .data, .data], laidTests := true, laidLooks := .later }
def PatternChainUptoCardSaid : Prop := Claim7.holds Tryd.pinned (.plain (OpenSpec.upto patternChainSpec)) patternChainUptoCard

/-- THE SECOND FORM's CARD OF 'mjolnerlaw09.PatternFurther'. -/
def patternFurtherUptoCard : Claim7 := { stood := { row := patternFurtherUptoRow, standIns := [], harness := (true, "a7945d3cc754baf24f36d6726f1b70adf5c59dcbdcfac32cf64749ea603a5ea9"), looks := true }, kinds := [], alts := [], laidByText := true, laidKinds := [.data, .data, .data], laidTests := true, laidLooks := .later }
def PatternFurtherUptoCardSaid : Prop := Claim7.holds Tryd.pinned (.plain (OpenSpec.upto patternFurtherSpec)) patternFurtherUptoCard

/-- THE SECOND FORM's CARD OF 'mjolnerlaw09.PatternAssigns'. -/
def patternAssignsUptoCard : Claim7 := { stood := { row := patternAssignsUptoRow, standIns := [], harness := (true, "a7945d3cc754baf24f36d6726f1b70adf5c59dcbdcfac32cf64749ea603a5ea9"), looks := true }, kinds := [], alts := [], laidByText := true, laidKinds := [.data, .data, .data], laidTests := true, laidLooks := .later }
def PatternAssignsUptoCardSaid : Prop := Claim7.holds Tryd.pinned (.plain (OpenSpec.upto patternAssignsSpec)) patternAssignsUptoCard

/-- THE SECOND FORM's CARD OF 'mjolnerlaw09.PatternWalks'. -/
def patternWalksUptoCard : Claim7 := { stood := { row := patternWalksUptoRow, standIns := [], harness := (true, "a7945d3cc754baf24f36d6726f1b70adf5c59dcbdcfac32cf64749ea603a5ea9"), looks := true }, kinds := [], alts := [], laidByText := true, laidKinds := [.data, .data, .data], laidTests := true, laidLooks := .later }
def PatternWalksUptoCardSaid : Prop := Claim7.holds Tryd.pinned (.plain (OpenSpec.upto patternWalksSpec)) patternWalksUptoCard

/-- THE SECOND FORM's CARD OF 'mjolnerlaw09.PatternMerges'. -/
def patternMergesUptoCard : Claim7 := { stood := { row := patternMergesUptoRow, standIns := [], harness := (true, "a7945d3cc754baf24f36d6726f1b70adf5c59dcbdcfac32cf64749ea603a5ea9"), looks := true }, kinds := [], alts := [], laidByText := true, laidKinds := [.data, .data, .data], laidTests := true, laidLooks := .later }
def PatternMergesUptoCardSaid : Prop := Claim7.holds Tryd.pinned (.plain (OpenSpec.upto patternMergesSpec)) patternMergesUptoCard

/-- THE SECOND FORM's CARD OF 'mjolnerlaw09.PatternMeets'. -/
def patternMeetsUptoCard : Claim7 := { stood := { row := patternMeetsUptoRow, standIns := [], harness := (true, "a7945d3cc754baf24f36d6726f1b70adf5c59dcbdcfac32cf64749ea603a5ea9"), looks := true }, kinds := [], alts := [], laidByText := true, laidKinds := [.data, .data, .data], laidTests := true, laidLooks := .later }
def PatternMeetsUptoCardSaid : Prop := Claim7.holds Tryd.pinned (.plain (OpenSpec.upto patternMeetsSpec)) patternMeetsUptoCard

/-- THE SECOND FORM's CARD OF 'mjolnerlaw09.PatternExtends'. -/
def patternExtendsUptoCard : Claim7 := { stood := { row := patternExtendsUptoRow, standIns := [], harness := (true, "a7945d3cc754baf24f36d6726f1b70adf5c59dcbdcfac32cf64749ea603a5ea9"), looks := true }, kinds := [], alts := [], laidByText := true, laidKinds := [.data, .data, .data], laidTests := true, laidLooks := .later }
def PatternExtendsUptoCardSaid : Prop := Claim7.holds Tryd.pinned (.plain (OpenSpec.upto patternExtendsSpec)) patternExtendsUptoCard

/-- THE SECOND FORM's CARD OF 'mjolnerlaw09.PatternOrders'. -/
def patternOrdersUptoCard : Claim7 := { stood := { row := patternOrdersUptoRow, standIns := [], harness := (true, "a7945d3cc754baf24f36d6726f1b70adf5c59dcbdcfac32cf64749ea603a5ea9"), looks := true }, kinds := [], alts := [], laidByText := true, laidKinds := [.data, .data, .data], laidTests := true, laidLooks := .later }
def PatternOrdersUptoCardSaid : Prop := Claim7.holds Tryd.pinned (.plain (OpenSpec.upto patternOrdersSpec)) patternOrdersUptoCard

/-- THE SECOND FORM's CARD OF 'mjolnerlaw09.PatternNames'. -/
def patternNamesUptoCard : Claim7 := { stood := { row := patternNamesUptoRow, standIns := [], harness := (true, "a7945d3cc754baf24f36d6726f1b70adf5c59dcbdcfac32cf64749ea603a5ea9"), looks := true }, kinds := [], alts := [], laidByText := true, laidKinds := [.data, .data, .data], laidTests := true, laidLooks := .later }
def PatternNamesUptoCardSaid : Prop := Claim7.holds Tryd.pinned (.plain (OpenSpec.upto patternNamesSpec)) patternNamesUptoCard

/-- THE SECOND FORM's CARD OF 'mjolnerlaw09.PatternParents'. -/
def patternParentsUptoCard : Claim7 := { stood := { row := patternParentsUptoRow, standIns := [], harness := (true, "a7945d3cc754baf24f36d6726f1b70adf5c59dcbdcfac32cf64749ea603a5ea9"), looks := true }, kinds := [], alts := [], laidByText := true, laidKinds := [.data, .data, .data], laidTests := true, laidLooks := .later }
def PatternParentsUptoCardSaid : Prop := Claim7.holds Tryd.pinned (.plain (OpenSpec.upto patternParentsSpec)) patternParentsUptoCard

/-- THE SECOND FORM's CARD OF 'mjolnerlaw09.PatternFinds'. -/
def patternFindsUptoCard : Claim7 := { stood := { row := patternFindsUptoRow, standIns := [], harness := (true, "a7945d3cc754baf24f36d6726f1b70adf5c59dcbdcfac32cf64749ea603a5ea9"), looks := true }, kinds := [], alts := [], laidByText := true, laidKinds := [.data, .data, .data], laidTests := true, laidLooks := .later }
def PatternFindsUptoCardSaid : Prop := Claim7.holds Tryd.pinned (.plain (OpenSpec.upto patternFindsSpec)) patternFindsUptoCard

/-- THE SECOND FORM's CARD OF 'mjolnerlaw09.PatternTexts'. -/
def patternTextsUptoCard : Claim7 := { stood := { row := patternTextsUptoRow, standIns := [], harness := (true, "a7945d3cc754baf24f36d6726f1b70adf5c59dcbdcfac32cf64749ea603a5ea9"), looks := true }, kinds := [], alts := [], laidByText := true, laidKinds := [.data, .data, .data, .data, .pinned], laidTests := true, laidLooks := .later }
def PatternTextsUptoCardSaid : Prop := Claim7.holds Tryd.pinned (.plain (OpenSpec.upto patternTextsSpec)) patternTextsUptoCard

/-- THE SECOND FORM's CARD OF 'mjolnerlaw09.PatternBack'. -/
def patternBackUptoCard : Claim7 := { stood := { row := patternBackUptoRow, standIns := [], harness := (true, "a7945d3cc754baf24f36d6726f1b70adf5c59dcbdcfac32cf64749ea603a5ea9"), looks := true }, kinds := [], alts := [], laidByText := true, laidKinds := [.data, .data, .data, .data, .pinned], laidTests := true, laidLooks := .later }
def PatternBackUptoCardSaid : Prop := Claim7.holds Tryd.pinned (.plain (OpenSpec.upto patternBackSpec)) patternBackUptoCard
end Rows
end Go.Proofs.YtgkebfeggekkgaaDoor
