/-
  DERIVED. GIVEN WITH THE SEED: THE CARDS: each row of YtjlpaagnajmogaaDoorRows.lean that lists a variable, with what it lists TIED to the program's text (the seventh form; the later family's looks); each row that meets fmt, with fmt's text TOLD by the authors' own Lean function (tested against real Go, not proved from fmt's source: count such statements apart). THE CARD IS WHAT COUNTS. Prove the row's statement (the work); the ties are given (YtjlpaagnajmogaaDoorTie.lean); close each card by the builder's one call (the guide's Derived/Test/ToyasCard.lean, 'card_holds'). Laid BY PROGRAM, IN A SANDBOX (cutbox-door.mjs). By AI agents, Wed Nov 11 2026. No macro, syntax, notation, axiom, sorry.
-/
import Derived.Test.YtjlpaagnajmogaaDoorRows
import GoSem.ClaimSeven
namespace Go.Proofs.YtjlpaagnajmogaaDoor
namespace Rows

/-- THE TIED CARD OF 'redpencillaw13.FormFaults'. -/
def formFaultsCard : Claim7 := { stood := { row := formFaultsRow, standIns := [], harness := (true, "4b3c2fc672e1ddab459379ba8d5df2e09ad50246d42292bdc1d1be274add93db"), looks := false }, kinds := [], alts := [], laidByText := true, laidKinds := [.data], laidTests := true, laidLooks := .later }
def FormFaultsCardSaid : Prop := Claim7.holds Tryd.pinned (.plain (OpenSpec.ofChange formFaultsSpec)) formFaultsCard

/-- THE TIED CARD OF 'redpencillaw13.FormWholes'. -/
def formWholesCard : Claim7 := { stood := { row := formWholesRow, standIns := [], harness := (true, "4b3c2fc672e1ddab459379ba8d5df2e09ad50246d42292bdc1d1be274add93db"), looks := false }, kinds := [], alts := [], laidByText := true, laidKinds := [.data], laidTests := true, laidLooks := .later }
def FormWholesCardSaid : Prop := Claim7.holds Tryd.pinned (.plain (OpenSpec.ofChange formWholesSpec)) formWholesCard

/-- THE TIED CARD OF 'redpencillaw13.FormWords'. -/
def formWordsCard : Claim7 := { stood := { row := formWordsRow, standIns := [], harness := (true, "4b3c2fc672e1ddab459379ba8d5df2e09ad50246d42292bdc1d1be274add93db"), looks := false }, kinds := [], alts := [], laidByText := true, laidKinds := [.data], laidTests := true, laidLooks := .later }
def FormWordsCardSaid : Prop := Claim7.holds Tryd.pinned (.plain (OpenSpec.ofChange formWordsSpec)) formWordsCard

/-- THE TIED CARD OF 'redpencillaw13.FormChains'. -/
def formChainsCard : Claim7 := { stood := { row := formChainsRow, standIns := [], harness := (true, "4b3c2fc672e1ddab459379ba8d5df2e09ad50246d42292bdc1d1be274add93db"), looks := false }, kinds := [], alts := [], laidByText := true, laidKinds := [.data], laidTests := true, laidLooks := .later }
def FormChainsCardSaid : Prop := Claim7.holds Tryd.pinned (.plain (OpenSpec.ofChange formChainsSpec)) formChainsCard

/-- THE TIED CARD OF 'redpencillaw12.IndexHolds'. -/
def indexHoldsCard : Claim7 := { stood := { row := indexHoldsRow, standIns := [], harness := (true, "4b3c2fc672e1ddab459379ba8d5df2e09ad50246d42292bdc1d1be274add93db"), looks := false }, kinds := [], alts := [], laidByText := true, laidKinds := [.data, .pinned], laidTests := true, laidLooks := .later }
def IndexHoldsCardSaid : Prop := Claim7.holds Tryd.pinned (.plain (OpenSpec.ofChange indexHoldsSpec)) indexHoldsCard

/-- THE SECOND FORM's CARD OF 'redpencillaw13.FormFaults'. -/
def formFaultsUptoCard : Claim7 := { stood := { row := formFaultsUptoRow, standIns := [], harness := (true, "4b3c2fc672e1ddab459379ba8d5df2e09ad50246d42292bdc1d1be274add93db"), looks := false }, kinds := [], alts := [], laidByText := true, laidKinds := [.data], laidTests := true, laidLooks := .later }
def FormFaultsUptoCardSaid : Prop := Claim7.holds Tryd.pinned (.plain (OpenSpec.upto formFaultsSpec)) formFaultsUptoCard

/-- THE SECOND FORM's CARD OF 'redpencillaw13.FormWholes'. -/
def formWholesUptoCard : Claim7 := { stood := { row := formWholesUptoRow, standIns := [], harness := (true, "4b3c2fc672e1ddab459379ba8d5df2e09ad50246d42292bdc1d1be274add93db"), looks := false }, kinds := [], alts := [], laidByText := true, laidKinds := [.data], laidTests := true, laidLooks := .later }
def FormWholesUptoCardSaid : Prop := Claim7.holds Tryd.pinned (.plain (OpenSpec.upto formWholesSpec)) formWholesUptoCard

/-- THE SECOND FORM's CARD OF 'redpencillaw13.FormWords'. -/
def formWordsUptoCard : Claim7 := { stood := { row := formWordsUptoRow, standIns := [], harness := (true, "4b3c2fc672e1ddab459379ba8d5df2e09ad50246d42292bdc1d1be274add93db"), looks := false }, kinds := [], alts := [], laidByText := true, laidKinds := [.data], laidTests := true, laidLooks := .later }
def FormWordsUptoCardSaid : Prop := Claim7.holds Tryd.pinned (.plain (OpenSpec.upto formWordsSpec)) formWordsUptoCard

/-- THE SECOND FORM's CARD OF 'redpencillaw13.FormChains'. -/
def formChainsUptoCard : Claim7 := { stood := { row := formChainsUptoRow, standIns := [], harness := (true, "4b3c2fc672e1ddab459379ba8d5df2e09ad50246d42292bdc1d1be274add93db"), looks := false }, kinds := [], alts := [], laidByText := true, laidKinds := [.data], laidTests := true, laidLooks := .later }
def FormChainsUptoCardSaid : Prop := Claim7.holds Tryd.pinned (.plain (OpenSpec.upto formChainsSpec)) formChainsUptoCard

/-- THE SECOND FORM's CARD OF 'redpencillaw12.IndexHolds'. -/
def indexHoldsUptoCard : Claim7 := { stood := { row := indexHoldsUptoRow, standIns := [], harness := (true, "4b3c2fc672e1ddab459379ba8d5df2e09ad50246d42292bdc1d1be274add93db"), looks := false }, kinds := [], alts := [], laidByText := true, laidKinds := [.data, .pinned], laidTests := true, laidLooks := .later }
def IndexHoldsUptoCardSaid : Prop := Claim7.holds Tryd.pinned (.plain (OpenSpec.upto indexHoldsSpec)) indexHoldsUptoCard
end Rows
end Go.Proofs.YtjlpaagnajmogaaDoor
