/-
  DERIVED. GIVEN WITH THE SEED: THE CARDS: each row of YtpgmljkhleidjaaGreatDoorRows.lean that lists a variable, with what it lists TIED to the program's text (the seventh form; the later family's looks); each row that meets fmt, with fmt's text TOLD by the authors' own Lean function (tested against real Go, not proved from fmt's source: count such statements apart). THE CARD IS WHAT COUNTS. Prove the row's statement (the work); the ties are given (YtpgmljkhleidjaaGreatDoorTie.lean); close each card by the builder's one call (the guide's Derived/Test/ToyasCard.lean, 'card_holds'). Laid BY PROGRAM, IN A SANDBOX (cutbox-door.mjs). By AI agents, Wed Nov 11 2026. No macro, syntax, notation, axiom, sorry.
-/
import Derived.Test.YtpgmljkhleidjaaGreatDoorRows
import GoSem.ClaimSeven
namespace Go.Proofs.YtpgmljkhleidjaaGreatDoor
namespace Rows

/-- THE TIED CARD OF 'laws.FnExactAskCost'. -/
def fnExactAskCostCard : Claim7 := { stood := { row := fnExactAskCostRow, standIns := [], harness := (true, "25af9dacb69b109878772f2127619b186e6f4158c6dc0c7260f3f72f4f0de90b"), looks := false }, kinds := [], alts := [], laidByText := true, laidKinds := [.data, .data, .data], laidTests := true, laidLooks := .later }
def FnExactAskCostCardSaid : Prop := Claim7.holds Tryz.pinned (.plain (OpenSpec.ofChange fnExactAskCostSpec)) fnExactAskCostCard

/-- THE TIED CARD OF 'laws.FnAskHidden'. -/
def fnAskHiddenCard : Claim7 := { stood := { row := fnAskHiddenRow, standIns := [], harness := (true, "25af9dacb69b109878772f2127619b186e6f4158c6dc0c7260f3f72f4f0de90b"), looks := false }, kinds := [], alts := [], laidByText := true, laidKinds := [.data, .data, .data], laidTests := true, laidLooks := .later }
def FnAskHiddenCardSaid : Prop := Claim7.holds Tryz.pinned (.plain (OpenSpec.ofChange fnAskHiddenSpec)) fnAskHiddenCard

/-- THE TIED CARD OF 'laws.FnReachOk'. -/
def fnReachOkCard : Claim7 := { stood := { row := fnReachOkRow, standIns := [], harness := (true, "25af9dacb69b109878772f2127619b186e6f4158c6dc0c7260f3f72f4f0de90b"), looks := false }, kinds := [], alts := [], laidByText := true, laidKinds := [.data, .data, .data], laidTests := true, laidLooks := .later }
def FnReachOkCardSaid : Prop := Claim7.holds Tryz.pinned (.plain (OpenSpec.ofChange fnReachOkSpec)) fnReachOkCard

/-- THE TIED CARD OF 'laws.FnExactAskCheck'. -/
def fnExactAskCheckCard : Claim7 := { stood := { row := fnExactAskCheckRow, standIns := [], harness := (true, "25af9dacb69b109878772f2127619b186e6f4158c6dc0c7260f3f72f4f0de90b"), looks := false }, kinds := [], alts := [], laidByText := true, laidKinds := [.data, .data, .data], laidTests := true, laidLooks := .later }
def FnExactAskCheckCardSaid : Prop := Claim7.holds Tryz.pinned (.plain (OpenSpec.ofChange fnExactAskCheckSpec)) fnExactAskCheckCard

/-- THE TIED CARD OF 'laws.FnExactRouteMake'. -/
def fnExactRouteMakeCard : Claim7 := { stood := { row := fnExactRouteMakeRow, standIns := [], harness := (true, "25af9dacb69b109878772f2127619b186e6f4158c6dc0c7260f3f72f4f0de90b"), looks := false }, kinds := [], alts := [], laidByText := true, laidKinds := [.data, .data, .data], laidTests := true, laidLooks := .later }
def FnExactRouteMakeCardSaid : Prop := Claim7.holds Tryz.pinned (.plain (OpenSpec.ofChange fnExactRouteMakeSpec)) fnExactRouteMakeCard

/-- THE TIED CARD OF 'laws.FnAskFields'. -/
def fnAskFieldsCard : Claim7 := { stood := { row := fnAskFieldsRow, standIns := [], harness := (true, "25af9dacb69b109878772f2127619b186e6f4158c6dc0c7260f3f72f4f0de90b"), looks := false }, kinds := [], alts := [], laidByText := true, laidKinds := [.data, .data, .data], laidTests := true, laidLooks := .later }
def FnAskFieldsCardSaid : Prop := Claim7.holds Tryz.pinned (.plain (OpenSpec.ofChange fnAskFieldsSpec)) fnAskFieldsCard

/-- THE TIED CARD OF 'laws.FnExactAskFields'. -/
def fnExactAskFieldsCard : Claim7 := { stood := { row := fnExactAskFieldsRow, standIns := [], harness := (true, "25af9dacb69b109878772f2127619b186e6f4158c6dc0c7260f3f72f4f0de90b"), looks := false }, kinds := [], alts := [], laidByText := true, laidKinds := [.data, .data, .data], laidTests := true, laidLooks := .later }
def FnExactAskFieldsCardSaid : Prop := Claim7.holds Tryz.pinned (.plain (OpenSpec.ofChange fnExactAskFieldsSpec)) fnExactAskFieldsCard

/-- THE SECOND FORM's CARD OF 'laws.FnExactAskCost'. -/
def fnExactAskCostUptoCard : Claim7 := { stood := { row := fnExactAskCostUptoRow, standIns := [], harness := (true, "25af9dacb69b109878772f2127619b186e6f4158c6dc0c7260f3f72f4f0de90b"), looks := false }, kinds := [], alts := [], laidByText := true, laidKinds := [.data, .data, .data], laidTests := true, laidLooks := .later }
def FnExactAskCostUptoCardSaid : Prop := Claim7.holds Tryz.pinned (.plain (OpenSpec.upto fnExactAskCostSpec)) fnExactAskCostUptoCard

/-- THE SECOND FORM's CARD OF 'laws.FnAskHidden'. -/
def fnAskHiddenUptoCard : Claim7 := { stood := { row := fnAskHiddenUptoRow, standIns := [], harness := (true, "25af9dacb69b109878772f2127619b186e6f4158c6dc0c7260f3f72f4f0de90b"), looks := false }, kinds := [], alts := [], laidByText := true, laidKinds := [.data, .data, .data], laidTests := true, laidLooks := .later }
def FnAskHiddenUptoCardSaid : Prop := Claim7.holds Tryz.pinned (.plain (OpenSpec.upto fnAskHiddenSpec)) fnAskHiddenUptoCard

/-- THE SECOND FORM's CARD OF 'laws.FnReachOk'. -/
def fnReachOkUptoCard : Claim7 := { stood := { row := fnReachOkUptoRow, standIns := [], harness := (true, "25af9dacb69b109878772f2127619b186e6f4158c6dc0c7260f3f72f4f0de90b"), looks := false }, kinds := [], alts := [], laidByText := true, laidKinds := [.data, .data, .data], laidTests := true, laidLooks := .later }
def FnReachOkUptoCardSaid : Prop := Claim7.holds Tryz.pinned (.plain (OpenSpec.upto fnReachOkSpec)) fnReachOkUptoCard

/-- THE SECOND FORM's CARD OF 'laws.FnExactAskCheck'. -/
def fnExactAskCheckUptoCard : Claim7 := { stood := { row := fnExactAskCheckUptoRow, standIns := [], harness := (true, "25af9dacb69b109878772f2127619b186e6f4158c6dc0c7260f3f72f4f0de90b"), looks := false }, kinds := [], alts := [], laidByText := true, laidKinds := [.data, .data, .data], laidTests := true, laidLooks := .later }
def FnExactAskCheckUptoCardSaid : Prop := Claim7.holds Tryz.pinned (.plain (OpenSpec.upto fnExactAskCheckSpec)) fnExactAskCheckUptoCard

/-- THE SECOND FORM's CARD OF 'laws.FnExactRouteMake'. -/
def fnExactRouteMakeUptoCard : Claim7 := { stood := { row := fnExactRouteMakeUptoRow, standIns := [], harness := (true, "25af9dacb69b109878772f2127619b186e6f4158c6dc0c7260f3f72f4f0de90b"), looks := false }, kinds := [], alts := [], laidByText := true, laidKinds := [.data, .data, .data], laidTests := true, laidLooks := .later }
def FnExactRouteMakeUptoCardSaid : Prop := Claim7.holds Tryz.pinned (.plain (OpenSpec.upto fnExactRouteMakeSpec)) fnExactRouteMakeUptoCard

/-- THE SECOND FORM's CARD OF 'laws.FnAskFields'. -/
def fnAskFieldsUptoCard : Claim7 := { stood := { row := fnAskFieldsUptoRow, standIns := [], harness := (true, "25af9dacb69b109878772f2127619b186e6f4158c6dc0c7260f3f72f4f0de90b"), looks := false }, kinds := [], alts := [], laidByText := true, laidKinds := [.data, .data, .data], laidTests := true, laidLooks := .later }
def FnAskFieldsUptoCardSaid : Prop := Claim7.holds Tryz.pinned (.plain (OpenSpec.upto fnAskFieldsSpec)) fnAskFieldsUptoCard

/-- THE SECOND FORM's CARD OF 'laws.FnExactAskFields'. -/
def fnExactAskFieldsUptoCard : Claim7 := { stood := { row := fnExactAskFieldsUptoRow, standIns := [], harness := (true, "25af9dacb69b109878772f2127619b186e6f4158c6dc0c7260f3f72f4f0de90b"), looks := false }, kinds := [], alts := [], laidByText := true, laidKinds := [.data, .data, .data], laidTests := true, laidLooks := .later }
def FnExactAskFieldsUptoCardSaid : Prop := Claim7.holds Tryz.pinned (.plain (OpenSpec.upto fnExactAskFieldsSpec)) fnExactAskFieldsUptoCard
end Rows
end Go.Proofs.YtpgmljkhleidjaaGreatDoor
