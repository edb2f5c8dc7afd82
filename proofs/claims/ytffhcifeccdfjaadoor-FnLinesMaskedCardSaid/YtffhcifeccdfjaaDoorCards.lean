/-
  DERIVED. GIVEN WITH THE SEED: THE CARDS: each row of YtffhcifeccdfjaaDoorRows.lean that lists a variable, with what it lists TIED to the program's text (the seventh form; the later family's looks); each row that meets fmt, with fmt's text TOLD by the authors' own Lean function (tested against real Go, not proved from fmt's source: count such statements apart). THE CARD IS WHAT COUNTS. Prove the row's statement (the work); the ties are given (YtffhcifeccdfjaaDoorTie.lean); close each card by the builder's one call (the guide's Derived/Test/ToyasCard.lean, 'card_holds'). Laid BY PROGRAM, IN A SANDBOX (cutbox-door.mjs). By AI agents, Wed Nov 11 2026. No macro, syntax, notation, axiom, sorry.
-/
import Derived.Test.YtffhcifeccdfjaaDoorRows
import GoSem.ClaimSeven
namespace Go.Proofs.YtffhcifeccdfjaaDoor
namespace Rows

/-- THE TIED CARD OF 'laws.FnNextLine'. -/
def fnNextLineCard : Claim7 := { stood := { row := fnNextLineRow, standIns := [], harness := (true, "410231a48875bde8efae28202bc0f2d9ea756018d28eef4a06fe291b73321c03"), looks := false }, kinds := [], alts := [], laidByText := true, laidKinds := [.data, .data], laidTests := true, laidLooks := .later }
def FnNextLineCardSaid : Prop := Claim7.holds Tryd.pinned (.plain (OpenSpec.ofChange fnNextLineSpec)) fnNextLineCard

/-- THE TIED CARD OF 'laws.FnServeLine'. -/
def fnServeLineCard : Claim7 := { stood := { row := fnServeLineRow, standIns := [], harness := (true, "410231a48875bde8efae28202bc0f2d9ea756018d28eef4a06fe291b73321c03"), looks := false }, kinds := [], alts := [], laidByText := true, laidKinds := [.data, .data], laidTests := true, laidLooks := .later }
def FnServeLineCardSaid : Prop := Claim7.holds Tryd.pinned (.plain (OpenSpec.ofChange fnServeLineSpec)) fnServeLineCard

/-- THE TIED CARD OF 'laws.FnLinesMasked'. -/
def fnLinesMaskedCard : Claim7 := { stood := { row := fnLinesMaskedRow, standIns := [], harness := (true, "410231a48875bde8efae28202bc0f2d9ea756018d28eef4a06fe291b73321c03"), looks := false }, kinds := [], alts := [], laidByText := true, laidKinds := [.data, .data], laidTests := true, laidLooks := .later }
def FnLinesMaskedCardSaid : Prop := Claim7.holds Tryd.pinned (.plain (OpenSpec.ofChange fnLinesMaskedSpec)) fnLinesMaskedCard

/-- THE TIED CARD OF 'laws.FnRaiseLine'. -/
def fnRaiseLineCard : Claim7 := { stood := { row := fnRaiseLineRow, standIns := [], harness := (true, "410231a48875bde8efae28202bc0f2d9ea756018d28eef4a06fe291b73321c03"), looks := false }, kinds := [], alts := [], laidByText := true, laidKinds := [.data, .data], laidTests := true, laidLooks := .later }
def FnRaiseLineCardSaid : Prop := Claim7.holds Tryd.pinned (.plain (OpenSpec.ofChange fnRaiseLineSpec)) fnRaiseLineCard

/-- THE SECOND FORM's CARD OF 'laws.FnNextLine'. -/
def fnNextLineUptoCard : Claim7 := { stood := { row := fnNextLineUptoRow, standIns := [], harness := (true, "410231a48875bde8efae28202bc0f2d9ea756018d28eef4a06fe291b73321c03"), looks := false }, kinds := [], alts := [], laidByText := true, laidKinds := [.data, .data], laidTests := true, laidLooks := .later }
def FnNextLineUptoCardSaid : Prop := Claim7.holds Tryd.pinned (.plain (OpenSpec.upto fnNextLineSpec)) fnNextLineUptoCard

/-- THE SECOND FORM's CARD OF 'laws.FnServeLine'. -/
def fnServeLineUptoCard : Claim7 := { stood := { row := fnServeLineUptoRow, standIns := [], harness := (true, "410231a48875bde8efae28202bc0f2d9ea756018d28eef4a06fe291b73321c03"), looks := false }, kinds := [], alts := [], laidByText := true, laidKinds := [.data, .data], laidTests := true, laidLooks := .later }
def FnServeLineUptoCardSaid : Prop := Claim7.holds Tryd.pinned (.plain (OpenSpec.upto fnServeLineSpec)) fnServeLineUptoCard

/-- THE SECOND FORM's CARD OF 'laws.FnLinesMasked'. -/
def fnLinesMaskedUptoCard : Claim7 := { stood := { row := fnLinesMaskedUptoRow, standIns := [], harness := (true, "410231a48875bde8efae28202bc0f2d9ea756018d28eef4a06fe291b73321c03"), looks := false }, kinds := [], alts := [], laidByText := true, laidKinds := [.data, .data], laidTests := true, laidLooks := .later }
def FnLinesMaskedUptoCardSaid : Prop := Claim7.holds Tryd.pinned (.plain (OpenSpec.upto fnLinesMaskedSpec)) fnLinesMaskedUptoCard

/-- THE SECOND FORM's CARD OF 'laws.FnRaiseLine'. -/
def fnRaiseLineUptoCard : Claim7 := { stood := { row := fnRaiseLineUptoRow, standIns := [], harness := (true, "410231a48875bde8efae28202bc0f2d9ea756018d28eef4a06fe291b73321c03"), looks := false }, kinds := [], alts := [], laidByText := true, laidKinds := [.data, .data], laidTests := true, laidLooks := .later }
def FnRaiseLineUptoCardSaid : Prop := Claim7.holds Tryd.pinned (.plain (OpenSpec.upto fnRaiseLineSpec)) fnRaiseLineUptoCard
end Rows
end Go.Proofs.YtffhcifeccdfjaaDoor
