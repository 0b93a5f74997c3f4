/-
  DERIVED. GIVEN WITH THE SEED: THE CARDS: each row of YtpgfdoakehpnlaaGreatDoorRows.lean that lists a variable, with what it lists TIED to the program's text (the seventh form; the later family's looks); each row that meets fmt, with fmt's text TOLD by the authors' own Lean function (tested against real Go, not proved from fmt's source: count such statements apart). THE CARD IS WHAT COUNTS. Prove the row's statement (the work); the ties are given (YtpgfdoakehpnlaaGreatDoorTie.lean); close each card by the builder's one call (the guide's Derived/Test/ToyasCard.lean, 'card_holds'). Laid BY PROGRAM, IN A SANDBOX (cutbox-door.mjs). By AI agents, Wed Nov 11 2026. No macro, syntax, notation, axiom, sorry.
-/
import Derived.Test.YtpgfdoakehpnlaaGreatDoorRows
import GoSem.ClaimSeven
namespace Go.Proofs.YtpgfdoakehpnlaaGreatDoor
namespace Rows

/-- THE TIED CARD OF 'reservoirtop.TopAnswered'. -/
def topAnsweredCard : Claim7 := { stood := { row := topAnsweredRow, standIns := [], harness := (true, "202da19c1f2557af2e29f7bc473f458cf3610eb72b88dc6ef6f7ba49981bfe8d"), looks := true }, kinds := [], alts := [], laidByText := true, laidKinds := [.data, .data, .data, .data, .pinned], laidTests := true, laidLooks := .later }
def TopAnsweredCardSaid : Prop := Claim7.holds Tryz.pinned (.plain (OpenSpec.ofChange topAnsweredSpec)) topAnsweredCard

/-- THE TIED CARD OF 'reservoirtop.TopCancelled'. -/
def topCancelledCard : Claim7 := { stood := { row := topCancelledRow, standIns := [], harness := (true, "202da19c1f2557af2e29f7bc473f458cf3610eb72b88dc6ef6f7ba49981bfe8d"), looks := true }, kinds := [], alts := [], laidByText := true, laidKinds := [.data, .data, .data, .data, .pinned], laidTests := true, laidLooks := .later }
def TopCancelledCardSaid : Prop := Claim7.holds Tryz.pinned (.plain (OpenSpec.ofChange topCancelledSpec)) topCancelledCard

/-- THE TIED CARD OF 'reservoirtop.TopVary'. -/
def topVaryCard : Claim7 := { stood := { row := topVaryRow, standIns := [], harness := (true, "202da19c1f2557af2e29f7bc473f458cf3610eb72b88dc6ef6f7ba49981bfe8d"), looks := true }, kinds := [], alts := [], laidByText := true, laidKinds := [.data, .data, .data, .data, .pinned], laidTests := true, laidLooks := .later }
def TopVaryCardSaid : Prop := Claim7.holds Tryz.pinned (.plain (OpenSpec.ofChange topVarySpec)) topVaryCard

/-- THE TIED CARD OF 'reservoirtop.TopBudget'. -/
def topBudgetCard : Claim7 := { stood := { row := topBudgetRow, standIns := [], harness := (true, "202da19c1f2557af2e29f7bc473f458cf3610eb72b88dc6ef6f7ba49981bfe8d"), looks := true }, kinds := [], alts := [], laidByText := true, laidKinds := [.data, .data, .data, .data, .pinned], laidTests := true, laidLooks := .later }
def TopBudgetCardSaid : Prop := Claim7.holds Tryz.pinned (.plain (OpenSpec.ofChange topBudgetSpec)) topBudgetCard

/-- THE TIED CARD OF 'reservoirtop.TopPost'. -/
def topPostCard : Claim7 := { stood := { row := topPostRow, standIns := [], harness := (true, "202da19c1f2557af2e29f7bc473f458cf3610eb72b88dc6ef6f7ba49981bfe8d"), looks := true }, kinds := [], alts := [], laidByText := true, laidKinds := [.data, .data, .data, .data, .pinned], laidTests := true, laidLooks := .later }
def TopPostCardSaid : Prop := Claim7.holds Tryz.pinned (.plain (OpenSpec.ofChange topPostSpec)) topPostCard

/-- THE SECOND FORM's CARD OF 'reservoirtop.TopAnswered'. -/
def topAnsweredUptoCard : Claim7 := { stood := { row := topAnsweredUptoRow, standIns := [], harness := (true, "202da19c1f2557af2e29f7bc473f458cf3610eb72b88dc6ef6f7ba49981bfe8d"), looks := true }, kinds := [], alts := [], laidByText := true, laidKinds := [.data, .data, .data, .data, .pinned], laidTests := true, laidLooks := .later }
def TopAnsweredUptoCardSaid : Prop := Claim7.holds Tryz.pinned (.plain (OpenSpec.upto topAnsweredSpec)) topAnsweredUptoCard

/-- THE SECOND FORM's CARD OF 'reservoirtop.TopCancelled'. -/
def topCancelledUptoCard : Claim7 := { stood := { row := topCancelledUptoRow, standIns := [], harness := (true, "202da19c1f2557af2e29f7bc473f458cf3610eb72b88dc6ef6f7ba49981bfe8d"), looks := true }, kinds := [], alts := [], laidByText := true, laidKinds := [.data, .data, .data, .data, .pinned], laidTests := true, laidLooks := .later }
def TopCancelledUptoCardSaid : Prop := Claim7.holds Tryz.pinned (.plain (OpenSpec.upto topCancelledSpec)) topCancelledUptoCard

/-- THE SECOND FORM's CARD OF 'reservoirtop.TopVary'. -/
def topVaryUptoCard : Claim7 := { stood := { row := topVaryUptoRow, standIns := [], harness := (true, "202da19c1f2557af2e29f7bc473f458cf3610eb72b88dc6ef6f7ba49981bfe8d"), looks := true }, kinds := [], alts := [], laidByText := true, laidKinds := [.data, .data, .data, .data, .pinned], laidTests := true, laidLooks := .later }
def TopVaryUptoCardSaid : Prop := Claim7.holds Tryz.pinned (.plain (OpenSpec.upto topVarySpec)) topVaryUptoCard

/-- THE SECOND FORM's CARD OF 'reservoirtop.TopBudget'. -/
def topBudgetUptoCard : Claim7 := { stood := { row := topBudgetUptoRow, standIns := [], harness := (true, "202da19c1f2557af2e29f7bc473f458cf3610eb72b88dc6ef6f7ba49981bfe8d"), looks := true }, kinds := [], alts := [], laidByText := true, laidKinds := [.data, .data, .data, .data, .pinned], laidTests := true, laidLooks := .later }
def TopBudgetUptoCardSaid : Prop := Claim7.holds Tryz.pinned (.plain (OpenSpec.upto topBudgetSpec)) topBudgetUptoCard

/-- THE SECOND FORM's CARD OF 'reservoirtop.TopPost'. -/
def topPostUptoCard : Claim7 := { stood := { row := topPostUptoRow, standIns := [], harness := (true, "202da19c1f2557af2e29f7bc473f458cf3610eb72b88dc6ef6f7ba49981bfe8d"), looks := true }, kinds := [], alts := [], laidByText := true, laidKinds := [.data, .data, .data, .data, .pinned], laidTests := true, laidLooks := .later }
def TopPostUptoCardSaid : Prop := Claim7.holds Tryz.pinned (.plain (OpenSpec.upto topPostSpec)) topPostUptoCard
end Rows
end Go.Proofs.YtpgfdoakehpnlaaGreatDoor
