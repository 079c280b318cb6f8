/-
  DERIVED. GIVEN WITH THE SEED: THE CARDS: each row of YteeiacfddjhhkaaGreatDoorRows.lean that lists a variable, with what it lists TIED to the program's text (the seventh form; the later family's looks); each row that meets fmt, with fmt's text TOLD by the authors' own Lean function (tested against real Go, not proved from fmt's source: count such statements apart). THE CARD IS WHAT COUNTS. Prove the row's statement (the work); the ties are given (YteeiacfddjhhkaaGreatDoorTie.lean); close each card by the builder's one call (the guide's Derived/Test/ToyasCard.lean, 'card_holds'). Laid BY PROGRAM, IN A SANDBOX (cutbox-door.mjs). By AI agents, Wed Nov 11 2026. No macro, syntax, notation, axiom, sorry.
-/
import Derived.Test.YteeiacfddjhhkaaGreatDoorRows
import GoSem.ClaimSeven
namespace Go.Proofs.YteeiacfddjhhkaaGreatDoor
namespace Rows

/-- THE TIED CARD OF 'byroadlaw20.NetOrder'. -/
def netOrderCard : Claim7 := { stood := { row := netOrderRow, standIns := [], harness := (true, "8b7263071db713470b76dcf6f92dafcf9d894d50fffd54f95d3ae0b52084ea02"), looks := true }, kinds := [], alts := [], laidByText := true, laidKinds := [.handle], laidTests := true, laidLooks := .later }
def NetOrderCardSaid : Prop := Claim7.holds Tryz.pinned (.plain (OpenSpec.ofChange netOrderSpec)) netOrderCard

/-- THE TIED CARD OF 'byroadlaw20.NetCarries'. -/
def netCarriesCard : Claim7 := { stood := { row := netCarriesRow, standIns := [], harness := (true, "8b7263071db713470b76dcf6f92dafcf9d894d50fffd54f95d3ae0b52084ea02"), looks := true }, kinds := [], alts := [], laidByText := true, laidKinds := [.handle], laidTests := true, laidLooks := .later }
def NetCarriesCardSaid : Prop := Claim7.holds Tryz.pinned (.plain (OpenSpec.ofChange netCarriesSpec)) netCarriesCard

/-- THE TIED CARD OF 'byroadlaw20.NetPlays'. -/
def netPlaysCard : Claim7 := { stood := { row := netPlaysRow, standIns := [], harness := (true, "8b7263071db713470b76dcf6f92dafcf9d894d50fffd54f95d3ae0b52084ea02"), looks := true }, kinds := [], alts := [], laidByText := true, laidKinds := [.handle], laidTests := true, laidLooks := .later }
def NetPlaysCardSaid : Prop := Claim7.holds Tryz.pinned (.plain (OpenSpec.ofChange netPlaysSpec)) netPlaysCard

/-- THE TIED CARD OF 'byroadlaw20.NetNil'. -/
def netNilCard : Claim7 := { stood := { row := netNilRow, standIns := [], harness := (true, "8b7263071db713470b76dcf6f92dafcf9d894d50fffd54f95d3ae0b52084ea02"), looks := true }, kinds := [], alts := [], laidByText := true, laidKinds := [.handle], laidTests := true, laidLooks := .later }
def NetNilCardSaid : Prop := Claim7.holds Tryz.pinned (.plain (OpenSpec.ofChange netNilSpec)) netNilCard

/-- THE SECOND FORM's CARD OF 'byroadlaw20.NetOrder'. -/
def netOrderUptoCard : Claim7 := { stood := { row := netOrderUptoRow, standIns := [], harness := (true, "8b7263071db713470b76dcf6f92dafcf9d894d50fffd54f95d3ae0b52084ea02"), looks := true }, kinds := [], alts := [], laidByText := true, laidKinds := [.handle], laidTests := true, laidLooks := .later }
def NetOrderUptoCardSaid : Prop := Claim7.holds Tryz.pinned (.plain (OpenSpec.upto netOrderSpec)) netOrderUptoCard

/-- THE SECOND FORM's CARD OF 'byroadlaw20.NetCarries'. -/
def netCarriesUptoCard : Claim7 := { stood := { row := netCarriesUptoRow, standIns := [], harness := (true, "8b7263071db713470b76dcf6f92dafcf9d894d50fffd54f95d3ae0b52084ea02"), looks := true }, kinds := [], alts := [], laidByText := true, laidKinds := [.handle], laidTests := true, laidLooks := .later }
def NetCarriesUptoCardSaid : Prop := Claim7.holds Tryz.pinned (.plain (OpenSpec.upto netCarriesSpec)) netCarriesUptoCard

/-- THE SECOND FORM's CARD OF 'byroadlaw20.NetPlays'. -/
def netPlaysUptoCard : Claim7 := { stood := { row := netPlaysUptoRow, standIns := [], harness := (true, "8b7263071db713470b76dcf6f92dafcf9d894d50fffd54f95d3ae0b52084ea02"), looks := true }, kinds := [], alts := [], laidByText := true, laidKinds := [.handle], laidTests := true, laidLooks := .later }
def NetPlaysUptoCardSaid : Prop := Claim7.holds Tryz.pinned (.plain (OpenSpec.upto netPlaysSpec)) netPlaysUptoCard

/-- THE SECOND FORM's CARD OF 'byroadlaw20.NetNil'. -/
def netNilUptoCard : Claim7 := { stood := { row := netNilUptoRow, standIns := [], harness := (true, "8b7263071db713470b76dcf6f92dafcf9d894d50fffd54f95d3ae0b52084ea02"), looks := true }, kinds := [], alts := [], laidByText := true, laidKinds := [.handle], laidTests := true, laidLooks := .later }
def NetNilUptoCardSaid : Prop := Claim7.holds Tryz.pinned (.plain (OpenSpec.upto netNilSpec)) netNilUptoCard
end Rows
end Go.Proofs.YteeiacfddjhhkaaGreatDoor
