/-
  DERIVED. GIVEN WITH THE SEED: THE CARDS: each row of YtlmdpmfahfgjkaaDoorRows.lean that lists a variable, with what it lists TIED to the program's text (the seventh form; the later family's looks); each row that meets fmt, with fmt's text TOLD by the authors' own Lean function (tested against real Go, not proved from fmt's source: count such statements apart). THE CARD IS WHAT COUNTS. Prove the row's statement (the work); the ties are given (YtlmdpmfahfgjkaaDoorTie.lean); close each card by the builder's one call (the guide's Derived/Test/ToyasCard.lean, 'card_holds'). Laid BY PROGRAM, IN A SANDBOX (cutbox-door.mjs). By AI agents, Wed Nov 11 2026. No macro, syntax, notation, axiom, sorry.
-/
import Derived.Test.YtlmdpmfahfgjkaaDoorRows
import GoSem.ClaimSeven
namespace Go.Proofs.YtlmdpmfahfgjkaaDoor
namespace Rows

/-- THE TIED CARD OF 'punnetlaw46.GlobParses'. -/
def globParsesCard : Claim7 := { stood := { row := globParsesRow, standIns := [], harness := (true, "09914c59faa976c3a998e8dfe2b3d10c6ba9429ca042e99d02774f4555c817f1"), looks := false }, kinds := [], alts := [], laidByText := true, laidKinds := [.data, .pinned], laidTests := true, laidLooks := .later }
def GlobParsesCardSaid : Prop := Claim7.holds Tryd.pinned (.plain (OpenSpec.ofChange globParsesSpec)) globParsesCard

/-- THE TIED CARD OF 'punnetlaw46.GlobWider'. -/
def globWiderCard : Claim7 := { stood := { row := globWiderRow, standIns := [], harness := (true, "09914c59faa976c3a998e8dfe2b3d10c6ba9429ca042e99d02774f4555c817f1"), looks := false }, kinds := [], alts := [], laidByText := true, laidKinds := [.data, .pinned], laidTests := true, laidLooks := .later }
def GlobWiderCardSaid : Prop := Claim7.holds Tryd.pinned (.plain (OpenSpec.ofChange globWiderSpec)) globWiderCard

/-- THE TIED CARD OF 'punnetlaw46.GlobMatches'. -/
def globMatchesCard : Claim7 := { stood := { row := globMatchesRow, standIns := [], harness := (true, "09914c59faa976c3a998e8dfe2b3d10c6ba9429ca042e99d02774f4555c817f1"), looks := false }, kinds := [], alts := [], laidByText := true, laidKinds := [.data, .pinned], laidTests := true, laidLooks := .later }
def GlobMatchesCardSaid : Prop := Claim7.holds Tryd.pinned (.plain (OpenSpec.ofChange globMatchesSpec)) globMatchesCard

/-- THE TIED CARD OF 'punnetlaw46.GlobQuotes'. -/
def globQuotesCard : Claim7 := { stood := { row := globQuotesRow, standIns := [], harness := (true, "09914c59faa976c3a998e8dfe2b3d10c6ba9429ca042e99d02774f4555c817f1"), looks := false }, kinds := [], alts := [], laidByText := true, laidKinds := [.data, .pinned], laidTests := true, laidLooks := .later }
def GlobQuotesCardSaid : Prop := Claim7.holds Tryd.pinned (.plain (OpenSpec.ofChange globQuotesSpec)) globQuotesCard

/-- THE SECOND FORM's CARD OF 'punnetlaw46.GlobParses'. -/
def globParsesUptoCard : Claim7 := { stood := { row := globParsesUptoRow, standIns := [], harness := (true, "09914c59faa976c3a998e8dfe2b3d10c6ba9429ca042e99d02774f4555c817f1"), looks := false }, kinds := [], alts := [], laidByText := true, laidKinds := [.data, .pinned], laidTests := true, laidLooks := .later }
def GlobParsesUptoCardSaid : Prop := Claim7.holds Tryd.pinned (.plain (OpenSpec.upto globParsesSpec)) globParsesUptoCard

/-- THE SECOND FORM's CARD OF 'punnetlaw46.GlobWider'. -/
def globWiderUptoCard : Claim7 := { stood := { row := globWiderUptoRow, standIns := [], harness := (true, "09914c59faa976c3a998e8dfe2b3d10c6ba9429ca042e99d02774f4555c817f1"), looks := false }, kinds := [], alts := [], laidByText := true, laidKinds := [.data, .pinned], laidTests := true, laidLooks := .later }
def GlobWiderUptoCardSaid : Prop := Claim7.holds Tryd.pinned (.plain (OpenSpec.upto globWiderSpec)) globWiderUptoCard

/-- THE SECOND FORM's CARD OF 'punnetlaw46.GlobMatches'. -/
def globMatchesUptoCard : Claim7 := { stood := { row := globMatchesUptoRow, standIns := [], harness := (true, "09914c59faa976c3a998e8dfe2b3d10c6ba9429ca042e99d02774f4555c817f1"), looks := false }, kinds := [], alts := [], laidByText := true, laidKinds := [.data, .pinned], laidTests := true, laidLooks := .later }
def GlobMatchesUptoCardSaid : Prop := Claim7.holds Tryd.pinned (.plain (OpenSpec.upto globMatchesSpec)) globMatchesUptoCard

/-- THE SECOND FORM's CARD OF 'punnetlaw46.GlobQuotes'. -/
def globQuotesUptoCard : Claim7 := { stood := { row := globQuotesUptoRow, standIns := [], harness := (true, "09914c59faa976c3a998e8dfe2b3d10c6ba9429ca042e99d02774f4555c817f1"), looks := false }, kinds := [], alts := [], laidByText := true, laidKinds := [.data, .pinned], laidTests := true, laidLooks := .later }
def GlobQuotesUptoCardSaid : Prop := Claim7.holds Tryd.pinned (.plain (OpenSpec.upto globQuotesSpec)) globQuotesUptoCard
end Rows
end Go.Proofs.YtlmdpmfahfgjkaaDoor
