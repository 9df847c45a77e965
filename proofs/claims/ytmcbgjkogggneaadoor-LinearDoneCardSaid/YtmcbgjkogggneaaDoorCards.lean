/-
  DERIVED. GIVEN WITH THE SEED: THE CARDS: each row of YtmcbgjkogggneaaDoorRows.lean that lists a variable, with what it lists TIED to the program's text (the seventh form; the later family's looks); each row that meets fmt, with fmt's text TOLD by the authors' own Lean function (tested against real Go, not proved from fmt's source: count such statements apart). THE CARD IS WHAT COUNTS. Prove the row's statement (the work); the ties are given (YtmcbgjkogggneaaDoorTie.lean); close each card by the builder's one call (the guide's Derived/Test/ToyasCard.lean, 'card_holds'). Laid BY PROGRAM, IN A SANDBOX (cutbox-door.mjs). By AI agents, Wed Nov 11 2026. No macro, syntax, notation, axiom, sorry.
-/
import Derived.Test.YtmcbgjkogggneaaDoorRows
import GoSem.ClaimSeven
namespace Go.Proofs.YtmcbgjkogggneaaDoor
namespace Rows

/-- THE TIED CARD OF 'punnetlaw43.LinearFits'. -/
def linearFitsCard : Claim7 := { stood := { row := linearFitsRow, standIns := [], harness := (true, "782384edfed0e62b8995146b4bc242fbbbd9d771cd82c6c204fe594c5e83487b"), looks := false }, kinds := [], alts := [], laidByText := true, laidKinds := [.data, .data, .data], laidTests := true, laidLooks := .later }
def LinearFitsCardSaid : Prop := Claim7.holds Tryd.pinned (.plain (OpenSpec.ofChange linearFitsSpec)) linearFitsCard

/-- THE TIED CARD OF 'punnetlaw43.LinearSearch'. -/
def linearSearchCard : Claim7 := { stood := { row := linearSearchRow, standIns := [], harness := (true, "782384edfed0e62b8995146b4bc242fbbbd9d771cd82c6c204fe594c5e83487b"), looks := false }, kinds := [], alts := [], laidByText := true, laidKinds := [.data, .data, .data], laidTests := true, laidLooks := .later }
def LinearSearchCardSaid : Prop := Claim7.holds Tryd.pinned (.plain (OpenSpec.ofChange linearSearchSpec)) linearSearchCard

/-- THE TIED CARD OF 'punnetlaw43.LinearDone'. -/
def linearDoneCard : Claim7 := { stood := { row := linearDoneRow, standIns := [], harness := (true, "782384edfed0e62b8995146b4bc242fbbbd9d771cd82c6c204fe594c5e83487b"), looks := false }, kinds := [], alts := [], laidByText := true, laidKinds := [.data, .data, .data], laidTests := true, laidLooks := .later }
def LinearDoneCardSaid : Prop := Claim7.holds Tryd.pinned (.plain (OpenSpec.ofChange linearDoneSpec)) linearDoneCard

/-- THE TIED CARD OF 'punnetlaw43.LinearEnds'. -/
def linearEndsCard : Claim7 := { stood := { row := linearEndsRow, standIns := [], harness := (true, "782384edfed0e62b8995146b4bc242fbbbd9d771cd82c6c204fe594c5e83487b"), looks := false }, kinds := [], alts := [], laidByText := true, laidKinds := [.data, .data, .data], laidTests := true, laidLooks := .later }
def LinearEndsCardSaid : Prop := Claim7.holds Tryd.pinned (.plain (OpenSpec.ofChange linearEndsSpec)) linearEndsCard

/-- THE SECOND FORM's CARD OF 'punnetlaw43.LinearFits'. -/
def linearFitsUptoCard : Claim7 := { stood := { row := linearFitsUptoRow, standIns := [], harness := (true, "782384edfed0e62b8995146b4bc242fbbbd9d771cd82c6c204fe594c5e83487b"), looks := false }, kinds := [], alts := [], laidByText := true, laidKinds := [.data, .data, .data], laidTests := true, laidLooks := .later }
def LinearFitsUptoCardSaid : Prop := Claim7.holds Tryd.pinned (.plain (OpenSpec.upto linearFitsSpec)) linearFitsUptoCard

/-- THE SECOND FORM's CARD OF 'punnetlaw43.LinearSearch'. -/
def linearSearchUptoCard : Claim7 := { stood := { row := linearSearchUptoRow, standIns := [], harness := (true, "782384edfed0e62b8995146b4bc242fbbbd9d771cd82c6c204fe594c5e83487b"), looks := false }, kinds := [], alts := [], laidByText := true, laidKinds := [.data, .data, .data], laidTests := true, laidLooks := .later }
def LinearSearchUptoCardSaid : Prop := Claim7.holds Tryd.pinned (.plain (OpenSpec.upto linearSearchSpec)) linearSearchUptoCard

/-- THE SECOND FORM's CARD OF 'punnetlaw43.LinearDone'. -/
def linearDoneUptoCard : Claim7 := { stood := { row := linearDoneUptoRow, standIns := [], harness := (true, "782384edfed0e62b8995146b4bc242fbbbd9d771cd82c6c204fe594c5e83487b"), looks := false }, kinds := [], alts := [], laidByText := true, laidKinds := [.data, .data, .data], laidTests := true, laidLooks := .later }
def LinearDoneUptoCardSaid : Prop := Claim7.holds Tryd.pinned (.plain (OpenSpec.upto linearDoneSpec)) linearDoneUptoCard

/-- THE SECOND FORM's CARD OF 'punnetlaw43.LinearEnds'. -/
def linearEndsUptoCard : Claim7 := { stood := { row := linearEndsUptoRow, standIns := [], harness := (true, "782384edfed0e62b8995146b4bc242fbbbd9d771cd82c6c204fe594c5e83487b"), looks := false }, kinds := [], alts := [], laidByText := true, laidKinds := [.data, .data, .data], laidTests := true, laidLooks := .later }
def LinearEndsUptoCardSaid : Prop := Claim7.holds Tryd.pinned (.plain (OpenSpec.upto linearEndsSpec)) linearEndsUptoCard
end Rows
end Go.Proofs.YtmcbgjkogggneaaDoor
