/-
  DERIVED. GIVEN WITH THE SEED: THE CARDS: each row of YtefkklgelmbaiaaDoorRows.lean that lists a variable, with what it lists TIED to the program's text (the seventh form; the later family's looks); each row that meets fmt, with fmt's text TOLD by the authors' own Lean function (tested against real Go, not proved from fmt's source: count such statements apart). THE CARD IS WHAT COUNTS. Prove the row's statement (the work); the ties are given (YtefkklgelmbaiaaDoorTie.lean); close each card by the builder's one call (the guide's Derived/Test/ToyasCard.lean, 'card_holds'). Laid BY PROGRAM, IN A SANDBOX (cutbox-door.mjs). By AI agents, Wed Nov 11 2026. No macro, syntax, notation, axiom, sorry.
-/
import Derived.Test.YtefkklgelmbaiaaDoorRows
import GoSem.ClaimSeven
namespace Go.Proofs.YtefkklgelmbaiaaDoor
namespace Rows

/-- THE TIED CARD OF 'shalelaw14.PointPacks'. -/
def pointPacksCard : Claim7 := { stood := { row := pointPacksRow, standIns := [], harness := (true, "6179b73633e67667558312209fbe4a1cbe9f5d2601840eeaabbdeef28b68b1e1"), looks := true }, kinds := [], alts := [], laidByText := true, laidKinds := [.data, .data, .data, .data, .data, .data], laidTests := true, laidLooks := .later }
def PointPacksCardSaid : Prop := Claim7.holds Tryd.pinned (.plain (OpenSpec.ofChange pointPacksSpec)) pointPacksCard

/-- THE TIED CARD OF 'shalelaw14.PointReads'. -/
def pointReadsCard : Claim7 := { stood := { row := pointReadsRow, standIns := [], harness := (true, "6179b73633e67667558312209fbe4a1cbe9f5d2601840eeaabbdeef28b68b1e1"), looks := true }, kinds := [], alts := [], laidByText := true, laidKinds := [.data, .data, .data, .data, .data, .data], laidTests := true, laidLooks := .later }
def PointReadsCardSaid : Prop := Claim7.holds Tryd.pinned (.plain (OpenSpec.ofChange pointReadsSpec)) pointReadsCard

/-- THE SECOND FORM's CARD OF 'shalelaw14.PointPacks'. -/
def pointPacksUptoCard : Claim7 := { stood := { row := pointPacksUptoRow, standIns := [], harness := (true, "6179b73633e67667558312209fbe4a1cbe9f5d2601840eeaabbdeef28b68b1e1"), looks := true }, kinds := [], alts := [], laidByText := true, laidKinds := [.data, .data, .data, .data, .data, .data], laidTests := true, laidLooks := .later }
def PointPacksUptoCardSaid : Prop := Claim7.holds Tryd.pinned (.plain (OpenSpec.upto pointPacksSpec)) pointPacksUptoCard

/-- THE SECOND FORM's CARD OF 'shalelaw14.PointReads'. -/
def pointReadsUptoCard : Claim7 := { stood := { row := pointReadsUptoRow, standIns := [], harness := (true, "6179b73633e67667558312209fbe4a1cbe9f5d2601840eeaabbdeef28b68b1e1"), looks := true }, kinds := [], alts := [], laidByText := true, laidKinds := [.data, .data, .data, .data, .data, .data], laidTests := true, laidLooks := .later }
def PointReadsUptoCardSaid : Prop := Claim7.holds Tryd.pinned (.plain (OpenSpec.upto pointReadsSpec)) pointReadsUptoCard
end Rows
end Go.Proofs.YtefkklgelmbaiaaDoor
