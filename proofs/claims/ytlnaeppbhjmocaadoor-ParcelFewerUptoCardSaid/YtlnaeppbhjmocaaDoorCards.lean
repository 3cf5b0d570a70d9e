/-
  DERIVED. GIVEN WITH THE SEED: THE CARDS: each row of YtlnaeppbhjmocaaDoorRows.lean that lists a variable, with what it lists TIED to the program's text (the seventh form; the later family's looks); each row that meets fmt, with fmt's text TOLD by the authors' own Lean function (tested against real Go, not proved from fmt's source: count such statements apart). THE CARD IS WHAT COUNTS. Prove the row's statement (the work); the ties are given (YtlnaeppbhjmocaaDoorTie.lean); close each card by the builder's one call (the guide's Derived/Test/ToyasCard.lean, 'card_holds'). Laid BY PROGRAM, IN A SANDBOX (cutbox-door.mjs). By AI agents, Wed Nov 11 2026. No macro, syntax, notation, axiom, sorry.
-/
import Derived.Test.YtlnaeppbhjmocaaDoorRows
import GoSem.ClaimSeven
namespace Go.Proofs.YtlnaeppbhjmocaaDoor
namespace Rows

/-- THE TIED CARD OF 'shalelaw18.ParcelReads'. -/
def parcelReadsCard : Claim7 := { stood := { row := parcelReadsRow, standIns := [], harness := (true, "9fad9ea24dc081738e4f9156233e685a2d6d6ea164cee80cbfd704d1657027d9"), looks := true }, kinds := [], alts := [], laidByText := true, laidKinds := [.data], laidTests := true, laidLooks := .later }
def ParcelReadsCardSaid : Prop := Claim7.holds Tryd.pinned (.plain (OpenSpec.ofChange parcelReadsSpec)) parcelReadsCard

/-- THE TIED CARD OF 'shalelaw18.ParcelPacks'. -/
def parcelPacksCard : Claim7 := { stood := { row := parcelPacksRow, standIns := [], harness := (true, "9fad9ea24dc081738e4f9156233e685a2d6d6ea164cee80cbfd704d1657027d9"), looks := true }, kinds := [], alts := [], laidByText := true, laidKinds := [.data, .data, .pinned], laidTests := true, laidLooks := .later }
def ParcelPacksCardSaid : Prop := Claim7.holds Tryd.pinned (.plain (OpenSpec.ofChange parcelPacksSpec)) parcelPacksCard

/-- THE TIED CARD OF 'shalelaw18.ParcelBack'. -/
def parcelBackCard : Claim7 := { stood := { row := parcelBackRow, standIns := [], harness := (true, "9fad9ea24dc081738e4f9156233e685a2d6d6ea164cee80cbfd704d1657027d9"), looks := true }, kinds := [], alts := [], laidByText := true, laidKinds := [.data, .data, .pinned], laidTests := true, laidLooks := .later }
def ParcelBackCardSaid : Prop := Claim7.holds Tryd.pinned (.plain (OpenSpec.ofChange parcelBackSpec)) parcelBackCard

/-- THE TIED CARD OF 'shalelaw18.ParcelCanon'. -/
def parcelCanonCard : Claim7 := { stood := { row := parcelCanonRow, standIns := [], harness := (true, "9fad9ea24dc081738e4f9156233e685a2d6d6ea164cee80cbfd704d1657027d9"), looks := true }, kinds := [], alts := [], laidByText := true, laidKinds := [.data, .data, .pinned], laidTests := true, laidLooks := .later }
def ParcelCanonCardSaid : Prop := Claim7.holds Tryd.pinned (.plain (OpenSpec.ofChange parcelCanonSpec)) parcelCanonCard

/-- THE TIED CARD OF 'shalelaw18.ParcelBursts'. -/
def parcelBurstsCard : Claim7 := { stood := { row := parcelBurstsRow, standIns := [], harness := (true, "9fad9ea24dc081738e4f9156233e685a2d6d6ea164cee80cbfd704d1657027d9"), looks := true }, kinds := [], alts := [], laidByText := true, laidKinds := [.data, .data, .pinned], laidTests := true, laidLooks := .later }
def ParcelBurstsCardSaid : Prop := Claim7.holds Tryd.pinned (.plain (OpenSpec.ofChange parcelBurstsSpec)) parcelBurstsCard

/-- THE TIED CARD OF 'shalelaw18.ParcelWhole'. -/
def parcelWholeCard : Claim7 := { stood := { row := parcelWholeRow, standIns := [], harness := (true, "9fad9ea24dc081738e4f9156233e685a2d6d6ea164cee80cbfd704d1657027d9"), looks := true }, kinds := [], alts := [], laidByText := true, laidKinds := [.data, .data, .pinned], laidTests := true, laidLooks := .later }
def ParcelWholeCardSaid : Prop := Claim7.holds Tryd.pinned (.plain (OpenSpec.ofChange parcelWholeSpec)) parcelWholeCard

/-- THE TIED CARD OF 'shalelaw18.ParcelFewer'. -/
def parcelFewerCard : Claim7 := { stood := { row := parcelFewerRow, standIns := [], harness := (true, "9fad9ea24dc081738e4f9156233e685a2d6d6ea164cee80cbfd704d1657027d9"), looks := true }, kinds := [], alts := [], laidByText := true, laidKinds := [.data, .data, .pinned], laidTests := true, laidLooks := .later }
def ParcelFewerCardSaid : Prop := Claim7.holds Tryd.pinned (.plain (OpenSpec.ofChange parcelFewerSpec)) parcelFewerCard

/-- THE TIED CARD OF 'shalelaw18.ParcelOwn'. -/
def parcelOwnCard : Claim7 := { stood := { row := parcelOwnRow, standIns := [], harness := (true, "9fad9ea24dc081738e4f9156233e685a2d6d6ea164cee80cbfd704d1657027d9"), looks := true }, kinds := [], alts := [], laidByText := true, laidKinds := [.data, .data, .pinned], laidTests := true, laidLooks := .later }
def ParcelOwnCardSaid : Prop := Claim7.holds Tryd.pinned (.plain (OpenSpec.ofChange parcelOwnSpec)) parcelOwnCard

/-- THE SECOND FORM's CARD OF 'shalelaw18.ParcelReads'. -/
def parcelReadsUptoCard : Claim7 := { stood := { row := parcelReadsUptoRow, standIns := [], harness := (true, "9fad9ea24dc081738e4f9156233e685a2d6d6ea164cee80cbfd704d1657027d9"), looks := true }, kinds := [], alts := [], laidByText := true, laidKinds := [.data], laidTests := true, laidLooks := .later }
def ParcelReadsUptoCardSaid : Prop := Claim7.holds Tryd.pinned (.plain (OpenSpec.upto parcelReadsSpec)) parcelReadsUptoCard

/-- THE SECOND FORM's CARD OF 'shalelaw18.ParcelPacks'. -/
def parcelPacksUptoCard : Claim7 := { stood := { row := parcelPacksUptoRow, standIns := [], harness := (true, "9fad9ea24dc081738e4f9156233e685a2d6d6ea164cee80cbfd704d1657027d9"), looks := true }, kinds := [], alts := [], laidByText := true, laidKinds := [.data, .data, .pinned], laidTests := true, laidLooks := .later }
def ParcelPacksUptoCardSaid : Prop := Claim7.holds Tryd.pinned (.plain (OpenSpec.upto parcelPacksSpec)) parcelPacksUptoCard

/-- THE SECOND FORM's CARD OF 'shalelaw18.ParcelBack'. -/
def parcelBackUptoCard : Claim7 := { stood := { row := parcelBackUptoRow, standIns := [], harness := (true, "9fad9ea24dc081738e4f9156233e685a2d6d6ea164cee80cbfd704d1657027d9"), looks := true }, kinds := [], alts := [], laidByText := true, laidKinds := [.data, .data, .pinned], laidTests := true, laidLooks := .later }
def ParcelBackUptoCardSaid : Prop := Claim7.holds Tryd.pinned (.plain (OpenSpec.upto parcelBackSpec)) parcelBackUptoCard

/-- THE SECOND FORM's CARD OF 'shalelaw18.ParcelCanon'. -/
def parcelCanonUptoCard : Claim7 := { stood := { row := parcelCanonUptoRow, standIns := [], harness := (true, "9fad9ea24dc081738e4f9156233e685a2d6d6ea164cee80cbfd704d1657027d9"), looks := true }, kinds := [], alts := [], laidByText := true, laidKinds := [.data, .data, .pinned], laidTests := true, laidLooks := .later }
def ParcelCanonUptoCardSaid : Prop := Claim7.holds Tryd.pinned (.plain (OpenSpec.upto parcelCanonSpec)) parcelCanonUptoCard

/-- THE SECOND FORM's CARD OF 'shalelaw18.ParcelBursts'. -/
def parcelBurstsUptoCard : Claim7 := { stood := { row := parcelBurstsUptoRow, standIns := [], harness := (true, "9fad9ea24dc081738e4f9156233e685a2d6d6ea164cee80cbfd704d1657027d9"), looks := true }, kinds := [], alts := [], laidByText := true, laidKinds := [.data, .data, .pinned], laidTests := true, laidLooks := .later }
def ParcelBurstsUptoCardSaid : Prop := Claim7.holds Tryd.pinned (.plain (OpenSpec.upto parcelBurstsSpec)) parcelBurstsUptoCard

/-- THE SECOND FORM's CARD OF 'shalelaw18.ParcelWhole'. -/
def parcelWholeUptoCard : Claim7 := { stood := { row := parcelWholeUptoRow, standIns := [], harness := (true, "9fad9ea24dc081738e4f9156233e685a2d6d6ea164cee80cbfd704d1657027d9"), looks := true }, kinds := [], alts := [], laidByText := true, laidKinds := [.data, .data, .pinned], laidTests := true, laidLooks := .later }
def ParcelWholeUptoCardSaid : Prop := Claim7.holds Tryd.pinned (.plain (OpenSpec.upto parcelWholeSpec)) parcelWholeUptoCard

/-- THE SECOND FORM's CARD OF 'shalelaw18.ParcelFewer'. -/
def parcelFewerUptoCard : Claim7 := { stood := { row := parcelFewerUptoRow, standIns := [], harness := (true, "9fad9ea24dc081738e4f9156233e685a2d6d6ea164cee80cbfd704d1657027d9"), looks := true }, kinds := [], alts := [], laidByText := true, laidKinds := [.data, .data, .pinned], laidTests := true, laidLooks := .later }
def ParcelFewerUptoCardSaid : Prop := Claim7.holds Tryd.pinned (.plain (OpenSpec.upto parcelFewerSpec)) parcelFewerUptoCard

/-- THE SECOND FORM's CARD OF 'shalelaw18.ParcelOwn'. -/
def parcelOwnUptoCard : Claim7 := { stood := { row := parcelOwnUptoRow, standIns := [], harness := (true, "9fad9ea24dc081738e4f9156233e685a2d6d6ea164cee80cbfd704d1657027d9"), looks := true }, kinds := [], alts := [], laidByText := true, laidKinds := [.data, .data, .pinned], laidTests := true, laidLooks := .later }
def ParcelOwnUptoCardSaid : Prop := Claim7.holds Tryd.pinned (.plain (OpenSpec.upto parcelOwnSpec)) parcelOwnUptoCard
end Rows
end Go.Proofs.YtlnaeppbhjmocaaDoor
