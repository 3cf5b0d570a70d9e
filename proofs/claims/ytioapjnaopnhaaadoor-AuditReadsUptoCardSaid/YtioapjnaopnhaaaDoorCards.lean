/-
  DERIVED. GIVEN WITH THE SEED: THE CARDS: each row of YtioapjnaopnhaaaDoorRows.lean that lists a variable, with what it lists TIED to the program's text (the seventh form; the later family's looks); each row that meets fmt, with fmt's text TOLD by the authors' own Lean function (tested against real Go, not proved from fmt's source: count such statements apart). THE CARD IS WHAT COUNTS. Prove the row's statement (the work); the ties are given (YtioapjnaopnhaaaDoorTie.lean); close each card by the builder's one call (the guide's Derived/Test/ToyasCard.lean, 'card_holds'). Laid BY PROGRAM, IN A SANDBOX (cutbox-door.mjs). By AI agents, Wed Nov 11 2026. No macro, syntax, notation, axiom, sorry.
-/
import Derived.Test.YtioapjnaopnhaaaDoorRows
import GoSem.ClaimSeven
namespace Go.Proofs.YtioapjnaopnhaaaDoor
namespace Rows

/-- THE TIED CARD OF 'shalelaw19.AuditShows'. -/
def auditShowsCard : Claim7 := { stood := { row := auditShowsRow, standIns := [], harness := (true, "c78a32563356bd2400031a4321cdda63230cc3bb7e3e878b0f09af3574932e7b"), looks := true }, kinds := [], alts := [], laidByText := true, laidKinds := [.data, .data, .data, .data], laidTests := true, laidLooks := .later }
def AuditShowsCardSaid : Prop := Claim7.holds Tryd.pinned (.plain (OpenSpec.ofChange auditShowsSpec)) auditShowsCard

/-- THE TIED CARD OF 'shalelaw19.AuditReads'. -/
def auditReadsCard : Claim7 := { stood := { row := auditReadsRow, standIns := [], harness := (true, "c78a32563356bd2400031a4321cdda63230cc3bb7e3e878b0f09af3574932e7b"), looks := true }, kinds := [], alts := [], laidByText := true, laidKinds := [.data, .data, .data, .data, .sentinel, .sentinel, .data, .pinned], laidTests := true, laidLooks := .later }
def AuditReadsCardSaid : Prop := Claim7.holds Tryd.pinned (.plain (OpenSpec.ofChange auditReadsSpec)) auditReadsCard

/-- THE TIED CARD OF 'shalelaw19.AuditThere'. -/
def auditThereCard : Claim7 := { stood := { row := auditThereRow, standIns := [], harness := (true, "c78a32563356bd2400031a4321cdda63230cc3bb7e3e878b0f09af3574932e7b"), looks := true }, kinds := [], alts := [], laidByText := true, laidKinds := [.data, .data, .data, .data, .sentinel, .sentinel, .data, .pinned], laidTests := true, laidLooks := .later }
def AuditThereCardSaid : Prop := Claim7.holds Tryd.pinned (.plain (OpenSpec.ofChange auditThereSpec)) auditThereCard

/-- THE SECOND FORM's CARD OF 'shalelaw19.AuditShows'. -/
def auditShowsUptoCard : Claim7 := { stood := { row := auditShowsUptoRow, standIns := [], harness := (true, "c78a32563356bd2400031a4321cdda63230cc3bb7e3e878b0f09af3574932e7b"), looks := true }, kinds := [], alts := [], laidByText := true, laidKinds := [.data, .data, .data, .data], laidTests := true, laidLooks := .later }
def AuditShowsUptoCardSaid : Prop := Claim7.holds Tryd.pinned (.plain (OpenSpec.upto auditShowsSpec)) auditShowsUptoCard

/-- THE SECOND FORM's CARD OF 'shalelaw19.AuditReads'. -/
def auditReadsUptoCard : Claim7 := { stood := { row := auditReadsUptoRow, standIns := [], harness := (true, "c78a32563356bd2400031a4321cdda63230cc3bb7e3e878b0f09af3574932e7b"), looks := true }, kinds := [], alts := [], laidByText := true, laidKinds := [.data, .data, .data, .data, .sentinel, .sentinel, .data, .pinned], laidTests := true, laidLooks := .later }
def AuditReadsUptoCardSaid : Prop := Claim7.holds Tryd.pinned (.plain (OpenSpec.upto auditReadsSpec)) auditReadsUptoCard

/-- THE SECOND FORM's CARD OF 'shalelaw19.AuditThere'. -/
def auditThereUptoCard : Claim7 := { stood := { row := auditThereUptoRow, standIns := [], harness := (true, "c78a32563356bd2400031a4321cdda63230cc3bb7e3e878b0f09af3574932e7b"), looks := true }, kinds := [], alts := [], laidByText := true, laidKinds := [.data, .data, .data, .data, .sentinel, .sentinel, .data, .pinned], laidTests := true, laidLooks := .later }
def AuditThereUptoCardSaid : Prop := Claim7.holds Tryd.pinned (.plain (OpenSpec.upto auditThereSpec)) auditThereUptoCard
end Rows
end Go.Proofs.YtioapjnaopnhaaaDoor
