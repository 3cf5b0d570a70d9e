/-
  NARROWER THAN 'FOR EVERY INPUT', by the rows' own cells (each row's printed sentence says how): ParcelReads: laid · ParcelPacks: laid · ParcelBack: laid · ParcelCanon: laid · ParcelBursts: laid · ParcelWhole: laid · ParcelFewer: laid · ParcelOwn: laid.
  DERIVED. THE GIVEN ROWS OF THIS SEAT. 8 by the template 'for every input the law returns true; each argument reads behind the call as it read before'; 0 by the template 'total and deterministic' (their statements: YtlnaeppbhjmocaaDoorTotals.lean).
  GIVEN WITH THE SEED: the statements are not yours to turn. If you find one false, say at which input.
  Laid BY PROGRAM, IN A SANDBOX (cutbox-rows.mjs): the forced cells as the released guide's own fill.sh prints them over the translation 605bb0b0b2c4826e… (all of the seat's roots in one cut). By AI agents, Wed Nov 11 2026. No macro, syntax, notation, axiom, sorry.
-/
import Derived.Test.YtlnaeppbhjmocaaDoorChecked
import GoSem.PinnedTables
import GoSem.Claim
import GoSem.ClaimJoined
import GoSem.ClaimMapViews
import Derived.JoinedTies
import Derived.KernelRfl
namespace Go.Proofs.YtlnaeppbhjmocaaDoor
/- THE CELL 'sum', in the pinned program and in every row, IS THE sha256 OF THE DUMP (.gsa) THAT YtlnaeppbhjmocaaDoorProg.lean LOADS. Nothing in Lean hashes anything: it is a label: what it is worth is what the hold of that sum in a sandbox is worth. -/
noncomputable def Tryd.pinned : Pinned := { name := "ytlnaeppbhjmocaadoor", sum := "605bb0b0b2c4826ef30318eff5c45e19cf47647ea1e18771cf50f14d49431d0f", checked := Tryd.checked }
namespace Rows
def none {H : Type} : Left H := { results := [], args := [] }

/- WHAT THE LISTED PACKAGE-LEVEL VARIABLES READ AS WHEN THE CALL BEGINS. Each datum BY PROGRAM (the guide's laid-datum.mjs) off the statement by which the dump's own 'gosem.cut.vars' lays the variable. In a bare row this is a premise. The card (YtlnaeppbhjmocaaDoorCards.lean) ties it to the program's text. -/
def laid_shale_words_fours {H : Type} : DataW H := .agg [.lit (.int .u32 0), .lit (.int .u32 498536548), .lit (.int .u32 997073096), .lit (.int .u32 651767980), .lit (.int .u32 1994146192), .lit (.int .u32 1802195444), .lit (.int .u32 1303535960), .lit (.int .u32 1342533948), .lit (.int .u32 3988292384), .lit (.int .u32 4027552580), .lit (.int .u32 3604390888), .lit (.int .u32 3412177804), .lit (.int .u32 2607071920), .lit (.int .u32 2262029012), .lit (.int .u32 2685067896), .lit (.int .u32 3183342108)]
def laid_unicode_utf8_acceptRanges {H : Type} : DataW H := .agg [.agg [.lit (.int .u8 128), .lit (.int .u8 191)], .agg [.lit (.int .u8 160), .lit (.int .u8 191)], .agg [.lit (.int .u8 128), .lit (.int .u8 159)], .agg [.lit (.int .u8 144), .lit (.int .u8 191)], .agg [.lit (.int .u8 128), .lit (.int .u8 143)], .agg [.lit (.int .u8 0), .lit (.int .u8 0)], .agg [.lit (.int .u8 0), .lit (.int .u8 0)], .agg [.lit (.int .u8 0), .lit (.int .u8 0)], .agg [.lit (.int .u8 0), .lit (.int .u8 0)], .agg [.lit (.int .u8 0), .lit (.int .u8 0)], .agg [.lit (.int .u8 0), .lit (.int .u8 0)], .agg [.lit (.int .u8 0), .lit (.int .u8 0)], .agg [.lit (.int .u8 0), .lit (.int .u8 0)], .agg [.lit (.int .u8 0), .lit (.int .u8 0)], .agg [.lit (.int .u8 0), .lit (.int .u8 0)], .agg [.lit (.int .u8 0), .lit (.int .u8 0)]]
/-- One of Go's own tables, pinned by name: the form's constant. -/
def laid_unicode_utf8_first : DataW Unit := Go.Pinned.utf8First

/-- 'shalelaw18.ParcelReads': WHATEVER THE INPUT: true; the input reads as it did. -/
def parcelReadsSpec : ChangeSpec := { name := "parcelReads", fn := fun _ => fun
  | [d] => { results := [.lit (.bool true)], args := [d] }
  | _ => none }
def parcelReadsRow : OpenClaim := { program := "ytlnaeppbhjmocaadoor", sum := "605bb0b0b2c4826ef30318eff5c45e19cf47647ea1e18771cf50f14d49431d0f", func := "shale/shalelaw18.ParcelReads", spec := "parcelReads", inPlace := ["internal/bytealg.IndexByteString", "internal/bytealg.IndexString", "internal/abi.NoEscape", "internal/bytealg.MakeNoZero"], unfollowed := true, recurses := true, named := ["shale/words.fours", "internal/bytealg.MaxLen"], apart := false, laid := [("shale/words.fours", laid_shale_words_fours)] }
def ParcelReadsSaid : Prop := parcelReadsRow.holds Tryd.pinned (OpenSpec.ofChange parcelReadsSpec)

/-- ITS FALSE NEIGHBOUR: 'it returns false'. Refute it at one input. -/
def parcelReadsWrong : ChangeSpec := { name := "parcelReads", fn := fun _ => fun
  | [d] => { results := [.lit (.bool false)], args := [d] }
  | _ => none }
def ParcelReadsWrongFalsely : Prop := parcelReadsRow.holds Tryd.pinned (OpenSpec.ofChange parcelReadsWrong)

/-- 'shalelaw18.ParcelPacks': WHATEVER THE INPUT: true; the input reads as it did. -/
def parcelPacksSpec : ChangeSpec := { name := "parcelPacks", fn := fun _ => fun
  | [d] => { results := [.lit (.bool true)], args := [d] }
  | _ => none }
def parcelPacksRow : OpenClaim := { program := "ytlnaeppbhjmocaadoor", sum := "605bb0b0b2c4826ef30318eff5c45e19cf47647ea1e18771cf50f14d49431d0f", func := "shale/shalelaw18.ParcelPacks", spec := "parcelPacks", inPlace := ["internal/bytealg.IndexByteString", "internal/bytealg.IndexString", "internal/abi.NoEscape", "internal/bytealg.MakeNoZero"], unfollowed := true, recurses := true, named := ["internal/bytealg.MaxLen", "unicode/utf8.first", "unicode/utf8.acceptRanges", "shale/words.fours"], apart := false, laid := [("unicode/utf8.acceptRanges", laid_unicode_utf8_acceptRanges), ("shale/words.fours", laid_shale_words_fours), ("unicode/utf8.first", laid_unicode_utf8_first)] }
def ParcelPacksSaid : Prop := parcelPacksRow.holds Tryd.pinned (OpenSpec.ofChange parcelPacksSpec)

/-- ITS FALSE NEIGHBOUR: 'it returns false'. Refute it at one input. -/
def parcelPacksWrong : ChangeSpec := { name := "parcelPacks", fn := fun _ => fun
  | [d] => { results := [.lit (.bool false)], args := [d] }
  | _ => none }
def ParcelPacksWrongFalsely : Prop := parcelPacksRow.holds Tryd.pinned (OpenSpec.ofChange parcelPacksWrong)

/-- 'shalelaw18.ParcelBack': WHATEVER THE INPUT: true; the input reads as it did. -/
def parcelBackSpec : ChangeSpec := { name := "parcelBack", fn := fun _ => fun
  | [d] => { results := [.lit (.bool true)], args := [d] }
  | _ => none }
def parcelBackRow : OpenClaim := { program := "ytlnaeppbhjmocaadoor", sum := "605bb0b0b2c4826ef30318eff5c45e19cf47647ea1e18771cf50f14d49431d0f", func := "shale/shalelaw18.ParcelBack", spec := "parcelBack", inPlace := ["internal/bytealg.IndexByteString", "internal/bytealg.IndexString", "internal/abi.NoEscape", "internal/bytealg.MakeNoZero"], unfollowed := true, recurses := true, named := ["internal/bytealg.MaxLen", "unicode/utf8.first", "unicode/utf8.acceptRanges", "shale/words.fours"], apart := false, laid := [("unicode/utf8.acceptRanges", laid_unicode_utf8_acceptRanges), ("shale/words.fours", laid_shale_words_fours), ("unicode/utf8.first", laid_unicode_utf8_first)] }
def ParcelBackSaid : Prop := parcelBackRow.holds Tryd.pinned (OpenSpec.ofChange parcelBackSpec)

/-- ITS FALSE NEIGHBOUR: 'it returns false'. Refute it at one input. -/
def parcelBackWrong : ChangeSpec := { name := "parcelBack", fn := fun _ => fun
  | [d] => { results := [.lit (.bool false)], args := [d] }
  | _ => none }
def ParcelBackWrongFalsely : Prop := parcelBackRow.holds Tryd.pinned (OpenSpec.ofChange parcelBackWrong)

/-- 'shalelaw18.ParcelCanon': WHATEVER THE INPUT: true; the input reads as it did. -/
def parcelCanonSpec : ChangeSpec := { name := "parcelCanon", fn := fun _ => fun
  | [d1, d2, d3, d4] => { results := [.lit (.bool true)], args := [d1, d2, d3, d4] }
  | _ => none }
def parcelCanonRow : OpenClaim := { program := "ytlnaeppbhjmocaadoor", sum := "605bb0b0b2c4826ef30318eff5c45e19cf47647ea1e18771cf50f14d49431d0f", func := "shale/shalelaw18.ParcelCanon", spec := "parcelCanon", inPlace := ["internal/bytealg.IndexByteString", "internal/bytealg.IndexString", "internal/abi.NoEscape", "internal/bytealg.MakeNoZero"], unfollowed := true, recurses := true, named := ["internal/bytealg.MaxLen", "unicode/utf8.first", "unicode/utf8.acceptRanges", "shale/words.fours"], apart := false, laid := [("unicode/utf8.acceptRanges", laid_unicode_utf8_acceptRanges), ("shale/words.fours", laid_shale_words_fours), ("unicode/utf8.first", laid_unicode_utf8_first)] }
def ParcelCanonSaid : Prop := parcelCanonRow.holds Tryd.pinned (OpenSpec.ofChange parcelCanonSpec)

/-- ITS FALSE NEIGHBOUR: 'it returns false'. Refute it at one input. -/
def parcelCanonWrong : ChangeSpec := { name := "parcelCanon", fn := fun _ => fun
  | [d1, d2, d3, d4] => { results := [.lit (.bool false)], args := [d1, d2, d3, d4] }
  | _ => none }
def ParcelCanonWrongFalsely : Prop := parcelCanonRow.holds Tryd.pinned (OpenSpec.ofChange parcelCanonWrong)

/-- 'shalelaw18.ParcelBursts': WHATEVER THE INPUT: true; the input reads as it did. -/
def parcelBurstsSpec : ChangeSpec := { name := "parcelBursts", fn := fun _ => fun
  | [d1, d2, d3] => { results := [.lit (.bool true)], args := [d1, d2, d3] }
  | _ => none }
def parcelBurstsRow : OpenClaim := { program := "ytlnaeppbhjmocaadoor", sum := "605bb0b0b2c4826ef30318eff5c45e19cf47647ea1e18771cf50f14d49431d0f", func := "shale/shalelaw18.ParcelBursts", spec := "parcelBursts", inPlace := ["internal/bytealg.IndexByteString", "internal/bytealg.IndexString", "internal/abi.NoEscape", "internal/bytealg.MakeNoZero"], unfollowed := true, recurses := true, named := ["internal/bytealg.MaxLen", "unicode/utf8.first", "unicode/utf8.acceptRanges", "shale/words.fours"], apart := false, laid := [("unicode/utf8.acceptRanges", laid_unicode_utf8_acceptRanges), ("shale/words.fours", laid_shale_words_fours), ("unicode/utf8.first", laid_unicode_utf8_first)] }
def ParcelBurstsSaid : Prop := parcelBurstsRow.holds Tryd.pinned (OpenSpec.ofChange parcelBurstsSpec)

/-- ITS FALSE NEIGHBOUR: 'it returns false'. Refute it at one input. -/
def parcelBurstsWrong : ChangeSpec := { name := "parcelBursts", fn := fun _ => fun
  | [d1, d2, d3] => { results := [.lit (.bool false)], args := [d1, d2, d3] }
  | _ => none }
def ParcelBurstsWrongFalsely : Prop := parcelBurstsRow.holds Tryd.pinned (OpenSpec.ofChange parcelBurstsWrong)

/-- 'shalelaw18.ParcelWhole': WHATEVER THE INPUT: true; the input reads as it did. -/
def parcelWholeSpec : ChangeSpec := { name := "parcelWhole", fn := fun _ => fun
  | [d1, d2, d3] => { results := [.lit (.bool true)], args := [d1, d2, d3] }
  | _ => none }
def parcelWholeRow : OpenClaim := { program := "ytlnaeppbhjmocaadoor", sum := "605bb0b0b2c4826ef30318eff5c45e19cf47647ea1e18771cf50f14d49431d0f", func := "shale/shalelaw18.ParcelWhole", spec := "parcelWhole", inPlace := ["internal/bytealg.IndexByteString", "internal/bytealg.IndexString", "internal/abi.NoEscape", "internal/bytealg.MakeNoZero"], unfollowed := true, recurses := true, named := ["internal/bytealg.MaxLen", "unicode/utf8.first", "unicode/utf8.acceptRanges", "shale/words.fours"], apart := false, laid := [("unicode/utf8.acceptRanges", laid_unicode_utf8_acceptRanges), ("shale/words.fours", laid_shale_words_fours), ("unicode/utf8.first", laid_unicode_utf8_first)] }
def ParcelWholeSaid : Prop := parcelWholeRow.holds Tryd.pinned (OpenSpec.ofChange parcelWholeSpec)

/-- ITS FALSE NEIGHBOUR: 'it returns false'. Refute it at one input. -/
def parcelWholeWrong : ChangeSpec := { name := "parcelWhole", fn := fun _ => fun
  | [d1, d2, d3] => { results := [.lit (.bool false)], args := [d1, d2, d3] }
  | _ => none }
def ParcelWholeWrongFalsely : Prop := parcelWholeRow.holds Tryd.pinned (OpenSpec.ofChange parcelWholeWrong)

/-- 'shalelaw18.ParcelFewer': WHATEVER THE INPUT: true; the input reads as it did. -/
def parcelFewerSpec : ChangeSpec := { name := "parcelFewer", fn := fun _ => fun
  | [d1, d2] => { results := [.lit (.bool true)], args := [d1, d2] }
  | _ => none }
def parcelFewerRow : OpenClaim := { program := "ytlnaeppbhjmocaadoor", sum := "605bb0b0b2c4826ef30318eff5c45e19cf47647ea1e18771cf50f14d49431d0f", func := "shale/shalelaw18.ParcelFewer", spec := "parcelFewer", inPlace := ["internal/bytealg.IndexByteString", "internal/bytealg.IndexString", "internal/abi.NoEscape", "internal/bytealg.MakeNoZero"], unfollowed := true, recurses := true, named := ["internal/bytealg.MaxLen", "unicode/utf8.first", "unicode/utf8.acceptRanges", "shale/words.fours"], apart := false, laid := [("unicode/utf8.acceptRanges", laid_unicode_utf8_acceptRanges), ("shale/words.fours", laid_shale_words_fours), ("unicode/utf8.first", laid_unicode_utf8_first)] }
def ParcelFewerSaid : Prop := parcelFewerRow.holds Tryd.pinned (OpenSpec.ofChange parcelFewerSpec)

/-- ITS FALSE NEIGHBOUR: 'it returns false'. Refute it at one input. -/
def parcelFewerWrong : ChangeSpec := { name := "parcelFewer", fn := fun _ => fun
  | [d1, d2] => { results := [.lit (.bool false)], args := [d1, d2] }
  | _ => none }
def ParcelFewerWrongFalsely : Prop := parcelFewerRow.holds Tryd.pinned (OpenSpec.ofChange parcelFewerWrong)

/-- 'shalelaw18.ParcelOwn': WHATEVER THE INPUT: true; the input reads as it did. -/
def parcelOwnSpec : ChangeSpec := { name := "parcelOwn", fn := fun _ => fun
  | [d1, d2] => { results := [.lit (.bool true)], args := [d1, d2] }
  | _ => none }
def parcelOwnRow : OpenClaim := { program := "ytlnaeppbhjmocaadoor", sum := "605bb0b0b2c4826ef30318eff5c45e19cf47647ea1e18771cf50f14d49431d0f", func := "shale/shalelaw18.ParcelOwn", spec := "parcelOwn", inPlace := ["internal/bytealg.IndexByteString", "internal/bytealg.IndexString", "internal/abi.NoEscape", "internal/bytealg.MakeNoZero"], unfollowed := true, recurses := true, named := ["internal/bytealg.MaxLen", "unicode/utf8.first", "unicode/utf8.acceptRanges", "shale/words.fours"], apart := false, laid := [("unicode/utf8.acceptRanges", laid_unicode_utf8_acceptRanges), ("shale/words.fours", laid_shale_words_fours), ("unicode/utf8.first", laid_unicode_utf8_first)] }
def ParcelOwnSaid : Prop := parcelOwnRow.holds Tryd.pinned (OpenSpec.ofChange parcelOwnSpec)

/-- ITS FALSE NEIGHBOUR: 'it returns false'. Refute it at one input. -/
def parcelOwnWrong : ChangeSpec := { name := "parcelOwn", fn := fun _ => fun
  | [d1, d2] => { results := [.lit (.bool false)], args := [d1, d2] }
  | _ => none }
def ParcelOwnWrongFalsely : Prop := parcelOwnRow.holds Tryd.pinned (OpenSpec.ofChange parcelOwnWrong)

/- THE SECOND FORM. 'bulk': how many values and letters a reading holds, each counted each time it is reached (what is shared counts as often as it is met; a slice's spare places count too). A statement '..UptoSaid' is the law's where the arguments, and the package variables that the reading takes, are together of bulk at most 1048576: NARROWER than '..Said'. Prove '..Said' where nothing that the law and all that it calls make is longer than what came in: it says more and counts as full. Else prove '..UptoSaid'. A law counts once. -/
mutual
def uptoBulk {H : Type} : DataW H → Nat
  | .lit (.string bytes) => bytes.length + 1
  | .lit _ => 1
  | .nil => 1
  | .ptr d => uptoBulk d + 1
  | .slice elems spare => uptoBulkAll elems + uptoBulkAll spare + 1
  | .agg parts => uptoBulkAll parts + 1
  | .iface _ d => uptoBulk d + 1
  | .map entries => uptoBulkEntries entries + 1
  | .held _ => 1
def uptoBulkAll {H : Type} : List (DataW H) → Nat
  | [] => 0
  | d :: r => uptoBulk d + uptoBulkAll r
def uptoBulkEntries {H : Type} : List (Lit × DataW H) → Nat
  | [] => 0
  | x :: r => uptoBulkEntry x + uptoBulkEntries r
def uptoBulkEntry {H : Type} : Lit × DataW H → Nat
  | (.string bytes, d) => bytes.length + uptoBulk d + 1
  | (_, d) => uptoBulk d + 1
 end
def uptoSmall : (H : Type) → List (DataW H) → Bool := fun _ ds => decide (uptoBulkAll ds ≤ 1048576)
def OpenSpec.upto (s : _root_.Go.ChangeSpec) : _root_.Go.OpenSpec := { _root_.Go.OpenSpec.ofChange s with cond := some uptoSmall }

/-- 'shalelaw18.ParcelReads', WHERE WHAT IT READS IS OF BULK AT MOST 1048576: true; the input reads as it did. -/
def parcelReadsUptoRow : OpenClaim := { program := "ytlnaeppbhjmocaadoor", sum := "605bb0b0b2c4826ef30318eff5c45e19cf47647ea1e18771cf50f14d49431d0f", func := "shale/shalelaw18.ParcelReads", spec := "parcelReads", inPlace := ["internal/bytealg.IndexByteString", "internal/bytealg.IndexString", "internal/abi.NoEscape", "internal/bytealg.MakeNoZero"], unfollowed := true, recurses := true, named := ["shale/words.fours", "internal/bytealg.MaxLen"], apart := false, laid := [("shale/words.fours", laid_shale_words_fours)], narrowed := true }
def ParcelReadsUptoSaid : Prop := parcelReadsUptoRow.holds Tryd.pinned (OpenSpec.upto parcelReadsSpec)

/-- 'shalelaw18.ParcelPacks', WHERE WHAT IT READS IS OF BULK AT MOST 1048576: true; the input reads as it did. -/
def parcelPacksUptoRow : OpenClaim := { program := "ytlnaeppbhjmocaadoor", sum := "605bb0b0b2c4826ef30318eff5c45e19cf47647ea1e18771cf50f14d49431d0f", func := "shale/shalelaw18.ParcelPacks", spec := "parcelPacks", inPlace := ["internal/bytealg.IndexByteString", "internal/bytealg.IndexString", "internal/abi.NoEscape", "internal/bytealg.MakeNoZero"], unfollowed := true, recurses := true, named := ["internal/bytealg.MaxLen", "unicode/utf8.first", "unicode/utf8.acceptRanges", "shale/words.fours"], apart := false, laid := [("unicode/utf8.acceptRanges", laid_unicode_utf8_acceptRanges), ("shale/words.fours", laid_shale_words_fours), ("unicode/utf8.first", laid_unicode_utf8_first)], narrowed := true }
def ParcelPacksUptoSaid : Prop := parcelPacksUptoRow.holds Tryd.pinned (OpenSpec.upto parcelPacksSpec)

/-- 'shalelaw18.ParcelBack', WHERE WHAT IT READS IS OF BULK AT MOST 1048576: true; the input reads as it did. -/
def parcelBackUptoRow : OpenClaim := { program := "ytlnaeppbhjmocaadoor", sum := "605bb0b0b2c4826ef30318eff5c45e19cf47647ea1e18771cf50f14d49431d0f", func := "shale/shalelaw18.ParcelBack", spec := "parcelBack", inPlace := ["internal/bytealg.IndexByteString", "internal/bytealg.IndexString", "internal/abi.NoEscape", "internal/bytealg.MakeNoZero"], unfollowed := true, recurses := true, named := ["internal/bytealg.MaxLen", "unicode/utf8.first", "unicode/utf8.acceptRanges", "shale/words.fours"], apart := false, laid := [("unicode/utf8.acceptRanges", laid_unicode_utf8_acceptRanges), ("shale/words.fours", laid_shale_words_fours), ("unicode/utf8.first", laid_unicode_utf8_first)], narrowed := true }
def ParcelBackUptoSaid : Prop := parcelBackUptoRow.holds Tryd.pinned (OpenSpec.upto parcelBackSpec)

/-- 'shalelaw18.ParcelCanon', WHERE WHAT IT READS IS OF BULK AT MOST 1048576: true; the input reads as it did. -/
def parcelCanonUptoRow : OpenClaim := { program := "ytlnaeppbhjmocaadoor", sum := "605bb0b0b2c4826ef30318eff5c45e19cf47647ea1e18771cf50f14d49431d0f", func := "shale/shalelaw18.ParcelCanon", spec := "parcelCanon", inPlace := ["internal/bytealg.IndexByteString", "internal/bytealg.IndexString", "internal/abi.NoEscape", "internal/bytealg.MakeNoZero"], unfollowed := true, recurses := true, named := ["internal/bytealg.MaxLen", "unicode/utf8.first", "unicode/utf8.acceptRanges", "shale/words.fours"], apart := false, laid := [("unicode/utf8.acceptRanges", laid_unicode_utf8_acceptRanges), ("shale/words.fours", laid_shale_words_fours), ("unicode/utf8.first", laid_unicode_utf8_first)], narrowed := true }
def ParcelCanonUptoSaid : Prop := parcelCanonUptoRow.holds Tryd.pinned (OpenSpec.upto parcelCanonSpec)

/-- 'shalelaw18.ParcelBursts', WHERE WHAT IT READS IS OF BULK AT MOST 1048576: true; the input reads as it did. -/
def parcelBurstsUptoRow : OpenClaim := { program := "ytlnaeppbhjmocaadoor", sum := "605bb0b0b2c4826ef30318eff5c45e19cf47647ea1e18771cf50f14d49431d0f", func := "shale/shalelaw18.ParcelBursts", spec := "parcelBursts", inPlace := ["internal/bytealg.IndexByteString", "internal/bytealg.IndexString", "internal/abi.NoEscape", "internal/bytealg.MakeNoZero"], unfollowed := true, recurses := true, named := ["internal/bytealg.MaxLen", "unicode/utf8.first", "unicode/utf8.acceptRanges", "shale/words.fours"], apart := false, laid := [("unicode/utf8.acceptRanges", laid_unicode_utf8_acceptRanges), ("shale/words.fours", laid_shale_words_fours), ("unicode/utf8.first", laid_unicode_utf8_first)], narrowed := true }
def ParcelBurstsUptoSaid : Prop := parcelBurstsUptoRow.holds Tryd.pinned (OpenSpec.upto parcelBurstsSpec)

/-- 'shalelaw18.ParcelWhole', WHERE WHAT IT READS IS OF BULK AT MOST 1048576: true; the input reads as it did. -/
def parcelWholeUptoRow : OpenClaim := { program := "ytlnaeppbhjmocaadoor", sum := "605bb0b0b2c4826ef30318eff5c45e19cf47647ea1e18771cf50f14d49431d0f", func := "shale/shalelaw18.ParcelWhole", spec := "parcelWhole", inPlace := ["internal/bytealg.IndexByteString", "internal/bytealg.IndexString", "internal/abi.NoEscape", "internal/bytealg.MakeNoZero"], unfollowed := true, recurses := true, named := ["internal/bytealg.MaxLen", "unicode/utf8.first", "unicode/utf8.acceptRanges", "shale/words.fours"], apart := false, laid := [("unicode/utf8.acceptRanges", laid_unicode_utf8_acceptRanges), ("shale/words.fours", laid_shale_words_fours), ("unicode/utf8.first", laid_unicode_utf8_first)], narrowed := true }
def ParcelWholeUptoSaid : Prop := parcelWholeUptoRow.holds Tryd.pinned (OpenSpec.upto parcelWholeSpec)

/-- 'shalelaw18.ParcelFewer', WHERE WHAT IT READS IS OF BULK AT MOST 1048576: true; the input reads as it did. -/
def parcelFewerUptoRow : OpenClaim := { program := "ytlnaeppbhjmocaadoor", sum := "605bb0b0b2c4826ef30318eff5c45e19cf47647ea1e18771cf50f14d49431d0f", func := "shale/shalelaw18.ParcelFewer", spec := "parcelFewer", inPlace := ["internal/bytealg.IndexByteString", "internal/bytealg.IndexString", "internal/abi.NoEscape", "internal/bytealg.MakeNoZero"], unfollowed := true, recurses := true, named := ["internal/bytealg.MaxLen", "unicode/utf8.first", "unicode/utf8.acceptRanges", "shale/words.fours"], apart := false, laid := [("unicode/utf8.acceptRanges", laid_unicode_utf8_acceptRanges), ("shale/words.fours", laid_shale_words_fours), ("unicode/utf8.first", laid_unicode_utf8_first)], narrowed := true }
def ParcelFewerUptoSaid : Prop := parcelFewerUptoRow.holds Tryd.pinned (OpenSpec.upto parcelFewerSpec)

/-- 'shalelaw18.ParcelOwn', WHERE WHAT IT READS IS OF BULK AT MOST 1048576: true; the input reads as it did. -/
def parcelOwnUptoRow : OpenClaim := { program := "ytlnaeppbhjmocaadoor", sum := "605bb0b0b2c4826ef30318eff5c45e19cf47647ea1e18771cf50f14d49431d0f", func := "shale/shalelaw18.ParcelOwn", spec := "parcelOwn", inPlace := ["internal/bytealg.IndexByteString", "internal/bytealg.IndexString", "internal/abi.NoEscape", "internal/bytealg.MakeNoZero"], unfollowed := true, recurses := true, named := ["internal/bytealg.MaxLen", "unicode/utf8.first", "unicode/utf8.acceptRanges", "shale/words.fours"], apart := false, laid := [("unicode/utf8.acceptRanges", laid_unicode_utf8_acceptRanges), ("shale/words.fours", laid_shale_words_fours), ("unicode/utf8.first", laid_unicode_utf8_first)], narrowed := true }
def ParcelOwnUptoSaid : Prop := parcelOwnUptoRow.holds Tryd.pinned (OpenSpec.upto parcelOwnSpec)

end Rows
end Go.Proofs.YtlnaeppbhjmocaaDoor
