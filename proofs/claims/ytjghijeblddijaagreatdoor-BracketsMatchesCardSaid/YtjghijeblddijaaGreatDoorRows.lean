/-
  NARROWER THAN 'FOR EVERY INPUT', by the rows' own cells (each row's printed sentence says how): BracketsOnly: laid · BracketsMatches: laid · BracketsChecks: loops, laid · BracketsFinds: laid · StropWrites: laid · StropReads: laid · StropAscends: laid · StropBack: laid · StropBlanks: laid · StropRegimes: laid · TextsDenotes: laid.
  DERIVED. THE GIVEN ROWS OF THIS SEAT. 11 by the template 'for every input the law returns true; each argument reads behind the call as it read before'; 0 by the template 'total and deterministic' (their statements: YtjghijeblddijaaGreatDoorTotals.lean).
  GIVEN WITH THE SEED: the statements are not yours to turn. If you find one false, say at which input.
  Laid BY PROGRAM, IN A SANDBOX (cutbox-rows.mjs): the forced cells as the released guide's own fill.sh prints them over the translation 0beee931c9956d10… (all of the seat's roots in one cut). By AI agents, Wed Nov 11 2026. No macro, syntax, notation, axiom, sorry.
-/
import Derived.Test.YtjghijeblddijaaGreatDoorChecked
import GoSem.PinnedTables
import GoSem.Claim
import GoSem.ClaimJoined
import GoSem.ClaimMapViews
import Derived.JoinedTies
import Derived.KernelRfl
namespace Go.Proofs.YtjghijeblddijaaGreatDoor
/- THE CELL 'sum', in the pinned program and in every row, IS THE sha256 OF THE DUMP (.gsa) THAT YtjghijeblddijaaGreatDoorProg.lean LOADS. Nothing in Lean hashes anything: it is a label: what it is worth is what the hold of that sum in a sandbox is worth. -/
noncomputable def Tryz.pinned : Pinned := { name := "ytjghijeblddijaagreatdoor", sum := "0beee931c9956d1065e9a3faed263ee35f7b31c17a340acd82c4da1b50f6a79c", checked := Tryz.checked }
namespace Rows
def none {H : Type} : Left H := { results := [], args := [] }

/- WHAT THE LISTED PACKAGE-LEVEL VARIABLES READ AS WHEN THE CALL BEGINS. Each datum BY PROGRAM (the guide's laid-datum.mjs) off the statement by which the dump's own 'gosem.cut.vars' lays the variable. In a bare row this is a premise. The card (YtjghijeblddijaaGreatDoorCards.lean) ties it to the program's text. -/
def laid_unicode_utf8_acceptRanges {H : Type} : DataW H := .agg [.agg [.lit (.int .u8 128), .lit (.int .u8 191)], .agg [.lit (.int .u8 160), .lit (.int .u8 191)], .agg [.lit (.int .u8 128), .lit (.int .u8 159)], .agg [.lit (.int .u8 144), .lit (.int .u8 191)], .agg [.lit (.int .u8 128), .lit (.int .u8 143)], .agg [.lit (.int .u8 0), .lit (.int .u8 0)], .agg [.lit (.int .u8 0), .lit (.int .u8 0)], .agg [.lit (.int .u8 0), .lit (.int .u8 0)], .agg [.lit (.int .u8 0), .lit (.int .u8 0)], .agg [.lit (.int .u8 0), .lit (.int .u8 0)], .agg [.lit (.int .u8 0), .lit (.int .u8 0)], .agg [.lit (.int .u8 0), .lit (.int .u8 0)], .agg [.lit (.int .u8 0), .lit (.int .u8 0)], .agg [.lit (.int .u8 0), .lit (.int .u8 0)], .agg [.lit (.int .u8 0), .lit (.int .u8 0)], .agg [.lit (.int .u8 0), .lit (.int .u8 0)]]
def laid_environ_strop_signs {H : Type} : DataW H := .agg [.lit (.string [37, 42, 58, 61]), .lit (.string [58, 47, 61, 58]), .lit (.string [43, 58, 61]), .lit (.string [45, 58, 61]), .lit (.string [42, 58, 61]), .lit (.string [47, 58, 61]), .lit (.string [37, 58, 61]), .lit (.string [43, 61, 58]), .lit (.string [58, 61, 58]), .lit (.string [124, 58]), .lit (.string [58, 61]), .lit (.string [47, 61]), .lit (.string [60, 61]), .lit (.string [62, 61]), .lit (.string [42, 42]), .lit (.string [47, 47]), .lit (.string [37, 42]), .lit (.string [43, 42]), .lit (.string [40]), .lit (.string [41]), .lit (.string [91]), .lit (.string [93]), .lit (.string [44]), .lit (.string [59]), .lit (.string [58]), .lit (.string [64]), .lit (.string [124]), .lit (.string [61]), .lit (.string [60]), .lit (.string [62]), .lit (.string [43]), .lit (.string [45]), .lit (.string [42]), .lit (.string [47]), .lit (.string [37]), .lit (.string [94]), .lit (.string [38]), .lit (.string [126])]
/-- One of Go's own tables, pinned by name: the form's constant. -/
def laid_unicode_CaseRanges : DataW Unit := Go.Pinned.caseRanges
/-- One of Go's own tables, pinned by name: the form's constant. -/
def laid_unicode_utf8_first : DataW Unit := Go.Pinned.utf8First
def laid_math_bits_deBruijn32tab {H : Type} : DataW H := .agg [.lit (.int .u8 0), .lit (.int .u8 1), .lit (.int .u8 28), .lit (.int .u8 2), .lit (.int .u8 29), .lit (.int .u8 14), .lit (.int .u8 24), .lit (.int .u8 3), .lit (.int .u8 30), .lit (.int .u8 22), .lit (.int .u8 20), .lit (.int .u8 15), .lit (.int .u8 25), .lit (.int .u8 17), .lit (.int .u8 4), .lit (.int .u8 8), .lit (.int .u8 31), .lit (.int .u8 27), .lit (.int .u8 13), .lit (.int .u8 23), .lit (.int .u8 21), .lit (.int .u8 19), .lit (.int .u8 16), .lit (.int .u8 7), .lit (.int .u8 26), .lit (.int .u8 12), .lit (.int .u8 18), .lit (.int .u8 6), .lit (.int .u8 11), .lit (.int .u8 5), .lit (.int .u8 10), .lit (.int .u8 9)]
def laid_math_bits_deBruijn64tab {H : Type} : DataW H := .agg [.lit (.int .u8 0), .lit (.int .u8 1), .lit (.int .u8 56), .lit (.int .u8 2), .lit (.int .u8 57), .lit (.int .u8 49), .lit (.int .u8 28), .lit (.int .u8 3), .lit (.int .u8 61), .lit (.int .u8 58), .lit (.int .u8 42), .lit (.int .u8 50), .lit (.int .u8 38), .lit (.int .u8 29), .lit (.int .u8 17), .lit (.int .u8 4), .lit (.int .u8 62), .lit (.int .u8 47), .lit (.int .u8 59), .lit (.int .u8 36), .lit (.int .u8 45), .lit (.int .u8 43), .lit (.int .u8 51), .lit (.int .u8 22), .lit (.int .u8 53), .lit (.int .u8 39), .lit (.int .u8 33), .lit (.int .u8 30), .lit (.int .u8 24), .lit (.int .u8 18), .lit (.int .u8 12), .lit (.int .u8 5), .lit (.int .u8 63), .lit (.int .u8 55), .lit (.int .u8 48), .lit (.int .u8 27), .lit (.int .u8 60), .lit (.int .u8 41), .lit (.int .u8 37), .lit (.int .u8 16), .lit (.int .u8 46), .lit (.int .u8 35), .lit (.int .u8 44), .lit (.int .u8 21), .lit (.int .u8 52), .lit (.int .u8 32), .lit (.int .u8 23), .lit (.int .u8 11), .lit (.int .u8 54), .lit (.int .u8 26), .lit (.int .u8 40), .lit (.int .u8 15), .lit (.int .u8 34), .lit (.int .u8 20), .lit (.int .u8 31), .lit (.int .u8 10), .lit (.int .u8 25), .lit (.int .u8 14), .lit (.int .u8 19), .lit (.int .u8 9), .lit (.int .u8 13), .lit (.int .u8 8), .lit (.int .u8 7), .lit (.int .u8 6)]
def laid_internal_strconv_uint64pow10 {H : Type} : DataW H := .agg [.lit (.int .u64 1), .lit (.int .u64 10), .lit (.int .u64 100), .lit (.int .u64 1000), .lit (.int .u64 10000), .lit (.int .u64 100000), .lit (.int .u64 1000000), .lit (.int .u64 10000000), .lit (.int .u64 100000000), .lit (.int .u64 1000000000), .lit (.int .u64 10000000000), .lit (.int .u64 100000000000), .lit (.int .u64 1000000000000), .lit (.int .u64 10000000000000), .lit (.int .u64 100000000000000), .lit (.int .u64 1000000000000000), .lit (.int .u64 10000000000000000), .lit (.int .u64 100000000000000000), .lit (.int .u64 1000000000000000000), .lit (.int .u64 10000000000000000000)]

/-- 'environlaw05.BracketsOnly': WHATEVER THE INPUT: true; the input reads as it did. -/
def bracketsOnlySpec : ChangeSpec := { name := "bracketsOnly", fn := fun _ => fun
  | [d] => { results := [.lit (.bool true)], args := [d] }
  | _ => none }
def bracketsOnlyRow : OpenClaim := { program := "ytjghijeblddijaagreatdoor", sum := "0beee931c9956d1065e9a3faed263ee35f7b31c17a340acd82c4da1b50f6a79c", func := "environ/environlaw05.BracketsOnly", spec := "bracketsOnly", inPlace := ["internal/abi.NoEscape", "internal/bytealg.MakeNoZero", "internal/bytealg.IndexByteString", "internal/bytealg.IndexString"], unfollowed := true, recurses := true, named := ["environ/strop.signs", "unicode/utf8.first", "unicode/utf8.acceptRanges", "unicode.CaseRanges", "internal/bytealg.MaxLen"], apart := false, laid := [("unicode/utf8.acceptRanges", laid_unicode_utf8_acceptRanges), ("environ/strop.signs", laid_environ_strop_signs), ("unicode.CaseRanges", laid_unicode_CaseRanges), ("unicode/utf8.first", laid_unicode_utf8_first)] }
def BracketsOnlySaid : Prop := bracketsOnlyRow.holds Tryz.pinned (OpenSpec.ofChange bracketsOnlySpec)

/-- ITS FALSE NEIGHBOUR: 'it returns false'. Refute it at one input. -/
def bracketsOnlyWrong : ChangeSpec := { name := "bracketsOnly", fn := fun _ => fun
  | [d] => { results := [.lit (.bool false)], args := [d] }
  | _ => none }
def BracketsOnlyWrongFalsely : Prop := bracketsOnlyRow.holds Tryz.pinned (OpenSpec.ofChange bracketsOnlyWrong)

/-- 'environlaw05.BracketsMatches': WHATEVER THE INPUT: true; the input reads as it did. -/
def bracketsMatchesSpec : ChangeSpec := { name := "bracketsMatches", fn := fun _ => fun
  | [d] => { results := [.lit (.bool true)], args := [d] }
  | _ => none }
def bracketsMatchesRow : OpenClaim := { program := "ytjghijeblddijaagreatdoor", sum := "0beee931c9956d1065e9a3faed263ee35f7b31c17a340acd82c4da1b50f6a79c", func := "environ/environlaw05.BracketsMatches", spec := "bracketsMatches", inPlace := ["internal/abi.NoEscape", "internal/bytealg.MakeNoZero", "internal/bytealg.IndexByteString", "internal/bytealg.IndexString"], unfollowed := true, recurses := true, named := ["environ/strop.signs", "unicode/utf8.first", "unicode/utf8.acceptRanges", "unicode.CaseRanges", "internal/bytealg.MaxLen"], apart := false, laid := [("unicode/utf8.acceptRanges", laid_unicode_utf8_acceptRanges), ("environ/strop.signs", laid_environ_strop_signs), ("unicode.CaseRanges", laid_unicode_CaseRanges), ("unicode/utf8.first", laid_unicode_utf8_first)] }
def BracketsMatchesSaid : Prop := bracketsMatchesRow.holds Tryz.pinned (OpenSpec.ofChange bracketsMatchesSpec)

/-- ITS FALSE NEIGHBOUR: 'it returns false'. Refute it at one input. -/
def bracketsMatchesWrong : ChangeSpec := { name := "bracketsMatches", fn := fun _ => fun
  | [d] => { results := [.lit (.bool false)], args := [d] }
  | _ => none }
def BracketsMatchesWrongFalsely : Prop := bracketsMatchesRow.holds Tryz.pinned (OpenSpec.ofChange bracketsMatchesWrong)

/-- 'environlaw05.BracketsChecks': WHATEVER THE INPUT: true; the input reads as it did. -/
def bracketsChecksSpec : ChangeSpec := { name := "bracketsChecks", fn := fun _ => fun
  | [d1, d2] => { results := [.lit (.bool true)], args := [d1, d2] }
  | _ => none }
def bracketsChecksRow : OpenClaim := { program := "ytjghijeblddijaagreatdoor", sum := "0beee931c9956d1065e9a3faed263ee35f7b31c17a340acd82c4da1b50f6a79c", func := "environ/environlaw05.BracketsChecks", spec := "bracketsChecks", inPlace := ["internal/abi.NoEscape", "internal/bytealg.MakeNoZero", "internal/bytealg.IndexByteString", "internal/bytealg.IndexString"], unfollowed := true, recurses := true, named := ["environ/strop.signs", "unicode/utf8.first", "unicode/utf8.acceptRanges", "unicode.CaseRanges", "internal/bytealg.MaxLen"], loops := true, apart := false, laid := [("unicode/utf8.acceptRanges", laid_unicode_utf8_acceptRanges), ("environ/strop.signs", laid_environ_strop_signs), ("unicode.CaseRanges", laid_unicode_CaseRanges), ("unicode/utf8.first", laid_unicode_utf8_first)] }
def BracketsChecksSaid : Prop := bracketsChecksRow.holds Tryz.pinned (OpenSpec.ofChange bracketsChecksSpec)

/-- ITS FALSE NEIGHBOUR: 'it returns false'. Refute it at one input. -/
def bracketsChecksWrong : ChangeSpec := { name := "bracketsChecks", fn := fun _ => fun
  | [d1, d2] => { results := [.lit (.bool false)], args := [d1, d2] }
  | _ => none }
def BracketsChecksWrongFalsely : Prop := bracketsChecksRow.holds Tryz.pinned (OpenSpec.ofChange bracketsChecksWrong)

/-- 'environlaw05.BracketsFinds': WHATEVER THE INPUT: true; the input reads as it did. -/
def bracketsFindsSpec : ChangeSpec := { name := "bracketsFinds", fn := fun _ => fun
  | [d1, d2] => { results := [.lit (.bool true)], args := [d1, d2] }
  | _ => none }
def bracketsFindsRow : OpenClaim := { program := "ytjghijeblddijaagreatdoor", sum := "0beee931c9956d1065e9a3faed263ee35f7b31c17a340acd82c4da1b50f6a79c", func := "environ/environlaw05.BracketsFinds", spec := "bracketsFinds", inPlace := ["internal/abi.NoEscape", "internal/bytealg.MakeNoZero", "internal/bytealg.IndexByteString", "internal/bytealg.IndexString"], unfollowed := true, recurses := true, named := ["environ/strop.signs", "unicode/utf8.first", "unicode/utf8.acceptRanges", "unicode.CaseRanges", "internal/bytealg.MaxLen"], apart := false, laid := [("unicode/utf8.acceptRanges", laid_unicode_utf8_acceptRanges), ("environ/strop.signs", laid_environ_strop_signs), ("unicode.CaseRanges", laid_unicode_CaseRanges), ("unicode/utf8.first", laid_unicode_utf8_first)] }
def BracketsFindsSaid : Prop := bracketsFindsRow.holds Tryz.pinned (OpenSpec.ofChange bracketsFindsSpec)

/-- ITS FALSE NEIGHBOUR: 'it returns false'. Refute it at one input. -/
def bracketsFindsWrong : ChangeSpec := { name := "bracketsFinds", fn := fun _ => fun
  | [d1, d2] => { results := [.lit (.bool false)], args := [d1, d2] }
  | _ => none }
def BracketsFindsWrongFalsely : Prop := bracketsFindsRow.holds Tryz.pinned (OpenSpec.ofChange bracketsFindsWrong)

/-- 'environlaw04.StropWrites': WHATEVER THE INPUT: true; the input reads as it did. -/
def stropWritesSpec : ChangeSpec := { name := "stropWrites", fn := fun _ => fun
  | [d1, d2] => { results := [.lit (.bool true)], args := [d1, d2] }
  | _ => none }
def stropWritesRow : OpenClaim := { program := "ytjghijeblddijaagreatdoor", sum := "0beee931c9956d1065e9a3faed263ee35f7b31c17a340acd82c4da1b50f6a79c", func := "environ/environlaw04.StropWrites", spec := "stropWrites", inPlace := ["internal/abi.NoEscape", "internal/bytealg.MakeNoZero", "internal/bytealg.IndexByteString", "internal/bytealg.IndexString", "internal/bytealg.CountString"], unfollowed := true, recurses := true, named := ["environ/strop.signs", "unicode/utf8.first", "unicode/utf8.acceptRanges", "unicode.CaseRanges", "internal/bytealg.MaxLen"], apart := false, laid := [("unicode/utf8.acceptRanges", laid_unicode_utf8_acceptRanges), ("environ/strop.signs", laid_environ_strop_signs), ("unicode.CaseRanges", laid_unicode_CaseRanges), ("unicode/utf8.first", laid_unicode_utf8_first)] }
def StropWritesSaid : Prop := stropWritesRow.holds Tryz.pinned (OpenSpec.ofChange stropWritesSpec)

/-- ITS FALSE NEIGHBOUR: 'it returns false'. Refute it at one input. -/
def stropWritesWrong : ChangeSpec := { name := "stropWrites", fn := fun _ => fun
  | [d1, d2] => { results := [.lit (.bool false)], args := [d1, d2] }
  | _ => none }
def StropWritesWrongFalsely : Prop := stropWritesRow.holds Tryz.pinned (OpenSpec.ofChange stropWritesWrong)

/-- 'environlaw04.StropReads': WHATEVER THE INPUT: true; the input reads as it did. -/
def stropReadsSpec : ChangeSpec := { name := "stropReads", fn := fun _ => fun
  | [d1, d2] => { results := [.lit (.bool true)], args := [d1, d2] }
  | _ => none }
def stropReadsRow : OpenClaim := { program := "ytjghijeblddijaagreatdoor", sum := "0beee931c9956d1065e9a3faed263ee35f7b31c17a340acd82c4da1b50f6a79c", func := "environ/environlaw04.StropReads", spec := "stropReads", inPlace := ["internal/abi.NoEscape", "internal/bytealg.MakeNoZero", "internal/bytealg.IndexByteString", "internal/bytealg.IndexString", "internal/bytealg.CountString"], unfollowed := true, recurses := true, named := ["environ/strop.signs", "unicode/utf8.first", "unicode/utf8.acceptRanges", "unicode.CaseRanges", "internal/bytealg.MaxLen"], apart := false, laid := [("unicode/utf8.acceptRanges", laid_unicode_utf8_acceptRanges), ("environ/strop.signs", laid_environ_strop_signs), ("unicode.CaseRanges", laid_unicode_CaseRanges), ("unicode/utf8.first", laid_unicode_utf8_first)] }
def StropReadsSaid : Prop := stropReadsRow.holds Tryz.pinned (OpenSpec.ofChange stropReadsSpec)

/-- ITS FALSE NEIGHBOUR: 'it returns false'. Refute it at one input. -/
def stropReadsWrong : ChangeSpec := { name := "stropReads", fn := fun _ => fun
  | [d1, d2] => { results := [.lit (.bool false)], args := [d1, d2] }
  | _ => none }
def StropReadsWrongFalsely : Prop := stropReadsRow.holds Tryz.pinned (OpenSpec.ofChange stropReadsWrong)

/-- 'environlaw04.StropAscends': WHATEVER THE INPUT: true; the input reads as it did. -/
def stropAscendsSpec : ChangeSpec := { name := "stropAscends", fn := fun _ => fun
  | [d1, d2] => { results := [.lit (.bool true)], args := [d1, d2] }
  | _ => none }
def stropAscendsRow : OpenClaim := { program := "ytjghijeblddijaagreatdoor", sum := "0beee931c9956d1065e9a3faed263ee35f7b31c17a340acd82c4da1b50f6a79c", func := "environ/environlaw04.StropAscends", spec := "stropAscends", inPlace := ["internal/abi.NoEscape", "internal/bytealg.MakeNoZero", "internal/bytealg.IndexByteString", "internal/bytealg.IndexString", "internal/bytealg.CountString"], unfollowed := true, recurses := true, named := ["environ/strop.signs", "unicode/utf8.first", "unicode/utf8.acceptRanges", "unicode.CaseRanges", "internal/bytealg.MaxLen"], apart := false, laid := [("unicode/utf8.acceptRanges", laid_unicode_utf8_acceptRanges), ("environ/strop.signs", laid_environ_strop_signs), ("unicode.CaseRanges", laid_unicode_CaseRanges), ("unicode/utf8.first", laid_unicode_utf8_first)] }
def StropAscendsSaid : Prop := stropAscendsRow.holds Tryz.pinned (OpenSpec.ofChange stropAscendsSpec)

/-- ITS FALSE NEIGHBOUR: 'it returns false'. Refute it at one input. -/
def stropAscendsWrong : ChangeSpec := { name := "stropAscends", fn := fun _ => fun
  | [d1, d2] => { results := [.lit (.bool false)], args := [d1, d2] }
  | _ => none }
def StropAscendsWrongFalsely : Prop := stropAscendsRow.holds Tryz.pinned (OpenSpec.ofChange stropAscendsWrong)

/-- 'environlaw04.StropBack': WHATEVER THE INPUT: true; the input reads as it did. -/
def stropBackSpec : ChangeSpec := { name := "stropBack", fn := fun _ => fun
  | [d1, d2, d3] => { results := [.lit (.bool true)], args := [d1, d2, d3] }
  | _ => none }
def stropBackRow : OpenClaim := { program := "ytjghijeblddijaagreatdoor", sum := "0beee931c9956d1065e9a3faed263ee35f7b31c17a340acd82c4da1b50f6a79c", func := "environ/environlaw04.StropBack", spec := "stropBack", inPlace := ["internal/abi.NoEscape", "internal/bytealg.MakeNoZero", "internal/bytealg.IndexByteString", "internal/bytealg.IndexString", "internal/bytealg.CountString"], unfollowed := true, recurses := true, named := ["environ/strop.signs", "unicode/utf8.first", "unicode/utf8.acceptRanges", "unicode.CaseRanges", "internal/bytealg.MaxLen"], apart := false, laid := [("unicode/utf8.acceptRanges", laid_unicode_utf8_acceptRanges), ("environ/strop.signs", laid_environ_strop_signs), ("unicode.CaseRanges", laid_unicode_CaseRanges), ("unicode/utf8.first", laid_unicode_utf8_first)] }
def StropBackSaid : Prop := stropBackRow.holds Tryz.pinned (OpenSpec.ofChange stropBackSpec)

/-- ITS FALSE NEIGHBOUR: 'it returns false'. Refute it at one input. -/
def stropBackWrong : ChangeSpec := { name := "stropBack", fn := fun _ => fun
  | [d1, d2, d3] => { results := [.lit (.bool false)], args := [d1, d2, d3] }
  | _ => none }
def StropBackWrongFalsely : Prop := stropBackRow.holds Tryz.pinned (OpenSpec.ofChange stropBackWrong)

/-- 'environlaw04.StropBlanks': WHATEVER THE INPUT: true; the input reads as it did. -/
def stropBlanksSpec : ChangeSpec := { name := "stropBlanks", fn := fun _ => fun
  | [d1, d2, d3] => { results := [.lit (.bool true)], args := [d1, d2, d3] }
  | _ => none }
def stropBlanksRow : OpenClaim := { program := "ytjghijeblddijaagreatdoor", sum := "0beee931c9956d1065e9a3faed263ee35f7b31c17a340acd82c4da1b50f6a79c", func := "environ/environlaw04.StropBlanks", spec := "stropBlanks", inPlace := ["internal/abi.NoEscape", "internal/bytealg.MakeNoZero", "internal/bytealg.IndexByteString", "internal/bytealg.IndexString", "internal/bytealg.CountString"], unfollowed := true, recurses := true, named := ["environ/strop.signs", "unicode/utf8.first", "unicode/utf8.acceptRanges", "unicode.CaseRanges", "internal/bytealg.MaxLen"], apart := false, laid := [("unicode/utf8.acceptRanges", laid_unicode_utf8_acceptRanges), ("environ/strop.signs", laid_environ_strop_signs), ("unicode.CaseRanges", laid_unicode_CaseRanges), ("unicode/utf8.first", laid_unicode_utf8_first)] }
def StropBlanksSaid : Prop := stropBlanksRow.holds Tryz.pinned (OpenSpec.ofChange stropBlanksSpec)

/-- ITS FALSE NEIGHBOUR: 'it returns false'. Refute it at one input. -/
def stropBlanksWrong : ChangeSpec := { name := "stropBlanks", fn := fun _ => fun
  | [d1, d2, d3] => { results := [.lit (.bool false)], args := [d1, d2, d3] }
  | _ => none }
def StropBlanksWrongFalsely : Prop := stropBlanksRow.holds Tryz.pinned (OpenSpec.ofChange stropBlanksWrong)

/-- 'environlaw04.StropRegimes': WHATEVER THE INPUT: true; the input reads as it did. -/
def stropRegimesSpec : ChangeSpec := { name := "stropRegimes", fn := fun _ => fun
  | [d1, d2, d3] => { results := [.lit (.bool true)], args := [d1, d2, d3] }
  | _ => none }
def stropRegimesRow : OpenClaim := { program := "ytjghijeblddijaagreatdoor", sum := "0beee931c9956d1065e9a3faed263ee35f7b31c17a340acd82c4da1b50f6a79c", func := "environ/environlaw04.StropRegimes", spec := "stropRegimes", inPlace := ["internal/abi.NoEscape", "internal/bytealg.MakeNoZero", "internal/bytealg.IndexByteString", "internal/bytealg.IndexString", "internal/bytealg.CountString"], unfollowed := true, recurses := true, named := ["environ/strop.signs", "unicode/utf8.first", "unicode/utf8.acceptRanges", "unicode.CaseRanges", "internal/bytealg.MaxLen"], apart := false, laid := [("unicode/utf8.acceptRanges", laid_unicode_utf8_acceptRanges), ("environ/strop.signs", laid_environ_strop_signs), ("unicode.CaseRanges", laid_unicode_CaseRanges), ("unicode/utf8.first", laid_unicode_utf8_first)] }
def StropRegimesSaid : Prop := stropRegimesRow.holds Tryz.pinned (OpenSpec.ofChange stropRegimesSpec)

/-- ITS FALSE NEIGHBOUR: 'it returns false'. Refute it at one input. -/
def stropRegimesWrong : ChangeSpec := { name := "stropRegimes", fn := fun _ => fun
  | [d1, d2, d3] => { results := [.lit (.bool false)], args := [d1, d2, d3] }
  | _ => none }
def StropRegimesWrongFalsely : Prop := stropRegimesRow.holds Tryz.pinned (OpenSpec.ofChange stropRegimesWrong)

/-- 'environlaw03.TextsDenotes': WHATEVER THE INPUT: true; the input reads as it did. -/
def textsDenotesSpec : ChangeSpec := { name := "textsDenotes", fn := fun _ => fun
  | [d1, d2, d3] => { results := [.lit (.bool true)], args := [d1, d2, d3] }
  | _ => none }
def textsDenotesRow : OpenClaim := { program := "ytjghijeblddijaagreatdoor", sum := "0beee931c9956d1065e9a3faed263ee35f7b31c17a340acd82c4da1b50f6a79c", func := "environ/environlaw03.TextsDenotes", spec := "textsDenotes", inPlace := ["internal/bytealg.IndexByteString", "internal/bytealg.IndexString", "internal/bytealg.abigen_runtime_cmpstring", "math/bits.Sub64", "math/bits.Add64", "internal/abi.NoEscape", "internal/bytealg.MakeNoZero"], named := ["unicode/utf8.first", "unicode/utf8.acceptRanges", "math/bits.divideError", "math/bits.overflowError", "internal/strconv.uint64pow10", "math/bits.deBruijn32tab", "math/bits.deBruijn64tab", "internal/bytealg.MaxLen"], apart := false, laid := [("math/bits.deBruijn32tab", laid_math_bits_deBruijn32tab), ("math/bits.deBruijn64tab", laid_math_bits_deBruijn64tab), ("internal/strconv.uint64pow10", laid_internal_strconv_uint64pow10), ("unicode/utf8.acceptRanges", laid_unicode_utf8_acceptRanges), ("unicode/utf8.first", laid_unicode_utf8_first)] }
def TextsDenotesSaid : Prop := textsDenotesRow.holds Tryz.pinned (OpenSpec.ofChange textsDenotesSpec)

/-- ITS FALSE NEIGHBOUR: 'it returns false'. Refute it at one input. -/
def textsDenotesWrong : ChangeSpec := { name := "textsDenotes", fn := fun _ => fun
  | [d1, d2, d3] => { results := [.lit (.bool false)], args := [d1, d2, d3] }
  | _ => none }
def TextsDenotesWrongFalsely : Prop := textsDenotesRow.holds Tryz.pinned (OpenSpec.ofChange textsDenotesWrong)

/- THE SECOND FORM. 'bulk': how many values and letters a reading holds, each counted each time it is reached (what is shared counts as often as it is met; a slice's spare places count too). A statement '..UptoSaid' is the law's where the arguments, and the package variables that the reading takes, are together of bulk at most 1048576: NARROWER than '..Said'. Prove '..Said' where nothing that the law and all that it calls make is longer than what came in: it says more and counts as full. Else prove '..UptoSaid'. A law counts once. -/
mutual
def uptoBulk {H : Type} : DataW H → Nat
  | .lit (.string bytes) => bytes.length + 1
  | .lit _ => 1
  | .nil => 1
  | .ptr d => uptoBulk d + 1
  | .slice elems spare => uptoBulkAll elems + uptoBulkAll spare + 1
  | .agg parts => uptoBulkAll parts + 1
  | .iface _ d => uptoBulk d + 1
  | .map entries => uptoBulkEntries entries + 1
  | .held _ => 1
def uptoBulkAll {H : Type} : List (DataW H) → Nat
  | [] => 0
  | d :: r => uptoBulk d + uptoBulkAll r
def uptoBulkEntries {H : Type} : List (Lit × DataW H) → Nat
  | [] => 0
  | x :: r => uptoBulkEntry x + uptoBulkEntries r
def uptoBulkEntry {H : Type} : Lit × DataW H → Nat
  | (.string bytes, d) => bytes.length + uptoBulk d + 1
  | (_, d) => uptoBulk d + 1
 end
def uptoSmall : (H : Type) → List (DataW H) → Bool := fun _ ds => decide (uptoBulkAll ds ≤ 1048576)
def OpenSpec.upto (s : _root_.Go.ChangeSpec) : _root_.Go.OpenSpec := { _root_.Go.OpenSpec.ofChange s with cond := some uptoSmall }

/-- 'environlaw05.BracketsOnly', WHERE WHAT IT READS IS OF BULK AT MOST 1048576: true; the input reads as it did. -/
def bracketsOnlyUptoRow : OpenClaim := { program := "ytjghijeblddijaagreatdoor", sum := "0beee931c9956d1065e9a3faed263ee35f7b31c17a340acd82c4da1b50f6a79c", func := "environ/environlaw05.BracketsOnly", spec := "bracketsOnly", inPlace := ["internal/abi.NoEscape", "internal/bytealg.MakeNoZero", "internal/bytealg.IndexByteString", "internal/bytealg.IndexString"], unfollowed := true, recurses := true, named := ["environ/strop.signs", "unicode/utf8.first", "unicode/utf8.acceptRanges", "unicode.CaseRanges", "internal/bytealg.MaxLen"], apart := false, laid := [("unicode/utf8.acceptRanges", laid_unicode_utf8_acceptRanges), ("environ/strop.signs", laid_environ_strop_signs), ("unicode.CaseRanges", laid_unicode_CaseRanges), ("unicode/utf8.first", laid_unicode_utf8_first)], narrowed := true }
def BracketsOnlyUptoSaid : Prop := bracketsOnlyUptoRow.holds Tryz.pinned (OpenSpec.upto bracketsOnlySpec)

/-- 'environlaw05.BracketsMatches', WHERE WHAT IT READS IS OF BULK AT MOST 1048576: true; the input reads as it did. -/
def bracketsMatchesUptoRow : OpenClaim := { program := "ytjghijeblddijaagreatdoor", sum := "0beee931c9956d1065e9a3faed263ee35f7b31c17a340acd82c4da1b50f6a79c", func := "environ/environlaw05.BracketsMatches", spec := "bracketsMatches", inPlace := ["internal/abi.NoEscape", "internal/bytealg.MakeNoZero", "internal/bytealg.IndexByteString", "internal/bytealg.IndexString"], unfollowed := true, recurses := true, named := ["environ/strop.signs", "unicode/utf8.first", "unicode/utf8.acceptRanges", "unicode.CaseRanges", "internal/bytealg.MaxLen"], apart := false, laid := [("unicode/utf8.acceptRanges", laid_unicode_utf8_acceptRanges), ("environ/strop.signs", laid_environ_strop_signs), ("unicode.CaseRanges", laid_unicode_CaseRanges), ("unicode/utf8.first", laid_unicode_utf8_first)], narrowed := true }
def BracketsMatchesUptoSaid : Prop := bracketsMatchesUptoRow.holds Tryz.pinned (OpenSpec.upto bracketsMatchesSpec)

/-- 'environlaw05.BracketsChecks', WHERE WHAT IT READS IS OF BULK AT MOST 1048576: true; the input reads as it did. -/
def bracketsChecksUptoRow : OpenClaim := { program := "ytjghijeblddijaagreatdoor", sum := "0beee931c9956d1065e9a3faed263ee35f7b31c17a340acd82c4da1b50f6a79c", func := "environ/environlaw05.BracketsChecks", spec := "bracketsChecks", inPlace := ["internal/abi.NoEscape", "internal/bytealg.MakeNoZero", "internal/bytealg.IndexByteString", "internal/bytealg.IndexString"], unfollowed := true, recurses := true, named := ["environ/strop.signs", "unicode/utf8.first", "unicode/utf8.acceptRanges", "unicode.CaseRanges", "internal/bytealg.MaxLen"], loops := true, apart := false, laid := [("unicode/utf8.acceptRanges", laid_unicode_utf8_acceptRanges), ("environ/strop.signs", laid_environ_strop_signs), ("unicode.CaseRanges", laid_unicode_CaseRanges), ("unicode/utf8.first", laid_unicode_utf8_first)], narrowed := true }
def BracketsChecksUptoSaid : Prop := bracketsChecksUptoRow.holds Tryz.pinned (OpenSpec.upto bracketsChecksSpec)

/-- 'environlaw05.BracketsFinds', WHERE WHAT IT READS IS OF BULK AT MOST 1048576: true; the input reads as it did. -/
def bracketsFindsUptoRow : OpenClaim := { program := "ytjghijeblddijaagreatdoor", sum := "0beee931c9956d1065e9a3faed263ee35f7b31c17a340acd82c4da1b50f6a79c", func := "environ/environlaw05.BracketsFinds", spec := "bracketsFinds", inPlace := ["internal/abi.NoEscape", "internal/bytealg.MakeNoZero", "internal/bytealg.IndexByteString", "internal/bytealg.IndexString"], unfollowed := true, recurses := true, named := ["environ/strop.signs", "unicode/utf8.first", "unicode/utf8.acceptRanges", "unicode.CaseRanges", "internal/bytealg.MaxLen"], apart := false, laid := [("unicode/utf8.acceptRanges", laid_unicode_utf8_acceptRanges), ("environ/strop.signs", laid_environ_strop_signs), ("unicode.CaseRanges", laid_unicode_CaseRanges), ("unicode/utf8.first", laid_unicode_utf8_first)], narrowed := true }
def BracketsFindsUptoSaid : Prop := bracketsFindsUptoRow.holds Tryz.pinned (OpenSpec.upto bracketsFindsSpec)

/-- 'environlaw04.StropWrites', WHERE WHAT IT READS IS OF BULK AT MOST 1048576: true; the input reads as it did. -/
def stropWritesUptoRow : OpenClaim := { program := "ytjghijeblddijaagreatdoor", sum := "0beee931c9956d1065e9a3faed263ee35f7b31c17a340acd82c4da1b50f6a79c", func := "environ/environlaw04.StropWrites", spec := "stropWrites", inPlace := ["internal/abi.NoEscape", "internal/bytealg.MakeNoZero", "internal/bytealg.IndexByteString", "internal/bytealg.IndexString", "internal/bytealg.CountString"], unfollowed := true, recurses := true, named := ["environ/strop.signs", "unicode/utf8.first", "unicode/utf8.acceptRanges", "unicode.CaseRanges", "internal/bytealg.MaxLen"], apart := false, laid := [("unicode/utf8.acceptRanges", laid_unicode_utf8_acceptRanges), ("environ/strop.signs", laid_environ_strop_signs), ("unicode.CaseRanges", laid_unicode_CaseRanges), ("unicode/utf8.first", laid_unicode_utf8_first)], narrowed := true }
def StropWritesUptoSaid : Prop := stropWritesUptoRow.holds Tryz.pinned (OpenSpec.upto stropWritesSpec)

/-- 'environlaw04.StropReads', WHERE WHAT IT READS IS OF BULK AT MOST 1048576: true; the input reads as it did. -/
def stropReadsUptoRow : OpenClaim := { program := "ytjghijeblddijaagreatdoor", sum := "0beee931c9956d1065e9a3faed263ee35f7b31c17a340acd82c4da1b50f6a79c", func := "environ/environlaw04.StropReads", spec := "stropReads", inPlace := ["internal/abi.NoEscape", "internal/bytealg.MakeNoZero", "internal/bytealg.IndexByteString", "internal/bytealg.IndexString", "internal/bytealg.CountString"], unfollowed := true, recurses := true, named := ["environ/strop.signs", "unicode/utf8.first", "unicode/utf8.acceptRanges", "unicode.CaseRanges", "internal/bytealg.MaxLen"], apart := false, laid := [("unicode/utf8.acceptRanges", laid_unicode_utf8_acceptRanges), ("environ/strop.signs", laid_environ_strop_signs), ("unicode.CaseRanges", laid_unicode_CaseRanges), ("unicode/utf8.first", laid_unicode_utf8_first)], narrowed := true }
def StropReadsUptoSaid : Prop := stropReadsUptoRow.holds Tryz.pinned (OpenSpec.upto stropReadsSpec)

/-- 'environlaw04.StropAscends', WHERE WHAT IT READS IS OF BULK AT MOST 1048576: true; the input reads as it did. -/
def stropAscendsUptoRow : OpenClaim := { program := "ytjghijeblddijaagreatdoor", sum := "0beee931c9956d1065e9a3faed263ee35f7b31c17a340acd82c4da1b50f6a79c", func := "environ/environlaw04.StropAscends", spec := "stropAscends", inPlace := ["internal/abi.NoEscape", "internal/bytealg.MakeNoZero", "internal/bytealg.IndexByteString", "internal/bytealg.IndexString", "internal/bytealg.CountString"], unfollowed := true, recurses := true, named := ["environ/strop.signs", "unicode/utf8.first", "unicode/utf8.acceptRanges", "unicode.CaseRanges", "internal/bytealg.MaxLen"], apart := false, laid := [("unicode/utf8.acceptRanges", laid_unicode_utf8_acceptRanges), ("environ/strop.signs", laid_environ_strop_signs), ("unicode.CaseRanges", laid_unicode_CaseRanges), ("unicode/utf8.first", laid_unicode_utf8_first)], narrowed := true }
def StropAscendsUptoSaid : Prop := stropAscendsUptoRow.holds Tryz.pinned (OpenSpec.upto stropAscendsSpec)

/-- 'environlaw04.StropBack', WHERE WHAT IT READS IS OF BULK AT MOST 1048576: true; the input reads as it did. -/
def stropBackUptoRow : OpenClaim := { program := "ytjghijeblddijaagreatdoor", sum := "0beee931c9956d1065e9a3faed263ee35f7b31c17a340acd82c4da1b50f6a79c", func := "environ/environlaw04.StropBack", spec := "stropBack", inPlace := ["internal/abi.NoEscape", "internal/bytealg.MakeNoZero", "internal/bytealg.IndexByteString", "internal/bytealg.IndexString", "internal/bytealg.CountString"], unfollowed := true, recurses := true, named := ["environ/strop.signs", "unicode/utf8.first", "unicode/utf8.acceptRanges", "unicode.CaseRanges", "internal/bytealg.MaxLen"], apart := false, laid := [("unicode/utf8.acceptRanges", laid_unicode_utf8_acceptRanges), ("environ/strop.signs", laid_environ_strop_signs), ("unicode.CaseRanges", laid_unicode_CaseRanges), ("unicode/utf8.first", laid_unicode_utf8_first)], narrowed := true }
def StropBackUptoSaid : Prop := stropBackUptoRow.holds Tryz.pinned (OpenSpec.upto stropBackSpec)

/-- 'environlaw04.StropBlanks', WHERE WHAT IT READS IS OF BULK AT MOST 1048576: true; the input reads as it did. -/
def stropBlanksUptoRow : OpenClaim := { program := "ytjghijeblddijaagreatdoor", sum := "0beee931c9956d1065e9a3faed263ee35f7b31c17a340acd82c4da1b50f6a79c", func := "environ/environlaw04.StropBlanks", spec := "stropBlanks", inPlace := ["internal/abi.NoEscape", "internal/bytealg.MakeNoZero", "internal/bytealg.IndexByteString", "internal/bytealg.IndexString", "internal/bytealg.CountString"], unfollowed := true, recurses := true, named := ["environ/strop.signs", "unicode/utf8.first", "unicode/utf8.acceptRanges", "unicode.CaseRanges", "internal/bytealg.MaxLen"], apart := false, laid := [("unicode/utf8.acceptRanges", laid_unicode_utf8_acceptRanges), ("environ/strop.signs", laid_environ_strop_signs), ("unicode.CaseRanges", laid_unicode_CaseRanges), ("unicode/utf8.first", laid_unicode_utf8_first)], narrowed := true }
def StropBlanksUptoSaid : Prop := stropBlanksUptoRow.holds Tryz.pinned (OpenSpec.upto stropBlanksSpec)

/-- 'environlaw04.StropRegimes', WHERE WHAT IT READS IS OF BULK AT MOST 1048576: true; the input reads as it did. -/
def stropRegimesUptoRow : OpenClaim := { program := "ytjghijeblddijaagreatdoor", sum := "0beee931c9956d1065e9a3faed263ee35f7b31c17a340acd82c4da1b50f6a79c", func := "environ/environlaw04.StropRegimes", spec := "stropRegimes", inPlace := ["internal/abi.NoEscape", "internal/bytealg.MakeNoZero", "internal/bytealg.IndexByteString", "internal/bytealg.IndexString", "internal/bytealg.CountString"], unfollowed := true, recurses := true, named := ["environ/strop.signs", "unicode/utf8.first", "unicode/utf8.acceptRanges", "unicode.CaseRanges", "internal/bytealg.MaxLen"], apart := false, laid := [("unicode/utf8.acceptRanges", laid_unicode_utf8_acceptRanges), ("environ/strop.signs", laid_environ_strop_signs), ("unicode.CaseRanges", laid_unicode_CaseRanges), ("unicode/utf8.first", laid_unicode_utf8_first)], narrowed := true }
def StropRegimesUptoSaid : Prop := stropRegimesUptoRow.holds Tryz.pinned (OpenSpec.upto stropRegimesSpec)

/-- 'environlaw03.TextsDenotes', WHERE WHAT IT READS IS OF BULK AT MOST 1048576: true; the input reads as it did. -/
def textsDenotesUptoRow : OpenClaim := { program := "ytjghijeblddijaagreatdoor", sum := "0beee931c9956d1065e9a3faed263ee35f7b31c17a340acd82c4da1b50f6a79c", func := "environ/environlaw03.TextsDenotes", spec := "textsDenotes", inPlace := ["internal/bytealg.IndexByteString", "internal/bytealg.IndexString", "internal/bytealg.abigen_runtime_cmpstring", "math/bits.Sub64", "math/bits.Add64", "internal/abi.NoEscape", "internal/bytealg.MakeNoZero"], named := ["unicode/utf8.first", "unicode/utf8.acceptRanges", "math/bits.divideError", "math/bits.overflowError", "internal/strconv.uint64pow10", "math/bits.deBruijn32tab", "math/bits.deBruijn64tab", "internal/bytealg.MaxLen"], apart := false, laid := [("math/bits.deBruijn32tab", laid_math_bits_deBruijn32tab), ("math/bits.deBruijn64tab", laid_math_bits_deBruijn64tab), ("internal/strconv.uint64pow10", laid_internal_strconv_uint64pow10), ("unicode/utf8.acceptRanges", laid_unicode_utf8_acceptRanges), ("unicode/utf8.first", laid_unicode_utf8_first)], narrowed := true }
def TextsDenotesUptoSaid : Prop := textsDenotesUptoRow.holds Tryz.pinned (OpenSpec.upto textsDenotesSpec)

end Rows
end Go.Proofs.YtjghijeblddijaaGreatDoor
