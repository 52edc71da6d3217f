/-
  NARROWER THAN 'FOR EVERY INPUT', by the rows' own cells (each row's printed sentence says how): TextMatchesReference: laid · TextParts: laid · TextShows: laid · TextPlaces: laid · TextEdits: laid · TextCats: laid · TextFinds: laid · TextJoins: laid · TextBack: laid · TextLines: laid · TextDiffs: laid · TextInverts: laid · TextMerges: laid · TextMoves: laid.
  DERIVED. THE GIVEN ROWS OF THIS SEAT. 14 by the template 'for every input the law returns true; each argument reads behind the call as it read before'; 0 by the template 'total and deterministic' (their statements: YtdcemnmbfblmiaaDoorTotals.lean).
  GIVEN WITH THE SEED: the statements are not yours to turn. If you find one false, say at which input.
  Laid BY PROGRAM, IN A SANDBOX (cutbox-rows.mjs): the forced cells as the released guide's own fill.sh prints them over the translation b77429f6bbcf376a… (all of the seat's roots in one cut). By AI agents, Wed Nov 11 2026. No macro, syntax, notation, axiom, sorry.
-/
import Derived.Test.YtdcemnmbfblmiaaDoorChecked
import GoSem.Claim
import GoSem.ClaimJoined
import GoSem.ClaimMapViews
import Derived.JoinedTies
import Derived.KernelRfl
namespace Go.Proofs.YtdcemnmbfblmiaaDoor
/- THE CELL 'sum', in the pinned program and in every row, IS THE sha256 OF THE DUMP (.gsa) THAT YtdcemnmbfblmiaaDoorProg.lean LOADS. Nothing in Lean hashes anything: it is a label: what it is worth is what the hold of that sum in a sandbox is worth. -/
noncomputable def Tryd.pinned : Pinned := { name := "ytdcemnmbfblmiaadoor", sum := "b77429f6bbcf376aa90142620118185af1843d92768a94baa403b726c35f4710", checked := Tryd.checked }
namespace Rows
def none {H : Type} : Left H := { results := [], args := [] }

/- WHAT THE LISTED PACKAGE-LEVEL VARIABLES READ AS WHEN THE CALL BEGINS. Each datum BY PROGRAM (the guide's laid-datum.mjs) off the statement by which the dump's own 'gosem.cut.vars' lays the variable. In a bare row this is a premise. The card (YtdcemnmbfblmiaaDoorCards.lean) ties it to the program's text. -/
def laid_mjolner_text_digits {H : Type} : DataW H := .agg [.lit (.int .u8 48), .lit (.int .u8 49), .lit (.int .u8 50), .lit (.int .u8 51), .lit (.int .u8 52), .lit (.int .u8 53), .lit (.int .u8 54), .lit (.int .u8 55), .lit (.int .u8 56), .lit (.int .u8 57), .lit (.int .u8 65), .lit (.int .u8 66), .lit (.int .u8 67), .lit (.int .u8 68), .lit (.int .u8 69), .lit (.int .u8 70)]

/-- 'mjolnerlaw03.TextMatchesReference': WHATEVER THE INPUT: true; the input reads as it did. -/
def textMatchesReferenceSpec : ChangeSpec := { name := "textMatchesReference", fn := fun _ => fun
  | [d1, d2, d3, d4] => { results := [.lit (.bool true)], args := [d1, d2, d3, d4] }
  | _ => none }
def textMatchesReferenceRow : OpenClaim := { program := "ytdcemnmbfblmiaadoor", sum := "b77429f6bbcf376aa90142620118185af1843d92768a94baa403b726c35f4710", func := "mjolner/mjolnerlaw03.TextMatchesReference", spec := "textMatchesReference", inPlace := ["internal/bytealg.abigen_runtime_cmpstring", "internal/bytealg.IndexByteString", "internal/bytealg.IndexString", "internal/abi.NoEscape", "internal/bytealg.MakeNoZero", "internal/bytealg.CountString"], unfollowed := true, recurses := true, named := ["internal/bytealg.MaxLen", "mjolner/text.digits"], apart := false, laid := [("mjolner/text.digits", laid_mjolner_text_digits)] }
def TextMatchesReferenceSaid : Prop := textMatchesReferenceRow.holds Tryd.pinned (OpenSpec.ofChange textMatchesReferenceSpec)

/-- ITS FALSE NEIGHBOUR: 'it returns false'. Refute it at one input. -/
def textMatchesReferenceWrong : ChangeSpec := { name := "textMatchesReference", fn := fun _ => fun
  | [d1, d2, d3, d4] => { results := [.lit (.bool false)], args := [d1, d2, d3, d4] }
  | _ => none }
def TextMatchesReferenceWrongFalsely : Prop := textMatchesReferenceRow.holds Tryd.pinned (OpenSpec.ofChange textMatchesReferenceWrong)

/-- 'mjolnerlaw03.TextParts': WHATEVER THE INPUT: true; the input reads as it did. -/
def textPartsSpec : ChangeSpec := { name := "textParts", fn := fun _ => fun
  | [d1, d2, d3, d4] => { results := [.lit (.bool true)], args := [d1, d2, d3, d4] }
  | _ => none }
def textPartsRow : OpenClaim := { program := "ytdcemnmbfblmiaadoor", sum := "b77429f6bbcf376aa90142620118185af1843d92768a94baa403b726c35f4710", func := "mjolner/mjolnerlaw03.TextParts", spec := "textParts", inPlace := ["internal/bytealg.IndexByteString", "internal/bytealg.IndexString", "internal/abi.NoEscape", "internal/bytealg.MakeNoZero", "internal/bytealg.CountString", "internal/bytealg.abigen_runtime_cmpstring"], unfollowed := true, recurses := true, named := ["internal/bytealg.MaxLen", "mjolner/text.digits"], apart := false, laid := [("mjolner/text.digits", laid_mjolner_text_digits)] }
def TextPartsSaid : Prop := textPartsRow.holds Tryd.pinned (OpenSpec.ofChange textPartsSpec)

/-- ITS FALSE NEIGHBOUR: 'it returns false'. Refute it at one input. -/
def textPartsWrong : ChangeSpec := { name := "textParts", fn := fun _ => fun
  | [d1, d2, d3, d4] => { results := [.lit (.bool false)], args := [d1, d2, d3, d4] }
  | _ => none }
def TextPartsWrongFalsely : Prop := textPartsRow.holds Tryd.pinned (OpenSpec.ofChange textPartsWrong)

/-- 'mjolnerlaw03.TextShows': WHATEVER THE INPUT: true; the input reads as it did. -/
def textShowsSpec : ChangeSpec := { name := "textShows", fn := fun _ => fun
  | [d] => { results := [.lit (.bool true)], args := [d] }
  | _ => none }
def textShowsRow : OpenClaim := { program := "ytdcemnmbfblmiaadoor", sum := "b77429f6bbcf376aa90142620118185af1843d92768a94baa403b726c35f4710", func := "mjolner/mjolnerlaw03.TextShows", spec := "textShows", inPlace := ["internal/bytealg.IndexByteString", "internal/bytealg.IndexString", "internal/abi.NoEscape", "internal/bytealg.MakeNoZero", "internal/bytealg.CountString", "internal/bytealg.abigen_runtime_cmpstring"], unfollowed := true, recurses := true, named := ["mjolner/text.digits", "internal/bytealg.MaxLen"], apart := false, laid := [("mjolner/text.digits", laid_mjolner_text_digits)] }
def TextShowsSaid : Prop := textShowsRow.holds Tryd.pinned (OpenSpec.ofChange textShowsSpec)

/-- ITS FALSE NEIGHBOUR: 'it returns false'. Refute it at one input. -/
def textShowsWrong : ChangeSpec := { name := "textShows", fn := fun _ => fun
  | [d] => { results := [.lit (.bool false)], args := [d] }
  | _ => none }
def TextShowsWrongFalsely : Prop := textShowsRow.holds Tryd.pinned (OpenSpec.ofChange textShowsWrong)

/-- 'mjolnerlaw03.TextPlaces': WHATEVER THE INPUT: true; the input reads as it did. -/
def textPlacesSpec : ChangeSpec := { name := "textPlaces", fn := fun _ => fun
  | [d1, d2, d3] => { results := [.lit (.bool true)], args := [d1, d2, d3] }
  | _ => none }
def textPlacesRow : OpenClaim := { program := "ytdcemnmbfblmiaadoor", sum := "b77429f6bbcf376aa90142620118185af1843d92768a94baa403b726c35f4710", func := "mjolner/mjolnerlaw03.TextPlaces", spec := "textPlaces", inPlace := ["internal/bytealg.CountString", "internal/bytealg.IndexByteString", "internal/bytealg.IndexString", "internal/abi.NoEscape", "internal/bytealg.MakeNoZero", "internal/bytealg.abigen_runtime_cmpstring"], unfollowed := true, recurses := true, named := ["internal/bytealg.MaxLen", "mjolner/text.digits"], apart := false, laid := [("mjolner/text.digits", laid_mjolner_text_digits)] }
def TextPlacesSaid : Prop := textPlacesRow.holds Tryd.pinned (OpenSpec.ofChange textPlacesSpec)

/-- ITS FALSE NEIGHBOUR: 'it returns false'. Refute it at one input. -/
def textPlacesWrong : ChangeSpec := { name := "textPlaces", fn := fun _ => fun
  | [d1, d2, d3] => { results := [.lit (.bool false)], args := [d1, d2, d3] }
  | _ => none }
def TextPlacesWrongFalsely : Prop := textPlacesRow.holds Tryd.pinned (OpenSpec.ofChange textPlacesWrong)

/-- 'mjolnerlaw03.TextEdits': WHATEVER THE INPUT: true; the input reads as it did. -/
def textEditsSpec : ChangeSpec := { name := "textEdits", fn := fun _ => fun
  | [d1, d2, d3, d4, d5] => { results := [.lit (.bool true)], args := [d1, d2, d3, d4, d5] }
  | _ => none }
def textEditsRow : OpenClaim := { program := "ytdcemnmbfblmiaadoor", sum := "b77429f6bbcf376aa90142620118185af1843d92768a94baa403b726c35f4710", func := "mjolner/mjolnerlaw03.TextEdits", spec := "textEdits", inPlace := ["internal/bytealg.IndexByteString", "internal/bytealg.IndexString", "internal/abi.NoEscape", "internal/bytealg.MakeNoZero", "internal/bytealg.CountString", "internal/bytealg.abigen_runtime_cmpstring"], unfollowed := true, recurses := true, named := ["internal/bytealg.MaxLen", "mjolner/text.digits"], apart := false, laid := [("mjolner/text.digits", laid_mjolner_text_digits)] }
def TextEditsSaid : Prop := textEditsRow.holds Tryd.pinned (OpenSpec.ofChange textEditsSpec)

/-- ITS FALSE NEIGHBOUR: 'it returns false'. Refute it at one input. -/
def textEditsWrong : ChangeSpec := { name := "textEdits", fn := fun _ => fun
  | [d1, d2, d3, d4, d5] => { results := [.lit (.bool false)], args := [d1, d2, d3, d4, d5] }
  | _ => none }
def TextEditsWrongFalsely : Prop := textEditsRow.holds Tryd.pinned (OpenSpec.ofChange textEditsWrong)

/-- 'mjolnerlaw03.TextCats': WHATEVER THE INPUT: true; the input reads as it did. -/
def textCatsSpec : ChangeSpec := { name := "textCats", fn := fun _ => fun
  | [d1, d2, d3] => { results := [.lit (.bool true)], args := [d1, d2, d3] }
  | _ => none }
def textCatsRow : OpenClaim := { program := "ytdcemnmbfblmiaadoor", sum := "b77429f6bbcf376aa90142620118185af1843d92768a94baa403b726c35f4710", func := "mjolner/mjolnerlaw03.TextCats", spec := "textCats", inPlace := ["internal/bytealg.IndexByteString", "internal/bytealg.IndexString", "internal/abi.NoEscape", "internal/bytealg.MakeNoZero", "internal/bytealg.CountString", "internal/bytealg.abigen_runtime_cmpstring"], unfollowed := true, recurses := true, named := ["internal/bytealg.MaxLen", "mjolner/text.digits"], apart := false, laid := [("mjolner/text.digits", laid_mjolner_text_digits)] }
def TextCatsSaid : Prop := textCatsRow.holds Tryd.pinned (OpenSpec.ofChange textCatsSpec)

/-- ITS FALSE NEIGHBOUR: 'it returns false'. Refute it at one input. -/
def textCatsWrong : ChangeSpec := { name := "textCats", fn := fun _ => fun
  | [d1, d2, d3] => { results := [.lit (.bool false)], args := [d1, d2, d3] }
  | _ => none }
def TextCatsWrongFalsely : Prop := textCatsRow.holds Tryd.pinned (OpenSpec.ofChange textCatsWrong)

/-- 'mjolnerlaw03.TextFinds': WHATEVER THE INPUT: true; the input reads as it did. -/
def textFindsSpec : ChangeSpec := { name := "textFinds", fn := fun _ => fun
  | [d1, d2, d3] => { results := [.lit (.bool true)], args := [d1, d2, d3] }
  | _ => none }
def textFindsRow : OpenClaim := { program := "ytdcemnmbfblmiaadoor", sum := "b77429f6bbcf376aa90142620118185af1843d92768a94baa403b726c35f4710", func := "mjolner/mjolnerlaw03.TextFinds", spec := "textFinds", inPlace := ["internal/bytealg.IndexByteString", "internal/bytealg.IndexString", "internal/abi.NoEscape", "internal/bytealg.MakeNoZero", "internal/bytealg.CountString", "internal/bytealg.abigen_runtime_cmpstring"], unfollowed := true, recurses := true, named := ["internal/bytealg.MaxLen", "mjolner/text.digits"], apart := false, laid := [("mjolner/text.digits", laid_mjolner_text_digits)] }
def TextFindsSaid : Prop := textFindsRow.holds Tryd.pinned (OpenSpec.ofChange textFindsSpec)

/-- ITS FALSE NEIGHBOUR: 'it returns false'. Refute it at one input. -/
def textFindsWrong : ChangeSpec := { name := "textFinds", fn := fun _ => fun
  | [d1, d2, d3] => { results := [.lit (.bool false)], args := [d1, d2, d3] }
  | _ => none }
def TextFindsWrongFalsely : Prop := textFindsRow.holds Tryd.pinned (OpenSpec.ofChange textFindsWrong)

/-- 'mjolnerlaw03.TextJoins': WHATEVER THE INPUT: true; the input reads as it did. -/
def textJoinsSpec : ChangeSpec := { name := "textJoins", fn := fun _ => fun
  | [d1, d2, d3, d4, d5] => { results := [.lit (.bool true)], args := [d1, d2, d3, d4, d5] }
  | _ => none }
def textJoinsRow : OpenClaim := { program := "ytdcemnmbfblmiaadoor", sum := "b77429f6bbcf376aa90142620118185af1843d92768a94baa403b726c35f4710", func := "mjolner/mjolnerlaw03.TextJoins", spec := "textJoins", inPlace := ["internal/bytealg.IndexByteString", "internal/bytealg.IndexString", "internal/abi.NoEscape", "internal/bytealg.MakeNoZero", "internal/bytealg.CountString", "internal/bytealg.abigen_runtime_cmpstring"], unfollowed := true, recurses := true, named := ["internal/bytealg.MaxLen", "mjolner/text.digits"], apart := false, laid := [("mjolner/text.digits", laid_mjolner_text_digits)] }
def TextJoinsSaid : Prop := textJoinsRow.holds Tryd.pinned (OpenSpec.ofChange textJoinsSpec)

/-- ITS FALSE NEIGHBOUR: 'it returns false'. Refute it at one input. -/
def textJoinsWrong : ChangeSpec := { name := "textJoins", fn := fun _ => fun
  | [d1, d2, d3, d4, d5] => { results := [.lit (.bool false)], args := [d1, d2, d3, d4, d5] }
  | _ => none }
def TextJoinsWrongFalsely : Prop := textJoinsRow.holds Tryd.pinned (OpenSpec.ofChange textJoinsWrong)

/-- 'mjolnerlaw03.TextBack': WHATEVER THE INPUT: true; the input reads as it did. -/
def textBackSpec : ChangeSpec := { name := "textBack", fn := fun _ => fun
  | [d1, d2] => { results := [.lit (.bool true)], args := [d1, d2] }
  | _ => none }
def textBackRow : OpenClaim := { program := "ytdcemnmbfblmiaadoor", sum := "b77429f6bbcf376aa90142620118185af1843d92768a94baa403b726c35f4710", func := "mjolner/mjolnerlaw03.TextBack", spec := "textBack", inPlace := ["internal/bytealg.IndexByteString", "internal/bytealg.IndexString", "internal/abi.NoEscape", "internal/bytealg.MakeNoZero", "internal/bytealg.CountString", "internal/bytealg.abigen_runtime_cmpstring"], unfollowed := true, recurses := true, named := ["internal/bytealg.MaxLen", "mjolner/text.digits"], apart := false, laid := [("mjolner/text.digits", laid_mjolner_text_digits)] }
def TextBackSaid : Prop := textBackRow.holds Tryd.pinned (OpenSpec.ofChange textBackSpec)

/-- ITS FALSE NEIGHBOUR: 'it returns false'. Refute it at one input. -/
def textBackWrong : ChangeSpec := { name := "textBack", fn := fun _ => fun
  | [d1, d2] => { results := [.lit (.bool false)], args := [d1, d2] }
  | _ => none }
def TextBackWrongFalsely : Prop := textBackRow.holds Tryd.pinned (OpenSpec.ofChange textBackWrong)

/-- 'mjolnerlaw03.TextLines': WHATEVER THE INPUT: true; the input reads as it did. -/
def textLinesSpec : ChangeSpec := { name := "textLines", fn := fun _ => fun
  | [d1, d2, d3] => { results := [.lit (.bool true)], args := [d1, d2, d3] }
  | _ => none }
def textLinesRow : OpenClaim := { program := "ytdcemnmbfblmiaadoor", sum := "b77429f6bbcf376aa90142620118185af1843d92768a94baa403b726c35f4710", func := "mjolner/mjolnerlaw03.TextLines", spec := "textLines", inPlace := ["internal/bytealg.IndexByteString", "internal/bytealg.IndexString", "internal/abi.NoEscape", "internal/bytealg.MakeNoZero", "internal/bytealg.CountString", "internal/bytealg.abigen_runtime_cmpstring"], unfollowed := true, recurses := true, named := ["internal/bytealg.MaxLen", "mjolner/text.digits"], apart := false, laid := [("mjolner/text.digits", laid_mjolner_text_digits)] }
def TextLinesSaid : Prop := textLinesRow.holds Tryd.pinned (OpenSpec.ofChange textLinesSpec)

/-- ITS FALSE NEIGHBOUR: 'it returns false'. Refute it at one input. -/
def textLinesWrong : ChangeSpec := { name := "textLines", fn := fun _ => fun
  | [d1, d2, d3] => { results := [.lit (.bool false)], args := [d1, d2, d3] }
  | _ => none }
def TextLinesWrongFalsely : Prop := textLinesRow.holds Tryd.pinned (OpenSpec.ofChange textLinesWrong)

/-- 'mjolnerlaw03.TextDiffs': WHATEVER THE INPUT: true; the input reads as it did. -/
def textDiffsSpec : ChangeSpec := { name := "textDiffs", fn := fun _ => fun
  | [d1, d2] => { results := [.lit (.bool true)], args := [d1, d2] }
  | _ => none }
def textDiffsRow : OpenClaim := { program := "ytdcemnmbfblmiaadoor", sum := "b77429f6bbcf376aa90142620118185af1843d92768a94baa403b726c35f4710", func := "mjolner/mjolnerlaw03.TextDiffs", spec := "textDiffs", inPlace := ["internal/bytealg.IndexByteString", "internal/bytealg.IndexString", "internal/abi.NoEscape", "internal/bytealg.MakeNoZero", "internal/bytealg.CountString", "internal/bytealg.abigen_runtime_cmpstring"], unfollowed := true, recurses := true, named := ["internal/bytealg.MaxLen", "mjolner/text.digits"], apart := false, laid := [("mjolner/text.digits", laid_mjolner_text_digits)] }
def TextDiffsSaid : Prop := textDiffsRow.holds Tryd.pinned (OpenSpec.ofChange textDiffsSpec)

/-- ITS FALSE NEIGHBOUR: 'it returns false'. Refute it at one input. -/
def textDiffsWrong : ChangeSpec := { name := "textDiffs", fn := fun _ => fun
  | [d1, d2] => { results := [.lit (.bool false)], args := [d1, d2] }
  | _ => none }
def TextDiffsWrongFalsely : Prop := textDiffsRow.holds Tryd.pinned (OpenSpec.ofChange textDiffsWrong)

/-- 'mjolnerlaw03.TextInverts': WHATEVER THE INPUT: true; the input reads as it did. -/
def textInvertsSpec : ChangeSpec := { name := "textInverts", fn := fun _ => fun
  | [d1, d2] => { results := [.lit (.bool true)], args := [d1, d2] }
  | _ => none }
def textInvertsRow : OpenClaim := { program := "ytdcemnmbfblmiaadoor", sum := "b77429f6bbcf376aa90142620118185af1843d92768a94baa403b726c35f4710", func := "mjolner/mjolnerlaw03.TextInverts", spec := "textInverts", inPlace := ["internal/bytealg.IndexByteString", "internal/bytealg.IndexString", "internal/abi.NoEscape", "internal/bytealg.MakeNoZero", "internal/bytealg.CountString", "internal/bytealg.abigen_runtime_cmpstring"], unfollowed := true, recurses := true, named := ["internal/bytealg.MaxLen", "mjolner/text.digits"], apart := false, laid := [("mjolner/text.digits", laid_mjolner_text_digits)] }
def TextInvertsSaid : Prop := textInvertsRow.holds Tryd.pinned (OpenSpec.ofChange textInvertsSpec)

/-- ITS FALSE NEIGHBOUR: 'it returns false'. Refute it at one input. -/
def textInvertsWrong : ChangeSpec := { name := "textInverts", fn := fun _ => fun
  | [d1, d2] => { results := [.lit (.bool false)], args := [d1, d2] }
  | _ => none }
def TextInvertsWrongFalsely : Prop := textInvertsRow.holds Tryd.pinned (OpenSpec.ofChange textInvertsWrong)

/-- 'mjolnerlaw03.TextMerges': WHATEVER THE INPUT: true; the input reads as it did. -/
def textMergesSpec : ChangeSpec := { name := "textMerges", fn := fun _ => fun
  | [d1, d2, d3] => { results := [.lit (.bool true)], args := [d1, d2, d3] }
  | _ => none }
def textMergesRow : OpenClaim := { program := "ytdcemnmbfblmiaadoor", sum := "b77429f6bbcf376aa90142620118185af1843d92768a94baa403b726c35f4710", func := "mjolner/mjolnerlaw03.TextMerges", spec := "textMerges", inPlace := ["internal/bytealg.IndexByteString", "internal/bytealg.IndexString", "internal/abi.NoEscape", "internal/bytealg.MakeNoZero", "internal/bytealg.CountString", "internal/bytealg.abigen_runtime_cmpstring"], unfollowed := true, recurses := true, named := ["internal/bytealg.MaxLen", "mjolner/text.digits"], apart := false, laid := [("mjolner/text.digits", laid_mjolner_text_digits)] }
def TextMergesSaid : Prop := textMergesRow.holds Tryd.pinned (OpenSpec.ofChange textMergesSpec)

/-- ITS FALSE NEIGHBOUR: 'it returns false'. Refute it at one input. -/
def textMergesWrong : ChangeSpec := { name := "textMerges", fn := fun _ => fun
  | [d1, d2, d3] => { results := [.lit (.bool false)], args := [d1, d2, d3] }
  | _ => none }
def TextMergesWrongFalsely : Prop := textMergesRow.holds Tryd.pinned (OpenSpec.ofChange textMergesWrong)

/-- 'mjolnerlaw03.TextMoves': WHATEVER THE INPUT: true; the input reads as it did. -/
def textMovesSpec : ChangeSpec := { name := "textMoves", fn := fun _ => fun
  | [d1, d2, d3, d4] => { results := [.lit (.bool true)], args := [d1, d2, d3, d4] }
  | _ => none }
def textMovesRow : OpenClaim := { program := "ytdcemnmbfblmiaadoor", sum := "b77429f6bbcf376aa90142620118185af1843d92768a94baa403b726c35f4710", func := "mjolner/mjolnerlaw03.TextMoves", spec := "textMoves", inPlace := ["internal/bytealg.IndexByteString", "internal/bytealg.IndexString", "internal/abi.NoEscape", "internal/bytealg.MakeNoZero", "internal/bytealg.CountString", "internal/bytealg.abigen_runtime_cmpstring"], unfollowed := true, recurses := true, named := ["internal/bytealg.MaxLen", "mjolner/text.digits"], apart := false, laid := [("mjolner/text.digits", laid_mjolner_text_digits)] }
def TextMovesSaid : Prop := textMovesRow.holds Tryd.pinned (OpenSpec.ofChange textMovesSpec)

/-- ITS FALSE NEIGHBOUR: 'it returns false'. Refute it at one input. -/
def textMovesWrong : ChangeSpec := { name := "textMoves", fn := fun _ => fun
  | [d1, d2, d3, d4] => { results := [.lit (.bool false)], args := [d1, d2, d3, d4] }
  | _ => none }
def TextMovesWrongFalsely : Prop := textMovesRow.holds Tryd.pinned (OpenSpec.ofChange textMovesWrong)

/- THE SECOND FORM. 'bulk': how many values and letters a reading holds, each counted each time it is reached (what is shared counts as often as it is met; a slice's spare places count too). A statement '..UptoSaid' is the law's where the arguments, and the package variables that the reading takes, are together of bulk at most 1048576: NARROWER than '..Said'. Prove '..Said' where nothing that the law and all that it calls make is longer than what came in: it says more and counts as full. Else prove '..UptoSaid'. A law counts once. -/
mutual
def uptoBulk {H : Type} : DataW H → Nat
  | .lit (.string bytes) => bytes.length + 1
  | .lit _ => 1
  | .nil => 1
  | .ptr d => uptoBulk d + 1
  | .slice elems spare => uptoBulkAll elems + uptoBulkAll spare + 1
  | .agg parts => uptoBulkAll parts + 1
  | .iface _ d => uptoBulk d + 1
  | .map entries => uptoBulkEntries entries + 1
  | .held _ => 1
def uptoBulkAll {H : Type} : List (DataW H) → Nat
  | [] => 0
  | d :: r => uptoBulk d + uptoBulkAll r
def uptoBulkEntries {H : Type} : List (Lit × DataW H) → Nat
  | [] => 0
  | x :: r => uptoBulkEntry x + uptoBulkEntries r
def uptoBulkEntry {H : Type} : Lit × DataW H → Nat
  | (.string bytes, d) => bytes.length + uptoBulk d + 1
  | (_, d) => uptoBulk d + 1
 end
def uptoSmall : (H : Type) → List (DataW H) → Bool := fun _ ds => decide (uptoBulkAll ds ≤ 1048576)
def OpenSpec.upto (s : _root_.Go.ChangeSpec) : _root_.Go.OpenSpec := { _root_.Go.OpenSpec.ofChange s with cond := some uptoSmall }

/-- 'mjolnerlaw03.TextMatchesReference', WHERE WHAT IT READS IS OF BULK AT MOST 1048576: true; the input reads as it did. -/
def textMatchesReferenceUptoRow : OpenClaim := { program := "ytdcemnmbfblmiaadoor", sum := "b77429f6bbcf376aa90142620118185af1843d92768a94baa403b726c35f4710", func := "mjolner/mjolnerlaw03.TextMatchesReference", spec := "textMatchesReference", inPlace := ["internal/bytealg.abigen_runtime_cmpstring", "internal/bytealg.IndexByteString", "internal/bytealg.IndexString", "internal/abi.NoEscape", "internal/bytealg.MakeNoZero", "internal/bytealg.CountString"], unfollowed := true, recurses := true, named := ["internal/bytealg.MaxLen", "mjolner/text.digits"], apart := false, laid := [("mjolner/text.digits", laid_mjolner_text_digits)], narrowed := true }
def TextMatchesReferenceUptoSaid : Prop := textMatchesReferenceUptoRow.holds Tryd.pinned (OpenSpec.upto textMatchesReferenceSpec)

/-- 'mjolnerlaw03.TextParts', WHERE WHAT IT READS IS OF BULK AT MOST 1048576: true; the input reads as it did. -/
def textPartsUptoRow : OpenClaim := { program := "ytdcemnmbfblmiaadoor", sum := "b77429f6bbcf376aa90142620118185af1843d92768a94baa403b726c35f4710", func := "mjolner/mjolnerlaw03.TextParts", spec := "textParts", inPlace := ["internal/bytealg.IndexByteString", "internal/bytealg.IndexString", "internal/abi.NoEscape", "internal/bytealg.MakeNoZero", "internal/bytealg.CountString", "internal/bytealg.abigen_runtime_cmpstring"], unfollowed := true, recurses := true, named := ["internal/bytealg.MaxLen", "mjolner/text.digits"], apart := false, laid := [("mjolner/text.digits", laid_mjolner_text_digits)], narrowed := true }
def TextPartsUptoSaid : Prop := textPartsUptoRow.holds Tryd.pinned (OpenSpec.upto textPartsSpec)

/-- 'mjolnerlaw03.TextShows', WHERE WHAT IT READS IS OF BULK AT MOST 1048576: true; the input reads as it did. -/
def textShowsUptoRow : OpenClaim := { program := "ytdcemnmbfblmiaadoor", sum := "b77429f6bbcf376aa90142620118185af1843d92768a94baa403b726c35f4710", func := "mjolner/mjolnerlaw03.TextShows", spec := "textShows", inPlace := ["internal/bytealg.IndexByteString", "internal/bytealg.IndexString", "internal/abi.NoEscape", "internal/bytealg.MakeNoZero", "internal/bytealg.CountString", "internal/bytealg.abigen_runtime_cmpstring"], unfollowed := true, recurses := true, named := ["mjolner/text.digits", "internal/bytealg.MaxLen"], apart := false, laid := [("mjolner/text.digits", laid_mjolner_text_digits)], narrowed := true }
def TextShowsUptoSaid : Prop := textShowsUptoRow.holds Tryd.pinned (OpenSpec.upto textShowsSpec)

/-- 'mjolnerlaw03.TextPlaces', WHERE WHAT IT READS IS OF BULK AT MOST 1048576: true; the input reads as it did. -/
def textPlacesUptoRow : OpenClaim := { program := "ytdcemnmbfblmiaadoor", sum := "b77429f6bbcf376aa90142620118185af1843d92768a94baa403b726c35f4710", func := "mjolner/mjolnerlaw03.TextPlaces", spec := "textPlaces", inPlace := ["internal/bytealg.CountString", "internal/bytealg.IndexByteString", "internal/bytealg.IndexString", "internal/abi.NoEscape", "internal/bytealg.MakeNoZero", "internal/bytealg.abigen_runtime_cmpstring"], unfollowed := true, recurses := true, named := ["internal/bytealg.MaxLen", "mjolner/text.digits"], apart := false, laid := [("mjolner/text.digits", laid_mjolner_text_digits)], narrowed := true }
def TextPlacesUptoSaid : Prop := textPlacesUptoRow.holds Tryd.pinned (OpenSpec.upto textPlacesSpec)

/-- 'mjolnerlaw03.TextEdits', WHERE WHAT IT READS IS OF BULK AT MOST 1048576: true; the input reads as it did. -/
def textEditsUptoRow : OpenClaim := { program := "ytdcemnmbfblmiaadoor", sum := "b77429f6bbcf376aa90142620118185af1843d92768a94baa403b726c35f4710", func := "mjolner/mjolnerlaw03.TextEdits", spec := "textEdits", inPlace := ["internal/bytealg.IndexByteString", "internal/bytealg.IndexString", "internal/abi.NoEscape", "internal/bytealg.MakeNoZero", "internal/bytealg.CountString", "internal/bytealg.abigen_runtime_cmpstring"], unfollowed := true, recurses := true, named := ["internal/bytealg.MaxLen", "mjolner/text.digits"], apart := false, laid := [("mjolner/text.digits", laid_mjolner_text_digits)], narrowed := true }
def TextEditsUptoSaid : Prop := textEditsUptoRow.holds Tryd.pinned (OpenSpec.upto textEditsSpec)

/-- 'mjolnerlaw03.TextCats', WHERE WHAT IT READS IS OF BULK AT MOST 1048576: true; the input reads as it did. -/
def textCatsUptoRow : OpenClaim := { program := "ytdcemnmbfblmiaadoor", sum := "b77429f6bbcf376aa90142620118185af1843d92768a94baa403b726c35f4710", func := "mjolner/mjolnerlaw03.TextCats", spec := "textCats", inPlace := ["internal/bytealg.IndexByteString", "internal/bytealg.IndexString", "internal/abi.NoEscape", "internal/bytealg.MakeNoZero", "internal/bytealg.CountString", "internal/bytealg.abigen_runtime_cmpstring"], unfollowed := true, recurses := true, named := ["internal/bytealg.MaxLen", "mjolner/text.digits"], apart := false, laid := [("mjolner/text.digits", laid_mjolner_text_digits)], narrowed := true }
def TextCatsUptoSaid : Prop := textCatsUptoRow.holds Tryd.pinned (OpenSpec.upto textCatsSpec)

/-- 'mjolnerlaw03.TextFinds', WHERE WHAT IT READS IS OF BULK AT MOST 1048576: true; the input reads as it did. -/
def textFindsUptoRow : OpenClaim := { program := "ytdcemnmbfblmiaadoor", sum := "b77429f6bbcf376aa90142620118185af1843d92768a94baa403b726c35f4710", func := "mjolner/mjolnerlaw03.TextFinds", spec := "textFinds", inPlace := ["internal/bytealg.IndexByteString", "internal/bytealg.IndexString", "internal/abi.NoEscape", "internal/bytealg.MakeNoZero", "internal/bytealg.CountString", "internal/bytealg.abigen_runtime_cmpstring"], unfollowed := true, recurses := true, named := ["internal/bytealg.MaxLen", "mjolner/text.digits"], apart := false, laid := [("mjolner/text.digits", laid_mjolner_text_digits)], narrowed := true }
def TextFindsUptoSaid : Prop := textFindsUptoRow.holds Tryd.pinned (OpenSpec.upto textFindsSpec)

/-- 'mjolnerlaw03.TextJoins', WHERE WHAT IT READS IS OF BULK AT MOST 1048576: true; the input reads as it did. -/
def textJoinsUptoRow : OpenClaim := { program := "ytdcemnmbfblmiaadoor", sum := "b77429f6bbcf376aa90142620118185af1843d92768a94baa403b726c35f4710", func := "mjolner/mjolnerlaw03.TextJoins", spec := "textJoins", inPlace := ["internal/bytealg.IndexByteString", "internal/bytealg.IndexString", "internal/abi.NoEscape", "internal/bytealg.MakeNoZero", "internal/bytealg.CountString", "internal/bytealg.abigen_runtime_cmpstring"], unfollowed := true, recurses := true, named := ["internal/bytealg.MaxLen", "mjolner/text.digits"], apart := false, laid := [("mjolner/text.digits", laid_mjolner_text_digits)], narrowed := true }
def TextJoinsUptoSaid : Prop := textJoinsUptoRow.holds Tryd.pinned (OpenSpec.upto textJoinsSpec)

/-- 'mjolnerlaw03.TextBack', WHERE WHAT IT READS IS OF BULK AT MOST 1048576: true; the input reads as it did. -/
def textBackUptoRow : OpenClaim := { program := "ytdcemnmbfblmiaadoor", sum := "b77429f6bbcf376aa90142620118185af1843d92768a94baa403b726c35f4710", func := "mjolner/mjolnerlaw03.TextBack", spec := "textBack", inPlace := ["internal/bytealg.IndexByteString", "internal/bytealg.IndexString", "internal/abi.NoEscape", "internal/bytealg.MakeNoZero", "internal/bytealg.CountString", "internal/bytealg.abigen_runtime_cmpstring"], unfollowed := true, recurses := true, named := ["internal/bytealg.MaxLen", "mjolner/text.digits"], apart := false, laid := [("mjolner/text.digits", laid_mjolner_text_digits)], narrowed := true }
def TextBackUptoSaid : Prop := textBackUptoRow.holds Tryd.pinned (OpenSpec.upto textBackSpec)

/-- 'mjolnerlaw03.TextLines', WHERE WHAT IT READS IS OF BULK AT MOST 1048576: true; the input reads as it did. -/
def textLinesUptoRow : OpenClaim := { program := "ytdcemnmbfblmiaadoor", sum := "b77429f6bbcf376aa90142620118185af1843d92768a94baa403b726c35f4710", func := "mjolner/mjolnerlaw03.TextLines", spec := "textLines", inPlace := ["internal/bytealg.IndexByteString", "internal/bytealg.IndexString", "internal/abi.NoEscape", "internal/bytealg.MakeNoZero", "internal/bytealg.CountString", "internal/bytealg.abigen_runtime_cmpstring"], unfollowed := true, recurses := true, named := ["internal/bytealg.MaxLen", "mjolner/text.digits"], apart := false, laid := [("mjolner/text.digits", laid_mjolner_text_digits)], narrowed := true }
def TextLinesUptoSaid : Prop := textLinesUptoRow.holds Tryd.pinned (OpenSpec.upto textLinesSpec)

/-- 'mjolnerlaw03.TextDiffs', WHERE WHAT IT READS IS OF BULK AT MOST 1048576: true; the input reads as it did. -/
def textDiffsUptoRow : OpenClaim := { program := "ytdcemnmbfblmiaadoor", sum := "b77429f6bbcf376aa90142620118185af1843d92768a94baa403b726c35f4710", func := "mjolner/mjolnerlaw03.TextDiffs", spec := "textDiffs", inPlace := ["internal/bytealg.IndexByteString", "internal/bytealg.IndexString", "internal/abi.NoEscape", "internal/bytealg.MakeNoZero", "internal/bytealg.CountString", "internal/bytealg.abigen_runtime_cmpstring"], unfollowed := true, recurses := true, named := ["internal/bytealg.MaxLen", "mjolner/text.digits"], apart := false, laid := [("mjolner/text.digits", laid_mjolner_text_digits)], narrowed := true }
def TextDiffsUptoSaid : Prop := textDiffsUptoRow.holds Tryd.pinned (OpenSpec.upto textDiffsSpec)

/-- 'mjolnerlaw03.TextInverts', WHERE WHAT IT READS IS OF BULK AT MOST 1048576: true; the input reads as it did. -/
def textInvertsUptoRow : OpenClaim := { program := "ytdcemnmbfblmiaadoor", sum := "b77429f6bbcf376aa90142620118185af1843d92768a94baa403b726c35f4710", func := "mjolner/mjolnerlaw03.TextInverts", spec := "textInverts", inPlace := ["internal/bytealg.IndexByteString", "internal/bytealg.IndexString", "internal/abi.NoEscape", "internal/bytealg.MakeNoZero", "internal/bytealg.CountString", "internal/bytealg.abigen_runtime_cmpstring"], unfollowed := true, recurses := true, named := ["internal/bytealg.MaxLen", "mjolner/text.digits"], apart := false, laid := [("mjolner/text.digits", laid_mjolner_text_digits)], narrowed := true }
def TextInvertsUptoSaid : Prop := textInvertsUptoRow.holds Tryd.pinned (OpenSpec.upto textInvertsSpec)

/-- 'mjolnerlaw03.TextMerges', WHERE WHAT IT READS IS OF BULK AT MOST 1048576: true; the input reads as it did. -/
def textMergesUptoRow : OpenClaim := { program := "ytdcemnmbfblmiaadoor", sum := "b77429f6bbcf376aa90142620118185af1843d92768a94baa403b726c35f4710", func := "mjolner/mjolnerlaw03.TextMerges", spec := "textMerges", inPlace := ["internal/bytealg.IndexByteString", "internal/bytealg.IndexString", "internal/abi.NoEscape", "internal/bytealg.MakeNoZero", "internal/bytealg.CountString", "internal/bytealg.abigen_runtime_cmpstring"], unfollowed := true, recurses := true, named := ["internal/bytealg.MaxLen", "mjolner/text.digits"], apart := false, laid := [("mjolner/text.digits", laid_mjolner_text_digits)], narrowed := true }
def TextMergesUptoSaid : Prop := textMergesUptoRow.holds Tryd.pinned (OpenSpec.upto textMergesSpec)

/-- 'mjolnerlaw03.TextMoves', WHERE WHAT IT READS IS OF BULK AT MOST 1048576: true; the input reads as it did. -/
def textMovesUptoRow : OpenClaim := { program := "ytdcemnmbfblmiaadoor", sum := "b77429f6bbcf376aa90142620118185af1843d92768a94baa403b726c35f4710", func := "mjolner/mjolnerlaw03.TextMoves", spec := "textMoves", inPlace := ["internal/bytealg.IndexByteString", "internal/bytealg.IndexString", "internal/abi.NoEscape", "internal/bytealg.MakeNoZero", "internal/bytealg.CountString", "internal/bytealg.abigen_runtime_cmpstring"], unfollowed := true, recurses := true, named := ["internal/bytealg.MaxLen", "mjolner/text.digits"], apart := false, laid := [("mjolner/text.digits", laid_mjolner_text_digits)], narrowed := true }
def TextMovesUptoSaid : Prop := textMovesUptoRow.holds Tryd.pinned (OpenSpec.upto textMovesSpec)

end Rows
end Go.Proofs.YtdcemnmbfblmiaaDoor
