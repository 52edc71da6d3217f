/-
  NARROWER THAN 'FOR EVERY INPUT', by the rows' own cells (each row's printed sentence says how): PatternBinds: laid · PatternBound: laid · PatternInner: laid · PatternChain: laid · PatternFurther: laid · PatternAssigns: laid · PatternWalks: laid · PatternMerges: laid · PatternMeets: laid · PatternExtends: laid · PatternOrders: laid · PatternNames: laid · PatternParents: laid · PatternFinds: laid · PatternTexts: laid · PatternBack: laid.
  DERIVED. THE GIVEN ROWS OF THIS SEAT. 16 by the template 'for every input the law returns true; each argument reads behind the call as it read before'; 0 by the template 'total and deterministic' (their statements: YtgkebfeggekkgaaDoorTotals.lean).
  GIVEN WITH THE SEED: the statements are not yours to turn. If you find one false, say at which input.
  Laid BY PROGRAM, IN A SANDBOX (cutbox-rows.mjs): the forced cells as the released guide's own fill.sh prints them over the translation 7f9822e507bcfab8… (all of the seat's roots in one cut). By AI agents, Wed Nov 11 2026. No macro, syntax, notation, axiom, sorry.
-/
import Derived.Test.YtgkebfeggekkgaaDoorChecked
import GoSem.PinnedTables
import GoSem.Claim
import GoSem.ClaimJoined
import GoSem.ClaimMapViews
import Derived.JoinedTies
import Derived.KernelRfl
namespace Go.Proofs.YtgkebfeggekkgaaDoor
/- THE CELL 'sum', in the pinned program and in every row, IS THE sha256 OF THE DUMP (.gsa) THAT YtgkebfeggekkgaaDoorProg.lean LOADS. Nothing in Lean hashes anything: it is a label: what it is worth is what the hold of that sum in a sandbox is worth. -/
noncomputable def Tryd.pinned : Pinned := { name := "ytgkebfeggekkgaadoor", sum := "7f9822e507bcfab83e4a6f5622191cb32fd2aa41523936bbb4c363b910900f23", checked := Tryd.checked }
namespace Rows
def none {H : Type} : Left H := { results := [], args := [] }

/- WHAT THE LISTED PACKAGE-LEVEL VARIABLES READ AS WHEN THE CALL BEGINS. Each datum BY PROGRAM (the guide's laid-datum.mjs) off the statement by which the dump's own 'gosem.cut.vars' lays the variable. In a bare row this is a premise. The card (YtgkebfeggekkgaaDoorCards.lean) ties it to the program's text. -/
def laid_math_bits_deBruijn32tab {H : Type} : DataW H := .agg [.lit (.int .u8 0), .lit (.int .u8 1), .lit (.int .u8 28), .lit (.int .u8 2), .lit (.int .u8 29), .lit (.int .u8 14), .lit (.int .u8 24), .lit (.int .u8 3), .lit (.int .u8 30), .lit (.int .u8 22), .lit (.int .u8 20), .lit (.int .u8 15), .lit (.int .u8 25), .lit (.int .u8 17), .lit (.int .u8 4), .lit (.int .u8 8), .lit (.int .u8 31), .lit (.int .u8 27), .lit (.int .u8 13), .lit (.int .u8 23), .lit (.int .u8 21), .lit (.int .u8 19), .lit (.int .u8 16), .lit (.int .u8 7), .lit (.int .u8 26), .lit (.int .u8 12), .lit (.int .u8 18), .lit (.int .u8 6), .lit (.int .u8 11), .lit (.int .u8 5), .lit (.int .u8 10), .lit (.int .u8 9)]
def laid_math_bits_deBruijn64tab {H : Type} : DataW H := .agg [.lit (.int .u8 0), .lit (.int .u8 1), .lit (.int .u8 56), .lit (.int .u8 2), .lit (.int .u8 57), .lit (.int .u8 49), .lit (.int .u8 28), .lit (.int .u8 3), .lit (.int .u8 61), .lit (.int .u8 58), .lit (.int .u8 42), .lit (.int .u8 50), .lit (.int .u8 38), .lit (.int .u8 29), .lit (.int .u8 17), .lit (.int .u8 4), .lit (.int .u8 62), .lit (.int .u8 47), .lit (.int .u8 59), .lit (.int .u8 36), .lit (.int .u8 45), .lit (.int .u8 43), .lit (.int .u8 51), .lit (.int .u8 22), .lit (.int .u8 53), .lit (.int .u8 39), .lit (.int .u8 33), .lit (.int .u8 30), .lit (.int .u8 24), .lit (.int .u8 18), .lit (.int .u8 12), .lit (.int .u8 5), .lit (.int .u8 63), .lit (.int .u8 55), .lit (.int .u8 48), .lit (.int .u8 27), .lit (.int .u8 60), .lit (.int .u8 41), .lit (.int .u8 37), .lit (.int .u8 16), .lit (.int .u8 46), .lit (.int .u8 35), .lit (.int .u8 44), .lit (.int .u8 21), .lit (.int .u8 52), .lit (.int .u8 32), .lit (.int .u8 23), .lit (.int .u8 11), .lit (.int .u8 54), .lit (.int .u8 26), .lit (.int .u8 40), .lit (.int .u8 15), .lit (.int .u8 34), .lit (.int .u8 20), .lit (.int .u8 31), .lit (.int .u8 10), .lit (.int .u8 25), .lit (.int .u8 14), .lit (.int .u8 19), .lit (.int .u8 9), .lit (.int .u8 13), .lit (.int .u8 8), .lit (.int .u8 7), .lit (.int .u8 6)]
def laid_internal_strconv_uint64pow10 {H : Type} : DataW H := .agg [.lit (.int .u64 1), .lit (.int .u64 10), .lit (.int .u64 100), .lit (.int .u64 1000), .lit (.int .u64 10000), .lit (.int .u64 100000), .lit (.int .u64 1000000), .lit (.int .u64 10000000), .lit (.int .u64 100000000), .lit (.int .u64 1000000000), .lit (.int .u64 10000000000), .lit (.int .u64 100000000000), .lit (.int .u64 1000000000000), .lit (.int .u64 10000000000000), .lit (.int .u64 100000000000000), .lit (.int .u64 1000000000000000), .lit (.int .u64 10000000000000000), .lit (.int .u64 100000000000000000), .lit (.int .u64 1000000000000000000), .lit (.int .u64 10000000000000000000)]
def laid_unicode_utf8_acceptRanges {H : Type} : DataW H := .agg [.agg [.lit (.int .u8 128), .lit (.int .u8 191)], .agg [.lit (.int .u8 160), .lit (.int .u8 191)], .agg [.lit (.int .u8 128), .lit (.int .u8 159)], .agg [.lit (.int .u8 144), .lit (.int .u8 191)], .agg [.lit (.int .u8 128), .lit (.int .u8 143)], .agg [.lit (.int .u8 0), .lit (.int .u8 0)], .agg [.lit (.int .u8 0), .lit (.int .u8 0)], .agg [.lit (.int .u8 0), .lit (.int .u8 0)], .agg [.lit (.int .u8 0), .lit (.int .u8 0)], .agg [.lit (.int .u8 0), .lit (.int .u8 0)], .agg [.lit (.int .u8 0), .lit (.int .u8 0)], .agg [.lit (.int .u8 0), .lit (.int .u8 0)], .agg [.lit (.int .u8 0), .lit (.int .u8 0)], .agg [.lit (.int .u8 0), .lit (.int .u8 0)], .agg [.lit (.int .u8 0), .lit (.int .u8 0)], .agg [.lit (.int .u8 0), .lit (.int .u8 0)]]
/-- One of Go's own tables, pinned by name: the form's constant. -/
def laid_unicode_utf8_first : DataW Unit := Go.Pinned.utf8First

/-- 'mjolnerlaw09.PatternBinds': WHATEVER THE INPUT: true; the input reads as it did. -/
def patternBindsSpec : ChangeSpec := { name := "patternBinds", fn := fun _ => fun
  | [d1, d2] => { results := [.lit (.bool true)], args := [d1, d2] }
  | _ => none }
def patternBindsRow : OpenClaim := { program := "ytgkebfeggekkgaadoor", sum := "7f9822e507bcfab83e4a6f5622191cb32fd2aa41523936bbb4c363b910900f23", func := "mjolner/mjolnerlaw09.PatternBinds", spec := "patternBinds", inPlace := ["internal/abi.NoEscape", "internal/bytealg.MakeNoZero"], unfollowed := true, recurses := true, named := ["internal/strconv.uint64pow10", "math/bits.deBruijn32tab", "math/bits.deBruijn64tab"], apart := false, laid := [("math/bits.deBruijn32tab", laid_math_bits_deBruijn32tab), ("math/bits.deBruijn64tab", laid_math_bits_deBruijn64tab), ("internal/strconv.uint64pow10", laid_internal_strconv_uint64pow10)] }
def PatternBindsSaid : Prop := patternBindsRow.holds Tryd.pinned (OpenSpec.ofChange patternBindsSpec)

/-- ITS FALSE NEIGHBOUR: 'it returns false'. Refute it at one input. -/
def patternBindsWrong : ChangeSpec := { name := "patternBinds", fn := fun _ => fun
  | [d1, d2] => { results := [.lit (.bool false)], args := [d1, d2] }
  | _ => none }
def PatternBindsWrongFalsely : Prop := patternBindsRow.holds Tryd.pinned (OpenSpec.ofChange patternBindsWrong)

/-- 'mjolnerlaw09.PatternBound': WHATEVER THE INPUT: true; the input reads as it did. -/
def patternBoundSpec : ChangeSpec := { name := "patternBound", fn := fun _ => fun
  | [d1, d2, d3, d4] => { results := [.lit (.bool true)], args := [d1, d2, d3, d4] }
  | _ => none }
def patternBoundRow : OpenClaim := { program := "ytgkebfeggekkgaadoor", sum := "7f9822e507bcfab83e4a6f5622191cb32fd2aa41523936bbb4c363b910900f23", func := "mjolner/mjolnerlaw09.PatternBound", spec := "patternBound", inPlace := ["internal/abi.NoEscape", "internal/bytealg.MakeNoZero"], unfollowed := true, recurses := true, named := ["internal/strconv.uint64pow10", "math/bits.deBruijn32tab", "math/bits.deBruijn64tab"], apart := false, laid := [("math/bits.deBruijn32tab", laid_math_bits_deBruijn32tab), ("math/bits.deBruijn64tab", laid_math_bits_deBruijn64tab), ("internal/strconv.uint64pow10", laid_internal_strconv_uint64pow10)] }
def PatternBoundSaid : Prop := patternBoundRow.holds Tryd.pinned (OpenSpec.ofChange patternBoundSpec)

/-- ITS FALSE NEIGHBOUR: 'it returns false'. Refute it at one input. -/
def patternBoundWrong : ChangeSpec := { name := "patternBound", fn := fun _ => fun
  | [d1, d2, d3, d4] => { results := [.lit (.bool false)], args := [d1, d2, d3, d4] }
  | _ => none }
def PatternBoundWrongFalsely : Prop := patternBoundRow.holds Tryd.pinned (OpenSpec.ofChange patternBoundWrong)

/-- 'mjolnerlaw09.PatternInner': WHATEVER THE INPUT: true; the input reads as it did. -/
def patternInnerSpec : ChangeSpec := { name := "patternInner", fn := fun _ => fun
  | [d1, d2] => { results := [.lit (.bool true)], args := [d1, d2] }
  | _ => none }
def patternInnerRow : OpenClaim := { program := "ytgkebfeggekkgaadoor", sum := "7f9822e507bcfab83e4a6f5622191cb32fd2aa41523936bbb4c363b910900f23", func := "mjolner/mjolnerlaw09.PatternInner", spec := "patternInner", inPlace := ["internal/abi.NoEscape", "internal/bytealg.MakeNoZero"], unfollowed := true, recurses := true, named := ["internal/strconv.uint64pow10", "math/bits.deBruijn32tab", "math/bits.deBruijn64tab"], apart := false, laid := [("math/bits.deBruijn32tab", laid_math_bits_deBruijn32tab), ("math/bits.deBruijn64tab", laid_math_bits_deBruijn64tab), ("internal/strconv.uint64pow10", laid_internal_strconv_uint64pow10)] }
def PatternInnerSaid : Prop := patternInnerRow.holds Tryd.pinned (OpenSpec.ofChange patternInnerSpec)

/-- ITS FALSE NEIGHBOUR: 'it returns false'. Refute it at one input. -/
def patternInnerWrong : ChangeSpec := { name := "patternInner", fn := fun _ => fun
  | [d1, d2] => { results := [.lit (.bool false)], args := [d1, d2] }
  | _ => none }
def PatternInnerWrongFalsely : Prop := patternInnerRow.holds Tryd.pinned (OpenSpec.ofChange patternInnerWrong)

/-- 'mjolnerlaw09.PatternChain': WHATEVER THE INPUT: true; the input reads as it did. -/
def patternChainSpec : ChangeSpec := { name := "patternChain", fn := fun _ => fun
  | [d1, d2, d3] => { results := [.lit (.bool true)], args := [d1, d2, d3] }
  | _ => none }
def patternChainRow : OpenClaim := { program := "ytgkebfeggekkgaadoor", sum := "7f9822e507bcfab83e4a6f5622191cb32fd2aa41523936bbb4c363b910900f23", func := "mjolner/mjolnerlaw09.PatternChain", spec := "patternChain", inPlace := ["internal/abi.NoEscape", "internal/bytealg.MakeNoZero"], unfollowed := true, recurses := true, named := ["internal/strconv.uint64pow10", "math/bits.deBruijn32tab", "math/bits.deBruijn64tab"], apart := false, laid := [("math/bits.deBruijn32tab", laid_math_bits_deBruijn32tab), ("math/bits.deBruijn64tab", laid_math_bits_deBruijn64tab), ("internal/strconv.uint64pow10", laid_internal_strconv_uint64pow10)] }
def PatternChainSaid : Prop := patternChainRow.holds Tryd.pinned (OpenSpec.ofChange patternChainSpec)

/-- ITS FALSE NEIGHBOUR: 'it returns false'. Refute it at one input. -/
def patternChainWrong : ChangeSpec := { name := "patternChain", fn := fun _ => fun
  | [d1, d2, d3] => { results := [.lit (.bool false)], args := [d1, d2, d3] }
  | _ => none }
def PatternChainWrongFalsely : Prop := patternChainRow.holds Tryd.pinned (OpenSpec.ofChange patternChainWrong)

/-- 'mjolnerlaw09.PatternFurther': WHATEVER THE INPUT: true; the input reads as it did. -/
def patternFurtherSpec : ChangeSpec := { name := "patternFurther", fn := fun _ => fun
  | [d1, d2, d3] => { results := [.lit (.bool true)], args := [d1, d2, d3] }
  | _ => none }
def patternFurtherRow : OpenClaim := { program := "ytgkebfeggekkgaadoor", sum := "7f9822e507bcfab83e4a6f5622191cb32fd2aa41523936bbb4c363b910900f23", func := "mjolner/mjolnerlaw09.PatternFurther", spec := "patternFurther", inPlace := ["internal/abi.NoEscape", "internal/bytealg.MakeNoZero"], unfollowed := true, recurses := true, named := ["internal/strconv.uint64pow10", "math/bits.deBruijn32tab", "math/bits.deBruijn64tab"], apart := false, laid := [("math/bits.deBruijn32tab", laid_math_bits_deBruijn32tab), ("math/bits.deBruijn64tab", laid_math_bits_deBruijn64tab), ("internal/strconv.uint64pow10", laid_internal_strconv_uint64pow10)] }
def PatternFurtherSaid : Prop := patternFurtherRow.holds Tryd.pinned (OpenSpec.ofChange patternFurtherSpec)

/-- ITS FALSE NEIGHBOUR: 'it returns false'. Refute it at one input. -/
def patternFurtherWrong : ChangeSpec := { name := "patternFurther", fn := fun _ => fun
  | [d1, d2, d3] => { results := [.lit (.bool false)], args := [d1, d2, d3] }
  | _ => none }
def PatternFurtherWrongFalsely : Prop := patternFurtherRow.holds Tryd.pinned (OpenSpec.ofChange patternFurtherWrong)

/-- 'mjolnerlaw09.PatternAssigns': WHATEVER THE INPUT: true; the input reads as it did. -/
def patternAssignsSpec : ChangeSpec := { name := "patternAssigns", fn := fun _ => fun
  | [d1, d2, d3] => { results := [.lit (.bool true)], args := [d1, d2, d3] }
  | _ => none }
def patternAssignsRow : OpenClaim := { program := "ytgkebfeggekkgaadoor", sum := "7f9822e507bcfab83e4a6f5622191cb32fd2aa41523936bbb4c363b910900f23", func := "mjolner/mjolnerlaw09.PatternAssigns", spec := "patternAssigns", inPlace := ["internal/abi.NoEscape", "internal/bytealg.MakeNoZero"], unfollowed := true, recurses := true, named := ["internal/strconv.uint64pow10", "math/bits.deBruijn32tab", "math/bits.deBruijn64tab"], apart := false, laid := [("math/bits.deBruijn32tab", laid_math_bits_deBruijn32tab), ("math/bits.deBruijn64tab", laid_math_bits_deBruijn64tab), ("internal/strconv.uint64pow10", laid_internal_strconv_uint64pow10)] }
def PatternAssignsSaid : Prop := patternAssignsRow.holds Tryd.pinned (OpenSpec.ofChange patternAssignsSpec)

/-- ITS FALSE NEIGHBOUR: 'it returns false'. Refute it at one input. -/
def patternAssignsWrong : ChangeSpec := { name := "patternAssigns", fn := fun _ => fun
  | [d1, d2, d3] => { results := [.lit (.bool false)], args := [d1, d2, d3] }
  | _ => none }
def PatternAssignsWrongFalsely : Prop := patternAssignsRow.holds Tryd.pinned (OpenSpec.ofChange patternAssignsWrong)

/-- 'mjolnerlaw09.PatternWalks': WHATEVER THE INPUT: true; the input reads as it did. -/
def patternWalksSpec : ChangeSpec := { name := "patternWalks", fn := fun _ => fun
  | [d1, d2, d3] => { results := [.lit (.bool true)], args := [d1, d2, d3] }
  | _ => none }
def patternWalksRow : OpenClaim := { program := "ytgkebfeggekkgaadoor", sum := "7f9822e507bcfab83e4a6f5622191cb32fd2aa41523936bbb4c363b910900f23", func := "mjolner/mjolnerlaw09.PatternWalks", spec := "patternWalks", inPlace := ["internal/abi.NoEscape", "internal/bytealg.MakeNoZero"], unfollowed := true, recurses := true, named := ["internal/strconv.uint64pow10", "math/bits.deBruijn32tab", "math/bits.deBruijn64tab"], apart := false, laid := [("math/bits.deBruijn32tab", laid_math_bits_deBruijn32tab), ("math/bits.deBruijn64tab", laid_math_bits_deBruijn64tab), ("internal/strconv.uint64pow10", laid_internal_strconv_uint64pow10)] }
def PatternWalksSaid : Prop := patternWalksRow.holds Tryd.pinned (OpenSpec.ofChange patternWalksSpec)

/-- ITS FALSE NEIGHBOUR: 'it returns false'. Refute it at one input. -/
def patternWalksWrong : ChangeSpec := { name := "patternWalks", fn := fun _ => fun
  | [d1, d2, d3] => { results := [.lit (.bool false)], args := [d1, d2, d3] }
  | _ => none }
def PatternWalksWrongFalsely : Prop := patternWalksRow.holds Tryd.pinned (OpenSpec.ofChange patternWalksWrong)

/-- 'mjolnerlaw09.PatternMerges': WHATEVER THE INPUT: true; the input reads as it did. -/
def patternMergesSpec : ChangeSpec := { name := "patternMerges", fn := fun _ => fun
  | [d1, d2, d3] => { results := [.lit (.bool true)], args := [d1, d2, d3] }
  | _ => none }
def patternMergesRow : OpenClaim := { program := "ytgkebfeggekkgaadoor", sum := "7f9822e507bcfab83e4a6f5622191cb32fd2aa41523936bbb4c363b910900f23", func := "mjolner/mjolnerlaw09.PatternMerges", spec := "patternMerges", inPlace := ["internal/abi.NoEscape", "internal/bytealg.MakeNoZero"], unfollowed := true, recurses := true, named := ["internal/strconv.uint64pow10", "math/bits.deBruijn32tab", "math/bits.deBruijn64tab"], apart := false, laid := [("math/bits.deBruijn32tab", laid_math_bits_deBruijn32tab), ("math/bits.deBruijn64tab", laid_math_bits_deBruijn64tab), ("internal/strconv.uint64pow10", laid_internal_strconv_uint64pow10)] }
def PatternMergesSaid : Prop := patternMergesRow.holds Tryd.pinned (OpenSpec.ofChange patternMergesSpec)

/-- ITS FALSE NEIGHBOUR: 'it returns false'. Refute it at one input. -/
def patternMergesWrong : ChangeSpec := { name := "patternMerges", fn := fun _ => fun
  | [d1, d2, d3] => { results := [.lit (.bool false)], args := [d1, d2, d3] }
  | _ => none }
def PatternMergesWrongFalsely : Prop := patternMergesRow.holds Tryd.pinned (OpenSpec.ofChange patternMergesWrong)

/-- 'mjolnerlaw09.PatternMeets': WHATEVER THE INPUT: true; the input reads as it did. -/
def patternMeetsSpec : ChangeSpec := { name := "patternMeets", fn := fun _ => fun
  | [d1, d2, d3] => { results := [.lit (.bool true)], args := [d1, d2, d3] }
  | _ => none }
def patternMeetsRow : OpenClaim := { program := "ytgkebfeggekkgaadoor", sum := "7f9822e507bcfab83e4a6f5622191cb32fd2aa41523936bbb4c363b910900f23", func := "mjolner/mjolnerlaw09.PatternMeets", spec := "patternMeets", inPlace := ["internal/abi.NoEscape", "internal/bytealg.MakeNoZero"], unfollowed := true, recurses := true, named := ["internal/strconv.uint64pow10", "math/bits.deBruijn32tab", "math/bits.deBruijn64tab"], apart := false, laid := [("math/bits.deBruijn32tab", laid_math_bits_deBruijn32tab), ("math/bits.deBruijn64tab", laid_math_bits_deBruijn64tab), ("internal/strconv.uint64pow10", laid_internal_strconv_uint64pow10)] }
def PatternMeetsSaid : Prop := patternMeetsRow.holds Tryd.pinned (OpenSpec.ofChange patternMeetsSpec)

/-- ITS FALSE NEIGHBOUR: 'it returns false'. Refute it at one input. -/
def patternMeetsWrong : ChangeSpec := { name := "patternMeets", fn := fun _ => fun
  | [d1, d2, d3] => { results := [.lit (.bool false)], args := [d1, d2, d3] }
  | _ => none }
def PatternMeetsWrongFalsely : Prop := patternMeetsRow.holds Tryd.pinned (OpenSpec.ofChange patternMeetsWrong)

/-- 'mjolnerlaw09.PatternExtends': WHATEVER THE INPUT: true; the input reads as it did. -/
def patternExtendsSpec : ChangeSpec := { name := "patternExtends", fn := fun _ => fun
  | [d1, d2, d3] => { results := [.lit (.bool true)], args := [d1, d2, d3] }
  | _ => none }
def patternExtendsRow : OpenClaim := { program := "ytgkebfeggekkgaadoor", sum := "7f9822e507bcfab83e4a6f5622191cb32fd2aa41523936bbb4c363b910900f23", func := "mjolner/mjolnerlaw09.PatternExtends", spec := "patternExtends", inPlace := ["internal/abi.NoEscape", "internal/bytealg.MakeNoZero"], unfollowed := true, recurses := true, named := ["internal/strconv.uint64pow10", "math/bits.deBruijn32tab", "math/bits.deBruijn64tab"], apart := false, laid := [("math/bits.deBruijn32tab", laid_math_bits_deBruijn32tab), ("math/bits.deBruijn64tab", laid_math_bits_deBruijn64tab), ("internal/strconv.uint64pow10", laid_internal_strconv_uint64pow10)] }
def PatternExtendsSaid : Prop := patternExtendsRow.holds Tryd.pinned (OpenSpec.ofChange patternExtendsSpec)

/-- ITS FALSE NEIGHBOUR: 'it returns false'. Refute it at one input. -/
def patternExtendsWrong : ChangeSpec := { name := "patternExtends", fn := fun _ => fun
  | [d1, d2, d3] => { results := [.lit (.bool false)], args := [d1, d2, d3] }
  | _ => none }
def PatternExtendsWrongFalsely : Prop := patternExtendsRow.holds Tryd.pinned (OpenSpec.ofChange patternExtendsWrong)

/-- 'mjolnerlaw09.PatternOrders': WHATEVER THE INPUT: true; the input reads as it did. -/
def patternOrdersSpec : ChangeSpec := { name := "patternOrders", fn := fun _ => fun
  | [d1, d2] => { results := [.lit (.bool true)], args := [d1, d2] }
  | _ => none }
def patternOrdersRow : OpenClaim := { program := "ytgkebfeggekkgaadoor", sum := "7f9822e507bcfab83e4a6f5622191cb32fd2aa41523936bbb4c363b910900f23", func := "mjolner/mjolnerlaw09.PatternOrders", spec := "patternOrders", inPlace := ["internal/abi.NoEscape", "internal/bytealg.MakeNoZero"], unfollowed := true, recurses := true, named := ["internal/strconv.uint64pow10", "math/bits.deBruijn32tab", "math/bits.deBruijn64tab"], apart := false, laid := [("math/bits.deBruijn32tab", laid_math_bits_deBruijn32tab), ("math/bits.deBruijn64tab", laid_math_bits_deBruijn64tab), ("internal/strconv.uint64pow10", laid_internal_strconv_uint64pow10)] }
def PatternOrdersSaid : Prop := patternOrdersRow.holds Tryd.pinned (OpenSpec.ofChange patternOrdersSpec)

/-- ITS FALSE NEIGHBOUR: 'it returns false'. Refute it at one input. -/
def patternOrdersWrong : ChangeSpec := { name := "patternOrders", fn := fun _ => fun
  | [d1, d2] => { results := [.lit (.bool false)], args := [d1, d2] }
  | _ => none }
def PatternOrdersWrongFalsely : Prop := patternOrdersRow.holds Tryd.pinned (OpenSpec.ofChange patternOrdersWrong)

/-- 'mjolnerlaw09.PatternNames': WHATEVER THE INPUT: true; the input reads as it did. -/
def patternNamesSpec : ChangeSpec := { name := "patternNames", fn := fun _ => fun
  | [d1, d2, d3, d4] => { results := [.lit (.bool true)], args := [d1, d2, d3, d4] }
  | _ => none }
def patternNamesRow : OpenClaim := { program := "ytgkebfeggekkgaadoor", sum := "7f9822e507bcfab83e4a6f5622191cb32fd2aa41523936bbb4c363b910900f23", func := "mjolner/mjolnerlaw09.PatternNames", spec := "patternNames", inPlace := ["internal/abi.NoEscape", "internal/bytealg.MakeNoZero"], unfollowed := true, recurses := true, named := ["internal/strconv.uint64pow10", "math/bits.deBruijn32tab", "math/bits.deBruijn64tab"], apart := false, laid := [("math/bits.deBruijn32tab", laid_math_bits_deBruijn32tab), ("math/bits.deBruijn64tab", laid_math_bits_deBruijn64tab), ("internal/strconv.uint64pow10", laid_internal_strconv_uint64pow10)] }
def PatternNamesSaid : Prop := patternNamesRow.holds Tryd.pinned (OpenSpec.ofChange patternNamesSpec)

/-- ITS FALSE NEIGHBOUR: 'it returns false'. Refute it at one input. -/
def patternNamesWrong : ChangeSpec := { name := "patternNames", fn := fun _ => fun
  | [d1, d2, d3, d4] => { results := [.lit (.bool false)], args := [d1, d2, d3, d4] }
  | _ => none }
def PatternNamesWrongFalsely : Prop := patternNamesRow.holds Tryd.pinned (OpenSpec.ofChange patternNamesWrong)

/-- 'mjolnerlaw09.PatternParents': WHATEVER THE INPUT: true; the input reads as it did. -/
def patternParentsSpec : ChangeSpec := { name := "patternParents", fn := fun _ => fun
  | [d1, d2, d3] => { results := [.lit (.bool true)], args := [d1, d2, d3] }
  | _ => none }
def patternParentsRow : OpenClaim := { program := "ytgkebfeggekkgaadoor", sum := "7f9822e507bcfab83e4a6f5622191cb32fd2aa41523936bbb4c363b910900f23", func := "mjolner/mjolnerlaw09.PatternParents", spec := "patternParents", inPlace := ["internal/abi.NoEscape", "internal/bytealg.MakeNoZero"], unfollowed := true, recurses := true, named := ["internal/strconv.uint64pow10", "math/bits.deBruijn32tab", "math/bits.deBruijn64tab"], apart := false, laid := [("math/bits.deBruijn32tab", laid_math_bits_deBruijn32tab), ("math/bits.deBruijn64tab", laid_math_bits_deBruijn64tab), ("internal/strconv.uint64pow10", laid_internal_strconv_uint64pow10)] }
def PatternParentsSaid : Prop := patternParentsRow.holds Tryd.pinned (OpenSpec.ofChange patternParentsSpec)

/-- ITS FALSE NEIGHBOUR: 'it returns false'. Refute it at one input. -/
def patternParentsWrong : ChangeSpec := { name := "patternParents", fn := fun _ => fun
  | [d1, d2, d3] => { results := [.lit (.bool false)], args := [d1, d2, d3] }
  | _ => none }
def PatternParentsWrongFalsely : Prop := patternParentsRow.holds Tryd.pinned (OpenSpec.ofChange patternParentsWrong)

/-- 'mjolnerlaw09.PatternFinds': WHATEVER THE INPUT: true; the input reads as it did. -/
def patternFindsSpec : ChangeSpec := { name := "patternFinds", fn := fun _ => fun
  | [d1, d2, d3, d4] => { results := [.lit (.bool true)], args := [d1, d2, d3, d4] }
  | _ => none }
def patternFindsRow : OpenClaim := { program := "ytgkebfeggekkgaadoor", sum := "7f9822e507bcfab83e4a6f5622191cb32fd2aa41523936bbb4c363b910900f23", func := "mjolner/mjolnerlaw09.PatternFinds", spec := "patternFinds", inPlace := ["internal/abi.NoEscape", "internal/bytealg.MakeNoZero"], unfollowed := true, recurses := true, named := ["internal/strconv.uint64pow10", "math/bits.deBruijn32tab", "math/bits.deBruijn64tab"], apart := false, laid := [("math/bits.deBruijn32tab", laid_math_bits_deBruijn32tab), ("math/bits.deBruijn64tab", laid_math_bits_deBruijn64tab), ("internal/strconv.uint64pow10", laid_internal_strconv_uint64pow10)] }
def PatternFindsSaid : Prop := patternFindsRow.holds Tryd.pinned (OpenSpec.ofChange patternFindsSpec)

/-- ITS FALSE NEIGHBOUR: 'it returns false'. Refute it at one input. -/
def patternFindsWrong : ChangeSpec := { name := "patternFinds", fn := fun _ => fun
  | [d1, d2, d3, d4] => { results := [.lit (.bool false)], args := [d1, d2, d3, d4] }
  | _ => none }
def PatternFindsWrongFalsely : Prop := patternFindsRow.holds Tryd.pinned (OpenSpec.ofChange patternFindsWrong)

/-- 'mjolnerlaw09.PatternTexts': WHATEVER THE INPUT: true; the input reads as it did. -/
def patternTextsSpec : ChangeSpec := { name := "patternTexts", fn := fun _ => fun
  | [d1, d2] => { results := [.lit (.bool true)], args := [d1, d2] }
  | _ => none }
def patternTextsRow : OpenClaim := { program := "ytgkebfeggekkgaadoor", sum := "7f9822e507bcfab83e4a6f5622191cb32fd2aa41523936bbb4c363b910900f23", func := "mjolner/mjolnerlaw09.PatternTexts", spec := "patternTexts", inPlace := ["internal/abi.NoEscape", "internal/bytealg.MakeNoZero", "internal/bytealg.CountString", "internal/bytealg.IndexByteString", "internal/bytealg.IndexString"], unfollowed := true, recurses := true, named := ["internal/strconv.uint64pow10", "math/bits.deBruijn32tab", "math/bits.deBruijn64tab", "unicode/utf8.first", "unicode/utf8.acceptRanges", "internal/bytealg.MaxLen"], apart := false, laid := [("math/bits.deBruijn32tab", laid_math_bits_deBruijn32tab), ("math/bits.deBruijn64tab", laid_math_bits_deBruijn64tab), ("internal/strconv.uint64pow10", laid_internal_strconv_uint64pow10), ("unicode/utf8.acceptRanges", laid_unicode_utf8_acceptRanges), ("unicode/utf8.first", laid_unicode_utf8_first)] }
def PatternTextsSaid : Prop := patternTextsRow.holds Tryd.pinned (OpenSpec.ofChange patternTextsSpec)

/-- ITS FALSE NEIGHBOUR: 'it returns false'. Refute it at one input. -/
def patternTextsWrong : ChangeSpec := { name := "patternTexts", fn := fun _ => fun
  | [d1, d2] => { results := [.lit (.bool false)], args := [d1, d2] }
  | _ => none }
def PatternTextsWrongFalsely : Prop := patternTextsRow.holds Tryd.pinned (OpenSpec.ofChange patternTextsWrong)

/-- 'mjolnerlaw09.PatternBack': WHATEVER THE INPUT: true; the input reads as it did. -/
def patternBackSpec : ChangeSpec := { name := "patternBack", fn := fun _ => fun
  | [d1, d2] => { results := [.lit (.bool true)], args := [d1, d2] }
  | _ => none }
def patternBackRow : OpenClaim := { program := "ytgkebfeggekkgaadoor", sum := "7f9822e507bcfab83e4a6f5622191cb32fd2aa41523936bbb4c363b910900f23", func := "mjolner/mjolnerlaw09.PatternBack", spec := "patternBack", inPlace := ["internal/abi.NoEscape", "internal/bytealg.MakeNoZero", "internal/bytealg.CountString", "internal/bytealg.IndexByteString", "internal/bytealg.IndexString"], unfollowed := true, recurses := true, named := ["internal/strconv.uint64pow10", "math/bits.deBruijn32tab", "math/bits.deBruijn64tab", "unicode/utf8.first", "unicode/utf8.acceptRanges", "internal/bytealg.MaxLen"], apart := false, laid := [("math/bits.deBruijn32tab", laid_math_bits_deBruijn32tab), ("math/bits.deBruijn64tab", laid_math_bits_deBruijn64tab), ("internal/strconv.uint64pow10", laid_internal_strconv_uint64pow10), ("unicode/utf8.acceptRanges", laid_unicode_utf8_acceptRanges), ("unicode/utf8.first", laid_unicode_utf8_first)] }
def PatternBackSaid : Prop := patternBackRow.holds Tryd.pinned (OpenSpec.ofChange patternBackSpec)

/-- ITS FALSE NEIGHBOUR: 'it returns false'. Refute it at one input. -/
def patternBackWrong : ChangeSpec := { name := "patternBack", fn := fun _ => fun
  | [d1, d2] => { results := [.lit (.bool false)], args := [d1, d2] }
  | _ => none }
def PatternBackWrongFalsely : Prop := patternBackRow.holds Tryd.pinned (OpenSpec.ofChange patternBackWrong)

/- THE SECOND FORM. 'bulk': how many values and letters a reading holds, each counted each time it is reached (what is shared counts as often as it is met; a slice's spare places count too). A statement '..UptoSaid' is the law's where the arguments, and the package variables that the reading takes, are together of bulk at most 1048576: NARROWER than '..Said'. Prove '..Said' where nothing that the law and all that it calls make is longer than what came in: it says more and counts as full. Else prove '..UptoSaid'. A law counts once. -/
mutual
def uptoBulk {H : Type} : DataW H → Nat
  | .lit (.string bytes) => bytes.length + 1
  | .lit _ => 1
  | .nil => 1
  | .ptr d => uptoBulk d + 1
  | .slice elems spare => uptoBulkAll elems + uptoBulkAll spare + 1
  | .agg parts => uptoBulkAll parts + 1
  | .iface _ d => uptoBulk d + 1
  | .map entries => uptoBulkEntries entries + 1
  | .held _ => 1
def uptoBulkAll {H : Type} : List (DataW H) → Nat
  | [] => 0
  | d :: r => uptoBulk d + uptoBulkAll r
def uptoBulkEntries {H : Type} : List (Lit × DataW H) → Nat
  | [] => 0
  | x :: r => uptoBulkEntry x + uptoBulkEntries r
def uptoBulkEntry {H : Type} : Lit × DataW H → Nat
  | (.string bytes, d) => bytes.length + uptoBulk d + 1
  | (_, d) => uptoBulk d + 1
 end
def uptoSmall : (H : Type) → List (DataW H) → Bool := fun _ ds => decide (uptoBulkAll ds ≤ 1048576)
def OpenSpec.upto (s : _root_.Go.ChangeSpec) : _root_.Go.OpenSpec := { _root_.Go.OpenSpec.ofChange s with cond := some uptoSmall }

/-- 'mjolnerlaw09.PatternBinds', WHERE WHAT IT READS IS OF BULK AT MOST 1048576: true; the input reads as it did. -/
def patternBindsUptoRow : OpenClaim := { program := "ytgkebfeggekkgaadoor", sum := "7f9822e507bcfab83e4a6f5622191cb32fd2aa41523936bbb4c363b910900f23", func := "mjolner/mjolnerlaw09.PatternBinds", spec := "patternBinds", inPlace := ["internal/abi.NoEscape", "internal/bytealg.MakeNoZero"], unfollowed := true, recurses := true, named := ["internal/strconv.uint64pow10", "math/bits.deBruijn32tab", "math/bits.deBruijn64tab"], apart := false, laid := [("math/bits.deBruijn32tab", laid_math_bits_deBruijn32tab), ("math/bits.deBruijn64tab", laid_math_bits_deBruijn64tab), ("internal/strconv.uint64pow10", laid_internal_strconv_uint64pow10)], narrowed := true }
def PatternBindsUptoSaid : Prop := patternBindsUptoRow.holds Tryd.pinned (OpenSpec.upto patternBindsSpec)

/-- 'mjolnerlaw09.PatternBound', WHERE WHAT IT READS IS OF BULK AT MOST 1048576: true; the input reads as it did. -/
def patternBoundUptoRow : OpenClaim := { program := "ytgkebfeggekkgaadoor", sum := "7f9822e507bcfab83e4a6f5622191cb32fd2aa41523936bbb4c363b910900f23", func := "mjolner/mjolnerlaw09.PatternBound", spec := "patternBound", inPlace := ["internal/abi.NoEscape", "internal/bytealg.MakeNoZero"], unfollowed := true, recurses := true, named := ["internal/strconv.uint64pow10", "math/bits.deBruijn32tab", "math/bits.deBruijn64tab"], apart := false, laid := [("math/bits.deBruijn32tab", laid_math_bits_deBruijn32tab), ("math/bits.deBruijn64tab", laid_math_bits_deBruijn64tab), ("internal/strconv.uint64pow10", laid_internal_strconv_uint64pow10)], narrowed := true }
def PatternBoundUptoSaid : Prop := patternBoundUptoRow.holds Tryd.pinned (OpenSpec.upto patternBoundSpec)

/-- 'mjolnerlaw09.PatternInner', WHERE WHAT IT READS IS OF BULK AT MOST 1048576: true; the input reads as it did. -/
def patternInnerUptoRow : OpenClaim := { program := "ytgkebfeggekkgaadoor", sum := "7f9822e507bcfab83e4a6f5622191cb32fd2aa41523936bbb4c363b910900f23", func := "mjolner/mjolnerlaw09.PatternInner", spec := "patternInner", inPlace := ["internal/abi.NoEscape", "internal/bytealg.MakeNoZero"], unfollowed := true, recurses := true, named := ["internal/strconv.uint64pow10", "math/bits.deBruijn32tab", "math/bits.deBruijn64tab"], apart := false, laid := [("math/bits.deBruijn32tab", laid_math_bits_deBruijn32tab), ("math/bits.deBruijn64tab", laid_math_bits_deBruijn64tab), ("internal/strconv.uint64pow10", laid_internal_strconv_uint64pow10)], narrowed := true }
def PatternInnerUptoSaid : Prop := patternInnerUptoRow.holds Tryd.pinned (OpenSpec.upto patternInnerSpec)

/-- 'mjolnerlaw09.PatternChain', WHERE WHAT IT READS IS OF BULK AT MOST 1048576: true; the input reads as it did. -/
def patternChainUptoRow : OpenClaim := { program := "ytgkebfeggekkgaadoor", sum := "7f9822e507bcfab83e4a6f5622191cb32fd2aa41523936bbb4c363b910900f23", func := "mjolner/mjolnerlaw09.PatternChain", spec := "patternChain", inPlace := ["internal/abi.NoEscape", "internal/bytealg.MakeNoZero"], unfollowed := true, recurses := true, named := ["internal/strconv.uint64pow10", "math/bits.deBruijn32tab", "math/bits.deBruijn64tab"], apart := false, laid := [("math/bits.deBruijn32tab", laid_math_bits_deBruijn32tab), ("math/bits.deBruijn64tab", laid_math_bits_deBruijn64tab), ("internal/strconv.uint64pow10", laid_internal_strconv_uint64pow10)], narrowed := true }
def PatternChainUptoSaid : Prop := patternChainUptoRow.holds Tryd.pinned (OpenSpec.upto patternChainSpec)

/-- 'mjolnerlaw09.PatternFurther', WHERE WHAT IT READS IS OF BULK AT MOST 1048576: true; the input reads as it did. -/
def patternFurtherUptoRow : OpenClaim := { program := "ytgkebfeggekkgaadoor", sum := "7f9822e507bcfab83e4a6f5622191cb32fd2aa41523936bbb4c363b910900f23", func := "mjolner/mjolnerlaw09.PatternFurther", spec := "patternFurther", inPlace := ["internal/abi.NoEscape", "internal/bytealg.MakeNoZero"], unfollowed := true, recurses := true, named := ["internal/strconv.uint64pow10", "math/bits.deBruijn32tab", "math/bits.deBruijn64tab"], apart := false, laid := [("math/bits.deBruijn32tab", laid_math_bits_deBruijn32tab), ("math/bits.deBruijn64tab", laid_math_bits_deBruijn64tab), ("internal/strconv.uint64pow10", laid_internal_strconv_uint64pow10)], narrowed := true }
def PatternFurtherUptoSaid : Prop := patternFurtherUptoRow.holds Tryd.pinned (OpenSpec.upto patternFurtherSpec)

/-- 'mjolnerlaw09.PatternAssigns', WHERE WHAT IT READS IS OF BULK AT MOST 1048576: true; the input reads as it did. -/
def patternAssignsUptoRow : OpenClaim := { program := "ytgkebfeggekkgaadoor", sum := "7f9822e507bcfab83e4a6f5622191cb32fd2aa41523936bbb4c363b910900f23", func := "mjolner/mjolnerlaw09.PatternAssigns", spec := "patternAssigns", inPlace := ["internal/abi.NoEscape", "internal/bytealg.MakeNoZero"], unfollowed := true, recurses := true, named := ["internal/strconv.uint64pow10", "math/bits.deBruijn32tab", "math/bits.deBruijn64tab"], apart := false, laid := [("math/bits.deBruijn32tab", laid_math_bits_deBruijn32tab), ("math/bits.deBruijn64tab", laid_math_bits_deBruijn64tab), ("internal/strconv.uint64pow10", laid_internal_strconv_uint64pow10)], narrowed := true }
def PatternAssignsUptoSaid : Prop := patternAssignsUptoRow.holds Tryd.pinned (OpenSpec.upto patternAssignsSpec)

/-- 'mjolnerlaw09.PatternWalks', WHERE WHAT IT READS IS OF BULK AT MOST 1048576: true; the input reads as it did. -/
def patternWalksUptoRow : OpenClaim := { program := "ytgkebfeggekkgaadoor", sum := "7f9822e507bcfab83e4a6f5622191cb32fd2aa41523936bbb4c363b910900f23", func := "mjolner/mjolnerlaw09.PatternWalks", spec := "patternWalks", inPlace := ["internal/abi.NoEscape", "internal/bytealg.MakeNoZero"], unfollowed := true, recurses := true, named := ["internal/strconv.uint64pow10", "math/bits.deBruijn32tab", "math/bits.deBruijn64tab"], apart := false, laid := [("math/bits.deBruijn32tab", laid_math_bits_deBruijn32tab), ("math/bits.deBruijn64tab", laid_math_bits_deBruijn64tab), ("internal/strconv.uint64pow10", laid_internal_strconv_uint64pow10)], narrowed := true }
def PatternWalksUptoSaid : Prop := patternWalksUptoRow.holds Tryd.pinned (OpenSpec.upto patternWalksSpec)

/-- 'mjolnerlaw09.PatternMerges', WHERE WHAT IT READS IS OF BULK AT MOST 1048576: true; the input reads as it did. -/
def patternMergesUptoRow : OpenClaim := { program := "ytgkebfeggekkgaadoor", sum := "7f9822e507bcfab83e4a6f5622191cb32fd2aa41523936bbb4c363b910900f23", func := "mjolner/mjolnerlaw09.PatternMerges", spec := "patternMerges", inPlace := ["internal/abi.NoEscape", "internal/bytealg.MakeNoZero"], unfollowed := true, recurses := true, named := ["internal/strconv.uint64pow10", "math/bits.deBruijn32tab", "math/bits.deBruijn64tab"], apart := false, laid := [("math/bits.deBruijn32tab", laid_math_bits_deBruijn32tab), ("math/bits.deBruijn64tab", laid_math_bits_deBruijn64tab), ("internal/strconv.uint64pow10", laid_internal_strconv_uint64pow10)], narrowed := true }
def PatternMergesUptoSaid : Prop := patternMergesUptoRow.holds Tryd.pinned (OpenSpec.upto patternMergesSpec)

/-- 'mjolnerlaw09.PatternMeets', WHERE WHAT IT READS IS OF BULK AT MOST 1048576: true; the input reads as it did. -/
def patternMeetsUptoRow : OpenClaim := { program := "ytgkebfeggekkgaadoor", sum := "7f9822e507bcfab83e4a6f5622191cb32fd2aa41523936bbb4c363b910900f23", func := "mjolner/mjolnerlaw09.PatternMeets", spec := "patternMeets", inPlace := ["internal/abi.NoEscape", "internal/bytealg.MakeNoZero"], unfollowed := true, recurses := true, named := ["internal/strconv.uint64pow10", "math/bits.deBruijn32tab", "math/bits.deBruijn64tab"], apart := false, laid := [("math/bits.deBruijn32tab", laid_math_bits_deBruijn32tab), ("math/bits.deBruijn64tab", laid_math_bits_deBruijn64tab), ("internal/strconv.uint64pow10", laid_internal_strconv_uint64pow10)], narrowed := true }
def PatternMeetsUptoSaid : Prop := patternMeetsUptoRow.holds Tryd.pinned (OpenSpec.upto patternMeetsSpec)

/-- 'mjolnerlaw09.PatternExtends', WHERE WHAT IT READS IS OF BULK AT MOST 1048576: true; the input reads as it did. -/
def patternExtendsUptoRow : OpenClaim := { program := "ytgkebfeggekkgaadoor", sum := "7f9822e507bcfab83e4a6f5622191cb32fd2aa41523936bbb4c363b910900f23", func := "mjolner/mjolnerlaw09.PatternExtends", spec := "patternExtends", inPlace := ["internal/abi.NoEscape", "internal/bytealg.MakeNoZero"], unfollowed := true, recurses := true, named := ["internal/strconv.uint64pow10", "math/bits.deBruijn32tab", "math/bits.deBruijn64tab"], apart := false, laid := [("math/bits.deBruijn32tab", laid_math_bits_deBruijn32tab), ("math/bits.deBruijn64tab", laid_math_bits_deBruijn64tab), ("internal/strconv.uint64pow10", laid_internal_strconv_uint64pow10)], narrowed := true }
def PatternExtendsUptoSaid : Prop := patternExtendsUptoRow.holds Tryd.pinned (OpenSpec.upto patternExtendsSpec)

/-- 'mjolnerlaw09.PatternOrders', WHERE WHAT IT READS IS OF BULK AT MOST 1048576: true; the input reads as it did. -/
def patternOrdersUptoRow : OpenClaim := { program := "ytgkebfeggekkgaadoor", sum := "7f9822e507bcfab83e4a6f5622191cb32fd2aa41523936bbb4c363b910900f23", func := "mjolner/mjolnerlaw09.PatternOrders", spec := "patternOrders", inPlace := ["internal/abi.NoEscape", "internal/bytealg.MakeNoZero"], unfollowed := true, recurses := true, named := ["internal/strconv.uint64pow10", "math/bits.deBruijn32tab", "math/bits.deBruijn64tab"], apart := false, laid := [("math/bits.deBruijn32tab", laid_math_bits_deBruijn32tab), ("math/bits.deBruijn64tab", laid_math_bits_deBruijn64tab), ("internal/strconv.uint64pow10", laid_internal_strconv_uint64pow10)], narrowed := true }
def PatternOrdersUptoSaid : Prop := patternOrdersUptoRow.holds Tryd.pinned (OpenSpec.upto patternOrdersSpec)

/-- 'mjolnerlaw09.PatternNames', WHERE WHAT IT READS IS OF BULK AT MOST 1048576: true; the input reads as it did. -/
def patternNamesUptoRow : OpenClaim := { program := "ytgkebfeggekkgaadoor", sum := "7f9822e507bcfab83e4a6f5622191cb32fd2aa41523936bbb4c363b910900f23", func := "mjolner/mjolnerlaw09.PatternNames", spec := "patternNames", inPlace := ["internal/abi.NoEscape", "internal/bytealg.MakeNoZero"], unfollowed := true, recurses := true, named := ["internal/strconv.uint64pow10", "math/bits.deBruijn32tab", "math/bits.deBruijn64tab"], apart := false, laid := [("math/bits.deBruijn32tab", laid_math_bits_deBruijn32tab), ("math/bits.deBruijn64tab", laid_math_bits_deBruijn64tab), ("internal/strconv.uint64pow10", laid_internal_strconv_uint64pow10)], narrowed := true }
def PatternNamesUptoSaid : Prop := patternNamesUptoRow.holds Tryd.pinned (OpenSpec.upto patternNamesSpec)

/-- 'mjolnerlaw09.PatternParents', WHERE WHAT IT READS IS OF BULK AT MOST 1048576: true; the input reads as it did. -/
def patternParentsUptoRow : OpenClaim := { program := "ytgkebfeggekkgaadoor", sum := "7f9822e507bcfab83e4a6f5622191cb32fd2aa41523936bbb4c363b910900f23", func := "mjolner/mjolnerlaw09.PatternParents", spec := "patternParents", inPlace := ["internal/abi.NoEscape", "internal/bytealg.MakeNoZero"], unfollowed := true, recurses := true, named := ["internal/strconv.uint64pow10", "math/bits.deBruijn32tab", "math/bits.deBruijn64tab"], apart := false, laid := [("math/bits.deBruijn32tab", laid_math_bits_deBruijn32tab), ("math/bits.deBruijn64tab", laid_math_bits_deBruijn64tab), ("internal/strconv.uint64pow10", laid_internal_strconv_uint64pow10)], narrowed := true }
def PatternParentsUptoSaid : Prop := patternParentsUptoRow.holds Tryd.pinned (OpenSpec.upto patternParentsSpec)

/-- 'mjolnerlaw09.PatternFinds', WHERE WHAT IT READS IS OF BULK AT MOST 1048576: true; the input reads as it did. -/
def patternFindsUptoRow : OpenClaim := { program := "ytgkebfeggekkgaadoor", sum := "7f9822e507bcfab83e4a6f5622191cb32fd2aa41523936bbb4c363b910900f23", func := "mjolner/mjolnerlaw09.PatternFinds", spec := "patternFinds", inPlace := ["internal/abi.NoEscape", "internal/bytealg.MakeNoZero"], unfollowed := true, recurses := true, named := ["internal/strconv.uint64pow10", "math/bits.deBruijn32tab", "math/bits.deBruijn64tab"], apart := false, laid := [("math/bits.deBruijn32tab", laid_math_bits_deBruijn32tab), ("math/bits.deBruijn64tab", laid_math_bits_deBruijn64tab), ("internal/strconv.uint64pow10", laid_internal_strconv_uint64pow10)], narrowed := true }
def PatternFindsUptoSaid : Prop := patternFindsUptoRow.holds Tryd.pinned (OpenSpec.upto patternFindsSpec)

/-- 'mjolnerlaw09.PatternTexts', WHERE WHAT IT READS IS OF BULK AT MOST 1048576: true; the input reads as it did. -/
def patternTextsUptoRow : OpenClaim := { program := "ytgkebfeggekkgaadoor", sum := "7f9822e507bcfab83e4a6f5622191cb32fd2aa41523936bbb4c363b910900f23", func := "mjolner/mjolnerlaw09.PatternTexts", spec := "patternTexts", inPlace := ["internal/abi.NoEscape", "internal/bytealg.MakeNoZero", "internal/bytealg.CountString", "internal/bytealg.IndexByteString", "internal/bytealg.IndexString"], unfollowed := true, recurses := true, named := ["internal/strconv.uint64pow10", "math/bits.deBruijn32tab", "math/bits.deBruijn64tab", "unicode/utf8.first", "unicode/utf8.acceptRanges", "internal/bytealg.MaxLen"], apart := false, laid := [("math/bits.deBruijn32tab", laid_math_bits_deBruijn32tab), ("math/bits.deBruijn64tab", laid_math_bits_deBruijn64tab), ("internal/strconv.uint64pow10", laid_internal_strconv_uint64pow10), ("unicode/utf8.acceptRanges", laid_unicode_utf8_acceptRanges), ("unicode/utf8.first", laid_unicode_utf8_first)], narrowed := true }
def PatternTextsUptoSaid : Prop := patternTextsUptoRow.holds Tryd.pinned (OpenSpec.upto patternTextsSpec)

/-- 'mjolnerlaw09.PatternBack', WHERE WHAT IT READS IS OF BULK AT MOST 1048576: true; the input reads as it did. -/
def patternBackUptoRow : OpenClaim := { program := "ytgkebfeggekkgaadoor", sum := "7f9822e507bcfab83e4a6f5622191cb32fd2aa41523936bbb4c363b910900f23", func := "mjolner/mjolnerlaw09.PatternBack", spec := "patternBack", inPlace := ["internal/abi.NoEscape", "internal/bytealg.MakeNoZero", "internal/bytealg.CountString", "internal/bytealg.IndexByteString", "internal/bytealg.IndexString"], unfollowed := true, recurses := true, named := ["internal/strconv.uint64pow10", "math/bits.deBruijn32tab", "math/bits.deBruijn64tab", "unicode/utf8.first", "unicode/utf8.acceptRanges", "internal/bytealg.MaxLen"], apart := false, laid := [("math/bits.deBruijn32tab", laid_math_bits_deBruijn32tab), ("math/bits.deBruijn64tab", laid_math_bits_deBruijn64tab), ("internal/strconv.uint64pow10", laid_internal_strconv_uint64pow10), ("unicode/utf8.acceptRanges", laid_unicode_utf8_acceptRanges), ("unicode/utf8.first", laid_unicode_utf8_first)], narrowed := true }
def PatternBackUptoSaid : Prop := patternBackUptoRow.holds Tryd.pinned (OpenSpec.upto patternBackSpec)

end Rows
end Go.Proofs.YtgkebfeggekkgaaDoor
