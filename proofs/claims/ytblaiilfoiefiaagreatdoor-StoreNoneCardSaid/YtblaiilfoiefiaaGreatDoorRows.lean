/-
  NARROWER THAN 'FOR EVERY INPUT', by the rows' own cells (each row's printed sentence says how): IrSets: loops, laid · EnvPlays: loops, laid · IrBlocks: loops, laid · StorePlays: loops, laid · StoreNone: loops, laid.
  DERIVED. THE GIVEN ROWS OF THIS SEAT. 5 by the template 'for every input the law returns true; each argument reads behind the call as it read before'; 0 by the template 'total and deterministic' (their statements: YtblaiilfoiefiaaGreatDoorTotals.lean).
  GIVEN WITH THE SEED: the statements are not yours to turn. If you find one false, say at which input.
  Laid BY PROGRAM, IN A SANDBOX (cutbox-rows.mjs): the forced cells as the released guide's own fill.sh prints them over the translation 81abd8faade57e2e… (all of the seat's roots in one cut). By AI agents, Wed Nov 11 2026. No macro, syntax, notation, axiom, sorry.
-/
import Derived.Test.YtblaiilfoiefiaaGreatDoorChecked
import GoSem.Claim
import GoSem.ClaimJoined
import GoSem.ClaimMapViews
import Derived.JoinedTies
import Derived.KernelRfl
namespace Go.Proofs.YtblaiilfoiefiaaGreatDoor
/- THE CELL 'sum', in the pinned program and in every row, IS THE sha256 OF THE DUMP (.gsa) THAT YtblaiilfoiefiaaGreatDoorProg.lean LOADS. Nothing in Lean hashes anything: it is a label: what it is worth is what the hold of that sum in a sandbox is worth. -/
noncomputable def Tryz.pinned : Pinned := { name := "ytblaiilfoiefiaagreatdoor", sum := "81abd8faade57e2e30f61ba68ef7ee647ef6436cdf06f51684650e87ea908f86", checked := Tryz.checked }
namespace Rows
def none {H : Type} : Left H := { results := [], args := [] }

/- WHAT THE LISTED PACKAGE-LEVEL VARIABLES READ AS WHEN THE CALL BEGINS. Each datum BY PROGRAM (the guide's laid-datum.mjs) off the statement by which the dump's own 'gosem.cut.vars' lays the variable. In a bare row this is a premise. The card (YtblaiilfoiefiaaGreatDoorCards.lean) ties it to the program's text. -/
def laid_sieveholes_ast_keywords {H : Type} : DataW H := .agg [.lit (.string [97, 114, 114, 97, 121]), .lit (.string [99, 97, 108, 108]), .lit (.string [101, 108, 115, 101]), .lit (.string [105, 102]), .lit (.string [105, 110]), .lit (.string [109, 97, 105, 110]), .lit (.string [111, 117, 116, 112, 117, 116]), .lit (.string [112, 114, 111, 99]), .lit (.string [112, 117, 98, 108, 105, 99]), .lit (.string [115, 101, 99, 114, 101, 116]), .lit (.string [115, 107, 105, 112]), .lit (.string [118, 97, 114]), .lit (.string [119, 104, 105, 108, 101])]
def laid_sieveholes_token_signs {H : Type} : DataW H := .agg [.lit (.string [124, 124]), .lit (.string [38, 38]), .lit (.string [61, 61]), .lit (.string [33, 61]), .lit (.string [60, 61]), .lit (.string [62, 61]), .lit (.string [60, 60]), .lit (.string [62, 62]), .lit (.string [60]), .lit (.string [62]), .lit (.string [61]), .lit (.string [43]), .lit (.string [45]), .lit (.string [42]), .lit (.string [47]), .lit (.string [37]), .lit (.string [38]), .lit (.string [124]), .lit (.string [94]), .lit (.string [33]), .lit (.string [126]), .lit (.string [40]), .lit (.string [41]), .lit (.string [123]), .lit (.string [125]), .lit (.string [91]), .lit (.string [93]), .lit (.string [44]), .lit (.string [59])]
def laid_math_bits_deBruijn32tab {H : Type} : DataW H := .agg [.lit (.int .u8 0), .lit (.int .u8 1), .lit (.int .u8 28), .lit (.int .u8 2), .lit (.int .u8 29), .lit (.int .u8 14), .lit (.int .u8 24), .lit (.int .u8 3), .lit (.int .u8 30), .lit (.int .u8 22), .lit (.int .u8 20), .lit (.int .u8 15), .lit (.int .u8 25), .lit (.int .u8 17), .lit (.int .u8 4), .lit (.int .u8 8), .lit (.int .u8 31), .lit (.int .u8 27), .lit (.int .u8 13), .lit (.int .u8 23), .lit (.int .u8 21), .lit (.int .u8 19), .lit (.int .u8 16), .lit (.int .u8 7), .lit (.int .u8 26), .lit (.int .u8 12), .lit (.int .u8 18), .lit (.int .u8 6), .lit (.int .u8 11), .lit (.int .u8 5), .lit (.int .u8 10), .lit (.int .u8 9)]
def laid_math_bits_deBruijn64tab {H : Type} : DataW H := .agg [.lit (.int .u8 0), .lit (.int .u8 1), .lit (.int .u8 56), .lit (.int .u8 2), .lit (.int .u8 57), .lit (.int .u8 49), .lit (.int .u8 28), .lit (.int .u8 3), .lit (.int .u8 61), .lit (.int .u8 58), .lit (.int .u8 42), .lit (.int .u8 50), .lit (.int .u8 38), .lit (.int .u8 29), .lit (.int .u8 17), .lit (.int .u8 4), .lit (.int .u8 62), .lit (.int .u8 47), .lit (.int .u8 59), .lit (.int .u8 36), .lit (.int .u8 45), .lit (.int .u8 43), .lit (.int .u8 51), .lit (.int .u8 22), .lit (.int .u8 53), .lit (.int .u8 39), .lit (.int .u8 33), .lit (.int .u8 30), .lit (.int .u8 24), .lit (.int .u8 18), .lit (.int .u8 12), .lit (.int .u8 5), .lit (.int .u8 63), .lit (.int .u8 55), .lit (.int .u8 48), .lit (.int .u8 27), .lit (.int .u8 60), .lit (.int .u8 41), .lit (.int .u8 37), .lit (.int .u8 16), .lit (.int .u8 46), .lit (.int .u8 35), .lit (.int .u8 44), .lit (.int .u8 21), .lit (.int .u8 52), .lit (.int .u8 32), .lit (.int .u8 23), .lit (.int .u8 11), .lit (.int .u8 54), .lit (.int .u8 26), .lit (.int .u8 40), .lit (.int .u8 15), .lit (.int .u8 34), .lit (.int .u8 20), .lit (.int .u8 31), .lit (.int .u8 10), .lit (.int .u8 25), .lit (.int .u8 14), .lit (.int .u8 19), .lit (.int .u8 9), .lit (.int .u8 13), .lit (.int .u8 8), .lit (.int .u8 7), .lit (.int .u8 6)]
def laid_internal_strconv_uint64pow10 {H : Type} : DataW H := .agg [.lit (.int .u64 1), .lit (.int .u64 10), .lit (.int .u64 100), .lit (.int .u64 1000), .lit (.int .u64 10000), .lit (.int .u64 100000), .lit (.int .u64 1000000), .lit (.int .u64 10000000), .lit (.int .u64 100000000), .lit (.int .u64 1000000000), .lit (.int .u64 10000000000), .lit (.int .u64 100000000000), .lit (.int .u64 1000000000000), .lit (.int .u64 10000000000000), .lit (.int .u64 100000000000000), .lit (.int .u64 1000000000000000), .lit (.int .u64 10000000000000000), .lit (.int .u64 100000000000000000), .lit (.int .u64 1000000000000000000), .lit (.int .u64 10000000000000000000)]

/-- 'sieveholeslaw13.IrSets': WHATEVER THE INPUT: true; the input reads as it did. -/
def irSetsSpec : ChangeSpec := { name := "irSets", fn := fun _ => fun
  | [d1, d2] => { results := [.lit (.bool true)], args := [d1, d2] }
  | _ => none }
def irSetsRow : OpenClaim := { program := "ytblaiilfoiefiaagreatdoor", sum := "81abd8faade57e2e30f61ba68ef7ee647ef6436cdf06f51684650e87ea908f86", func := "sieveholes/sieveholeslaw13.IrSets", spec := "irSets", unfollowed := true, recurses := true, named := ["sieveholes/ast.keywords"], loops := true, plainKeys := false, apart := false, laid := [("sieveholes/ast.keywords", laid_sieveholes_ast_keywords)] }
def IrSetsSaid : Prop := irSetsRow.holds Tryz.pinned (OpenSpec.ofChange irSetsSpec)

/-- ITS FALSE NEIGHBOUR: 'it returns false'. Refute it at one input. -/
def irSetsWrong : ChangeSpec := { name := "irSets", fn := fun _ => fun
  | [d1, d2] => { results := [.lit (.bool false)], args := [d1, d2] }
  | _ => none }
def IrSetsWrongFalsely : Prop := irSetsRow.holds Tryz.pinned (OpenSpec.ofChange irSetsWrong)

/-- 'sieveholeslaw15.EnvPlays': WHATEVER THE INPUT: true; the input reads as it did. -/
def envPlaysSpec : ChangeSpec := { name := "envPlays", fn := fun _ => fun
  | [d1, d2, d3] => { results := [.lit (.bool true)], args := [d1, d2, d3] }
  | _ => none }
def envPlaysRow : OpenClaim := { program := "ytblaiilfoiefiaagreatdoor", sum := "81abd8faade57e2e30f61ba68ef7ee647ef6436cdf06f51684650e87ea908f86", func := "sieveholes/sieveholeslaw15.EnvPlays", spec := "envPlays", inPlace := ["internal/bytealg.CountString", "internal/bytealg.IndexByteString", "internal/bytealg.IndexString"], unfollowed := true, recurses := true, named := ["sieveholes/token.signs", "internal/bytealg.MaxLen", "sieveholes/ast.keywords"], loops := true, plainKeys := false, apart := false, laid := [("sieveholes/ast.keywords", laid_sieveholes_ast_keywords), ("sieveholes/token.signs", laid_sieveholes_token_signs)] }
def EnvPlaysSaid : Prop := envPlaysRow.holds Tryz.pinned (OpenSpec.ofChange envPlaysSpec)

/-- ITS FALSE NEIGHBOUR: 'it returns false'. Refute it at one input. -/
def envPlaysWrong : ChangeSpec := { name := "envPlays", fn := fun _ => fun
  | [d1, d2, d3] => { results := [.lit (.bool false)], args := [d1, d2, d3] }
  | _ => none }
def EnvPlaysWrongFalsely : Prop := envPlaysRow.holds Tryz.pinned (OpenSpec.ofChange envPlaysWrong)

/-- 'sieveholeslaw13.IrBlocks': WHATEVER THE INPUT: true; the input reads as it did. -/
def irBlocksSpec : ChangeSpec := { name := "irBlocks", fn := fun _ => fun
  | [d] => { results := [.lit (.bool true)], args := [d] }
  | _ => none }
def irBlocksRow : OpenClaim := { program := "ytblaiilfoiefiaagreatdoor", sum := "81abd8faade57e2e30f61ba68ef7ee647ef6436cdf06f51684650e87ea908f86", func := "sieveholes/sieveholeslaw13.IrBlocks", spec := "irBlocks", unfollowed := true, recurses := true, named := ["sieveholes/ast.keywords"], loops := true, plainKeys := false, apart := false, laid := [("sieveholes/ast.keywords", laid_sieveholes_ast_keywords)] }
def IrBlocksSaid : Prop := irBlocksRow.holds Tryz.pinned (OpenSpec.ofChange irBlocksSpec)

/-- ITS FALSE NEIGHBOUR: 'it returns false'. Refute it at one input. -/
def irBlocksWrong : ChangeSpec := { name := "irBlocks", fn := fun _ => fun
  | [d] => { results := [.lit (.bool false)], args := [d] }
  | _ => none }
def IrBlocksWrongFalsely : Prop := irBlocksRow.holds Tryz.pinned (OpenSpec.ofChange irBlocksWrong)

/-- 'sieveholeslaw25.StorePlays': WHATEVER THE INPUT: true; the input reads as it did. -/
def storePlaysSpec : ChangeSpec := { name := "storePlays", fn := fun _ => fun
  | [d1, d2] => { results := [.lit (.bool true)], args := [d1, d2] }
  | _ => none }
def storePlaysRow : OpenClaim := { program := "ytblaiilfoiefiaagreatdoor", sum := "81abd8faade57e2e30f61ba68ef7ee647ef6436cdf06f51684650e87ea908f86", func := "sieveholes/sieveholeslaw25.StorePlays", spec := "storePlays", unfollowed := true, recurses := true, named := ["sieveholes/ast.keywords", "internal/strconv.uint64pow10", "math/bits.deBruijn32tab", "math/bits.deBruijn64tab"], loops := true, plainKeys := false, apart := false, laid := [("math/bits.deBruijn32tab", laid_math_bits_deBruijn32tab), ("math/bits.deBruijn64tab", laid_math_bits_deBruijn64tab), ("internal/strconv.uint64pow10", laid_internal_strconv_uint64pow10), ("sieveholes/ast.keywords", laid_sieveholes_ast_keywords)] }
def StorePlaysSaid : Prop := storePlaysRow.holds Tryz.pinned (OpenSpec.ofChange storePlaysSpec)

/-- ITS FALSE NEIGHBOUR: 'it returns false'. Refute it at one input. -/
def storePlaysWrong : ChangeSpec := { name := "storePlays", fn := fun _ => fun
  | [d1, d2] => { results := [.lit (.bool false)], args := [d1, d2] }
  | _ => none }
def StorePlaysWrongFalsely : Prop := storePlaysRow.holds Tryz.pinned (OpenSpec.ofChange storePlaysWrong)

/-- 'sieveholeslaw25.StoreNone': WHATEVER THE INPUT: true; the input reads as it did. -/
def storeNoneSpec : ChangeSpec := { name := "storeNone", fn := fun _ => fun
  | [d1, d2] => { results := [.lit (.bool true)], args := [d1, d2] }
  | _ => none }
def storeNoneRow : OpenClaim := { program := "ytblaiilfoiefiaagreatdoor", sum := "81abd8faade57e2e30f61ba68ef7ee647ef6436cdf06f51684650e87ea908f86", func := "sieveholes/sieveholeslaw25.StoreNone", spec := "storeNone", unfollowed := true, recurses := true, named := ["sieveholes/ast.keywords", "internal/strconv.uint64pow10", "math/bits.deBruijn32tab", "math/bits.deBruijn64tab"], loops := true, plainKeys := false, apart := false, laid := [("math/bits.deBruijn32tab", laid_math_bits_deBruijn32tab), ("math/bits.deBruijn64tab", laid_math_bits_deBruijn64tab), ("internal/strconv.uint64pow10", laid_internal_strconv_uint64pow10), ("sieveholes/ast.keywords", laid_sieveholes_ast_keywords)] }
def StoreNoneSaid : Prop := storeNoneRow.holds Tryz.pinned (OpenSpec.ofChange storeNoneSpec)

/-- ITS FALSE NEIGHBOUR: 'it returns false'. Refute it at one input. -/
def storeNoneWrong : ChangeSpec := { name := "storeNone", fn := fun _ => fun
  | [d1, d2] => { results := [.lit (.bool false)], args := [d1, d2] }
  | _ => none }
def StoreNoneWrongFalsely : Prop := storeNoneRow.holds Tryz.pinned (OpenSpec.ofChange storeNoneWrong)

/- THE SECOND FORM. 'bulk': how many values and letters a reading holds, each counted each time it is reached (what is shared counts as often as it is met; a slice's spare places count too). A statement '..UptoSaid' is the law's where the arguments, and the package variables that the reading takes, are together of bulk at most 1048576: NARROWER than '..Said'. Prove '..Said' where nothing that the law and all that it calls make is longer than what came in: it says more and counts as full. Else prove '..UptoSaid'. A law counts once. -/
mutual
def uptoBulk {H : Type} : DataW H → Nat
  | .lit (.string bytes) => bytes.length + 1
  | .lit _ => 1
  | .nil => 1
  | .ptr d => uptoBulk d + 1
  | .slice elems spare => uptoBulkAll elems + uptoBulkAll spare + 1
  | .agg parts => uptoBulkAll parts + 1
  | .iface _ d => uptoBulk d + 1
  | .map entries => uptoBulkEntries entries + 1
  | .held _ => 1
def uptoBulkAll {H : Type} : List (DataW H) → Nat
  | [] => 0
  | d :: r => uptoBulk d + uptoBulkAll r
def uptoBulkEntries {H : Type} : List (Lit × DataW H) → Nat
  | [] => 0
  | x :: r => uptoBulkEntry x + uptoBulkEntries r
def uptoBulkEntry {H : Type} : Lit × DataW H → Nat
  | (.string bytes, d) => bytes.length + uptoBulk d + 1
  | (_, d) => uptoBulk d + 1
 end
def uptoSmall : (H : Type) → List (DataW H) → Bool := fun _ ds => decide (uptoBulkAll ds ≤ 1048576)
def OpenSpec.upto (s : _root_.Go.ChangeSpec) : _root_.Go.OpenSpec := { _root_.Go.OpenSpec.ofChange s with cond := some uptoSmall }

/-- 'sieveholeslaw13.IrSets', WHERE WHAT IT READS IS OF BULK AT MOST 1048576: true; the input reads as it did. -/
def irSetsUptoRow : OpenClaim := { program := "ytblaiilfoiefiaagreatdoor", sum := "81abd8faade57e2e30f61ba68ef7ee647ef6436cdf06f51684650e87ea908f86", func := "sieveholes/sieveholeslaw13.IrSets", spec := "irSets", unfollowed := true, recurses := true, named := ["sieveholes/ast.keywords"], loops := true, plainKeys := false, apart := false, laid := [("sieveholes/ast.keywords", laid_sieveholes_ast_keywords)], narrowed := true }
def IrSetsUptoSaid : Prop := irSetsUptoRow.holds Tryz.pinned (OpenSpec.upto irSetsSpec)

/-- 'sieveholeslaw15.EnvPlays', WHERE WHAT IT READS IS OF BULK AT MOST 1048576: true; the input reads as it did. -/
def envPlaysUptoRow : OpenClaim := { program := "ytblaiilfoiefiaagreatdoor", sum := "81abd8faade57e2e30f61ba68ef7ee647ef6436cdf06f51684650e87ea908f86", func := "sieveholes/sieveholeslaw15.EnvPlays", spec := "envPlays", inPlace := ["internal/bytealg.CountString", "internal/bytealg.IndexByteString", "internal/bytealg.IndexString"], unfollowed := true, recurses := true, named := ["sieveholes/token.signs", "internal/bytealg.MaxLen", "sieveholes/ast.keywords"], loops := true, plainKeys := false, apart := false, laid := [("sieveholes/ast.keywords", laid_sieveholes_ast_keywords), ("sieveholes/token.signs", laid_sieveholes_token_signs)], narrowed := true }
def EnvPlaysUptoSaid : Prop := envPlaysUptoRow.holds Tryz.pinned (OpenSpec.upto envPlaysSpec)

/-- 'sieveholeslaw13.IrBlocks', WHERE WHAT IT READS IS OF BULK AT MOST 1048576: true; the input reads as it did. -/
def irBlocksUptoRow : OpenClaim := { program := "ytblaiilfoiefiaagreatdoor", sum := "81abd8faade57e2e30f61ba68ef7ee647ef6436cdf06f51684650e87ea908f86", func := "sieveholes/sieveholeslaw13.IrBlocks", spec := "irBlocks", unfollowed := true, recurses := true, named := ["sieveholes/ast.keywords"], loops := true, plainKeys := false, apart := false, laid := [("sieveholes/ast.keywords", laid_sieveholes_ast_keywords)], narrowed := true }
def IrBlocksUptoSaid : Prop := irBlocksUptoRow.holds Tryz.pinned (OpenSpec.upto irBlocksSpec)

/-- 'sieveholeslaw25.StorePlays', WHERE WHAT IT READS IS OF BULK AT MOST 1048576: true; the input reads as it did. -/
def storePlaysUptoRow : OpenClaim := { program := "ytblaiilfoiefiaagreatdoor", sum := "81abd8faade57e2e30f61ba68ef7ee647ef6436cdf06f51684650e87ea908f86", func := "sieveholes/sieveholeslaw25.StorePlays", spec := "storePlays", unfollowed := true, recurses := true, named := ["sieveholes/ast.keywords", "internal/strconv.uint64pow10", "math/bits.deBruijn32tab", "math/bits.deBruijn64tab"], loops := true, plainKeys := false, apart := false, laid := [("math/bits.deBruijn32tab", laid_math_bits_deBruijn32tab), ("math/bits.deBruijn64tab", laid_math_bits_deBruijn64tab), ("internal/strconv.uint64pow10", laid_internal_strconv_uint64pow10), ("sieveholes/ast.keywords", laid_sieveholes_ast_keywords)], narrowed := true }
def StorePlaysUptoSaid : Prop := storePlaysUptoRow.holds Tryz.pinned (OpenSpec.upto storePlaysSpec)

/-- 'sieveholeslaw25.StoreNone', WHERE WHAT IT READS IS OF BULK AT MOST 1048576: true; the input reads as it did. -/
def storeNoneUptoRow : OpenClaim := { program := "ytblaiilfoiefiaagreatdoor", sum := "81abd8faade57e2e30f61ba68ef7ee647ef6436cdf06f51684650e87ea908f86", func := "sieveholes/sieveholeslaw25.StoreNone", spec := "storeNone", unfollowed := true, recurses := true, named := ["sieveholes/ast.keywords", "internal/strconv.uint64pow10", "math/bits.deBruijn32tab", "math/bits.deBruijn64tab"], loops := true, plainKeys := false, apart := false, laid := [("math/bits.deBruijn32tab", laid_math_bits_deBruijn32tab), ("math/bits.deBruijn64tab", laid_math_bits_deBruijn64tab), ("internal/strconv.uint64pow10", laid_internal_strconv_uint64pow10), ("sieveholes/ast.keywords", laid_sieveholes_ast_keywords)], narrowed := true }
def StoreNoneUptoSaid : Prop := storeNoneUptoRow.holds Tryz.pinned (OpenSpec.upto storeNoneSpec)

end Rows
end Go.Proofs.YtblaiilfoiefiaaGreatDoor
