/-
  NARROWER THAN 'FOR EVERY INPUT', by the rows' own cells (each row's printed sentence says how): NeedChecks: laid · NeedGets: laid · NeedBack: laid · NeedOnce: laid · NeedTexts: laid.
  DERIVED. THE GIVEN ROWS OF THIS SEAT. 5 by the template 'for every input the law returns true; each argument reads behind the call as it read before'; 0 by the template 'total and deterministic' (their statements: YtdgnolnlcflmmaaDoorTotals.lean).
  GIVEN WITH THE SEED: the statements are not yours to turn. If you find one false, say at which input.
  Laid BY PROGRAM, IN A SANDBOX (cutbox-rows.mjs): the forced cells as the released guide's own fill.sh prints them over the translation cb6f774d9fcebf55… (all of the seat's roots in one cut). By AI agents, Wed Nov 11 2026. No macro, syntax, notation, axiom, sorry.
-/
import Derived.Test.YtdgnolnlcflmmaaDoorChecked
import GoSem.Claim
import GoSem.ClaimJoined
import GoSem.ClaimMapViews
import Derived.JoinedTies
import Derived.KernelRfl
namespace Go.Proofs.YtdgnolnlcflmmaaDoor
/- THE CELL 'sum', in the pinned program and in every row, IS THE sha256 OF THE DUMP (.gsa) THAT YtdgnolnlcflmmaaDoorProg.lean LOADS. Nothing in Lean hashes anything: it is a label: what it is worth is what the hold of that sum in a sandbox is worth. -/
noncomputable def Tryd.pinned : Pinned := { name := "ytdgnolnlcflmmaadoor", sum := "cb6f774d9fcebf5553ca64f9f83f79feeb2d1fb34ee78b572e0d4f7ff9aa4ccb", checked := Tryd.checked }
namespace Rows
def none {H : Type} : Left H := { results := [], args := [] }

/- WHAT THE LISTED PACKAGE-LEVEL VARIABLES READ AS WHEN THE CALL BEGINS. Each datum BY PROGRAM (the guide's laid-datum.mjs) off the statement by which the dump's own 'gosem.cut.vars' lays the variable. In a bare row this is a premise. The card (YtdgnolnlcflmmaaDoorCards.lean) ties it to the program's text. -/
def laid_math_bits_deBruijn32tab {H : Type} : DataW H := .agg [.lit (.int .u8 0), .lit (.int .u8 1), .lit (.int .u8 28), .lit (.int .u8 2), .lit (.int .u8 29), .lit (.int .u8 14), .lit (.int .u8 24), .lit (.int .u8 3), .lit (.int .u8 30), .lit (.int .u8 22), .lit (.int .u8 20), .lit (.int .u8 15), .lit (.int .u8 25), .lit (.int .u8 17), .lit (.int .u8 4), .lit (.int .u8 8), .lit (.int .u8 31), .lit (.int .u8 27), .lit (.int .u8 13), .lit (.int .u8 23), .lit (.int .u8 21), .lit (.int .u8 19), .lit (.int .u8 16), .lit (.int .u8 7), .lit (.int .u8 26), .lit (.int .u8 12), .lit (.int .u8 18), .lit (.int .u8 6), .lit (.int .u8 11), .lit (.int .u8 5), .lit (.int .u8 10), .lit (.int .u8 9)]
def laid_math_bits_deBruijn64tab {H : Type} : DataW H := .agg [.lit (.int .u8 0), .lit (.int .u8 1), .lit (.int .u8 56), .lit (.int .u8 2), .lit (.int .u8 57), .lit (.int .u8 49), .lit (.int .u8 28), .lit (.int .u8 3), .lit (.int .u8 61), .lit (.int .u8 58), .lit (.int .u8 42), .lit (.int .u8 50), .lit (.int .u8 38), .lit (.int .u8 29), .lit (.int .u8 17), .lit (.int .u8 4), .lit (.int .u8 62), .lit (.int .u8 47), .lit (.int .u8 59), .lit (.int .u8 36), .lit (.int .u8 45), .lit (.int .u8 43), .lit (.int .u8 51), .lit (.int .u8 22), .lit (.int .u8 53), .lit (.int .u8 39), .lit (.int .u8 33), .lit (.int .u8 30), .lit (.int .u8 24), .lit (.int .u8 18), .lit (.int .u8 12), .lit (.int .u8 5), .lit (.int .u8 63), .lit (.int .u8 55), .lit (.int .u8 48), .lit (.int .u8 27), .lit (.int .u8 60), .lit (.int .u8 41), .lit (.int .u8 37), .lit (.int .u8 16), .lit (.int .u8 46), .lit (.int .u8 35), .lit (.int .u8 44), .lit (.int .u8 21), .lit (.int .u8 52), .lit (.int .u8 32), .lit (.int .u8 23), .lit (.int .u8 11), .lit (.int .u8 54), .lit (.int .u8 26), .lit (.int .u8 40), .lit (.int .u8 15), .lit (.int .u8 34), .lit (.int .u8 20), .lit (.int .u8 31), .lit (.int .u8 10), .lit (.int .u8 25), .lit (.int .u8 14), .lit (.int .u8 19), .lit (.int .u8 9), .lit (.int .u8 13), .lit (.int .u8 8), .lit (.int .u8 7), .lit (.int .u8 6)]
def laid_internal_strconv_uint64pow10 {H : Type} : DataW H := .agg [.lit (.int .u64 1), .lit (.int .u64 10), .lit (.int .u64 100), .lit (.int .u64 1000), .lit (.int .u64 10000), .lit (.int .u64 100000), .lit (.int .u64 1000000), .lit (.int .u64 10000000), .lit (.int .u64 100000000), .lit (.int .u64 1000000000), .lit (.int .u64 10000000000), .lit (.int .u64 100000000000), .lit (.int .u64 1000000000000), .lit (.int .u64 10000000000000), .lit (.int .u64 100000000000000), .lit (.int .u64 1000000000000000), .lit (.int .u64 10000000000000000), .lit (.int .u64 100000000000000000), .lit (.int .u64 1000000000000000000), .lit (.int .u64 10000000000000000000)]

/-- 'logjamlaw09.NeedChecks': WHATEVER THE INPUT: true; the input reads as it did. -/
def needChecksSpec : ChangeSpec := { name := "needChecks", fn := fun _ => fun
  | [d1, d2] => { results := [.lit (.bool true)], args := [d1, d2] }
  | _ => none }
def needChecksRow : OpenClaim := { program := "ytdgnolnlcflmmaadoor", sum := "cb6f774d9fcebf5553ca64f9f83f79feeb2d1fb34ee78b572e0d4f7ff9aa4ccb", func := "logjam/logjamlaw09.NeedChecks", spec := "needChecks", inPlace := ["internal/abi.NoEscape"], named := ["internal/strconv.uint64pow10", "math/bits.deBruijn32tab", "math/bits.deBruijn64tab"], apart := false, laid := [("math/bits.deBruijn32tab", laid_math_bits_deBruijn32tab), ("math/bits.deBruijn64tab", laid_math_bits_deBruijn64tab), ("internal/strconv.uint64pow10", laid_internal_strconv_uint64pow10)] }
def NeedChecksSaid : Prop := needChecksRow.holds Tryd.pinned (OpenSpec.ofChange needChecksSpec)

/-- ITS FALSE NEIGHBOUR: 'it returns false'. Refute it at one input. -/
def needChecksWrong : ChangeSpec := { name := "needChecks", fn := fun _ => fun
  | [d1, d2] => { results := [.lit (.bool false)], args := [d1, d2] }
  | _ => none }
def NeedChecksWrongFalsely : Prop := needChecksRow.holds Tryd.pinned (OpenSpec.ofChange needChecksWrong)

/-- 'logjamlaw09.NeedGets': WHATEVER THE INPUT: true; the input reads as it did. -/
def needGetsSpec : ChangeSpec := { name := "needGets", fn := fun _ => fun
  | [d1, d2] => { results := [.lit (.bool true)], args := [d1, d2] }
  | _ => none }
def needGetsRow : OpenClaim := { program := "ytdgnolnlcflmmaadoor", sum := "cb6f774d9fcebf5553ca64f9f83f79feeb2d1fb34ee78b572e0d4f7ff9aa4ccb", func := "logjam/logjamlaw09.NeedGets", spec := "needGets", inPlace := ["internal/abi.NoEscape"], named := ["internal/strconv.uint64pow10", "math/bits.deBruijn32tab", "math/bits.deBruijn64tab"], apart := false, laid := [("math/bits.deBruijn32tab", laid_math_bits_deBruijn32tab), ("math/bits.deBruijn64tab", laid_math_bits_deBruijn64tab), ("internal/strconv.uint64pow10", laid_internal_strconv_uint64pow10)] }
def NeedGetsSaid : Prop := needGetsRow.holds Tryd.pinned (OpenSpec.ofChange needGetsSpec)

/-- ITS FALSE NEIGHBOUR: 'it returns false'. Refute it at one input. -/
def needGetsWrong : ChangeSpec := { name := "needGets", fn := fun _ => fun
  | [d1, d2] => { results := [.lit (.bool false)], args := [d1, d2] }
  | _ => none }
def NeedGetsWrongFalsely : Prop := needGetsRow.holds Tryd.pinned (OpenSpec.ofChange needGetsWrong)

/-- 'logjamlaw09.NeedBack': WHATEVER THE INPUT: true; the input reads as it did. -/
def needBackSpec : ChangeSpec := { name := "needBack", fn := fun _ => fun
  | [d1, d2, d3] => { results := [.lit (.bool true)], args := [d1, d2, d3] }
  | _ => none }
def needBackRow : OpenClaim := { program := "ytdgnolnlcflmmaadoor", sum := "cb6f774d9fcebf5553ca64f9f83f79feeb2d1fb34ee78b572e0d4f7ff9aa4ccb", func := "logjam/logjamlaw09.NeedBack", spec := "needBack", inPlace := ["internal/abi.NoEscape"], named := ["internal/strconv.uint64pow10", "math/bits.deBruijn32tab", "math/bits.deBruijn64tab"], apart := false, laid := [("math/bits.deBruijn32tab", laid_math_bits_deBruijn32tab), ("math/bits.deBruijn64tab", laid_math_bits_deBruijn64tab), ("internal/strconv.uint64pow10", laid_internal_strconv_uint64pow10)] }
def NeedBackSaid : Prop := needBackRow.holds Tryd.pinned (OpenSpec.ofChange needBackSpec)

/-- ITS FALSE NEIGHBOUR: 'it returns false'. Refute it at one input. -/
def needBackWrong : ChangeSpec := { name := "needBack", fn := fun _ => fun
  | [d1, d2, d3] => { results := [.lit (.bool false)], args := [d1, d2, d3] }
  | _ => none }
def NeedBackWrongFalsely : Prop := needBackRow.holds Tryd.pinned (OpenSpec.ofChange needBackWrong)

/-- 'logjamlaw09.NeedOnce': WHATEVER THE INPUT: true; the input reads as it did. -/
def needOnceSpec : ChangeSpec := { name := "needOnce", fn := fun _ => fun
  | [d1, d2] => { results := [.lit (.bool true)], args := [d1, d2] }
  | _ => none }
def needOnceRow : OpenClaim := { program := "ytdgnolnlcflmmaadoor", sum := "cb6f774d9fcebf5553ca64f9f83f79feeb2d1fb34ee78b572e0d4f7ff9aa4ccb", func := "logjam/logjamlaw09.NeedOnce", spec := "needOnce", inPlace := ["internal/abi.NoEscape"], named := ["internal/strconv.uint64pow10", "math/bits.deBruijn32tab", "math/bits.deBruijn64tab"], apart := false, laid := [("math/bits.deBruijn32tab", laid_math_bits_deBruijn32tab), ("math/bits.deBruijn64tab", laid_math_bits_deBruijn64tab), ("internal/strconv.uint64pow10", laid_internal_strconv_uint64pow10)] }
def NeedOnceSaid : Prop := needOnceRow.holds Tryd.pinned (OpenSpec.ofChange needOnceSpec)

/-- ITS FALSE NEIGHBOUR: 'it returns false'. Refute it at one input. -/
def needOnceWrong : ChangeSpec := { name := "needOnce", fn := fun _ => fun
  | [d1, d2] => { results := [.lit (.bool false)], args := [d1, d2] }
  | _ => none }
def NeedOnceWrongFalsely : Prop := needOnceRow.holds Tryd.pinned (OpenSpec.ofChange needOnceWrong)

/-- 'logjamlaw09.NeedTexts': WHATEVER THE INPUT: true; the input reads as it did. -/
def needTextsSpec : ChangeSpec := { name := "needTexts", fn := fun _ => fun
  | [d1, d2] => { results := [.lit (.bool true)], args := [d1, d2] }
  | _ => none }
def needTextsRow : OpenClaim := { program := "ytdgnolnlcflmmaadoor", sum := "cb6f774d9fcebf5553ca64f9f83f79feeb2d1fb34ee78b572e0d4f7ff9aa4ccb", func := "logjam/logjamlaw09.NeedTexts", spec := "needTexts", inPlace := ["internal/abi.NoEscape"], recurses := true, named := ["internal/strconv.uint64pow10", "math/bits.deBruijn32tab", "math/bits.deBruijn64tab"], apart := false, laid := [("math/bits.deBruijn32tab", laid_math_bits_deBruijn32tab), ("math/bits.deBruijn64tab", laid_math_bits_deBruijn64tab), ("internal/strconv.uint64pow10", laid_internal_strconv_uint64pow10)] }
def NeedTextsSaid : Prop := needTextsRow.holds Tryd.pinned (OpenSpec.ofChange needTextsSpec)

/-- ITS FALSE NEIGHBOUR: 'it returns false'. Refute it at one input. -/
def needTextsWrong : ChangeSpec := { name := "needTexts", fn := fun _ => fun
  | [d1, d2] => { results := [.lit (.bool false)], args := [d1, d2] }
  | _ => none }
def NeedTextsWrongFalsely : Prop := needTextsRow.holds Tryd.pinned (OpenSpec.ofChange needTextsWrong)

/- THE SECOND FORM. 'bulk': how many values and letters a reading holds, each counted each time it is reached (what is shared counts as often as it is met; a slice's spare places count too). A statement '..UptoSaid' is the law's where the arguments, and the package variables that the reading takes, are together of bulk at most 1048576: NARROWER than '..Said'. Prove '..Said' where nothing that the law and all that it calls make is longer than what came in: it says more and counts as full. Else prove '..UptoSaid'. A law counts once. -/
mutual
def uptoBulk {H : Type} : DataW H → Nat
  | .lit (.string bytes) => bytes.length + 1
  | .lit _ => 1
  | .nil => 1
  | .ptr d => uptoBulk d + 1
  | .slice elems spare => uptoBulkAll elems + uptoBulkAll spare + 1
  | .agg parts => uptoBulkAll parts + 1
  | .iface _ d => uptoBulk d + 1
  | .map entries => uptoBulkEntries entries + 1
  | .held _ => 1
def uptoBulkAll {H : Type} : List (DataW H) → Nat
  | [] => 0
  | d :: r => uptoBulk d + uptoBulkAll r
def uptoBulkEntries {H : Type} : List (Lit × DataW H) → Nat
  | [] => 0
  | x :: r => uptoBulkEntry x + uptoBulkEntries r
def uptoBulkEntry {H : Type} : Lit × DataW H → Nat
  | (.string bytes, d) => bytes.length + uptoBulk d + 1
  | (_, d) => uptoBulk d + 1
 end
def uptoSmall : (H : Type) → List (DataW H) → Bool := fun _ ds => decide (uptoBulkAll ds ≤ 1048576)
def OpenSpec.upto (s : _root_.Go.ChangeSpec) : _root_.Go.OpenSpec := { _root_.Go.OpenSpec.ofChange s with cond := some uptoSmall }

/-- 'logjamlaw09.NeedChecks', WHERE WHAT IT READS IS OF BULK AT MOST 1048576: true; the input reads as it did. -/
def needChecksUptoRow : OpenClaim := { program := "ytdgnolnlcflmmaadoor", sum := "cb6f774d9fcebf5553ca64f9f83f79feeb2d1fb34ee78b572e0d4f7ff9aa4ccb", func := "logjam/logjamlaw09.NeedChecks", spec := "needChecks", inPlace := ["internal/abi.NoEscape"], named := ["internal/strconv.uint64pow10", "math/bits.deBruijn32tab", "math/bits.deBruijn64tab"], apart := false, laid := [("math/bits.deBruijn32tab", laid_math_bits_deBruijn32tab), ("math/bits.deBruijn64tab", laid_math_bits_deBruijn64tab), ("internal/strconv.uint64pow10", laid_internal_strconv_uint64pow10)], narrowed := true }
def NeedChecksUptoSaid : Prop := needChecksUptoRow.holds Tryd.pinned (OpenSpec.upto needChecksSpec)

/-- 'logjamlaw09.NeedGets', WHERE WHAT IT READS IS OF BULK AT MOST 1048576: true; the input reads as it did. -/
def needGetsUptoRow : OpenClaim := { program := "ytdgnolnlcflmmaadoor", sum := "cb6f774d9fcebf5553ca64f9f83f79feeb2d1fb34ee78b572e0d4f7ff9aa4ccb", func := "logjam/logjamlaw09.NeedGets", spec := "needGets", inPlace := ["internal/abi.NoEscape"], named := ["internal/strconv.uint64pow10", "math/bits.deBruijn32tab", "math/bits.deBruijn64tab"], apart := false, laid := [("math/bits.deBruijn32tab", laid_math_bits_deBruijn32tab), ("math/bits.deBruijn64tab", laid_math_bits_deBruijn64tab), ("internal/strconv.uint64pow10", laid_internal_strconv_uint64pow10)], narrowed := true }
def NeedGetsUptoSaid : Prop := needGetsUptoRow.holds Tryd.pinned (OpenSpec.upto needGetsSpec)

/-- 'logjamlaw09.NeedBack', WHERE WHAT IT READS IS OF BULK AT MOST 1048576: true; the input reads as it did. -/
def needBackUptoRow : OpenClaim := { program := "ytdgnolnlcflmmaadoor", sum := "cb6f774d9fcebf5553ca64f9f83f79feeb2d1fb34ee78b572e0d4f7ff9aa4ccb", func := "logjam/logjamlaw09.NeedBack", spec := "needBack", inPlace := ["internal/abi.NoEscape"], named := ["internal/strconv.uint64pow10", "math/bits.deBruijn32tab", "math/bits.deBruijn64tab"], apart := false, laid := [("math/bits.deBruijn32tab", laid_math_bits_deBruijn32tab), ("math/bits.deBruijn64tab", laid_math_bits_deBruijn64tab), ("internal/strconv.uint64pow10", laid_internal_strconv_uint64pow10)], narrowed := true }
def NeedBackUptoSaid : Prop := needBackUptoRow.holds Tryd.pinned (OpenSpec.upto needBackSpec)

/-- 'logjamlaw09.NeedOnce', WHERE WHAT IT READS IS OF BULK AT MOST 1048576: true; the input reads as it did. -/
def needOnceUptoRow : OpenClaim := { program := "ytdgnolnlcflmmaadoor", sum := "cb6f774d9fcebf5553ca64f9f83f79feeb2d1fb34ee78b572e0d4f7ff9aa4ccb", func := "logjam/logjamlaw09.NeedOnce", spec := "needOnce", inPlace := ["internal/abi.NoEscape"], named := ["internal/strconv.uint64pow10", "math/bits.deBruijn32tab", "math/bits.deBruijn64tab"], apart := false, laid := [("math/bits.deBruijn32tab", laid_math_bits_deBruijn32tab), ("math/bits.deBruijn64tab", laid_math_bits_deBruijn64tab), ("internal/strconv.uint64pow10", laid_internal_strconv_uint64pow10)], narrowed := true }
def NeedOnceUptoSaid : Prop := needOnceUptoRow.holds Tryd.pinned (OpenSpec.upto needOnceSpec)

/-- 'logjamlaw09.NeedTexts', WHERE WHAT IT READS IS OF BULK AT MOST 1048576: true; the input reads as it did. -/
def needTextsUptoRow : OpenClaim := { program := "ytdgnolnlcflmmaadoor", sum := "cb6f774d9fcebf5553ca64f9f83f79feeb2d1fb34ee78b572e0d4f7ff9aa4ccb", func := "logjam/logjamlaw09.NeedTexts", spec := "needTexts", inPlace := ["internal/abi.NoEscape"], recurses := true, named := ["internal/strconv.uint64pow10", "math/bits.deBruijn32tab", "math/bits.deBruijn64tab"], apart := false, laid := [("math/bits.deBruijn32tab", laid_math_bits_deBruijn32tab), ("math/bits.deBruijn64tab", laid_math_bits_deBruijn64tab), ("internal/strconv.uint64pow10", laid_internal_strconv_uint64pow10)], narrowed := true }
def NeedTextsUptoSaid : Prop := needTextsUptoRow.holds Tryd.pinned (OpenSpec.upto needTextsSpec)

end Rows
end Go.Proofs.YtdgnolnlcflmmaaDoor
