/- Plain functions that compute what the Go functions of this seat compute. -/
import Derived.Test.YtmofmaipkmedlaaDoorXEq
import Derived.Test.YtmofmaipkmedlaaDoorXSub
namespace LJ
open Go
set_option linter.unusedVariables false
def enc_str (x : ByteArray) : List DV := [.str x]
structure T_api_Ins where
  Op : Int
  A : Int
  B : Int
  deriving Inhabited, DecidableEq
def enc_i64 (x : Int) : List DV := [.int .i64 x]
structure T_unicode_Range16 where
  Lo : Int
  Hi : Int
  Stride : Int
  deriving Inhabited, DecidableEq
def enc_unicode_Range16 (x : T_unicode_Range16) : List DV := [.int .u16 x.Lo, .int .u16 x.Hi, .int .u16 x.Stride]
structure T_unicode_Range32 where
  Lo : Int
  Hi : Int
  Stride : Int
  deriving Inhabited, DecidableEq
def enc_unicode_Range32 (x : T_unicode_Range32) : List DV := [.int .u32 x.Lo, .int .u32 x.Hi, .int .u32 x.Stride]
structure T_unicode_RangeTable where
  R16 : List T_unicode_Range16
  R32 : List T_unicode_Range32
  LatinOffset : Int
  deriving Inhabited, DecidableEq
structure T_octet_Out where
  b : ByteArray
  deriving Inhabited, DecidableEq
structure T_octet_In where
  s : ByteArray
  at_ : Int
  err : Int
  deriving Inhabited, DecidableEq
structure T_ref01_R where
  S : ByteArray
  At : Int
  Err : Int
  deriving Inhabited, DecidableEq

def ref06_Known (a0 : Int) : Option Bool :=
  some ((iLe 0 a0) && (iLe a0 51))
def ref06_Forms : Option (List ByteArray) :=
  some ([(⟨#[110]⟩ : ByteArray), (⟨#[107]⟩ : ByteArray), (⟨#[107]⟩ : ByteArray), ByteArray.empty, ByteArray.empty, ByteArray.empty, ByteArray.empty, ByteArray.empty, ByteArray.empty, ByteArray.empty, ByteArray.empty, ByteArray.empty, ByteArray.empty, ByteArray.empty, ByteArray.empty, ByteArray.empty, ByteArray.empty, ByteArray.empty, (⟨#[116]⟩ : ByteArray), (⟨#[116]⟩ : ByteArray), (⟨#[102]⟩ : ByteArray), ByteArray.empty, ByteArray.empty, ByteArray.empty, ByteArray.empty, ByteArray.empty, (⟨#[119]⟩ : ByteArray), (⟨#[119]⟩ : ByteArray), ByteArray.empty, (⟨#[117]⟩ : ByteArray), (⟨#[115]⟩ : ByteArray), (⟨#[112]⟩ : ByteArray), (⟨#[99, 109]⟩ : ByteArray), (⟨#[99, 109]⟩ : ByteArray), (⟨#[99]⟩ : ByteArray), (⟨#[99]⟩ : ByteArray), (⟨#[98]⟩ : ByteArray), (⟨#[98]⟩ : ByteArray), (⟨#[98]⟩ : ByteArray), (⟨#[98]⟩ : ByteArray), (⟨#[102]⟩ : ByteArray), (⟨#[106, 106]⟩ : ByteArray), (⟨#[106, 106]⟩ : ByteArray), ByteArray.empty, ByteArray.empty, (⟨#[118]⟩ : ByteArray), (⟨#[118]⟩ : ByteArray), ByteArray.empty, ByteArray.empty, (⟨#[113]⟩ : ByteArray), (⟨#[109]⟩ : ByteArray), (⟨#[109]⟩ : ByteArray)] : List ByteArray)
def ref06_Form (a0 : Int) : Option ByteArray :=
  (ref06_Known a0).bind fun (x1 : Bool) => cond (!x1) (some ByteArray.empty) ((ref06_Forms).bind fun (x3 : List ByteArray) => need (nIn a0 (x3.length : Int)) (some (x3.getD a0.toNat default)))
def ref03_Fits (a0 : Int) : Option Bool :=
  some ((iLe (-2147483648) a0) && (iLt a0 2147483648))
def ref07_least (a0 : Int) : Option Int :=
  cond (iEq a0 106) (some 1) (some 0)
def ref07_most (a0 : Int) : Option Int :=
  cond (iEq a0 107) (some 7) (cond (iEq a0 116) (some 199) (cond (iEq a0 102) (some 15) (cond (iEq a0 106) (some 4) (some 31))))
def ref07_Check_l33 (a0 : T_api_Ins) : Nat → Int → Option Int
  | 0, _ => none
  | k33 + 1, s32 => cond (iLt s32 2) (need (nIn s32 (([a0.A, a0.B] : List Int).length : Int)) (cond (iNe (([a0.A, a0.B] : List Int).getD s32.toNat default) 0) (some 2) (ref07_Check_l33 a0 k33 (IntKind.i64.wrap (s32 + 1))))) (some 0)
def ref07_Check_l4 (a0 : T_api_Ins) (x3_2_1 : ByteArray) : Nat → Int → Option Int
  | 0, _ => none
  | k4 + 1, s3 => cond (iLt s3 (x3_2_1.size : Int)) (need (nIn s3 (x3_2_1.size : Int)) (cond (iEq (byteAt x3_2_1 s3.toNat) 110) (need (nIn s3 (([a0.A, a0.B] : List Int).length : Int)) ((ref03_Fits (([a0.A, a0.B] : List Int).getD s3.toNat default)).bind fun (x9 : Bool) => cond (!x9) (some 1) (need (nIn s3 (x3_2_1.size : Int)) (cond (iNe (byteAt x3_2_1 s3.toNat) 110) (need (nIn s3 (([a0.A, a0.B] : List Int).length : Int)) (need (nIn s3 (x3_2_1.size : Int)) ((ref07_least (byteAt x3_2_1 s3.toNat)).bind fun (x15 : Int) => cond (iLt (([a0.A, a0.B] : List Int).getD s3.toNat default) x15) (some 1) (need (nIn s3 (([a0.A, a0.B] : List Int).length : Int)) (need (nIn s3 (x3_2_1.size : Int)) ((ref07_most (byteAt x3_2_1 s3.toNat)).bind fun (x19 : Int) => cond (iLt x19 (([a0.A, a0.B] : List Int).getD s3.toNat default)) (some 1) (ref07_Check_l4 a0 x3_2_1 k4 (IntKind.i64.wrap (s3 + 1))))))))) (ref07_Check_l4 a0 x3_2_1 k4 (IntKind.i64.wrap (s3 + 1))))))) (need (nIn s3 (x3_2_1.size : Int)) (cond (iNe (byteAt x3_2_1 s3.toNat) 110) (need (nIn s3 (([a0.A, a0.B] : List Int).length : Int)) (need (nIn s3 (x3_2_1.size : Int)) ((ref07_least (byteAt x3_2_1 s3.toNat)).bind fun (x25 : Int) => cond (iLt (([a0.A, a0.B] : List Int).getD s3.toNat default) x25) (some 1) (need (nIn s3 (([a0.A, a0.B] : List Int).length : Int)) (need (nIn s3 (x3_2_1.size : Int)) ((ref07_most (byteAt x3_2_1 s3.toNat)).bind fun (x29 : Int) => cond (iLt x29 (([a0.A, a0.B] : List Int).getD s3.toNat default)) (some 1) (ref07_Check_l4 a0 x3_2_1 k4 (IntKind.i64.wrap (s3 + 1))))))))) (ref07_Check_l4 a0 x3_2_1 k4 (IntKind.i64.wrap (s3 + 1))))))) (cond ((sEq x3_2_1 (⟨#[106, 106]⟩ : ByteArray)) && (iLt a0.B a0.A)) (some 1) (ref07_Check_l33 a0 fuel (x3_2_1.size : Int)))
def ref07_Check (a0 : T_api_Ins) : Option Int :=
  (ref06_Known a0.Op).bind fun (x1 : Bool) => cond (!x1) (some 6) ((ref06_Form a0.Op).bind fun (x3_2_1 : ByteArray) => ref07_Check_l4 a0 x3_2_1 fuel 0)
def op_known (a0 : Int) : Option Bool :=
  some ((iLe 0 a0) && (iLt a0 52))
def unicode_is16_l3 (a0 : List T_unicode_Range16) (a1 : Int) : Nat → Int → Option Bool
  | 0, _ => none
  | k3 + 1, s2 => cond (iLt s2 (a0.length : Int)) (need (nIn s2 (a0.length : Int)) (cond (iLt a1 ((a0.getD s2.toNat default).Lo)) (some false) (cond (iLe a1 ((a0.getD s2.toNat default).Hi)) (need (!(!(iEq ((a0.getD s2.toNat default).Stride) 1)) || nNz ((a0.getD s2.toNat default).Stride)) (some ((iEq ((a0.getD s2.toNat default).Stride) 1) || (iEq (Int.tmod (IntKind.u16.wrap (a1 - ((a0.getD s2.toNat default).Lo))) ((a0.getD s2.toNat default).Stride)) 0)))) (unicode_is16_l3 a0 a1 k3 (IntKind.i64.wrap (s2 + 1)))))) (some false)
def unicode_is16_l10 (a0 : List T_unicode_Range16) (a1 : Int) : Nat → (Int × Int) → Option Bool
  | 0, _ => none
  | k10 + 1, s9 => cond (iLt s9.1 s9.2) (need (nIn (IntKind.i64.wrap ((IntKind.u64.wrap (IntKind.i64.wrap (s9.1 + s9.2))) / 2 ^ min (1 : Int).toNat IntKind.u64.bits)) (a0.length : Int)) (cond ((iLe ((a0.getD (IntKind.i64.wrap ((IntKind.u64.wrap (IntKind.i64.wrap (s9.1 + s9.2))) / 2 ^ min (1 : Int).toNat IntKind.u64.bits)).toNat default).Lo) a1) && (iLe a1 ((a0.getD (IntKind.i64.wrap ((IntKind.u64.wrap (IntKind.i64.wrap (s9.1 + s9.2))) / 2 ^ min (1 : Int).toNat IntKind.u64.bits)).toNat default).Hi))) (need (!(!(iEq ((a0.getD (IntKind.i64.wrap ((IntKind.u64.wrap (IntKind.i64.wrap (s9.1 + s9.2))) / 2 ^ min (1 : Int).toNat IntKind.u64.bits)).toNat default).Stride) 1)) || nNz ((a0.getD (IntKind.i64.wrap ((IntKind.u64.wrap (IntKind.i64.wrap (s9.1 + s9.2))) / 2 ^ min (1 : Int).toNat IntKind.u64.bits)).toNat default).Stride)) (some ((iEq ((a0.getD (IntKind.i64.wrap ((IntKind.u64.wrap (IntKind.i64.wrap (s9.1 + s9.2))) / 2 ^ min (1 : Int).toNat IntKind.u64.bits)).toNat default).Stride) 1) || (iEq (Int.tmod (IntKind.u16.wrap (a1 - ((a0.getD (IntKind.i64.wrap ((IntKind.u64.wrap (IntKind.i64.wrap (s9.1 + s9.2))) / 2 ^ min (1 : Int).toNat IntKind.u64.bits)).toNat default).Lo))) ((a0.getD (IntKind.i64.wrap ((IntKind.u64.wrap (IntKind.i64.wrap (s9.1 + s9.2))) / 2 ^ min (1 : Int).toNat IntKind.u64.bits)).toNat default).Stride)) 0)))) (cond (iLt a1 ((a0.getD (IntKind.i64.wrap ((IntKind.u64.wrap (IntKind.i64.wrap (s9.1 + s9.2))) / 2 ^ min (1 : Int).toNat IntKind.u64.bits)).toNat default).Lo)) (unicode_is16_l10 a0 a1 k10 (s9.1, IntKind.i64.wrap ((IntKind.u64.wrap (IntKind.i64.wrap (s9.1 + s9.2))) / 2 ^ min (1 : Int).toNat IntKind.u64.bits))) (unicode_is16_l10 a0 a1 k10 (IntKind.i64.wrap ((IntKind.i64.wrap ((IntKind.u64.wrap (IntKind.i64.wrap (s9.1 + s9.2))) / 2 ^ min (1 : Int).toNat IntKind.u64.bits)) + 1), s9.2))))) (some false)
def unicode_is16 (a0 : List T_unicode_Range16) (a1 : Int) : Option Bool :=
  cond ((iLe (a0.length : Int) 18) || (iLe a1 255)) (unicode_is16_l3 a0 a1 fuel 0) (unicode_is16_l10 a0 a1 fuel (0, (a0.length : Int)))
def unicode_is32_l3 (a0 : List T_unicode_Range32) (a1 : Int) : Nat → Int → Option Bool
  | 0, _ => none
  | k3 + 1, s2 => cond (iLt s2 (a0.length : Int)) (need (nIn s2 (a0.length : Int)) (cond (iLt a1 ((a0.getD s2.toNat default).Lo)) (some false) (cond (iLe a1 ((a0.getD s2.toNat default).Hi)) (need (!(!(iEq ((a0.getD s2.toNat default).Stride) 1)) || nNz ((a0.getD s2.toNat default).Stride)) (some ((iEq ((a0.getD s2.toNat default).Stride) 1) || (iEq (Int.tmod (IntKind.u32.wrap (a1 - ((a0.getD s2.toNat default).Lo))) ((a0.getD s2.toNat default).Stride)) 0)))) (unicode_is32_l3 a0 a1 k3 (IntKind.i64.wrap (s2 + 1)))))) (some false)
def unicode_is32_l10 (a0 : List T_unicode_Range32) (a1 : Int) : Nat → (Int × Int) → Option Bool
  | 0, _ => none
  | k10 + 1, s9 => cond (iLt s9.1 s9.2) (need (nIn (IntKind.i64.wrap ((IntKind.u64.wrap (IntKind.i64.wrap (s9.1 + s9.2))) / 2 ^ min (1 : Int).toNat IntKind.u64.bits)) (a0.length : Int)) (cond ((iLe ((a0.getD (IntKind.i64.wrap ((IntKind.u64.wrap (IntKind.i64.wrap (s9.1 + s9.2))) / 2 ^ min (1 : Int).toNat IntKind.u64.bits)).toNat default).Lo) a1) && (iLe a1 ((a0.getD (IntKind.i64.wrap ((IntKind.u64.wrap (IntKind.i64.wrap (s9.1 + s9.2))) / 2 ^ min (1 : Int).toNat IntKind.u64.bits)).toNat default).Hi))) (need (!(!(iEq ((a0.getD (IntKind.i64.wrap ((IntKind.u64.wrap (IntKind.i64.wrap (s9.1 + s9.2))) / 2 ^ min (1 : Int).toNat IntKind.u64.bits)).toNat default).Stride) 1)) || nNz ((a0.getD (IntKind.i64.wrap ((IntKind.u64.wrap (IntKind.i64.wrap (s9.1 + s9.2))) / 2 ^ min (1 : Int).toNat IntKind.u64.bits)).toNat default).Stride)) (some ((iEq ((a0.getD (IntKind.i64.wrap ((IntKind.u64.wrap (IntKind.i64.wrap (s9.1 + s9.2))) / 2 ^ min (1 : Int).toNat IntKind.u64.bits)).toNat default).Stride) 1) || (iEq (Int.tmod (IntKind.u32.wrap (a1 - ((a0.getD (IntKind.i64.wrap ((IntKind.u64.wrap (IntKind.i64.wrap (s9.1 + s9.2))) / 2 ^ min (1 : Int).toNat IntKind.u64.bits)).toNat default).Lo))) ((a0.getD (IntKind.i64.wrap ((IntKind.u64.wrap (IntKind.i64.wrap (s9.1 + s9.2))) / 2 ^ min (1 : Int).toNat IntKind.u64.bits)).toNat default).Stride)) 0)))) (cond (iLt a1 ((a0.getD (IntKind.i64.wrap ((IntKind.u64.wrap (IntKind.i64.wrap (s9.1 + s9.2))) / 2 ^ min (1 : Int).toNat IntKind.u64.bits)).toNat default).Lo)) (unicode_is32_l10 a0 a1 k10 (s9.1, IntKind.i64.wrap ((IntKind.u64.wrap (IntKind.i64.wrap (s9.1 + s9.2))) / 2 ^ min (1 : Int).toNat IntKind.u64.bits))) (unicode_is32_l10 a0 a1 k10 (IntKind.i64.wrap ((IntKind.i64.wrap ((IntKind.u64.wrap (IntKind.i64.wrap (s9.1 + s9.2))) / 2 ^ min (1 : Int).toNat IntKind.u64.bits)) + 1), s9.2))))) (some false)
def unicode_is32 (a0 : List T_unicode_Range32) (a1 : Int) : Option Bool :=
  cond (iLe (a0.length : Int) 18) (unicode_is32_l3 a0 a1 fuel 0) (unicode_is32_l10 a0 a1 fuel (0, (a0.length : Int)))
def unicode_isExcludingLatin (a0 : T_unicode_RangeTable) (a1 : Int) : Option Bool :=
  need (!(iLt a0.LatinOffset (a0.R16.length : Int)) || nIn (IntKind.i64.wrap ((a0.R16.length : Int) - 1)) (a0.R16.length : Int)) (cond ((iLt a0.LatinOffset (a0.R16.length : Int)) && (iLe (IntKind.u32.wrap a1) (IntKind.u32.wrap ((a0.R16.getD (IntKind.i64.wrap ((a0.R16.length : Int) - 1)).toNat default).Hi)))) (need (nSl a0.LatinOffset (a0.R16.length : Int) (a0.R16.length : Int)) ((unicode_is16 ((a0.R16.take (a0.R16.length : Int).toNat).drop a0.LatinOffset.toNat) (IntKind.u16.wrap a1)).bind fun (x4 : Bool) => some x4)) (need (!(iLt 0 (a0.R32.length : Int)) || nIn (0 : Int) (a0.R32.length : Int)) (cond ((iLt 0 (a0.R32.length : Int)) && (iLe (IntKind.i32.wrap ((a0.R32.getD (0 : Int).toNat default).Lo)) a1)) ((unicode_is32 a0.R32 (IntKind.u32.wrap a1)).bind fun (x7 : Bool) => some x7) (some false))))
def strings_Fields_l11 (a0 : ByteArray) (K8 : Int → Option (List ByteArray)) : Nat → Int → Option (List ByteArray)
  | 0, _ => none
  | k11 + 1, s10 => cond (iLt s10 (a0.size : Int)) (need (nIn s10 (a0.size : Int)) (need (nIn (byteAt a0 s10.toNat) ((256 : Nat) : Int)) (cond (iNe (G_strings_asciiSpace.getD (byteAt a0 s10.toNat).toNat default) 0) (strings_Fields_l11 a0 K8 k11 (IntKind.i64.wrap (s10 + 1))) (K8 s10)))) (K8 s10)
def strings_Fields_l29 (a0 : ByteArray) (K26 : Int → Option (List ByteArray)) : Nat → Int → Option (List ByteArray)
  | 0, _ => none
  | k29 + 1, s28 => cond (iLt s28 (a0.size : Int)) (need (nIn s28 (a0.size : Int)) (need (nIn (byteAt a0 s28.toNat) ((256 : Nat) : Int)) (cond (iNe (G_strings_asciiSpace.getD (byteAt a0 s28.toNat).toNat default) 0) (strings_Fields_l29 a0 K26 k29 (IntKind.i64.wrap (s28 + 1))) (K26 s28)))) (K26 s28)
def strings_Fields_l19 (a0 : ByteArray) (K16 : (Int × Int × (List ByteArray)) → Option (List ByteArray)) : Nat → (Int × Int × Int × (List ByteArray)) → Option (List ByteArray)
  | 0, _ => none
  | k19 + 1, s18 => cond (iLt s18.2.2.1 (a0.size : Int)) (need (nIn s18.2.2.1 (a0.size : Int)) (need (nIn (byteAt a0 s18.2.2.1.toNat) ((256 : Nat) : Int)) (cond (iEq (G_strings_asciiSpace.getD (byteAt a0 s18.2.2.1.toNat).toNat default) 0) (strings_Fields_l19 a0 K16 k19 (s18.1, s18.2.1, IntKind.i64.wrap (s18.2.2.1 + 1), s18.2.2.2)) (need (nSl s18.2.1 s18.2.2.1 (a0.size : Int)) (need (nIn s18.1 (s18.2.2.2.length : Int)) (withK (fun s27 : Int => strings_Fields_l19 a0 K16 k19 (IntKind.i64.wrap (s18.1 + 1), s27, s27, s18.2.2.2.set s18.1.toNat (a0.extract s18.2.1.toNat s18.2.2.1.toNat))) fun K26 => strings_Fields_l29 a0 K26 fuel (IntKind.i64.wrap (s18.2.2.1 + 1)))))))) (K16 (s18.1, s18.2.1, s18.2.2.2))
def strings_Fields_l2 (a0 : ByteArray) : Nat → (Int × Int × Int × Int) → Option (List ByteArray)
  | 0, _ => none
  | k2 + 1, s1 => cond (iLt s1.2.2.2 (a0.size : Int)) (need (nIn s1.2.2.2 (a0.size : Int)) (need (nIn (byteAt a0 s1.2.2.2.toNat) ((256 : Nat) : Int)) (strings_Fields_l2 a0 k2 (IntKind.i64.wrap (s1.1 + (Go.bits .and .i64 s1.2.1 (Go.bits .xor .i64 (cond IntKind.i64.signed (-1) IntKind.i64.max) (IntKind.i64.wrap (G_strings_asciiSpace.getD (byteAt a0 s1.2.2.2.toNat).toNat default))))), IntKind.i64.wrap (G_strings_asciiSpace.getD (byteAt a0 s1.2.2.2.toNat).toNat default), Go.bits .or .u8 s1.2.2.1 (byteAt a0 s1.2.2.2.toNat), IntKind.i64.wrap (s1.2.2.2 + 1))))) (cond (iLe 128 s1.2.2.1) (none) (need (nMk s1.1 16) (withK (fun s9 : Int => withK (fun s17 : Int × Int × (List ByteArray) => cond (iLt s17.2.1 (a0.size : Int)) (need (nTo s17.2.1 (a0.size : Int)) (need (nIn s17.1 (s17.2.2.length : Int)) (some (s17.2.2.set s17.1.toNat (a0.extract s17.2.1.toNat a0.size))))) (some s17.2.2)) fun K16 => strings_Fields_l19 a0 K16 fuel (0, s9, s9, List.replicate s1.1.toNat (ByteArray.empty : ByteArray))) fun K8 => strings_Fields_l11 a0 K8 fuel 0)))
def strings_Fields (a0 : ByteArray) : Option (List ByteArray) :=
  strings_Fields_l2 a0 fuel (0, 1, 0, 0)
def op_Name (a0 : Int) : Option ByteArray :=
  (op_known a0).bind fun (x1 : Bool) => cond (!x1) (some ByteArray.empty) ((strings_Fields (⟨#[112, 117, 115, 104, 32, 108, 111, 97, 100, 32, 115, 116, 111, 114, 101, 32, 97, 100, 100, 32, 115, 117, 98, 32, 109, 117, 108, 32, 100, 105, 118, 32, 109, 111, 100, 32, 110, 101, 103, 32, 108, 116, 32, 101, 113, 32, 97, 110, 100, 32, 111, 114, 32, 120, 111, 114, 32, 115, 104, 108, 32, 115, 104, 114, 32, 100, 117, 112, 32, 100, 114, 111, 112, 32, 106, 117, 109, 112, 32, 122, 101, 114, 111, 32, 99, 97, 108, 108, 32, 114, 101, 116, 32, 115, 101, 108, 102, 32, 110, 111, 119, 32, 111, 117, 116, 32, 121, 105, 101, 108, 100, 32, 119, 97, 105, 116, 32, 119, 97, 105, 116, 102, 111, 114, 32, 115, 108, 101, 101, 112, 32, 117, 110, 108, 111, 99, 107, 32, 112, 111, 115, 116, 32, 103, 105, 118, 101, 32, 99, 119, 97, 105, 116, 32, 99, 119, 97, 105, 116, 102, 111, 114, 32, 115, 105, 103, 110, 97, 108, 32, 98, 114, 111, 97, 100, 99, 97, 115, 116, 32, 101, 110, 114, 111, 108, 32, 108, 101, 97, 118, 101, 32, 97, 114, 114, 105, 118, 101, 32, 97, 114, 114, 105, 118, 101, 102, 111, 114, 32, 115, 112, 97, 119, 110, 32, 106, 111, 105, 110, 32, 106, 111, 105, 110, 102, 111, 114, 32, 103, 114, 97, 110, 116, 32, 119, 97, 105, 118, 101, 32, 114, 101, 97, 100, 32, 119, 114, 105, 116, 101, 32, 98, 101, 103, 105, 110, 32, 99, 111, 109, 109, 105, 116, 32, 99, 108, 97, 105, 109, 32, 100, 101, 97, 100, 32, 109, 101, 110, 100]⟩ : ByteArray)).bind fun (x3 : List ByteArray) => need (nIn a0 (x3.length : Int)) (some (x3.getD a0.toNat default)))
def op_Form (a0 : Int) : Option ByteArray :=
  (op_known a0).bind fun (x1 : Bool) => cond (!x1) (some ByteArray.empty) ((strings_Fields (⟨#[110, 32, 107, 32, 107, 32, 46, 32, 46, 32, 46, 32, 46, 32, 46, 32, 46, 32, 46, 32, 46, 32, 46, 32, 46, 32, 46, 32, 46, 32, 46, 32, 46, 32, 46, 32, 116, 32, 116, 32, 102, 32, 46, 32, 46, 32, 46, 32, 46, 32, 46, 32, 119, 32, 119, 32, 46, 32, 117, 32, 115, 32, 112, 32, 99, 109, 32, 99, 109, 32, 99, 32, 99, 32, 98, 32, 98, 32, 98, 32, 98, 32, 102, 32, 106, 106, 32, 106, 106, 32, 46, 32, 46, 32, 118, 32, 118, 32, 46, 32, 46, 32, 113, 32, 109, 32, 109]⟩ : ByteArray)).bind fun (x3 : List ByteArray) => need (nIn a0 (x3.length : Int)) (cond (sEq (x3.getD a0.toNat default) (⟨#[46]⟩ : ByteArray)) (some ByteArray.empty) (some (x3.getD a0.toNat default))))
def word_Fits (a0 : Int) : Option Bool :=
  some (iEq (IntKind.i64.wrap (IntKind.i32.wrap a0)) a0)
def ins_in (a0 : Int) (a1 : Int) : Option Bool :=
  cond (iEq a0 110) ((word_Fits a1).bind fun (x2 : Bool) => some x2) (cond (iEq a0 107) (some ((iLe 0 a1) && (iLt a1 8))) (cond (iEq a0 116) (some ((iLe 0 a1) && (iLt a1 200))) (cond (iEq a0 102) (some ((iLe 0 a1) && (iLt a1 16))) (cond (iEq a0 119) (some ((iLe 0 a1) && (iLt a1 32))) (cond (iEq a0 106) (some ((iLe 1 a1) && (iLe a1 4))) (some ((iLe 0 a1) && (iLt a1 32))))))))
def ins_Check_l13 (a0 : T_api_Ins) (x3_2_1 : ByteArray) : Nat → Int → Option Int
  | 0, _ => none
  | k13 + 1, s12 => cond (iLt s12 ((((2 : Nat) : Int) - (x3_2_1.size : Int)).toNat : Int)) (need (nNn (x3_2_1.size : Int)) (need (nIn s12 ((((2 : Nat) : Int) - (x3_2_1.size : Int)).toNat : Int)) (need (nIn ((x3_2_1.size : Int) + s12) ((2 : Nat) : Int)) (cond (iNe (([a0.A, a0.B] : List Int).getD ((x3_2_1.size : Int) + s12).toNat default) 0) (some 2) (ins_Check_l13 a0 x3_2_1 k13 (IntKind.i64.wrap (s12 + 1))))))) (some 0)
def ins_Check_l4 (a0 : T_api_Ins) (x3_2_1 : ByteArray) : Nat → Int → Option Int
  | 0, _ => none
  | k4 + 1, s3 => cond (iLt s3 (x3_2_1.size : Int)) (need (nIn s3 (x3_2_1.size : Int)) (need (nIn s3 ((2 : Nat) : Int)) ((ins_in (byteAt x3_2_1 s3.toNat) (([a0.A, a0.B] : List Int).getD s3.toNat default)).bind fun (x8 : Bool) => cond (!x8) (some 1) (ins_Check_l4 a0 x3_2_1 k4 (IntKind.i64.wrap (s3 + 1)))))) (cond ((sEq x3_2_1 (⟨#[106, 106]⟩ : ByteArray)) && (iLt a0.B a0.A)) (some 1) (need (nSl (x3_2_1.size : Int) ((2 : Nat) : Int) ((2 : Nat) : Int)) (ins_Check_l13 a0 x3_2_1 fuel 0)))
def ins_Check (a0 : T_api_Ins) : Option Int :=
  (op_Name a0.Op).bind fun (x1 : ByteArray) => cond (sEq x1 ByteArray.empty) (some 6) ((op_Form a0.Op).bind fun (x3_2_1 : ByteArray) => ins_Check_l4 a0 x3_2_1 fuel 0)
def octet_Out_Byte (a0 : T_octet_Out) (a1 : Int) : Option T_octet_Out :=
  need (nCap (a0.b.size + 1)) (need (nIn (IntKind.u8.wrap a1) 256) (some (⟨a0.b.push (UInt8.ofNat (IntKind.u8.wrap a1).toNat)⟩ : T_octet_Out)))
def octet_Out_Num_l4 (K1 : (Int × ByteArray) → Option T_octet_Out) : Nat → (Int × ByteArray) → Option T_octet_Out
  | 0, _ => none
  | k4 + 1, s3 => cond (iLt 127 s3.1) (need (nCap (s3.2.size + 1)) (need (nIn (Go.bits .or .u8 (IntKind.u8.wrap s3.1) 128) 256) (octet_Out_Num_l4 K1 k4 (s3.1 / 2 ^ min (7 : Int).toNat IntKind.u64.bits, s3.2.push (UInt8.ofNat (Go.bits .or .u8 (IntKind.u8.wrap s3.1) 128).toNat))))) (K1 (s3.1, s3.2))
def octet_Out_Num (a0 : T_octet_Out) (a1 : Int) : Option T_octet_Out :=
  withK (fun s2 : Int × ByteArray => need (nCap (s2.2.size + 1)) (need (nIn (IntKind.u8.wrap s2.1) 256) (some (⟨s2.2.push (UInt8.ofNat (IntKind.u8.wrap s2.1).toNat)⟩ : T_octet_Out)))) fun K1 => octet_Out_Num_l4 K1 fuel (a1, a0.b)
def octet_Out_Int (a0 : T_octet_Out) (a1 : Int) : Option T_octet_Out :=
  (octet_Out_Num a0 (Go.bits .xor .u64 (IntKind.u64.wrap ((IntKind.u64.wrap a1) * 2 ^ min (1 : Int).toNat IntKind.u64.bits)) (IntKind.u64.wrap (a1 / 2 ^ min (63 : Int).toNat IntKind.i64.bits)))).bind fun (x1 : T_octet_Out) => some x1
def octet_Out_Done (a0 : T_octet_Out) : Option ByteArray :=
  some a0.b
def ins_Put_l5 (a0 : T_api_Ins) (x4_4_1 : ByteArray) : Nat → (Int × ByteArray) → Option (ByteArray × Int)
  | 0, _ => none
  | k5 + 1, s4 => cond (iLt s4.1 (x4_4_1.size : Int)) (need (nIn s4.1 (x4_4_1.size : Int)) (cond (iEq (byteAt x4_4_1 s4.1.toNat) 110) (need (nIn s4.1 ((2 : Nat) : Int)) ((octet_Out_Int (⟨s4.2⟩ : T_octet_Out) (([a0.A, a0.B] : List Int).getD s4.1.toNat default)).bind fun (x10 : T_octet_Out) => ins_Put_l5 a0 x4_4_1 k5 (IntKind.i64.wrap (s4.1 + 1), x10.b))) (need (nIn s4.1 ((2 : Nat) : Int)) ((octet_Out_Num (⟨s4.2⟩ : T_octet_Out) (IntKind.u64.wrap (([a0.A, a0.B] : List Int).getD s4.1.toNat default))).bind fun (x12 : T_octet_Out) => ins_Put_l5 a0 x4_4_1 k5 (IntKind.i64.wrap (s4.1 + 1), x12.b))))) ((octet_Out_Done (⟨s4.2⟩ : T_octet_Out)).bind fun (x13 : ByteArray) => some (x13, 0))
def ins_Put (a0 : T_api_Ins) : Option (ByteArray × Int) :=
  (ins_Check a0).bind fun (x1 : Int) => cond (iNe x1 0) (some (ByteArray.empty, x1)) ((op_Form a0.Op).bind fun (x4_4_1 : ByteArray) => (octet_Out_Byte (⟨ByteArray.empty⟩ : T_octet_Out) a0.Op).bind fun (x3 : T_octet_Out) => ins_Put_l5 a0 x4_4_1 fuel (0, x3.b))
def ref01_Num_l2 : Nat → (Int × ByteArray) → Option ByteArray
  | 0, _ => none
  | k2 + 1, s1 => cond (iLe 128 s1.1) (need (nIn (IntKind.u8.wrap (IntKind.u64.wrap ((Int.tmod s1.1 128) + 128))) 256) (need (nStr (s1.2.size + (ByteArray.empty.push (UInt8.ofNat (IntKind.u8.wrap (IntKind.u64.wrap ((Int.tmod s1.1 128) + 128))).toNat)).size)) (ref01_Num_l2 k2 (IntKind.u64.wrap (Int.tdiv s1.1 128), s1.2 ++ (ByteArray.empty.push (UInt8.ofNat (IntKind.u8.wrap (IntKind.u64.wrap ((Int.tmod s1.1 128) + 128))).toNat)))))) (need (nIn (IntKind.u8.wrap s1.1) 256) (need (nStr (s1.2.size + (ByteArray.empty.push (UInt8.ofNat (IntKind.u8.wrap s1.1).toNat)).size)) (some (s1.2 ++ (ByteArray.empty.push (UInt8.ofNat (IntKind.u8.wrap s1.1).toNat))))))
def ref01_Num (a0 : Int) : Option ByteArray :=
  ref01_Num_l2 fuel (a0, ByteArray.empty)
def ref01_Int (a0 : Int) : Option ByteArray :=
  cond (iLe 0 a0) ((ref01_Num (IntKind.u64.wrap ((2 : Int) * (IntKind.u64.wrap a0)))).bind fun (x2 : ByteArray) => some x2) ((ref01_Num (IntKind.u64.wrap ((IntKind.u64.wrap ((2 : Int) * (IntKind.u64.wrap (IntKind.i64.wrap (0 - (IntKind.i64.wrap (a0 + 1))))))) + 1))).bind fun (x3 : ByteArray) => some x3)
def ref07_Put_l3 (a0 : T_api_Ins) (x1_2_1 : ByteArray) : Nat → (ByteArray × Int) → Option ByteArray
  | 0, _ => none
  | k3 + 1, s2 => cond (iLt s2.2 (x1_2_1.size : Int)) (need (nIn s2.2 (x1_2_1.size : Int)) (cond (iEq (byteAt x1_2_1 s2.2.toNat) 110) (need (nIn s2.2 (([a0.A, a0.B] : List Int).length : Int)) ((ref01_Int (([a0.A, a0.B] : List Int).getD s2.2.toNat default)).bind fun (x8 : ByteArray) => need (nStr (s2.1.size + x8.size)) (ref07_Put_l3 a0 x1_2_1 k3 (s2.1 ++ x8, IntKind.i64.wrap (s2.2 + 1))))) (need (nIn s2.2 (([a0.A, a0.B] : List Int).length : Int)) ((ref01_Num (IntKind.u64.wrap (([a0.A, a0.B] : List Int).getD s2.2.toNat default))).bind fun (x11 : ByteArray) => need (nStr (s2.1.size + x11.size)) (ref07_Put_l3 a0 x1_2_1 k3 (s2.1 ++ x11, IntKind.i64.wrap (s2.2 + 1))))))) (some s2.1)
def ref07_Put (a0 : T_api_Ins) : Option ByteArray :=
  (ref06_Form a0.Op).bind fun (x1_2_1 : ByteArray) => need (nIn (IntKind.u8.wrap a0.Op) 256) (ref07_Put_l3 a0 x1_2_1 fuel (ByteArray.empty.push (UInt8.ofNat (IntKind.u8.wrap a0.Op).toNat), 0))
def octet_Open (a0 : ByteArray) : Option T_octet_In :=
  some (⟨a0, 0, 0⟩ : T_octet_In)
def octet_In_fail (a0 : T_octet_In) (a1 : Int) : Option T_octet_In :=
  cond (iEq a0.err 0) (some (⟨a0.s, (a0.s.size : Int), a1⟩ : T_octet_In)) (some a0)
def octet_In_Byte (a0 : T_octet_In) : Option (Int × T_octet_In) :=
  cond (iLe (a0.s.size : Int) a0.at_) ((octet_In_fail a0 3).bind fun (x2 : T_octet_In) => some (0, x2)) (need (nIn (IntKind.i64.wrap ((IntKind.i64.wrap (a0.at_ + 1)) - 1)) (a0.s.size : Int)) (some (IntKind.i64.wrap (byteAt a0.s (IntKind.i64.wrap ((IntKind.i64.wrap (a0.at_ + 1)) - 1)).toNat), (⟨a0.s, IntKind.i64.wrap (a0.at_ + 1), a0.err⟩ : T_octet_In))))
def octet_In_Err (a0 : T_octet_In) : Option Int :=
  some a0.err
def octet_In_Num_l2 : Nat → (Int × Int × ByteArray × Int × Int) → Option (Int × T_octet_In)
  | 0, _ => none
  | k2 + 1, s1 => cond (iLt s1.2.1 10) ((octet_In_Byte (⟨s1.2.2.1, s1.2.2.2.1, s1.2.2.2.2⟩ : T_octet_In)).bind fun (x4 : Int × T_octet_In) => cond (iNe x4.2.err 0) (some (0, x4.2)) (cond (((iEq s1.2.1 9) && (iLt 1 x4.1)) || ((iLt 0 s1.2.1) && (iEq x4.1 0))) ((octet_In_fail x4.2 2).bind fun (x7 : T_octet_In) => some (0, x7)) (need (nNn (IntKind.i64.wrap ((7 : Int) * s1.2.1))) (cond (iLt x4.1 128) (some (Go.bits .or .u64 s1.1 (IntKind.u64.wrap ((IntKind.u64.wrap (Go.bits .and .i64 x4.1 127)) * 2 ^ min (IntKind.i64.wrap ((7 : Int) * s1.2.1) : Int).toNat IntKind.u64.bits)), x4.2)) (octet_In_Num_l2 k2 (Go.bits .or .u64 s1.1 (IntKind.u64.wrap ((IntKind.u64.wrap (Go.bits .and .i64 x4.1 127)) * 2 ^ min (IntKind.i64.wrap ((7 : Int) * s1.2.1) : Int).toNat IntKind.u64.bits)), IntKind.i64.wrap (s1.2.1 + 1), x4.2.s, x4.2.at_, x4.2.err)))))) (some (s1.1, (⟨s1.2.2.1, s1.2.2.2.1, s1.2.2.2.2⟩ : T_octet_In)))
def octet_In_Num (a0 : T_octet_In) : Option (Int × T_octet_In) :=
  octet_In_Num_l2 fuel (0, 0, a0.s, a0.at_, a0.err)
def octet_In_Int (a0 : T_octet_In) : Option (Int × T_octet_In) :=
  (octet_In_Num a0).bind fun (x1 : Int × T_octet_In) => some (Go.bits .xor .i64 (IntKind.i64.wrap (x1.1 / 2 ^ min (1 : Int).toNat IntKind.u64.bits)) (IntKind.i64.wrap (0 - (IntKind.i64.wrap (Go.bits .and .u64 x1.1 1)))), x1.2)
def octet_In_Left (a0 : T_octet_In) : Option Int :=
  some (IntKind.i64.wrap ((a0.s.size : Int) - a0.at_))
def ins_Get_l9 (a0 : ByteArray) (x2 : Int × T_octet_In) (x7 : ByteArray) : Nat → (Int × (List Int) × ByteArray × Int × Int) → Option (T_api_Ins × Int × Int)
  | 0, _ => none
  | k9 + 1, s8 => cond (iLt s8.1 (x7.size : Int)) (need (nIn s8.1 (x7.size : Int)) (cond (iEq (byteAt x7 s8.1.toNat) 110) ((octet_In_Int (⟨s8.2.2.1, s8.2.2.2.1, s8.2.2.2.2⟩ : T_octet_In)).bind fun (x13 : Int × T_octet_In) => need (nIn s8.1 ((2 : Nat) : Int)) ((octet_In_Err x13.2).bind fun (x15 : Int) => cond (iNe x15 0) (some ((⟨0, 0, 0⟩ : T_api_Ins), 0, x15)) (ins_Get_l9 a0 x2 x7 k9 (IntKind.i64.wrap (s8.1 + 1), (aset 2 s8.2.1 s8.1.toNat x13.1), x13.2.s, x13.2.at_, x13.2.err)))) ((octet_In_Num (⟨s8.2.2.1, s8.2.2.2.1, s8.2.2.2.2⟩ : T_octet_In)).bind fun (x17 : Int × T_octet_In) => need (nIn s8.1 ((2 : Nat) : Int)) ((octet_In_Err x17.2).bind fun (x19 : Int) => cond (iNe x19 0) (some ((⟨0, 0, 0⟩ : T_api_Ins), 0, x19)) (ins_Get_l9 a0 x2 x7 k9 (IntKind.i64.wrap (s8.1 + 1), (aset 2 s8.2.1 s8.1.toNat (IntKind.i64.wrap (iMin x17.1 (2147483648 : Int)))), x17.2.s, x17.2.at_, x17.2.err)))))) (need (nIn (0 : Int) ((2 : Nat) : Int)) (need (nIn (1 : Int) ((2 : Nat) : Int)) ((ins_Check (⟨x2.1, (s8.2.1.getD (0 : Int).toNat default), (s8.2.1.getD (1 : Int).toNat default)⟩ : T_api_Ins)).bind fun (x23 : Int) => cond (iNe x23 0) (some ((⟨0, 0, 0⟩ : T_api_Ins), 0, x23)) ((octet_In_Left (⟨s8.2.2.1, s8.2.2.2.1, s8.2.2.2.2⟩ : T_octet_In)).bind fun (x25 : Int) => some ((⟨x2.1, (s8.2.1.getD (0 : Int).toNat default), (s8.2.1.getD (1 : Int).toNat default)⟩ : T_api_Ins), IntKind.i64.wrap ((a0.size : Int) - x25), 0)))))
def ins_Get (a0 : ByteArray) : Option (T_api_Ins × Int × Int) :=
  (octet_Open a0).bind fun (x1 : T_octet_In) => (octet_In_Byte x1).bind fun (x2 : Int × T_octet_In) => (octet_In_Err x2.2).bind fun (x3 : Int) => cond (iNe x3 0) (some ((⟨0, 0, 0⟩ : T_api_Ins), 0, x3)) ((op_Name x2.1).bind fun (x5 : ByteArray) => cond (sEq x5 ByteArray.empty) (some ((⟨0, 0, 0⟩ : T_api_Ins), 0, 6)) ((op_Form x2.1).bind fun (x7 : ByteArray) => ins_Get_l9 a0 x2 x7 fuel (0, ([0, 0] : List Int), x2.2.s, x2.2.at_, x2.2.err)))
def law07_lives : Option Bool :=
  (ins_Put (⟨0, (-1), 0⟩ : T_api_Ins)).bind fun (x1 : ByteArray × Int) => (ins_Get (⟨#[1, 7, 109, 111, 114, 101]⟩ : ByteArray)).bind fun (x2 : T_api_Ins × Int × Int) => cond ((sEq x1.1 (⟨#[0, 1]⟩ : ByteArray)) && (iEq x1.2 0)) ((cond ((((iEq x2.1.Op 1) && ((iEq x2.1.A 7) && ((iEq x2.1.B 0) && true))) && (iEq x2.2.1 2)) && (iEq x2.2.2 0)) (ins_Check (⟨99, 0, 0⟩ : T_api_Ins)) (some default)).bind fun (x4 : Int) => some (((((iEq x2.1.Op 1) && ((iEq x2.1.A 7) && ((iEq x2.1.B 0) && true))) && (iEq x2.2.1 2)) && (iEq x2.2.2 0)) && (iEq x4 6))) (some false)
def law07_InsChecks (a0 : T_api_Ins) : Option Bool :=
  (ref07_Check a0).bind fun (x1 : Int) => (ins_Put a0).bind fun (x2 : ByteArray × Int) => (ins_Check a0).bind fun (x3 : Int) => cond ((iNe x3 x1) || (iNe x2.2 x1)) (some false) ((cond ((!((iNe x1 0) && (sEq x2.1 ByteArray.empty))) && (iEq x1 0)) (ref07_Put a0) (some default)).bind fun (x5 : ByteArray) => (cond (((iNe x1 0) && (sEq x2.1 ByteArray.empty)) || ((iEq x1 0) && (sEq x2.1 x5))) (law07_lives) (some default)).bind fun (x6 : Bool) => some ((((iNe x1 0) && (sEq x2.1 ByteArray.empty)) || ((iEq x1 0) && (sEq x2.1 x5))) && x6))
def ref01_Fail (a0 : T_ref01_R) (a1 : Int) : Option T_ref01_R :=
  cond (iEq a0.Err 0) (some (⟨a0.S, (a0.S.size : Int), a1⟩ : T_ref01_R)) (some a0)
def ref01_Byte (a0 : T_ref01_R) : Option (Int × T_ref01_R) :=
  cond (iLe (a0.S.size : Int) a0.At) ((ref01_Fail a0 3).bind fun (x2 : T_ref01_R) => some (0, x2)) (need (nIn a0.At (a0.S.size : Int)) (some (IntKind.i64.wrap (byteAt a0.S a0.At.toNat), (⟨a0.S, IntKind.i64.wrap (a0.At + 1), a0.Err⟩ : T_ref01_R))))
def ref01_Number_l2 : Nat → (Int × Int × Int × ByteArray × Int × Int) → Option (Int × T_ref01_R)
  | 0, _ => none
  | k2 + 1, s1 => cond (iLt s1.2.2.1 10) ((ref01_Byte (⟨s1.2.2.2.1, s1.2.2.2.2.1, s1.2.2.2.2.2⟩ : T_ref01_R)).bind fun (x4 : Int × T_ref01_R) => cond (iNe x4.2.Err 0) (some (0, x4.2)) (cond (((iEq s1.2.2.1 9) && (iLt 1 x4.1)) || ((iLt 0 s1.2.2.1) && (iEq x4.1 0))) ((ref01_Fail x4.2 2).bind fun (x7 : T_ref01_R) => some (0, x7)) (cond (iLt x4.1 128) (some (IntKind.u64.wrap (s1.1 + (IntKind.u64.wrap ((IntKind.u64.wrap (Int.tmod x4.1 128)) * s1.2.1))), x4.2)) (ref01_Number_l2 k2 (IntKind.u64.wrap (s1.1 + (IntKind.u64.wrap ((IntKind.u64.wrap (Int.tmod x4.1 128)) * s1.2.1))), IntKind.u64.wrap (s1.2.1 * 128), IntKind.i64.wrap (s1.2.2.1 + 1), x4.2.S, x4.2.At, x4.2.Err))))) (some (s1.1, (⟨s1.2.2.2.1, s1.2.2.2.2.1, s1.2.2.2.2.2⟩ : T_ref01_R)))
def ref01_Number (a0 : T_ref01_R) : Option (Int × T_ref01_R) :=
  ref01_Number_l2 fuel (0, 1, 0, a0.S, a0.At, a0.Err)
def ref01_Signed (a0 : T_ref01_R) : Option (Int × T_ref01_R) :=
  (ref01_Number a0).bind fun (x1 : Int × T_ref01_R) => cond (iEq (Int.tmod x1.1 2) 0) (some (IntKind.i64.wrap (IntKind.u64.wrap (Int.tdiv x1.1 2)), x1.2)) (some (IntKind.i64.wrap ((IntKind.i64.wrap (0 - (IntKind.i64.wrap (IntKind.u64.wrap (Int.tdiv x1.1 2))))) - 1), x1.2))
def ref07_Read_l7 (x1 : Int × T_ref01_R) (x5 : ByteArray) : Nat → (Int × ByteArray × Int × Int × (List Int)) → Option (T_api_Ins × T_ref01_R × Int)
  | 0, _ => none
  | k7 + 1, s6 => cond (iLt s6.1 (x5.size : Int)) (need (nIn s6.1 (x5.size : Int)) (cond (iEq (byteAt x5 s6.1.toNat) 110) ((ref01_Signed (⟨s6.2.1, s6.2.2.1, s6.2.2.2.1⟩ : T_ref01_R)).bind fun (x11 : Int × T_ref01_R) => need (nIn s6.1 (s6.2.2.2.2.length : Int)) (cond (iNe x11.2.Err 0) (some ((⟨0, 0, 0⟩ : T_api_Ins), x11.2, x11.2.Err)) (ref07_Read_l7 x1 x5 k7 (IntKind.i64.wrap (s6.1 + 1), x11.2.S, x11.2.At, x11.2.Err, s6.2.2.2.2.set s6.1.toNat x11.1)))) ((ref01_Number (⟨s6.2.1, s6.2.2.1, s6.2.2.2.1⟩ : T_ref01_R)).bind fun (x14 : Int × T_ref01_R) => need (nIn s6.1 (s6.2.2.2.2.length : Int)) (cond (iNe x14.2.Err 0) (some ((⟨0, 0, 0⟩ : T_api_Ins), x14.2, x14.2.Err)) (ref07_Read_l7 x1 x5 k7 (IntKind.i64.wrap (s6.1 + 1), x14.2.S, x14.2.At, x14.2.Err, s6.2.2.2.2.set s6.1.toNat (IntKind.i64.wrap (iMin x14.1 (2147483648 : Int))))))))) (need (nIn (0 : Int) (s6.2.2.2.2.length : Int)) (need (nIn (1 : Int) (s6.2.2.2.2.length : Int)) ((ref07_Check (⟨x1.1, (s6.2.2.2.2.getD (0 : Int).toNat default), (s6.2.2.2.2.getD (1 : Int).toNat default)⟩ : T_api_Ins)).bind fun (x17 : Int) => cond (iNe x17 0) (some ((⟨0, 0, 0⟩ : T_api_Ins), (⟨s6.2.1, s6.2.2.1, s6.2.2.2.1⟩ : T_ref01_R), x17)) (some ((⟨x1.1, (s6.2.2.2.2.getD (0 : Int).toNat default), (s6.2.2.2.2.getD (1 : Int).toNat default)⟩ : T_api_Ins), (⟨s6.2.1, s6.2.2.1, s6.2.2.2.1⟩ : T_ref01_R), 0)))))
def ref07_Read (a0 : T_ref01_R) : Option (T_api_Ins × T_ref01_R × Int) :=
  (ref01_Byte a0).bind fun (x1 : Int × T_ref01_R) => cond (iNe x1.2.Err 0) (some ((⟨0, 0, 0⟩ : T_api_Ins), x1.2, x1.2.Err)) ((ref06_Known x1.1).bind fun (x3 : Bool) => cond (!x3) (some ((⟨0, 0, 0⟩ : T_api_Ins), x1.2, 6)) ((ref06_Form x1.1).bind fun (x5 : ByteArray) => ref07_Read_l7 x1 x5 fuel (0, x1.2.S, x1.2.At, x1.2.Err, ([0, 0] : List Int))))
def ref07_Get (a0 : ByteArray) : Option (T_api_Ins × Int × Int) :=
  (ref07_Read (⟨a0, 0, 0⟩ : T_ref01_R)).bind fun (x1 : T_api_Ins × T_ref01_R × Int) => cond (iNe x1.2.2 0) (some ((⟨0, 0, 0⟩ : T_api_Ins), 0, x1.2.2)) (some (x1.1, x1.2.1.At, 0))
def law07_InsGets (a0 : ByteArray) : Option Bool :=
  (ins_Get a0).bind fun (x1 : T_api_Ins × Int × Int) => (ref07_Get a0).bind fun (x2 : T_api_Ins × Int × Int) => (cond ((((iEq x1.1.Op x2.1.Op) && ((iEq x1.1.A x2.1.A) && ((iEq x1.1.B x2.1.B) && true))) && (iEq x1.2.1 x2.2.1)) && (iEq x1.2.2 x2.2.2)) (law07_lives) (some default)).bind fun (x3 : Bool) => some (((((iEq x1.1.Op x2.1.Op) && ((iEq x1.1.A x2.1.A) && ((iEq x1.1.B x2.1.B) && true))) && (iEq x1.2.1 x2.2.1)) && (iEq x1.2.2 x2.2.2)) && x3)
def law07_InsBack (a0 : T_api_Ins) (a1 : ByteArray) : Option Bool :=
  (ref07_Check a0).bind fun (x1 : Int) => cond (iNe x1 0) ((law07_lives).bind fun (x3 : Bool) => some x3) ((ins_Put a0).bind fun (x4 : ByteArray × Int) => need (nStr (x4.1.size + a1.size)) ((ins_Get (x4.1 ++ a1)).bind fun (x6 : T_api_Ins × Int × Int) => cond ((iEq x4.2 0) && (iEq x6.2.2 0)) ((cond (((iEq x6.1.Op a0.Op) && ((iEq x6.1.A a0.A) && ((iEq x6.1.B a0.B) && true))) && (iEq x6.2.1 (x4.1.size : Int))) (law07_lives) (some default)).bind fun (x8 : Bool) => some ((((iEq x6.1.Op a0.Op) && ((iEq x6.1.A a0.A) && ((iEq x6.1.B a0.B) && true))) && (iEq x6.2.1 (x4.1.size : Int))) && x8)) (some false)))
def law07_InsOnce (a0 : ByteArray) : Option Bool :=
  (ins_Get a0).bind fun (x1 : T_api_Ins × Int × Int) => cond (iNe x1.2.2 0) ((cond (((iEq x1.1.Op 0) && ((iEq x1.1.A 0) && ((iEq x1.1.B 0) && true))) && (iEq x1.2.1 0)) (law07_lives) (some default)).bind fun (x3 : Bool) => some ((((iEq x1.1.Op 0) && ((iEq x1.1.A 0) && ((iEq x1.1.B 0) && true))) && (iEq x1.2.1 0)) && x3)) ((ins_Put x1.1).bind fun (x4 : ByteArray × Int) => need (!(((iEq x4.2 0) && (iLt 0 x1.2.1)) && (iLe x1.2.1 (a0.size : Int))) || nTo x1.2.1 (a0.size : Int)) ((cond ((((iEq x4.2 0) && (iLt 0 x1.2.1)) && (iLe x1.2.1 (a0.size : Int))) && (sEq x4.1 (a0.extract 0 x1.2.1.toNat))) (law07_lives) (some default)).bind fun (x6 : Bool) => some (((((iEq x4.2 0) && (iLt 0 x1.2.1)) && (iLe x1.2.1 (a0.size : Int))) && (sEq x4.1 (a0.extract 0 x1.2.1.toNat))) && x6)))
end LJ
