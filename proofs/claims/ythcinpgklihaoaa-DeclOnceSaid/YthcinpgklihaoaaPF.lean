/- Plain functions that compute what the Go functions of this seat compute. -/
import Derived.Test.YthcinpgklihaoaaXEq
import Derived.Test.YthcinpgklihaoaaXArr
namespace LJ
open Go
set_option linter.unusedVariables false
structure T_api_Decl where
  Kind : Int
  A : Int
  B : Int
  deriving Inhabited, DecidableEq
def enc_api_Decl (x : T_api_Decl) : List DV := [.int .i64 x.Kind, .int .i64 x.A, .int .i64 x.B]
def enc_i64 (x : Int) : List DV := [.int .i64 x]
def enc_sl_i64 (x : List Int) : List DV := [slT enc_i64 x]
structure T_octet_Out where
  b : ByteArray
  deriving Inhabited, DecidableEq
structure T_octet_In where
  s : ByteArray
  at_ : Int
  err : Int
  deriving Inhabited, DecidableEq
structure T_ref01_R where
  S : ByteArray
  At : Int
  Err : Int
  deriving Inhabited, DecidableEq

def decl_units (a0 : Int) (a1 : Int) : Option Bool :=
  some ((iLe a1 a0) && (iLe a0 1000))
def word_Fits (a0 : Int) : Option Bool :=
  some (iEq (IntKind.i64.wrap (IntKind.i32.wrap a0)) a0)
def decl_Fits (a0 : List T_api_Decl) (a1 : Int) (a2 : Int) : Option Bool :=
  cond ((iLt a2 0) || (iLe (a0.length : Int) a2)) (some false) (need (nIn a2 (a0.length : Int)) (cond (iEq a1 117) (some ((iEq ((a0.getD a2.toNat default).Kind) 1) || (iEq ((a0.getD a2.toNat default).Kind) 2))) (cond (iEq a1 115) (some (iEq ((a0.getD a2.toNat default).Kind) 3)) (cond (iEq a1 112) (some (iEq ((a0.getD a2.toNat default).Kind) 6)) (cond (iEq a1 99) (some (iEq ((a0.getD a2.toNat default).Kind) 4)) (cond (iEq a1 109) (some (iEq ((a0.getD a2.toNat default).Kind) 1)) (cond (iEq a1 98) (some (iEq ((a0.getD a2.toNat default).Kind) 5)) (cond (iEq a1 118) (some (iEq ((a0.getD a2.toNat default).Kind) 7)) (cond (iEq a1 113) (some ((iEq ((a0.getD a2.toNat default).Kind) 1) || (iEq ((a0.getD a2.toNat default).Kind) 6))) (some false))))))))))
def decl_one (a0 : List T_api_Decl) (a1 : T_api_Decl) : Option Int :=
  cond (iEq a1.Kind 3) ((decl_units a1.B 1).bind fun (x2 : Bool) => cond (!((x2 && (iLe 0 a1.A)) && (iLe a1.A a1.B))) (some 1) (some 0)) (cond (iEq a1.Kind 6) ((decl_units a1.A 1).bind fun (x5 : Bool) => cond (!x5) (some 1) (cond (!(iEq a1.B 0)) (some 2) (some 0))) (cond (iEq a1.Kind 7) ((word_Fits a1.A).bind fun (x9 : Bool) => (cond x9 (decl_Fits a0 117 a1.B) (some default)).bind fun (x10 : Bool) => cond (!(x9 && x10)) (some 1) (some 0)) (cond (iEq a1.Kind 1) (cond (!((iEq a1.A 0) && (iEq a1.B 0))) (some 2) (some 0)) (cond (iEq a1.Kind 2) (cond (!((iEq a1.A 0) && (iEq a1.B 0))) (some 2) (some 0)) (cond (iEq a1.Kind 4) (cond (!((iEq a1.A 0) && (iEq a1.B 0))) (some 2) (some 0)) (cond (iEq a1.Kind 5) (cond (!((iEq a1.A 0) && (iEq a1.B 0))) (some 2) (some 0)) (some 6)))))))
def decl_Check_l3 (a0 : List T_api_Decl) : Nat → Int → Option (Int × Int)
  | 0, _ => none
  | k3 + 1, s2 => cond (iLt s2 (a0.length : Int)) (need (nIn s2 (a0.length : Int)) ((decl_one a0 (a0.getD s2.toNat default)).bind fun (x6 : Int) => cond (iNe x6 0) (some (s2, x6)) (decl_Check_l3 a0 k3 (IntKind.i64.wrap (s2 + 1))))) (some (0, 0))
def decl_Check (a0 : List T_api_Decl) : Option (Int × Int) :=
  cond (iLt 32 (a0.length : Int)) (some (0, 4)) (decl_Check_l3 a0 fuel 0)
def ref03_Fits (a0 : Int) : Option Bool :=
  some ((iLe (-2147483648) a0) && (iLt a0 2147483648))
def ref08_kinds_l2 (a0 : Int) : Nat → Int → Option (List Int)
  | 0, _ => none
  | k2 + 1, s1 => cond (iLt s1 ((⟨#[117, 115, 112, 99, 109, 98, 118, 113]⟩ : ByteArray).size : Int)) (need (nIn s1 ((⟨#[117, 115, 112, 99, 109, 98, 118, 113]⟩ : ByteArray).size : Int)) (cond (iEq (byteAt (⟨#[117, 115, 112, 99, 109, 98, 118, 113]⟩ : ByteArray) s1.toNat) a0) (need (nIn s1 (([([1, 2] : List Int), ([3] : List Int), ([6] : List Int), ([4] : List Int), ([1] : List Int), ([5] : List Int), ([7] : List Int), ([1, 6] : List Int)] : List (List Int)).length : Int)) (some (([([1, 2] : List Int), ([3] : List Int), ([6] : List Int), ([4] : List Int), ([1] : List Int), ([5] : List Int), ([7] : List Int), ([1, 6] : List Int)] : List (List Int)).getD s1.toNat default))) (ref08_kinds_l2 a0 k2 (IntKind.i64.wrap (s1 + 1))))) (some [])
def ref08_kinds (a0 : Int) : Option (List Int) :=
  ref08_kinds_l2 a0 fuel 0
def ref08_Fits_l3 (a0 : List T_api_Decl) (a2 : Int) (x1 : List Int) : Nat → Int → Option Bool
  | 0, _ => none
  | k3 + 1, s2 => cond (((iLt s2 (x1.length : Int)) && (iLe 0 a2)) && (iLt a2 (a0.length : Int))) (need (nIn a2 (a0.length : Int)) (need (nIn s2 (x1.length : Int)) (cond (iEq ((a0.getD a2.toNat default).Kind) (x1.getD s2.toNat default)) (some true) (ref08_Fits_l3 a0 a2 x1 k3 (IntKind.i64.wrap (s2 + 1)))))) (some false)
def ref08_Fits (a0 : List T_api_Decl) (a1 : Int) (a2 : Int) : Option Bool :=
  (ref08_kinds a1).bind fun (x1 : List Int) => ref08_Fits_l3 a0 a2 x1 fuel 0
def ref08_one (a0 : List T_api_Decl) (a1 : T_api_Decl) : Option Int :=
  cond ((iLt a1.Kind 1) || (iLt 7 a1.Kind)) (some 6) (cond ((iEq a1.Kind 3) && ((((iLt a1.B 1) || (iLt 1000 a1.B)) || (iLt a1.A 0)) || (iLt a1.B a1.A))) (some 1) (cond ((iEq a1.Kind 6) && ((iLt a1.A 1) || (iLt 1000 a1.A))) (some 1) ((cond (iEq a1.Kind 7) (ref03_Fits a1.A) (some default)).bind fun (x4 : Bool) => (cond ((iEq a1.Kind 7) && !(!x4)) (ref08_Fits a0 117 a1.B) (some default)).bind fun (x5 : Bool) => cond ((iEq a1.Kind 7) && ((!x4) || (!x5))) (some 1) (cond ((((iNe a1.Kind 3) && (iNe a1.Kind 7)) && (iNe a1.B 0)) || ((((iNe a1.Kind 3) && (iNe a1.Kind 6)) && (iNe a1.Kind 7)) && (iNe a1.A 0))) (some 2) (some 0)))))
def ref08_Check_l3 (a0 : List T_api_Decl) : Nat → Int → Option (Int × Int)
  | 0, _ => none
  | k3 + 1, s2 => cond (iLt s2 (a0.length : Int)) (need (nIn s2 (a0.length : Int)) ((ref08_one a0 (a0.getD s2.toNat default)).bind fun (x6 : Int) => cond (iNe x6 0) (some (s2, x6)) (ref08_Check_l3 a0 k3 (IntKind.i64.wrap (s2 + 1))))) (some (0, 0))
def ref08_Check (a0 : List T_api_Decl) : Option (Int × Int) :=
  cond (iLt 32 (a0.length : Int)) (some (0, 4)) (ref08_Check_l3 a0 fuel 0)
def octet_Out_Num_l4 (K1 : (Int × ByteArray) → Option T_octet_Out) : Nat → (Int × ByteArray) → Option T_octet_Out
  | 0, _ => none
  | k4 + 1, s3 => cond (iLt 127 s3.1) (need (nCap (s3.2.size + 1)) (need (nIn (Go.bits .or .u8 (IntKind.u8.wrap s3.1) 128) 256) (octet_Out_Num_l4 K1 k4 (s3.1 / 2 ^ min (7 : Int).toNat IntKind.u64.bits, s3.2.push (UInt8.ofNat (Go.bits .or .u8 (IntKind.u8.wrap s3.1) 128).toNat))))) (K1 (s3.1, s3.2))
def octet_Out_Num (a0 : T_octet_Out) (a1 : Int) : Option T_octet_Out :=
  withK (fun s2 : Int × ByteArray => need (nCap (s2.2.size + 1)) (need (nIn (IntKind.u8.wrap s2.1) 256) (some (⟨s2.2.push (UInt8.ofNat (IntKind.u8.wrap s2.1).toNat)⟩ : T_octet_Out)))) fun K1 => octet_Out_Num_l4 K1 fuel (a1, a0.b)
def octet_Out_Byte (a0 : T_octet_Out) (a1 : Int) : Option T_octet_Out :=
  need (nCap (a0.b.size + 1)) (need (nIn (IntKind.u8.wrap a1) 256) (some (⟨a0.b.push (UInt8.ofNat (IntKind.u8.wrap a1).toNat)⟩ : T_octet_Out)))
def octet_Out_Int (a0 : T_octet_Out) (a1 : Int) : Option T_octet_Out :=
  (octet_Out_Num a0 (Go.bits .xor .u64 (IntKind.u64.wrap ((IntKind.u64.wrap a1) * 2 ^ min (1 : Int).toNat IntKind.u64.bits)) (IntKind.u64.wrap (a1 / 2 ^ min (63 : Int).toNat IntKind.i64.bits)))).bind fun (x1 : T_octet_Out) => some x1
def octet_Out_Done (a0 : T_octet_Out) : Option ByteArray :=
  some a0.b
def decl_Put_l5 (a0 : List T_api_Decl) : Nat → (Int × ByteArray) → Option (ByteArray × Int)
  | 0, _ => none
  | k5 + 1, s4 => cond (iLt s4.1 (a0.length : Int)) (need (nIn s4.1 (a0.length : Int)) ((octet_Out_Byte (⟨s4.2⟩ : T_octet_Out) ((a0.getD s4.1.toNat default).Kind)).bind fun (x8 : T_octet_Out) => cond (iEq ((a0.getD s4.1.toNat default).Kind) 3) ((octet_Out_Num x8 (IntKind.u64.wrap ((a0.getD s4.1.toNat default).A))).bind fun (x10 : T_octet_Out) => (octet_Out_Num x10 (IntKind.u64.wrap ((a0.getD s4.1.toNat default).B))).bind fun (x11 : T_octet_Out) => decl_Put_l5 a0 k5 (IntKind.i64.wrap (s4.1 + 1), x11.b)) (cond (iEq ((a0.getD s4.1.toNat default).Kind) 6) ((octet_Out_Num x8 (IntKind.u64.wrap ((a0.getD s4.1.toNat default).A))).bind fun (x13 : T_octet_Out) => decl_Put_l5 a0 k5 (IntKind.i64.wrap (s4.1 + 1), x13.b)) (cond (iEq ((a0.getD s4.1.toNat default).Kind) 7) ((octet_Out_Int x8 ((a0.getD s4.1.toNat default).A)).bind fun (x15 : T_octet_Out) => (octet_Out_Num x15 (IntKind.u64.wrap ((a0.getD s4.1.toNat default).B))).bind fun (x16 : T_octet_Out) => decl_Put_l5 a0 k5 (IntKind.i64.wrap (s4.1 + 1), x16.b)) (decl_Put_l5 a0 k5 (IntKind.i64.wrap (s4.1 + 1), x8.b)))))) ((octet_Out_Done (⟨s4.2⟩ : T_octet_Out)).bind fun (x17 : ByteArray) => some (x17, 0))
def decl_Put (a0 : List T_api_Decl) : Option (ByteArray × Int) :=
  (decl_Check a0).bind fun (x1 : Int × Int) => cond (iNe x1.2 0) (some (ByteArray.empty, x1.2)) ((octet_Out_Num (⟨ByteArray.empty⟩ : T_octet_Out) (IntKind.u64.wrap (a0.length : Int))).bind fun (x3 : T_octet_Out) => decl_Put_l5 a0 fuel (0, x3.b))
def ref01_Num_l2 : Nat → (Int × ByteArray) → Option ByteArray
  | 0, _ => none
  | k2 + 1, s1 => cond (iLe 128 s1.1) (need (nIn (IntKind.u8.wrap (IntKind.u64.wrap ((Int.tmod s1.1 128) + 128))) 256) (need (nStr (s1.2.size + (ByteArray.empty.push (UInt8.ofNat (IntKind.u8.wrap (IntKind.u64.wrap ((Int.tmod s1.1 128) + 128))).toNat)).size)) (ref01_Num_l2 k2 (IntKind.u64.wrap (Int.tdiv s1.1 128), s1.2 ++ (ByteArray.empty.push (UInt8.ofNat (IntKind.u8.wrap (IntKind.u64.wrap ((Int.tmod s1.1 128) + 128))).toNat)))))) (need (nIn (IntKind.u8.wrap s1.1) 256) (need (nStr (s1.2.size + (ByteArray.empty.push (UInt8.ofNat (IntKind.u8.wrap s1.1).toNat)).size)) (some (s1.2 ++ (ByteArray.empty.push (UInt8.ofNat (IntKind.u8.wrap s1.1).toNat))))))
def ref01_Num (a0 : Int) : Option ByteArray :=
  ref01_Num_l2 fuel (a0, ByteArray.empty)
def ref01_Int (a0 : Int) : Option ByteArray :=
  cond (iLe 0 a0) ((ref01_Num (IntKind.u64.wrap ((2 : Int) * (IntKind.u64.wrap a0)))).bind fun (x2 : ByteArray) => some x2) ((ref01_Num (IntKind.u64.wrap ((IntKind.u64.wrap ((2 : Int) * (IntKind.u64.wrap (IntKind.i64.wrap (0 - (IntKind.i64.wrap (a0 + 1))))))) + 1))).bind fun (x3 : ByteArray) => some x3)
def ref08_Put_l3 (a0 : List T_api_Decl) : Nat → (ByteArray × Int) → Option ByteArray
  | 0, _ => none
  | k3 + 1, s2 => cond (iLt s2.2 (a0.length : Int)) (withK (fun s6 : ByteArray => ref08_Put_l3 a0 k3 (s6, IntKind.i64.wrap (s2.2 + 1))) fun K5 => need (nIn s2.2 (a0.length : Int)) (need (nIn (IntKind.u8.wrap ((a0.getD s2.2.toNat default).Kind)) 256) (need (nStr (s2.1.size + (ByteArray.empty.push (UInt8.ofNat (IntKind.u8.wrap ((a0.getD s2.2.toNat default).Kind)).toNat)).size)) (cond ((iEq ((a0.getD s2.2.toNat default).Kind) 3) || (iEq ((a0.getD s2.2.toNat default).Kind) 6)) ((ref01_Num (IntKind.u64.wrap ((a0.getD s2.2.toNat default).A))).bind fun (x11 : ByteArray) => need (nStr ((s2.1 ++ (ByteArray.empty.push (UInt8.ofNat (IntKind.u8.wrap ((a0.getD s2.2.toNat default).Kind)).toNat))).size + x11.size)) (cond (iEq ((a0.getD s2.2.toNat default).Kind) 7) ((ref01_Int ((a0.getD s2.2.toNat default).A)).bind fun (x14 : ByteArray) => need (nStr (((s2.1 ++ (ByteArray.empty.push (UInt8.ofNat (IntKind.u8.wrap ((a0.getD s2.2.toNat default).Kind)).toNat))) ++ x11).size + x14.size)) (cond ((iEq ((a0.getD s2.2.toNat default).Kind) 3) || (iEq ((a0.getD s2.2.toNat default).Kind) 7)) ((ref01_Num (IntKind.u64.wrap ((a0.getD s2.2.toNat default).B))).bind fun (x17 : ByteArray) => need (nStr ((((s2.1 ++ (ByteArray.empty.push (UInt8.ofNat (IntKind.u8.wrap ((a0.getD s2.2.toNat default).Kind)).toNat))) ++ x11) ++ x14).size + x17.size)) (K5 ((((s2.1 ++ (ByteArray.empty.push (UInt8.ofNat (IntKind.u8.wrap ((a0.getD s2.2.toNat default).Kind)).toNat))) ++ x11) ++ x14) ++ x17))) (K5 (((s2.1 ++ (ByteArray.empty.push (UInt8.ofNat (IntKind.u8.wrap ((a0.getD s2.2.toNat default).Kind)).toNat))) ++ x11) ++ x14)))) (cond ((iEq ((a0.getD s2.2.toNat default).Kind) 3) || (iEq ((a0.getD s2.2.toNat default).Kind) 7)) ((ref01_Num (IntKind.u64.wrap ((a0.getD s2.2.toNat default).B))).bind fun (x20 : ByteArray) => need (nStr (((s2.1 ++ (ByteArray.empty.push (UInt8.ofNat (IntKind.u8.wrap ((a0.getD s2.2.toNat default).Kind)).toNat))) ++ x11).size + x20.size)) (K5 (((s2.1 ++ (ByteArray.empty.push (UInt8.ofNat (IntKind.u8.wrap ((a0.getD s2.2.toNat default).Kind)).toNat))) ++ x11) ++ x20))) (K5 ((s2.1 ++ (ByteArray.empty.push (UInt8.ofNat (IntKind.u8.wrap ((a0.getD s2.2.toNat default).Kind)).toNat))) ++ x11))))) (cond (iEq ((a0.getD s2.2.toNat default).Kind) 7) ((ref01_Int ((a0.getD s2.2.toNat default).A)).bind fun (x23 : ByteArray) => need (nStr ((s2.1 ++ (ByteArray.empty.push (UInt8.ofNat (IntKind.u8.wrap ((a0.getD s2.2.toNat default).Kind)).toNat))).size + x23.size)) (cond ((iEq ((a0.getD s2.2.toNat default).Kind) 3) || (iEq ((a0.getD s2.2.toNat default).Kind) 7)) ((ref01_Num (IntKind.u64.wrap ((a0.getD s2.2.toNat default).B))).bind fun (x26 : ByteArray) => need (nStr (((s2.1 ++ (ByteArray.empty.push (UInt8.ofNat (IntKind.u8.wrap ((a0.getD s2.2.toNat default).Kind)).toNat))) ++ x23).size + x26.size)) (K5 (((s2.1 ++ (ByteArray.empty.push (UInt8.ofNat (IntKind.u8.wrap ((a0.getD s2.2.toNat default).Kind)).toNat))) ++ x23) ++ x26))) (K5 ((s2.1 ++ (ByteArray.empty.push (UInt8.ofNat (IntKind.u8.wrap ((a0.getD s2.2.toNat default).Kind)).toNat))) ++ x23)))) (cond ((iEq ((a0.getD s2.2.toNat default).Kind) 3) || (iEq ((a0.getD s2.2.toNat default).Kind) 7)) ((ref01_Num (IntKind.u64.wrap ((a0.getD s2.2.toNat default).B))).bind fun (x29 : ByteArray) => need (nStr ((s2.1 ++ (ByteArray.empty.push (UInt8.ofNat (IntKind.u8.wrap ((a0.getD s2.2.toNat default).Kind)).toNat))).size + x29.size)) (K5 ((s2.1 ++ (ByteArray.empty.push (UInt8.ofNat (IntKind.u8.wrap ((a0.getD s2.2.toNat default).Kind)).toNat))) ++ x29))) (K5 (s2.1 ++ (ByteArray.empty.push (UInt8.ofNat (IntKind.u8.wrap ((a0.getD s2.2.toNat default).Kind)).toNat)))))))))) (some s2.1)
def ref08_Put (a0 : List T_api_Decl) : Option ByteArray :=
  (ref01_Num (IntKind.u64.wrap (a0.length : Int))).bind fun (x1 : ByteArray) => ref08_Put_l3 a0 fuel (x1, 0)
def octet_Open (a0 : ByteArray) : Option T_octet_In :=
  some (⟨a0, 0, 0⟩ : T_octet_In)
def octet_In_fail (a0 : T_octet_In) (a1 : Int) : Option T_octet_In :=
  cond (iEq a0.err 0) (some (⟨a0.s, (a0.s.size : Int), a1⟩ : T_octet_In)) (some a0)
def octet_In_Byte (a0 : T_octet_In) : Option (Int × T_octet_In) :=
  cond (iLe (a0.s.size : Int) a0.at_) ((octet_In_fail a0 3).bind fun (x2 : T_octet_In) => some (0, x2)) (need (nIn (IntKind.i64.wrap ((IntKind.i64.wrap (a0.at_ + 1)) - 1)) (a0.s.size : Int)) (some (IntKind.i64.wrap (byteAt a0.s (IntKind.i64.wrap ((IntKind.i64.wrap (a0.at_ + 1)) - 1)).toNat), (⟨a0.s, IntKind.i64.wrap (a0.at_ + 1), a0.err⟩ : T_octet_In))))
def octet_In_Num_l2 : Nat → (Int × Int × ByteArray × Int × Int) → Option (Int × T_octet_In)
  | 0, _ => none
  | k2 + 1, s1 => cond (iLt s1.2.1 10) ((octet_In_Byte (⟨s1.2.2.1, s1.2.2.2.1, s1.2.2.2.2⟩ : T_octet_In)).bind fun (x4 : Int × T_octet_In) => cond (iNe x4.2.err 0) (some (0, x4.2)) (cond (((iEq s1.2.1 9) && (iLt 1 x4.1)) || ((iLt 0 s1.2.1) && (iEq x4.1 0))) ((octet_In_fail x4.2 2).bind fun (x7 : T_octet_In) => some (0, x7)) (need (nNn (IntKind.i64.wrap ((7 : Int) * s1.2.1))) (cond (iLt x4.1 128) (some (Go.bits .or .u64 s1.1 (IntKind.u64.wrap ((IntKind.u64.wrap (Go.bits .and .i64 x4.1 127)) * 2 ^ min (IntKind.i64.wrap ((7 : Int) * s1.2.1) : Int).toNat IntKind.u64.bits)), x4.2)) (octet_In_Num_l2 k2 (Go.bits .or .u64 s1.1 (IntKind.u64.wrap ((IntKind.u64.wrap (Go.bits .and .i64 x4.1 127)) * 2 ^ min (IntKind.i64.wrap ((7 : Int) * s1.2.1) : Int).toNat IntKind.u64.bits)), IntKind.i64.wrap (s1.2.1 + 1), x4.2.s, x4.2.at_, x4.2.err)))))) (some (s1.1, (⟨s1.2.2.1, s1.2.2.2.1, s1.2.2.2.2⟩ : T_octet_In)))
def octet_In_Num (a0 : T_octet_In) : Option (Int × T_octet_In) :=
  octet_In_Num_l2 fuel (0, 0, a0.s, a0.at_, a0.err)
def octet_In_Err (a0 : T_octet_In) : Option Int :=
  some a0.err
def decl_Name (a0 : Int) : Option ByteArray :=
  cond (iEq a0 1) (some (⟨#[109, 117, 116, 101, 120]⟩ : ByteArray)) (cond (iEq a0 2) (some (⟨#[114, 119]⟩ : ByteArray)) (cond (iEq a0 3) (some (⟨#[115, 101, 109]⟩ : ByteArray)) (cond (iEq a0 4) (some (⟨#[99, 111, 110, 100]⟩ : ByteArray)) (cond (iEq a0 5) (some (⟨#[98, 97, 114]⟩ : ByteArray)) (cond (iEq a0 6) (some (⟨#[112, 111, 111, 108]⟩ : ByteArray)) (cond (iEq a0 7) (some (⟨#[99, 101, 108, 108]⟩ : ByteArray)) (some ByteArray.empty)))))))
def decl_num (a0 : T_octet_In) : Option (Int × T_octet_In) :=
  (octet_In_Num a0).bind fun (x1 : Int × T_octet_In) => some (IntKind.i64.wrap (iMin x1.1 (2147483648 : Int)), x1.2)
def octet_In_Int (a0 : T_octet_In) : Option (Int × T_octet_In) :=
  (octet_In_Num a0).bind fun (x1 : Int × T_octet_In) => some (Go.bits .xor .i64 (IntKind.i64.wrap (x1.1 / 2 ^ min (1 : Int).toNat IntKind.u64.bits)) (IntKind.i64.wrap (0 - (IntKind.i64.wrap (Go.bits .and .u64 x1.1 1)))), x1.2)
def decl_read (a0 : T_octet_In) : Option (T_api_Decl × Int × T_octet_In) :=
  (octet_In_Byte a0).bind fun (x1 : Int × T_octet_In) => (octet_In_Err x1.2).bind fun (x2 : Int) => (cond (iEq x2 0) (decl_Name x1.1) (some default)).bind fun (x3 : ByteArray) => cond ((iEq x2 0) && (sEq x3 ByteArray.empty)) (some ((⟨x1.1, 0, 0⟩ : T_api_Decl), 6, x1.2)) (cond (iEq x1.1 3) ((decl_num x1.2).bind fun (x6 : Int × T_octet_In) => (decl_num x6.2).bind fun (x7 : Int × T_octet_In) => (octet_In_Err x7.2).bind fun (x8 : Int) => some ((⟨x1.1, x6.1, x7.1⟩ : T_api_Decl), x8, x7.2)) (cond (iEq x1.1 6) ((decl_num x1.2).bind fun (x10 : Int × T_octet_In) => (octet_In_Err x10.2).bind fun (x11 : Int) => some ((⟨x1.1, x10.1, 0⟩ : T_api_Decl), x11, x10.2)) (cond (iEq x1.1 7) ((octet_In_Int x1.2).bind fun (x13 : Int × T_octet_In) => (decl_num x13.2).bind fun (x14 : Int × T_octet_In) => (octet_In_Err x14.2).bind fun (x15 : Int) => some ((⟨x1.1, x13.1, x14.1⟩ : T_api_Decl), x15, x14.2)) ((octet_In_Err x1.2).bind fun (x16 : Int) => some ((⟨x1.1, 0, 0⟩ : T_api_Decl), x16, x1.2)))))
def octet_In_Left (a0 : T_octet_In) : Option Int :=
  some (IntKind.i64.wrap ((a0.s.size : Int) - a0.at_))
def decl_Get_l8 (a0 : ByteArray) (x2 : Int × T_octet_In) : Nat → (Int × (List T_api_Decl) × ByteArray × Int × Int) → Option ((List T_api_Decl) × Int × Int)
  | 0, _ => none
  | k8 + 1, s7 => cond (iLt s7.1 x2.1) ((decl_read (⟨s7.2.2.1, s7.2.2.2.1, s7.2.2.2.2⟩ : T_octet_In)).bind fun (x10 : T_api_Decl × Int × T_octet_In) => cond (iNe x10.2.1 0) (some ([], 0, x10.2.1)) (need (nCap ((s7.2.1.length + ([x10.1] : List T_api_Decl).length) * 24)) (decl_Get_l8 a0 x2 k8 (IntKind.u64.wrap (s7.1 + 1), s7.2.1 ++ ([x10.1] : List T_api_Decl), x10.2.2.s, x10.2.2.at_, x10.2.2.err)))) ((decl_Check s7.2.1).bind fun (x13 : Int × Int) => cond (iNe x13.2 0) (some ([], 0, x13.2)) ((octet_In_Left (⟨s7.2.2.1, s7.2.2.2.1, s7.2.2.2.2⟩ : T_octet_In)).bind fun (x15 : Int) => some (s7.2.1, IntKind.i64.wrap ((a0.size : Int) - x15), 0)))
def decl_Get (a0 : ByteArray) : Option ((List T_api_Decl) × Int × Int) :=
  (octet_Open a0).bind fun (x1 : T_octet_In) => (octet_In_Num x1).bind fun (x2 : Int × T_octet_In) => (octet_In_Err x2.2).bind fun (x3 : Int) => cond (iNe x3 0) (some ([], 0, x3)) (cond (iLt 32 x2.1) (some ([], 0, 4)) (decl_Get_l8 a0 x2 fuel (0, ([] : List T_api_Decl), x2.2.s, x2.2.at_, x2.2.err)))
def law08_lives : Option Bool :=
  (decl_Put ([(⟨1, 0, 0⟩ : T_api_Decl), (⟨7, 5, 0⟩ : T_api_Decl)] : List T_api_Decl)).bind fun (x1 : ByteArray × Int) => need (nStr (x1.1.size + (⟨#[120]⟩ : ByteArray).size)) ((decl_Get (x1.1 ++ (⟨#[120]⟩ : ByteArray))).bind fun (x3 : (List T_api_Decl) × Int × Int) => (decl_Check ([(⟨9, 0, 0⟩ : T_api_Decl)] : List T_api_Decl)).bind fun (x4 : Int × Int) => (cond ((((((sEq x1.1 (⟨#[2, 1, 7, 10, 0]⟩ : ByteArray)) && (iEq x1.2 0)) && (iEq (x3.1.length : Int) 2)) && (iEq x3.2.1 5)) && (iEq x3.2.2 0)) && (iEq x4.2 6)) (decl_Name 5) (some default)).bind fun (x5 : ByteArray) => some (((((((sEq x1.1 (⟨#[2, 1, 7, 10, 0]⟩ : ByteArray)) && (iEq x1.2 0)) && (iEq (x3.1.length : Int) 2)) && (iEq x3.2.1 5)) && (iEq x3.2.2 0)) && (iEq x4.2 6)) && (sEq x5 (⟨#[98, 97, 114]⟩ : ByteArray))))
def law08_DeclChecks (a0 : List T_api_Decl) : Option Bool :=
  cond (iLt 100 (a0.length : Int)) (need (nSl (0 : Int) (100 : Int) (a0.length : Int)) (need (nCap ((([] : List T_api_Decl).length + ((a0.take (100 : Int).toNat).drop (0 : Int).toNat).length) * 24)) ((decl_Check (([] : List T_api_Decl) ++ ((a0.take (100 : Int).toNat).drop (0 : Int).toNat))).bind fun (x4 : Int × Int) => (ref08_Check ((a0.take (100 : Int).toNat).drop (0 : Int).toNat)).bind fun (x5 : Int × Int) => (decl_Put (([] : List T_api_Decl) ++ ((a0.take (100 : Int).toNat).drop (0 : Int).toNat))).bind fun (x6 : ByteArray × Int) => cond (((iNe x4.1 x5.1) || (iNe x4.2 x5.2)) || (iNe x6.2 x5.2)) (some false) ((cond ((!((iNe x5.2 0) && (sEq x6.1 ByteArray.empty))) && (iEq x5.2 0)) (ref08_Put ((a0.take (100 : Int).toNat).drop (0 : Int).toNat)) (some default)).bind fun (x8 : ByteArray) => (cond (((iNe x5.2 0) && (sEq x6.1 ByteArray.empty)) || ((iEq x5.2 0) && (sEq x6.1 x8))) (law08_lives) (some default)).bind fun (x9 : Bool) => some ((((iNe x5.2 0) && (sEq x6.1 ByteArray.empty)) || ((iEq x5.2 0) && (sEq x6.1 x8))) && x9))))) (need (nCap ((([] : List T_api_Decl).length + a0.length) * 24)) ((decl_Check (([] : List T_api_Decl) ++ a0)).bind fun (x11 : Int × Int) => (ref08_Check a0).bind fun (x12 : Int × Int) => (decl_Put (([] : List T_api_Decl) ++ a0)).bind fun (x13 : ByteArray × Int) => cond (((iNe x11.1 x12.1) || (iNe x11.2 x12.2)) || (iNe x13.2 x12.2)) (some false) ((cond ((!((iNe x12.2 0) && (sEq x13.1 ByteArray.empty))) && (iEq x12.2 0)) (ref08_Put a0) (some default)).bind fun (x15 : ByteArray) => (cond (((iNe x12.2 0) && (sEq x13.1 ByteArray.empty)) || ((iEq x12.2 0) && (sEq x13.1 x15))) (law08_lives) (some default)).bind fun (x16 : Bool) => some ((((iNe x12.2 0) && (sEq x13.1 ByteArray.empty)) || ((iEq x12.2 0) && (sEq x13.1 x15))) && x16))))
def ref01_Fail (a0 : T_ref01_R) (a1 : Int) : Option T_ref01_R :=
  cond (iEq a0.Err 0) (some (⟨a0.S, (a0.S.size : Int), a1⟩ : T_ref01_R)) (some a0)
def ref01_Byte (a0 : T_ref01_R) : Option (Int × T_ref01_R) :=
  cond (iLe (a0.S.size : Int) a0.At) ((ref01_Fail a0 3).bind fun (x2 : T_ref01_R) => some (0, x2)) (need (nIn a0.At (a0.S.size : Int)) (some (IntKind.i64.wrap (byteAt a0.S a0.At.toNat), (⟨a0.S, IntKind.i64.wrap (a0.At + 1), a0.Err⟩ : T_ref01_R))))
def ref01_Number_l2 : Nat → (Int × Int × Int × ByteArray × Int × Int) → Option (Int × T_ref01_R)
  | 0, _ => none
  | k2 + 1, s1 => cond (iLt s1.2.2.1 10) ((ref01_Byte (⟨s1.2.2.2.1, s1.2.2.2.2.1, s1.2.2.2.2.2⟩ : T_ref01_R)).bind fun (x4 : Int × T_ref01_R) => cond (iNe x4.2.Err 0) (some (0, x4.2)) (cond (((iEq s1.2.2.1 9) && (iLt 1 x4.1)) || ((iLt 0 s1.2.2.1) && (iEq x4.1 0))) ((ref01_Fail x4.2 2).bind fun (x7 : T_ref01_R) => some (0, x7)) (cond (iLt x4.1 128) (some (IntKind.u64.wrap (s1.1 + (IntKind.u64.wrap ((IntKind.u64.wrap (Int.tmod x4.1 128)) * s1.2.1))), x4.2)) (ref01_Number_l2 k2 (IntKind.u64.wrap (s1.1 + (IntKind.u64.wrap ((IntKind.u64.wrap (Int.tmod x4.1 128)) * s1.2.1))), IntKind.u64.wrap (s1.2.1 * 128), IntKind.i64.wrap (s1.2.2.1 + 1), x4.2.S, x4.2.At, x4.2.Err))))) (some (s1.1, (⟨s1.2.2.2.1, s1.2.2.2.2.1, s1.2.2.2.2.2⟩ : T_ref01_R)))
def ref01_Number (a0 : T_ref01_R) : Option (Int × T_ref01_R) :=
  ref01_Number_l2 fuel (0, 1, 0, a0.S, a0.At, a0.Err)
def ref08_num (a0 : T_ref01_R) : Option (Int × T_ref01_R) :=
  (ref01_Number a0).bind fun (x1 : Int × T_ref01_R) => some (IntKind.i64.wrap (iMin x1.1 (2147483648 : Int)), x1.2)
def ref01_Signed (a0 : T_ref01_R) : Option (Int × T_ref01_R) :=
  (ref01_Number a0).bind fun (x1 : Int × T_ref01_R) => cond (iEq (Int.tmod x1.1 2) 0) (some (IntKind.i64.wrap (IntKind.u64.wrap (Int.tdiv x1.1 2)), x1.2)) (some (IntKind.i64.wrap ((IntKind.i64.wrap (0 - (IntKind.i64.wrap (IntKind.u64.wrap (Int.tdiv x1.1 2))))) - 1), x1.2))
def ref08_Read_l5 (x1 : Int × T_ref01_R) : Nat → (Int × ByteArray × Int × Int × (List T_api_Decl)) → Option ((List T_api_Decl) × T_ref01_R × Int)
  | 0, _ => none
  | k5 + 1, s4 => cond (iLt s4.1 x1.1) (withK (fun s8 : ByteArray × Int × Int × (List T_api_Decl) => ref08_Read_l5 x1 k5 (IntKind.i64.wrap (s4.1 + 1), s8.1, s8.2.1, s8.2.2.1, s8.2.2.2)) fun K7 => (ref01_Byte (⟨s4.2.1, s4.2.2.1, s4.2.2.2.1⟩ : T_ref01_R)).bind fun (x9 : Int × T_ref01_R) => cond ((iEq x9.2.Err 0) && ((iLt x9.1 1) || (iLt 7 x9.1))) (some ([], x9.2, 6)) (cond ((iEq x9.1 3) || (iEq x9.1 6)) ((ref08_num x9.2).bind fun (x12 : Int × T_ref01_R) => cond (iEq x9.1 7) ((ref01_Signed x12.2).bind fun (x14 : Int × T_ref01_R) => cond ((iEq x9.1 3) || (iEq x9.1 7)) ((ref08_num x14.2).bind fun (x16 : Int × T_ref01_R) => cond (iNe x16.2.Err 0) (some ([], x16.2, x16.2.Err)) (need (nCap ((s4.2.2.2.2.length + ([(⟨x9.1, x14.1, x16.1⟩ : T_api_Decl)] : List T_api_Decl).length) * 24)) (K7 (x16.2.S, x16.2.At, x16.2.Err, s4.2.2.2.2 ++ ([(⟨x9.1, x14.1, x16.1⟩ : T_api_Decl)] : List T_api_Decl))))) (cond (iNe x14.2.Err 0) (some ([], x14.2, x14.2.Err)) (need (nCap ((s4.2.2.2.2.length + ([(⟨x9.1, x14.1, 0⟩ : T_api_Decl)] : List T_api_Decl).length) * 24)) (K7 (x14.2.S, x14.2.At, x14.2.Err, s4.2.2.2.2 ++ ([(⟨x9.1, x14.1, 0⟩ : T_api_Decl)] : List T_api_Decl)))))) (cond ((iEq x9.1 3) || (iEq x9.1 7)) ((ref08_num x12.2).bind fun (x22 : Int × T_ref01_R) => cond (iNe x22.2.Err 0) (some ([], x22.2, x22.2.Err)) (need (nCap ((s4.2.2.2.2.length + ([(⟨x9.1, x12.1, x22.1⟩ : T_api_Decl)] : List T_api_Decl).length) * 24)) (K7 (x22.2.S, x22.2.At, x22.2.Err, s4.2.2.2.2 ++ ([(⟨x9.1, x12.1, x22.1⟩ : T_api_Decl)] : List T_api_Decl))))) (cond (iNe x12.2.Err 0) (some ([], x12.2, x12.2.Err)) (need (nCap ((s4.2.2.2.2.length + ([(⟨x9.1, x12.1, 0⟩ : T_api_Decl)] : List T_api_Decl).length) * 24)) (K7 (x12.2.S, x12.2.At, x12.2.Err, s4.2.2.2.2 ++ ([(⟨x9.1, x12.1, 0⟩ : T_api_Decl)] : List T_api_Decl))))))) (cond (iEq x9.1 7) ((ref01_Signed x9.2).bind fun (x28 : Int × T_ref01_R) => cond ((iEq x9.1 3) || (iEq x9.1 7)) ((ref08_num x28.2).bind fun (x30 : Int × T_ref01_R) => cond (iNe x30.2.Err 0) (some ([], x30.2, x30.2.Err)) (need (nCap ((s4.2.2.2.2.length + ([(⟨x9.1, x28.1, x30.1⟩ : T_api_Decl)] : List T_api_Decl).length) * 24)) (K7 (x30.2.S, x30.2.At, x30.2.Err, s4.2.2.2.2 ++ ([(⟨x9.1, x28.1, x30.1⟩ : T_api_Decl)] : List T_api_Decl))))) (cond (iNe x28.2.Err 0) (some ([], x28.2, x28.2.Err)) (need (nCap ((s4.2.2.2.2.length + ([(⟨x9.1, x28.1, 0⟩ : T_api_Decl)] : List T_api_Decl).length) * 24)) (K7 (x28.2.S, x28.2.At, x28.2.Err, s4.2.2.2.2 ++ ([(⟨x9.1, x28.1, 0⟩ : T_api_Decl)] : List T_api_Decl)))))) (cond ((iEq x9.1 3) || (iEq x9.1 7)) ((ref08_num x9.2).bind fun (x36 : Int × T_ref01_R) => cond (iNe x36.2.Err 0) (some ([], x36.2, x36.2.Err)) (need (nCap ((s4.2.2.2.2.length + ([(⟨x9.1, 0, x36.1⟩ : T_api_Decl)] : List T_api_Decl).length) * 24)) (K7 (x36.2.S, x36.2.At, x36.2.Err, s4.2.2.2.2 ++ ([(⟨x9.1, 0, x36.1⟩ : T_api_Decl)] : List T_api_Decl))))) (cond (iNe x9.2.Err 0) (some ([], x9.2, x9.2.Err)) (need (nCap ((s4.2.2.2.2.length + ([(⟨x9.1, 0, 0⟩ : T_api_Decl)] : List T_api_Decl).length) * 24)) (K7 (x9.2.S, x9.2.At, x9.2.Err, s4.2.2.2.2 ++ ([(⟨x9.1, 0, 0⟩ : T_api_Decl)] : List T_api_Decl))))))))) ((ref08_Check s4.2.2.2.2).bind fun (x41 : Int × Int) => cond (iNe x41.2 0) (some ([], (⟨s4.2.1, s4.2.2.1, s4.2.2.2.1⟩ : T_ref01_R), x41.2)) (some (s4.2.2.2.2, (⟨s4.2.1, s4.2.2.1, s4.2.2.2.1⟩ : T_ref01_R), 0)))
def ref08_Read (a0 : T_ref01_R) : Option ((List T_api_Decl) × T_ref01_R × Int) :=
  (ref08_num a0).bind fun (x1 : Int × T_ref01_R) => cond (iNe x1.2.Err 0) (some ([], x1.2, x1.2.Err)) (cond (iLt 32 x1.1) (some ([], x1.2, 4)) (ref08_Read_l5 x1 fuel (0, x1.2.S, x1.2.At, x1.2.Err, ([] : List T_api_Decl))))
def ref08_Get (a0 : ByteArray) : Option ((List T_api_Decl) × Int × Int) :=
  (ref08_Read (⟨a0, 0, 0⟩ : T_ref01_R)).bind fun (x1 : (List T_api_Decl) × T_ref01_R × Int) => cond (iNe x1.2.2 0) (some ([], 0, x1.2.2)) (some (x1.1, x1.2.1.At, 0))
def law08_Same_l3 (a0 : List T_api_Decl) (a1 : List T_api_Decl) : Nat → Int → Option Bool
  | 0, _ => none
  | k3 + 1, s2 => cond (iLt s2 (a0.length : Int)) (need (nIn s2 (a0.length : Int)) (need (nIn s2 (a1.length : Int)) (cond (!((iEq ((a0.getD s2.toNat default).Kind) ((a1.getD s2.toNat default).Kind)) && ((iEq ((a0.getD s2.toNat default).A) ((a1.getD s2.toNat default).A)) && ((iEq ((a0.getD s2.toNat default).B) ((a1.getD s2.toNat default).B)) && true)))) (some false) (law08_Same_l3 a0 a1 k3 (IntKind.i64.wrap (s2 + 1)))))) (some true)
def law08_Same (a0 : List T_api_Decl) (a1 : List T_api_Decl) : Option Bool :=
  cond (iNe (a0.length : Int) (a1.length : Int)) (some false) (law08_Same_l3 a0 a1 fuel 0)
def law08_DeclGets (a0 : ByteArray) : Option Bool :=
  (decl_Get a0).bind fun (x1 : (List T_api_Decl) × Int × Int) => (ref08_Get a0).bind fun (x2 : (List T_api_Decl) × Int × Int) => (law08_Same x1.1 x2.1).bind fun (x3 : Bool) => (cond ((x3 && (iEq x1.2.1 x2.2.1)) && (iEq x1.2.2 x2.2.2)) (law08_lives) (some default)).bind fun (x4 : Bool) => some (((x3 && (iEq x1.2.1 x2.2.1)) && (iEq x1.2.2 x2.2.2)) && x4)
def law08_DeclBack (a0 : List T_api_Decl) (a1 : ByteArray) : Option Bool :=
  (ref08_Check a0).bind fun (x1 : Int × Int) => cond (iNe x1.2 0) ((law08_lives).bind fun (x3 : Bool) => some x3) (need (nCap ((([] : List T_api_Decl).length + a0.length) * 24)) ((decl_Put (([] : List T_api_Decl) ++ a0)).bind fun (x5 : ByteArray × Int) => need (nStr (x5.1.size + a1.size)) ((decl_Get (x5.1 ++ a1)).bind fun (x7 : (List T_api_Decl) × Int × Int) => (cond ((iEq x5.2 0) && (iEq x7.2.2 0)) (law08_Same a0 x7.1) (some default)).bind fun (x8 : Bool) => (cond ((((iEq x5.2 0) && (iEq x7.2.2 0)) && x8) && (iEq x7.2.1 (x5.1.size : Int))) (law08_lives) (some default)).bind fun (x9 : Bool) => some (((((iEq x5.2 0) && (iEq x7.2.2 0)) && x8) && (iEq x7.2.1 (x5.1.size : Int))) && x9))))
def law08_DeclOnce (a0 : ByteArray) : Option Bool :=
  (decl_Get a0).bind fun (x1 : (List T_api_Decl) × Int × Int) => cond (iNe x1.2.2 0) ((cond ((iEq (x1.1.length : Int) 0) && (iEq x1.2.1 0)) (law08_lives) (some default)).bind fun (x3 : Bool) => some (((iEq (x1.1.length : Int) 0) && (iEq x1.2.1 0)) && x3)) ((decl_Put x1.1).bind fun (x4 : ByteArray × Int) => need (!(((iEq x4.2 0) && (iLt 0 x1.2.1)) && (iLe x1.2.1 (a0.size : Int))) || nTo x1.2.1 (a0.size : Int)) ((cond ((((iEq x4.2 0) && (iLt 0 x1.2.1)) && (iLe x1.2.1 (a0.size : Int))) && (sEq x4.1 (a0.extract 0 x1.2.1.toNat))) (law08_lives) (some default)).bind fun (x6 : Bool) => some (((((iEq x4.2 0) && (iLt 0 x1.2.1)) && (iLe x1.2.1 (a0.size : Int))) && (sEq x4.1 (a0.extract 0 x1.2.1.toNat))) && x6)))
end LJ
