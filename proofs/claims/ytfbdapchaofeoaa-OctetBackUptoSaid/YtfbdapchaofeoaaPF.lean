/- Plain functions that compute what the Go functions of this seat compute. -/
import Derived.Test.YtfbdapchaofeoaaXEq
import Derived.Test.YtfbdapchaofeoaaXArr
namespace LJ
open Go
set_option linter.unusedVariables false
structure T_octet_In where
  s : ByteArray
  at_ : Int
  err : Int
  deriving Inhabited, DecidableEq
structure T_octet_Out where
  b : ByteArray
  deriving Inhabited, DecidableEq
structure T_ref01_Op where
  Kind : Int
  N : Int
  I : Int
  S : ByteArray
  deriving Inhabited, DecidableEq
def enc_ref01_Op (x : T_ref01_Op) : List DV := [.int .i64 x.Kind, .int .u64 x.N, .int .i64 x.I, .str x.S]
structure T_ref01_R where
  S : ByteArray
  At : Int
  Err : Int
  deriving Inhabited, DecidableEq
def enc_i64 (x : Int) : List DV := [.int .i64 x]

def octet_Open (a0 : ByteArray) : Option T_octet_In :=
  some (⟨a0, 0, 0⟩ : T_octet_In)
def octet_In_fail (a0 : T_octet_In) (a1 : Int) : Option T_octet_In :=
  cond (iEq a0.err 0) (some (⟨a0.s, (a0.s.size : Int), a1⟩ : T_octet_In)) (some a0)
def octet_In_Byte (a0 : T_octet_In) : Option (Int × T_octet_In) :=
  cond (iLe (a0.s.size : Int) a0.at_) ((octet_In_fail a0 3).bind fun (x2 : T_octet_In) => some (0, x2)) (need (nIn (IntKind.i64.wrap ((IntKind.i64.wrap (a0.at_ + 1)) - 1)) (a0.s.size : Int)) (some (IntKind.i64.wrap (byteAt a0.s (IntKind.i64.wrap ((IntKind.i64.wrap (a0.at_ + 1)) - 1)).toNat), (⟨a0.s, IntKind.i64.wrap (a0.at_ + 1), a0.err⟩ : T_octet_In))))
def octet_In_Num_l2 : Nat → (Int × Int × ByteArray × Int × Int) → Option (Int × T_octet_In)
  | 0, _ => none
  | k2 + 1, s1 => cond (iLt s1.2.1 10) ((octet_In_Byte (⟨s1.2.2.1, s1.2.2.2.1, s1.2.2.2.2⟩ : T_octet_In)).bind fun (x4 : Int × T_octet_In) => cond (iNe x4.2.err 0) (some (0, x4.2)) (cond (((iEq s1.2.1 9) && (iLt 1 x4.1)) || ((iLt 0 s1.2.1) && (iEq x4.1 0))) ((octet_In_fail x4.2 2).bind fun (x7 : T_octet_In) => some (0, x7)) (need (nNn (IntKind.i64.wrap ((7 : Int) * s1.2.1))) (cond (iLt x4.1 128) (some (Go.bits .or .u64 s1.1 (IntKind.u64.wrap ((IntKind.u64.wrap (Go.bits .and .i64 x4.1 127)) * 2 ^ min (IntKind.i64.wrap ((7 : Int) * s1.2.1) : Int).toNat IntKind.u64.bits)), x4.2)) (octet_In_Num_l2 k2 (Go.bits .or .u64 s1.1 (IntKind.u64.wrap ((IntKind.u64.wrap (Go.bits .and .i64 x4.1 127)) * 2 ^ min (IntKind.i64.wrap ((7 : Int) * s1.2.1) : Int).toNat IntKind.u64.bits)), IntKind.i64.wrap (s1.2.1 + 1), x4.2.s, x4.2.at_, x4.2.err)))))) (some (s1.1, (⟨s1.2.2.1, s1.2.2.2.1, s1.2.2.2.2⟩ : T_octet_In)))
def octet_In_Num (a0 : T_octet_In) : Option (Int × T_octet_In) :=
  octet_In_Num_l2 fuel (0, 0, a0.s, a0.at_, a0.err)
def octet_In_Int (a0 : T_octet_In) : Option (Int × T_octet_In) :=
  (octet_In_Num a0).bind fun (x1 : Int × T_octet_In) => some (Go.bits .xor .i64 (IntKind.i64.wrap (x1.1 / 2 ^ min (1 : Int).toNat IntKind.u64.bits)) (IntKind.i64.wrap (0 - (IntKind.i64.wrap (Go.bits .and .u64 x1.1 1)))), x1.2)
def octet_Out_Num_l4 (K1 : (Int × ByteArray) → Option T_octet_Out) : Nat → (Int × ByteArray) → Option T_octet_Out
  | 0, _ => none
  | k4 + 1, s3 => cond (iLt 127 s3.1) (need (nCap (s3.2.size + 1)) (need (nIn (Go.bits .or .u8 (IntKind.u8.wrap s3.1) 128) 256) (octet_Out_Num_l4 K1 k4 (s3.1 / 2 ^ min (7 : Int).toNat IntKind.u64.bits, s3.2.push (UInt8.ofNat (Go.bits .or .u8 (IntKind.u8.wrap s3.1) 128).toNat))))) (K1 (s3.1, s3.2))
def octet_Out_Num (a0 : T_octet_Out) (a1 : Int) : Option T_octet_Out :=
  withK (fun s2 : Int × ByteArray => need (nCap (s2.2.size + 1)) (need (nIn (IntKind.u8.wrap s2.1) 256) (some (⟨s2.2.push (UInt8.ofNat (IntKind.u8.wrap s2.1).toNat)⟩ : T_octet_Out)))) fun K1 => octet_Out_Num_l4 K1 fuel (a1, a0.b)
def octet_Out_Int (a0 : T_octet_Out) (a1 : Int) : Option T_octet_Out :=
  (octet_Out_Num a0 (Go.bits .xor .u64 (IntKind.u64.wrap ((IntKind.u64.wrap a1) * 2 ^ min (1 : Int).toNat IntKind.u64.bits)) (IntKind.u64.wrap (a1 / 2 ^ min (63 : Int).toNat IntKind.i64.bits)))).bind fun (x1 : T_octet_Out) => some x1
def octet_In_Err (a0 : T_octet_In) : Option Int :=
  some a0.err
def octet_Out_Done (a0 : T_octet_Out) : Option ByteArray :=
  some a0.b
def octet_In_Left (a0 : T_octet_In) : Option Int :=
  some (IntKind.i64.wrap ((a0.s.size : Int) - a0.at_))
def law01_lives : Option Bool :=
  (octet_Out_Num (⟨ByteArray.empty⟩ : T_octet_Out) 300).bind fun (x1 : T_octet_Out) => (octet_Out_Int x1 (-1)).bind fun (x2 : T_octet_Out) => (octet_Out_Done x2).bind fun (x3 : ByteArray) => (octet_Open x3).bind fun (x4 : T_octet_In) => (octet_Out_Done x2).bind fun (x5 : ByteArray) => cond (sEq x5 (⟨#[172, 2, 1]⟩ : ByteArray)) ((octet_In_Num x4).bind fun (x7 : Int × T_octet_In) => cond (iEq x7.1 300) ((octet_In_Int x7.2).bind fun (x9 : Int × T_octet_In) => cond (iEq x9.1 (-1)) ((octet_In_Left x9.2).bind fun (x11 : Int) => cond (iEq x11 0) ((octet_In_Err x9.2).bind fun (x13 : Int) => cond (iEq x13 0) ((octet_In_Byte x9.2).bind fun (x15 : Int × T_octet_In) => cond (iEq x15.1 0) ((octet_In_Err x15.2).bind fun (x17 : Int) => some (iEq x17 3)) (some false)) (some false)) (some false)) (some false)) (some false)) (some false)
def octet_Out_Byte (a0 : T_octet_Out) (a1 : Int) : Option T_octet_Out :=
  need (nCap (a0.b.size + 1)) (need (nIn (IntKind.u8.wrap a1) 256) (some (⟨a0.b.push (UInt8.ofNat (IntKind.u8.wrap a1).toNat)⟩ : T_octet_Out)))
def octet_Out_Text (a0 : T_octet_Out) (a1 : ByteArray) : Option T_octet_Out :=
  (octet_Out_Num a0 (IntKind.u64.wrap (a1.size : Int))).bind fun (x1 : T_octet_Out) => need (nCap (x1.b.size + a1.size)) (some (⟨x1.b ++ a1⟩ : T_octet_Out))
def law01_put (a0 : T_octet_Out) (a1 : T_ref01_Op) : Option T_octet_Out :=
  cond (iEq a1.Kind 0) ((octet_Out_Byte a0 (IntKind.i64.wrap (Int.tmod a1.N 256))).bind fun (x2 : T_octet_Out) => some x2) (cond (iEq a1.Kind 1) ((octet_Out_Num a0 a1.N).bind fun (x4 : T_octet_Out) => some x4) (cond (iEq a1.Kind 2) ((octet_Out_Int a0 a1.I).bind fun (x6 : T_octet_Out) => some x6) ((octet_Out_Text a0 a1.S).bind fun (x7 : T_octet_Out) => some x7)))
def ref01_Num_l2 : Nat → (Int × ByteArray) → Option ByteArray
  | 0, _ => none
  | k2 + 1, s1 => cond (iLe 128 s1.1) (need (nIn (IntKind.u8.wrap (IntKind.u64.wrap ((Int.tmod s1.1 128) + 128))) 256) (need (nStr (s1.2.size + (ByteArray.empty.push (UInt8.ofNat (IntKind.u8.wrap (IntKind.u64.wrap ((Int.tmod s1.1 128) + 128))).toNat)).size)) (ref01_Num_l2 k2 (IntKind.u64.wrap (Int.tdiv s1.1 128), s1.2 ++ (ByteArray.empty.push (UInt8.ofNat (IntKind.u8.wrap (IntKind.u64.wrap ((Int.tmod s1.1 128) + 128))).toNat)))))) (need (nIn (IntKind.u8.wrap s1.1) 256) (need (nStr (s1.2.size + (ByteArray.empty.push (UInt8.ofNat (IntKind.u8.wrap s1.1).toNat)).size)) (some (s1.2 ++ (ByteArray.empty.push (UInt8.ofNat (IntKind.u8.wrap s1.1).toNat))))))
def ref01_Num (a0 : Int) : Option ByteArray :=
  ref01_Num_l2 fuel (a0, ByteArray.empty)
def ref01_Int (a0 : Int) : Option ByteArray :=
  cond (iLe 0 a0) ((ref01_Num (IntKind.u64.wrap ((2 : Int) * (IntKind.u64.wrap a0)))).bind fun (x2 : ByteArray) => some x2) ((ref01_Num (IntKind.u64.wrap ((IntKind.u64.wrap ((2 : Int) * (IntKind.u64.wrap (IntKind.i64.wrap (0 - (IntKind.i64.wrap (a0 + 1))))))) + 1))).bind fun (x3 : ByteArray) => some x3)
def ref01_Text (a0 : ByteArray) : Option ByteArray :=
  (ref01_Num (IntKind.u64.wrap (a0.size : Int))).bind fun (x1 : ByteArray) => need (nStr (x1.size + a0.size)) (some (x1 ++ a0))
def ref01_Put (a0 : T_ref01_Op) : Option ByteArray :=
  cond (iEq a0.Kind 0) (need (nIn (IntKind.u8.wrap (Int.tmod a0.N 256)) 256) (some (ByteArray.empty.push (UInt8.ofNat (IntKind.u8.wrap (Int.tmod a0.N 256)).toNat)))) (cond (iEq a0.Kind 1) ((ref01_Num a0.N).bind fun (x4 : ByteArray) => some x4) (cond (iEq a0.Kind 2) ((ref01_Int a0.I).bind fun (x6 : ByteArray) => some x6) ((ref01_Text a0.S).bind fun (x7 : ByteArray) => some x7)))
def law01_OctetWrites_l3 (a0 : List T_ref01_Op) : Nat → (ByteArray × Int × ByteArray) → Option Bool
  | 0, _ => none
  | k3 + 1, s2 => cond ((iLt s2.2.1 (a0.length : Int)) && (iLt s2.2.1 100)) (need (nIn s2.2.1 (a0.length : Int)) ((law01_put (⟨s2.2.2⟩ : T_octet_Out) (a0.getD s2.2.1.toNat default)).bind fun (x6 : T_octet_Out) => need (nIn s2.2.1 (a0.length : Int)) ((ref01_Put (a0.getD s2.2.1.toNat default)).bind fun (x8 : ByteArray) => need (nStr (s2.1.size + x8.size)) (law01_OctetWrites_l3 a0 k3 (s2.1 ++ x8, IntKind.i64.wrap (s2.2.1 + 1), x6.b))))) ((octet_Out_Done (⟨s2.2.2⟩ : T_octet_Out)).bind fun (x10 : ByteArray) => (cond (sEq x10 s2.1) (law01_lives) (some default)).bind fun (x11 : Bool) => some ((sEq x10 s2.1) && x11))
def law01_OctetWrites (a0 : List T_ref01_Op) : Option Bool :=
  law01_OctetWrites_l3 a0 fuel (ByteArray.empty, 0, ByteArray.empty)
def ref01_Fail (a0 : T_ref01_R) (a1 : Int) : Option T_ref01_R :=
  cond (iEq a0.Err 0) (some (⟨a0.S, (a0.S.size : Int), a1⟩ : T_ref01_R)) (some a0)
def ref01_Byte (a0 : T_ref01_R) : Option (Int × T_ref01_R) :=
  cond (iLe (a0.S.size : Int) a0.At) ((ref01_Fail a0 3).bind fun (x2 : T_ref01_R) => some (0, x2)) (need (nIn a0.At (a0.S.size : Int)) (some (IntKind.i64.wrap (byteAt a0.S a0.At.toNat), (⟨a0.S, IntKind.i64.wrap (a0.At + 1), a0.Err⟩ : T_ref01_R))))
def ref01_Number_l2 : Nat → (Int × Int × Int × ByteArray × Int × Int) → Option (Int × T_ref01_R)
  | 0, _ => none
  | k2 + 1, s1 => cond (iLt s1.2.2.1 10) ((ref01_Byte (⟨s1.2.2.2.1, s1.2.2.2.2.1, s1.2.2.2.2.2⟩ : T_ref01_R)).bind fun (x4 : Int × T_ref01_R) => cond (iNe x4.2.Err 0) (some (0, x4.2)) (cond (((iEq s1.2.2.1 9) && (iLt 1 x4.1)) || ((iLt 0 s1.2.2.1) && (iEq x4.1 0))) ((ref01_Fail x4.2 2).bind fun (x7 : T_ref01_R) => some (0, x7)) (cond (iLt x4.1 128) (some (IntKind.u64.wrap (s1.1 + (IntKind.u64.wrap ((IntKind.u64.wrap (Int.tmod x4.1 128)) * s1.2.1))), x4.2)) (ref01_Number_l2 k2 (IntKind.u64.wrap (s1.1 + (IntKind.u64.wrap ((IntKind.u64.wrap (Int.tmod x4.1 128)) * s1.2.1))), IntKind.u64.wrap (s1.2.1 * 128), IntKind.i64.wrap (s1.2.2.1 + 1), x4.2.S, x4.2.At, x4.2.Err))))) (some (s1.1, (⟨s1.2.2.2.1, s1.2.2.2.2.1, s1.2.2.2.2.2⟩ : T_ref01_R)))
def ref01_Number (a0 : T_ref01_R) : Option (Int × T_ref01_R) :=
  ref01_Number_l2 fuel (0, 1, 0, a0.S, a0.At, a0.Err)
def ref01_Signed (a0 : T_ref01_R) : Option (Int × T_ref01_R) :=
  (ref01_Number a0).bind fun (x1 : Int × T_ref01_R) => cond (iEq (Int.tmod x1.1 2) 0) (some (IntKind.i64.wrap (IntKind.u64.wrap (Int.tdiv x1.1 2)), x1.2)) (some (IntKind.i64.wrap ((IntKind.i64.wrap (0 - (IntKind.i64.wrap (IntKind.u64.wrap (Int.tdiv x1.1 2))))) - 1), x1.2))
def ref01_Words (a0 : T_ref01_R) : Option (ByteArray × T_ref01_R) :=
  (ref01_Number a0).bind fun (x1 : Int × T_ref01_R) => cond (iLt (IntKind.u64.wrap (IntKind.i64.wrap ((x1.2.S.size : Int) - x1.2.At))) x1.1) ((ref01_Fail x1.2 3).bind fun (x3 : T_ref01_R) => some (ByteArray.empty, x3)) (need (nSl x1.2.At (IntKind.i64.wrap (x1.2.At + (IntKind.i64.wrap x1.1))) (x1.2.S.size : Int)) (some (x1.2.S.extract x1.2.At.toNat (IntKind.i64.wrap (x1.2.At + (IntKind.i64.wrap x1.1))).toNat, (⟨x1.2.S, IntKind.i64.wrap (x1.2.At + (IntKind.i64.wrap x1.1)), x1.2.Err⟩ : T_ref01_R))))
def octet_In_Text (a0 : T_octet_In) : Option (ByteArray × T_octet_In) :=
  (octet_In_Num a0).bind fun (x1 : Int × T_octet_In) => cond (iLt (IntKind.u64.wrap (IntKind.i64.wrap ((x1.2.s.size : Int) - x1.2.at_))) x1.1) ((octet_In_fail x1.2 3).bind fun (x3 : T_octet_In) => some (ByteArray.empty, x3)) (need (nSl (IntKind.i64.wrap ((IntKind.i64.wrap (x1.2.at_ + (IntKind.i64.wrap x1.1))) - (IntKind.i64.wrap x1.1))) (IntKind.i64.wrap (x1.2.at_ + (IntKind.i64.wrap x1.1))) (x1.2.s.size : Int)) (some (x1.2.s.extract (IntKind.i64.wrap ((IntKind.i64.wrap (x1.2.at_ + (IntKind.i64.wrap x1.1))) - (IntKind.i64.wrap x1.1))).toNat (IntKind.i64.wrap (x1.2.at_ + (IntKind.i64.wrap x1.1))).toNat, (⟨x1.2.s, IntKind.i64.wrap (x1.2.at_ + (IntKind.i64.wrap x1.1)), x1.2.err⟩ : T_octet_In))))
def law01_OctetReads_l3 (a0 : ByteArray) (a1 : List Int) : Nat → (Int × ByteArray × Int × Int × ByteArray × Int × Int) → Option Bool
  | 0, _ => none
  | k3 + 1, s2 => cond ((iLt s2.1 (a1.length : Int)) && (iLt s2.1 100)) (need (nIn s2.1 (a1.length : Int)) (cond (iEq (a1.getD s2.1.toNat default) 0) ((ref01_Byte (⟨s2.2.1, s2.2.2.1, s2.2.2.2.1⟩ : T_ref01_R)).bind fun (x7 : Int × T_ref01_R) => (octet_In_Byte (⟨s2.2.2.2.2.1, s2.2.2.2.2.2.1, s2.2.2.2.2.2.2⟩ : T_octet_In)).bind fun (x8 : Int × T_octet_In) => cond (!(iEq x8.1 x7.1)) (some false) ((octet_In_Left x8.2).bind fun (x10 : Int) => cond (iNe x10 (IntKind.i64.wrap ((a0.size : Int) - x7.2.At))) (some false) ((octet_In_Err x8.2).bind fun (x12 : Int) => cond (iNe x12 x7.2.Err) (some false) (law01_OctetReads_l3 a0 a1 k3 (IntKind.i64.wrap (s2.1 + 1), x7.2.S, x7.2.At, x7.2.Err, x8.2.s, x8.2.at_, x8.2.err))))) (cond (iEq (a1.getD s2.1.toNat default) 1) ((ref01_Number (⟨s2.2.1, s2.2.2.1, s2.2.2.2.1⟩ : T_ref01_R)).bind fun (x15 : Int × T_ref01_R) => (octet_In_Num (⟨s2.2.2.2.2.1, s2.2.2.2.2.2.1, s2.2.2.2.2.2.2⟩ : T_octet_In)).bind fun (x16 : Int × T_octet_In) => cond (!(iEq x16.1 x15.1)) (some false) ((octet_In_Left x16.2).bind fun (x18 : Int) => cond (iNe x18 (IntKind.i64.wrap ((a0.size : Int) - x15.2.At))) (some false) ((octet_In_Err x16.2).bind fun (x20 : Int) => cond (iNe x20 x15.2.Err) (some false) (law01_OctetReads_l3 a0 a1 k3 (IntKind.i64.wrap (s2.1 + 1), x15.2.S, x15.2.At, x15.2.Err, x16.2.s, x16.2.at_, x16.2.err))))) (cond (iEq (a1.getD s2.1.toNat default) 2) ((ref01_Signed (⟨s2.2.1, s2.2.2.1, s2.2.2.2.1⟩ : T_ref01_R)).bind fun (x23 : Int × T_ref01_R) => (octet_In_Int (⟨s2.2.2.2.2.1, s2.2.2.2.2.2.1, s2.2.2.2.2.2.2⟩ : T_octet_In)).bind fun (x24 : Int × T_octet_In) => cond (!(iEq x24.1 x23.1)) (some false) ((octet_In_Left x24.2).bind fun (x26 : Int) => cond (iNe x26 (IntKind.i64.wrap ((a0.size : Int) - x23.2.At))) (some false) ((octet_In_Err x24.2).bind fun (x28 : Int) => cond (iNe x28 x23.2.Err) (some false) (law01_OctetReads_l3 a0 a1 k3 (IntKind.i64.wrap (s2.1 + 1), x23.2.S, x23.2.At, x23.2.Err, x24.2.s, x24.2.at_, x24.2.err))))) ((ref01_Words (⟨s2.2.1, s2.2.2.1, s2.2.2.2.1⟩ : T_ref01_R)).bind fun (x30 : ByteArray × T_ref01_R) => (octet_In_Text (⟨s2.2.2.2.2.1, s2.2.2.2.2.2.1, s2.2.2.2.2.2.2⟩ : T_octet_In)).bind fun (x31 : ByteArray × T_octet_In) => cond (!(sEq x31.1 x30.1)) (some false) ((octet_In_Left x31.2).bind fun (x33 : Int) => cond (iNe x33 (IntKind.i64.wrap ((a0.size : Int) - x30.2.At))) (some false) ((octet_In_Err x31.2).bind fun (x35 : Int) => cond (iNe x35 x30.2.Err) (some false) (law01_OctetReads_l3 a0 a1 k3 (IntKind.i64.wrap (s2.1 + 1), x30.2.S, x30.2.At, x30.2.Err, x31.2.s, x31.2.at_, x31.2.err))))))))) ((law01_lives).bind fun (x37 : Bool) => some x37)
def law01_OctetReads (a0 : ByteArray) (a1 : List Int) : Option Bool :=
  (octet_Open a0).bind fun (x1 : T_octet_In) => law01_OctetReads_l3 a0 a1 fuel (0, a0, 0, 0, x1.s, x1.at_, x1.err)
def law01_OctetBack_l11 (a0 : List T_ref01_Op) (a1 : ByteArray) : Nat → (Int × ByteArray × Int × Int) → Option Bool
  | 0, _ => none
  | k11 + 1, s10 => cond ((iLt s10.1 (a0.length : Int)) && (iLt s10.1 100)) (need (nIn s10.1 (a0.length : Int)) (cond (iEq ((a0.getD s10.1.toNat default).Kind) 0) ((octet_In_Byte (⟨s10.2.1, s10.2.2.1, s10.2.2.2⟩ : T_octet_In)).bind fun (x15 : Int × T_octet_In) => cond (!(iEq x15.1 (IntKind.i64.wrap (Int.tmod ((a0.getD s10.1.toNat default).N) 256)))) (some false) (law01_OctetBack_l11 a0 a1 k11 (IntKind.i64.wrap (s10.1 + 1), x15.2.s, x15.2.at_, x15.2.err))) (cond (iEq ((a0.getD s10.1.toNat default).Kind) 1) ((octet_In_Num (⟨s10.2.1, s10.2.2.1, s10.2.2.2⟩ : T_octet_In)).bind fun (x18 : Int × T_octet_In) => cond (!(iEq x18.1 ((a0.getD s10.1.toNat default).N))) (some false) (law01_OctetBack_l11 a0 a1 k11 (IntKind.i64.wrap (s10.1 + 1), x18.2.s, x18.2.at_, x18.2.err))) (cond (iEq ((a0.getD s10.1.toNat default).Kind) 2) ((octet_In_Int (⟨s10.2.1, s10.2.2.1, s10.2.2.2⟩ : T_octet_In)).bind fun (x21 : Int × T_octet_In) => cond (!(iEq x21.1 ((a0.getD s10.1.toNat default).I))) (some false) (law01_OctetBack_l11 a0 a1 k11 (IntKind.i64.wrap (s10.1 + 1), x21.2.s, x21.2.at_, x21.2.err))) ((octet_In_Text (⟨s10.2.1, s10.2.2.1, s10.2.2.2⟩ : T_octet_In)).bind fun (x23 : ByteArray × T_octet_In) => cond (!(sEq x23.1 ((a0.getD s10.1.toNat default).S))) (some false) (law01_OctetBack_l11 a0 a1 k11 (IntKind.i64.wrap (s10.1 + 1), x23.2.s, x23.2.at_, x23.2.err))))))) ((octet_In_Left (⟨s10.2.1, s10.2.2.1, s10.2.2.2⟩ : T_octet_In)).bind fun (x25 : Int) => cond (iEq x25 (a1.size : Int)) ((octet_In_Err (⟨s10.2.1, s10.2.2.1, s10.2.2.2⟩ : T_octet_In)).bind fun (x27 : Int) => (cond (iEq x27 0) (law01_lives) (some default)).bind fun (x28 : Bool) => some ((iEq x27 0) && x28)) (some false))
def law01_OctetBack_l3 (a0 : List T_ref01_Op) (a1 : ByteArray) : Nat → (Int × ByteArray) → Option Bool
  | 0, _ => none
  | k3 + 1, s2 => cond ((iLt s2.1 (a0.length : Int)) && (iLt s2.1 100)) (need (nIn s2.1 (a0.length : Int)) ((law01_put (⟨s2.2⟩ : T_octet_Out) (a0.getD s2.1.toNat default)).bind fun (x6 : T_octet_Out) => law01_OctetBack_l3 a0 a1 k3 (IntKind.i64.wrap (s2.1 + 1), x6.b))) ((octet_Out_Done (⟨s2.2⟩ : T_octet_Out)).bind fun (x7 : ByteArray) => need (nStr (x7.size + a1.size)) ((octet_Open (x7 ++ a1)).bind fun (x9 : T_octet_In) => law01_OctetBack_l11 a0 a1 fuel (0, x9.s, x9.at_, x9.err)))
def law01_OctetBack (a0 : List T_ref01_Op) (a1 : ByteArray) : Option Bool :=
  law01_OctetBack_l3 a0 a1 fuel (0, ByteArray.empty)
end LJ
