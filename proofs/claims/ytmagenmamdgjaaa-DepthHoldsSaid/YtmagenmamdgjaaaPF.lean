/- Plain functions that compute what the Go functions of this seat compute. -/
import Derived.Test.YtmagenmamdgjaaaXEq
import Derived.Test.YtmagenmamdgjaaaXSub
namespace LJ
open Go
set_option linter.unusedVariables false
def enc_i64 (x : Int) : List DV := [.int .i64 x]
def enc_sl_i64 (x : List Int) : List DV := [slT enc_i64 x]
structure T_api_Decl where
  Kind : Int
  A : Int
  B : Int
  deriving Inhabited, DecidableEq
def enc_api_Decl (x : T_api_Decl) : List DV := [.int .i64 x.Kind, .int .i64 x.A, .int .i64 x.B]
structure T_api_Need where
  Kind : Int
  Obj : Int
  N : Int
  deriving Inhabited, DecidableEq
def enc_api_Need (x : T_api_Need) : List DV := [.int .i64 x.Kind, .int .i64 x.Obj, .int .i64 x.N]
def enc_sl_api_Need (x : List T_api_Need) : List DV := [slT enc_api_Need x]
def enc_str (x : ByteArray) : List DV := [.str x]
structure T_api_Ins where
  Op : Int
  A : Int
  B : Int
  deriving Inhabited, DecidableEq
structure T_api_Func where
  Args : Int
  Locals : Int
  Code : List T_api_Ins
  deriving Inhabited, DecidableEq
def enc_api_Ins (x : T_api_Ins) : List DV := [.int .i64 x.Op, .int .i64 x.A, .int .i64 x.B]
structure T_api_Program where
  Decls : List T_api_Decl
  Waits : List (List (List T_api_Need))
  Funcs : List T_api_Func
  deriving Inhabited, DecidableEq
def enc_sl_sl_api_Need (x : List (List T_api_Need)) : List DV := [slT enc_sl_api_Need x]
def enc_api_Func (x : T_api_Func) : List DV := [.int .i64 x.Args, .int .i64 x.Locals, slT enc_api_Ins x.Code]
structure T_depth_walk where
  p : T_api_Program
  code : List T_api_Ins
  depth : List Int
  next : List Bool
  at_ : Int
  err : Int
  deriving Inhabited, DecidableEq
def enc_bool (x : Bool) : List DV := [.bool x]

def ref03_Fits (a0 : Int) : Option Bool :=
  some ((iLe (-2147483648) a0) && (iLt a0 2147483648))
def ref08_kinds_l2 (a0 : Int) : Nat → Int → Option (List Int)
  | 0, _ => none
  | k2 + 1, s1 => cond (iLt s1 ((⟨#[117, 115, 112, 99, 109, 98, 118, 113]⟩ : ByteArray).size : Int)) (need (nIn s1 ((⟨#[117, 115, 112, 99, 109, 98, 118, 113]⟩ : ByteArray).size : Int)) (cond (iEq (byteAt (⟨#[117, 115, 112, 99, 109, 98, 118, 113]⟩ : ByteArray) s1.toNat) a0) (need (nIn s1 (([([1, 2] : List Int), ([3] : List Int), ([6] : List Int), ([4] : List Int), ([1] : List Int), ([5] : List Int), ([7] : List Int), ([1, 6] : List Int)] : List (List Int)).length : Int)) (some (([([1, 2] : List Int), ([3] : List Int), ([6] : List Int), ([4] : List Int), ([1] : List Int), ([5] : List Int), ([7] : List Int), ([1, 6] : List Int)] : List (List Int)).getD s1.toNat default))) (ref08_kinds_l2 a0 k2 (IntKind.i64.wrap (s1 + 1))))) (some [])
def ref08_kinds (a0 : Int) : Option (List Int) :=
  ref08_kinds_l2 a0 fuel 0
def ref08_Fits_l3 (a0 : List T_api_Decl) (a2 : Int) (x1 : List Int) : Nat → Int → Option Bool
  | 0, _ => none
  | k3 + 1, s2 => cond (((iLt s2 (x1.length : Int)) && (iLe 0 a2)) && (iLt a2 (a0.length : Int))) (need (nIn a2 (a0.length : Int)) (need (nIn s2 (x1.length : Int)) (cond (iEq ((a0.getD a2.toNat default).Kind) (x1.getD s2.toNat default)) (some true) (ref08_Fits_l3 a0 a2 x1 k3 (IntKind.i64.wrap (s2 + 1)))))) (some false)
def ref08_Fits (a0 : List T_api_Decl) (a1 : Int) (a2 : Int) : Option Bool :=
  (ref08_kinds a1).bind fun (x1 : List Int) => ref08_Fits_l3 a0 a2 x1 fuel 0
def ref08_one (a0 : List T_api_Decl) (a1 : T_api_Decl) : Option Int :=
  cond ((iLt a1.Kind 1) || (iLt 7 a1.Kind)) (some 6) (cond ((iEq a1.Kind 3) && ((((iLt a1.B 1) || (iLt 1000 a1.B)) || (iLt a1.A 0)) || (iLt a1.B a1.A))) (some 1) (cond ((iEq a1.Kind 6) && ((iLt a1.A 1) || (iLt 1000 a1.A))) (some 1) ((cond (iEq a1.Kind 7) (ref03_Fits a1.A) (some default)).bind fun (x4 : Bool) => (cond ((iEq a1.Kind 7) && !(!x4)) (ref08_Fits a0 117 a1.B) (some default)).bind fun (x5 : Bool) => cond ((iEq a1.Kind 7) && ((!x4) || (!x5))) (some 1) (cond ((((iNe a1.Kind 3) && (iNe a1.Kind 7)) && (iNe a1.B 0)) || ((((iNe a1.Kind 3) && (iNe a1.Kind 6)) && (iNe a1.Kind 7)) && (iNe a1.A 0))) (some 2) (some 0)))))
def ref08_Check_l3 (a0 : List T_api_Decl) : Nat → Int → Option (Int × Int)
  | 0, _ => none
  | k3 + 1, s2 => cond (iLt s2 (a0.length : Int)) (need (nIn s2 (a0.length : Int)) ((ref08_one a0 (a0.getD s2.toNat default)).bind fun (x6 : Int) => cond (iNe x6 0) (some (s2, x6)) (ref08_Check_l3 a0 k3 (IntKind.i64.wrap (s2 + 1))))) (some (0, 0))
def ref08_Check (a0 : List T_api_Decl) : Option (Int × Int) :=
  cond (iLt 32 (a0.length : Int)) (some (0, 4)) (ref08_Check_l3 a0 fuel 0)
def ref09_one (a0 : List T_api_Decl) (a1 : T_api_Need) : Option Int :=
  cond ((iLt a1.Kind 1) || (iLt 5 a1.Kind)) (some 6) (need (!(!((iLt a1.Obj 0) || (iLe (a0.length : Int) a1.Obj))) || nIn a1.Obj (a0.length : Int)) (need (!(!((iLt a1.Obj 0) || (iLe (a0.length : Int) a1.Obj))) || nIn a1.Kind (([0, 1, 2, 2, 3, 6] : List Int).length : Int)) (cond (((iLt a1.Obj 0) || (iLe (a0.length : Int) a1.Obj)) || (iNe ((a0.getD a1.Obj.toNat default).Kind) (([0, 1, 2, 2, 3, 6] : List Int).getD a1.Kind.toNat default))) (some 1) (cond (iEq a1.Kind 4) (need (nIn a1.Obj (a0.length : Int)) (cond (iEq a1.Kind 5) (need (nIn a1.Obj (a0.length : Int)) (cond ((iLt a1.N 1) || (iLt ((a0.getD a1.Obj.toNat default).A) a1.N)) (some 1) (some 0))) (cond ((iLt a1.N 1) || (iLt ((a0.getD a1.Obj.toNat default).B) a1.N)) (some 1) (some 0)))) (cond (iEq a1.Kind 5) (need (nIn a1.Obj (a0.length : Int)) (cond ((iLt a1.N 1) || (iLt ((a0.getD a1.Obj.toNat default).A) a1.N)) (some 1) (some 0))) (cond ((iLt a1.N 0) || (iLt 0 a1.N)) (some 1) (some 0)))))))
def ref09_Check_l23 (a1 : List (List T_api_Need)) (s3 : Int) (s17 : Int) (K20 : Unit → Option Int) : Nat → Int → Option Int
  | 0, _ => none
  | k23 + 1, s22 => cond (iLt s22 s17) (need (nIn s22 ((a1.getD s3.toNat default).length : Int)) (need (nIn s17 ((a1.getD s3.toNat default).length : Int)) (need (!(!(iEq (((a1.getD s3.toNat default).getD s22.toNat default).Obj) (((a1.getD s3.toNat default).getD s17.toNat default).Obj))) || nIn s22 ((a1.getD s3.toNat default).length : Int)) (need (!(!((iEq (((a1.getD s3.toNat default).getD s22.toNat default).Obj) (((a1.getD s3.toNat default).getD s17.toNat default).Obj)) || (iEq (((a1.getD s3.toNat default).getD s22.toNat default).Kind) 4))) || nIn s17 ((a1.getD s3.toNat default).length : Int)) (cond (((iEq (((a1.getD s3.toNat default).getD s22.toNat default).Obj) (((a1.getD s3.toNat default).getD s17.toNat default).Obj)) || (iEq (((a1.getD s3.toNat default).getD s22.toNat default).Kind) 4)) || (iEq (((a1.getD s3.toNat default).getD s17.toNat default).Kind) 4)) (some 2) (ref09_Check_l23 a1 s3 s17 K20 k23 (IntKind.i64.wrap (s22 + 1)))))))) (K20 Unit.unit)
def ref09_Check_l18 (a1 : List (List T_api_Need)) (s3 : Int) (K6 : Unit → Option Int) : Nat → Int → Option Int
  | 0, _ => none
  | k18 + 1, s17 => cond (iLt s17 ((a1.getD s3.toNat default).length : Int)) (withK (fun s21 : Unit => ref09_Check_l18 a1 s3 K6 k18 (IntKind.i64.wrap (s17 + 1))) fun K20 => ref09_Check_l23 a1 s3 s17 K20 fuel 0) (K6 Unit.unit)
def ref09_Check_l12 (a0 : List T_api_Decl) (a1 : List (List T_api_Need)) (s3 : Int) (K6 : Unit → Option Int) : Nat → Int → Option Int
  | 0, _ => none
  | k12 + 1, s11 => cond (iLt s11 ((a1.getD s3.toNat default).length : Int)) (need (nIn s11 ((a1.getD s3.toNat default).length : Int)) ((ref09_one a0 ((a1.getD s3.toNat default).getD s11.toNat default)).bind fun (x15 : Int) => cond (iNe x15 0) (some x15) (ref09_Check_l12 a0 a1 s3 K6 k12 (IntKind.i64.wrap (s11 + 1))))) (ref09_Check_l18 a1 s3 K6 fuel 0)
def ref09_Check_l4 (a0 : List T_api_Decl) (a1 : List (List T_api_Need)) : Nat → Int → Option Int
  | 0, _ => none
  | k4 + 1, s3 => cond (iLt s3 (a1.length : Int)) (withK (fun s7 : Unit => ref09_Check_l4 a0 a1 k4 (IntKind.i64.wrap (s3 + 1))) fun K6 => need (nIn s3 (a1.length : Int)) (cond (iEq ((a1.getD s3.toNat default).length : Int) 0) (some 2) (cond (iLt 4 ((a1.getD s3.toNat default).length : Int)) (some 4) (ref09_Check_l12 a0 a1 s3 K6 fuel 0)))) (some 0)
def ref09_Check (a0 : List T_api_Decl) (a1 : List (List T_api_Need)) : Option Int :=
  cond (iEq (a1.length : Int) 0) (some 2) (cond (iLt 4 (a1.length : Int)) (some 4) (ref09_Check_l4 a0 a1 fuel 0))
def ref06_Known (a0 : Int) : Option Bool :=
  some ((iLe 0 a0) && (iLe a0 51))
def ref06_Forms : Option (List ByteArray) :=
  some ([(⟨#[110]⟩ : ByteArray), (⟨#[107]⟩ : ByteArray), (⟨#[107]⟩ : ByteArray), ByteArray.empty, ByteArray.empty, ByteArray.empty, ByteArray.empty, ByteArray.empty, ByteArray.empty, ByteArray.empty, ByteArray.empty, ByteArray.empty, ByteArray.empty, ByteArray.empty, ByteArray.empty, ByteArray.empty, ByteArray.empty, ByteArray.empty, (⟨#[116]⟩ : ByteArray), (⟨#[116]⟩ : ByteArray), (⟨#[102]⟩ : ByteArray), ByteArray.empty, ByteArray.empty, ByteArray.empty, ByteArray.empty, ByteArray.empty, (⟨#[119]⟩ : ByteArray), (⟨#[119]⟩ : ByteArray), ByteArray.empty, (⟨#[117]⟩ : ByteArray), (⟨#[115]⟩ : ByteArray), (⟨#[112]⟩ : ByteArray), (⟨#[99, 109]⟩ : ByteArray), (⟨#[99, 109]⟩ : ByteArray), (⟨#[99]⟩ : ByteArray), (⟨#[99]⟩ : ByteArray), (⟨#[98]⟩ : ByteArray), (⟨#[98]⟩ : ByteArray), (⟨#[98]⟩ : ByteArray), (⟨#[98]⟩ : ByteArray), (⟨#[102]⟩ : ByteArray), (⟨#[106, 106]⟩ : ByteArray), (⟨#[106, 106]⟩ : ByteArray), ByteArray.empty, ByteArray.empty, (⟨#[118]⟩ : ByteArray), (⟨#[118]⟩ : ByteArray), ByteArray.empty, ByteArray.empty, (⟨#[113]⟩ : ByteArray), (⟨#[109]⟩ : ByteArray), (⟨#[109]⟩ : ByteArray)] : List ByteArray)
def ref06_Form (a0 : Int) : Option ByteArray :=
  (ref06_Known a0).bind fun (x1 : Bool) => cond (!x1) (some ByteArray.empty) ((ref06_Forms).bind fun (x3 : List ByteArray) => need (nIn a0 (x3.length : Int)) (some (x3.getD a0.toNat default)))
def ref07_least (a0 : Int) : Option Int :=
  cond (iEq a0 106) (some 1) (some 0)
def ref07_most (a0 : Int) : Option Int :=
  cond (iEq a0 107) (some 7) (cond (iEq a0 116) (some 199) (cond (iEq a0 102) (some 15) (cond (iEq a0 106) (some 4) (some 31))))
def ref07_Check_l33 (a0 : T_api_Ins) : Nat → Int → Option Int
  | 0, _ => none
  | k33 + 1, s32 => cond (iLt s32 2) (need (nIn s32 (([a0.A, a0.B] : List Int).length : Int)) (cond (iNe (([a0.A, a0.B] : List Int).getD s32.toNat default) 0) (some 2) (ref07_Check_l33 a0 k33 (IntKind.i64.wrap (s32 + 1))))) (some 0)
def ref07_Check_l4 (a0 : T_api_Ins) (x3_2_1 : ByteArray) : Nat → Int → Option Int
  | 0, _ => none
  | k4 + 1, s3 => cond (iLt s3 (x3_2_1.size : Int)) (need (nIn s3 (x3_2_1.size : Int)) (cond (iEq (byteAt x3_2_1 s3.toNat) 110) (need (nIn s3 (([a0.A, a0.B] : List Int).length : Int)) ((ref03_Fits (([a0.A, a0.B] : List Int).getD s3.toNat default)).bind fun (x9 : Bool) => cond (!x9) (some 1) (need (nIn s3 (x3_2_1.size : Int)) (cond (iNe (byteAt x3_2_1 s3.toNat) 110) (need (nIn s3 (([a0.A, a0.B] : List Int).length : Int)) (need (nIn s3 (x3_2_1.size : Int)) ((ref07_least (byteAt x3_2_1 s3.toNat)).bind fun (x15 : Int) => cond (iLt (([a0.A, a0.B] : List Int).getD s3.toNat default) x15) (some 1) (need (nIn s3 (([a0.A, a0.B] : List Int).length : Int)) (need (nIn s3 (x3_2_1.size : Int)) ((ref07_most (byteAt x3_2_1 s3.toNat)).bind fun (x19 : Int) => cond (iLt x19 (([a0.A, a0.B] : List Int).getD s3.toNat default)) (some 1) (ref07_Check_l4 a0 x3_2_1 k4 (IntKind.i64.wrap (s3 + 1))))))))) (ref07_Check_l4 a0 x3_2_1 k4 (IntKind.i64.wrap (s3 + 1))))))) (need (nIn s3 (x3_2_1.size : Int)) (cond (iNe (byteAt x3_2_1 s3.toNat) 110) (need (nIn s3 (([a0.A, a0.B] : List Int).length : Int)) (need (nIn s3 (x3_2_1.size : Int)) ((ref07_least (byteAt x3_2_1 s3.toNat)).bind fun (x25 : Int) => cond (iLt (([a0.A, a0.B] : List Int).getD s3.toNat default) x25) (some 1) (need (nIn s3 (([a0.A, a0.B] : List Int).length : Int)) (need (nIn s3 (x3_2_1.size : Int)) ((ref07_most (byteAt x3_2_1 s3.toNat)).bind fun (x29 : Int) => cond (iLt x29 (([a0.A, a0.B] : List Int).getD s3.toNat default)) (some 1) (ref07_Check_l4 a0 x3_2_1 k4 (IntKind.i64.wrap (s3 + 1))))))))) (ref07_Check_l4 a0 x3_2_1 k4 (IntKind.i64.wrap (s3 + 1))))))) (cond ((sEq x3_2_1 (⟨#[106, 106]⟩ : ByteArray)) && (iLt a0.B a0.A)) (some 1) (ref07_Check_l33 a0 fuel (x3_2_1.size : Int)))
def ref07_Check (a0 : T_api_Ins) : Option Int :=
  (ref06_Known a0.Op).bind fun (x1 : Bool) => cond (!x1) (some 6) ((ref06_Form a0.Op).bind fun (x3_2_1 : ByteArray) => ref07_Check_l4 a0 x3_2_1 fuel 0)
def ref10_function_l5 (a0 : T_api_Func) : Nat → Int → Option Int
  | 0, _ => none
  | k5 + 1, s4 => cond (iLt s4 (a0.Code.length : Int)) (need (nIn s4 (a0.Code.length : Int)) ((ref07_Check (a0.Code.getD s4.toNat default)).bind fun (x8 : Int) => cond (iNe x8 0) (some x8) (ref10_function_l5 a0 k5 (IntKind.i64.wrap (s4 + 1))))) (some 0)
def ref10_function (a0 : T_api_Func) : Option Int :=
  cond (((iLt a0.Args 0) || (iLt a0.Locals a0.Args)) || (iLt 8 a0.Locals)) (some 1) (cond (iEq (a0.Code.length : Int) 0) (some 2) (cond (iLt 200 (a0.Code.length : Int)) (some 4) (ref10_function_l5 a0 fuel 0)))
def ref10_Check_l13 (a0 : T_api_Program) : Nat → Int → Option Int
  | 0, _ => none
  | k13 + 1, s12 => cond (iLt s12 (a0.Funcs.length : Int)) (need (nIn s12 (a0.Funcs.length : Int)) ((ref10_function (a0.Funcs.getD s12.toNat default)).bind fun (x16 : Int) => cond (iNe x16 0) (some x16) (ref10_Check_l13 a0 k13 (IntKind.i64.wrap (s12 + 1))))) (some 0)
def ref10_Check_l5 (a0 : T_api_Program) : Nat → Int → Option Int
  | 0, _ => none
  | k5 + 1, s4 => cond (iLt s4 (a0.Waits.length : Int)) (need (nIn s4 (a0.Waits.length : Int)) ((ref09_Check a0.Decls (a0.Waits.getD s4.toNat default)).bind fun (x8 : Int) => cond (iNe x8 0) (some x8) (ref10_Check_l5 a0 k5 (IntKind.i64.wrap (s4 + 1))))) (cond (iEq (a0.Funcs.length : Int) 0) (some 2) (cond (iLt 16 (a0.Funcs.length : Int)) (some 4) (ref10_Check_l13 a0 fuel 0)))
def ref10_Check (a0 : T_api_Program) : Option Int :=
  (ref08_Check a0.Decls).bind fun (x1 : Int × Int) => cond (iNe x1.2 0) (some x1.2) (cond (iLt 32 (a0.Waits.length : Int)) (some 4) (ref10_Check_l5 a0 fuel 0))
def depth_walk_wrong (a0 : T_depth_walk) (a1 : Int) (a2 : Int) : Option T_depth_walk :=
  cond ((iEq a0.err 0) || (iLt a1 a0.at_)) (some (⟨a0.p, a0.code, a0.depth, a0.next, a1, a2⟩ : T_depth_walk)) (some a0)
def depth_walk_leads (a0 : T_depth_walk) (a1 : Int) (a2 : Int) (a3 : Int) : Option (Bool × T_depth_walk) :=
  cond (iLe (a0.code.length : Int) a2) ((depth_walk_wrong a0 a1 3).bind fun (x2 : T_depth_walk) => some (false, x2)) (need (nIn a2 (a0.depth.length : Int)) (cond (iLt (a0.depth.getD a2.toNat default) 0) (need (nIn a2 (a0.depth.length : Int)) (need (nIn a2 (a0.next.length : Int)) (some (true, (⟨a0.p, a0.code, a0.depth.set a2.toNat a3, a0.next.set a2.toNat true, a0.at_, a0.err⟩ : T_depth_walk))))) (need (nIn a2 (a0.depth.length : Int)) (cond (iNe (a0.depth.getD a2.toNat default) a3) ((depth_walk_wrong a0 a1 2).bind fun (x9 : T_depth_walk) => some (false, x9)) (some (true, a0))))))
def slices_Index___bool_bool__l2 (a0 : List Bool) (a1 : Bool) : Nat → Int → Option Int
  | 0, _ => none
  | k2 + 1, s1 => cond (iLt s1 (a0.length : Int)) (need (nIn s1 (a0.length : Int)) (cond (a1 == (a0.getD s1.toNat default)) (some s1) (slices_Index___bool_bool__l2 a0 a1 k2 (IntKind.i64.wrap (s1 + 1))))) (some (-1))
def slices_Index___bool_bool_ (a0 : List Bool) (a1 : Bool) : Option Int :=
  slices_Index___bool_bool__l2 a0 a1 fuel 0
def depth_walk_least (a0 : T_depth_walk) : Option Int :=
  (slices_Index___bool_bool_ a0.next true).bind fun (x1 : Int) => some x1
def op_known (a0 : Int) : Option Bool :=
  some ((iLe 0 a0) && (iLt a0 52))
def op_shape (a0 : Int) : Option Int :=
  cond (iEq a0 2) (some 2) (cond (iEq a0 17) (some 2) (cond (iEq a0 19) (some 2) (cond (iEq a0 21) (some 2) (cond (iEq a0 18) (some 0) (cond (iEq a0 25) (some 0) (cond (iEq a0 16) (some 5) (cond (iEq a0 45) (some 6) (cond (iEq a0 40) (some 4) (cond (iEq a0 43) (some 4) (cond (iEq a0 8) (some 3) (cond (iEq a0 24) (some 3) (cond (iEq a0 27) (some 3) (cond (iEq a0 28) (some 3) (cond (iEq a0 30) (some 3) (cond (iEq a0 31) (some 3) (cond (iEq a0 33) (some 3) (cond (iEq a0 39) (some 3) (cond (iEq a0 44) (some 3) (cond (iEq a0 46) (some 3) (cond (iEq a0 49) (some 3) (cond ((iLe 3 a0) && (iLe a0 15)) (some 4) ((op_known a0).bind fun (x23 : Bool) => cond x23 (some 1) (some 0)))))))))))))))))))))))
def op_Pops (a0 : T_api_Ins) (a1 : Int) : Option Int :=
  withK (fun s2 : Int => some (IntKind.i64.wrap (s2 + a0.B))) fun K1 => cond (iEq a0.Op 20) (some a1) (cond (iEq a0.Op 42) (K1 (IntKind.i64.wrap ((0 : Int) + 1))) (cond (iEq a0.Op 41) (K1 0) ((op_shape a0.Op).bind fun (x6 : Int) => withK (fun s8 : Int => some (IntKind.i64.wrap (s8 + 1))) fun K7 => cond (iEq x6 4) (K7 (IntKind.i64.wrap ((0 : Int) + 1))) (cond (iEq x6 2) (K7 0) (cond (iEq x6 3) (K7 0) (cond (iEq x6 5) (K7 0) (some 0)))))))
def op_Pushes (a0 : Int) : Option Int :=
  (op_shape a0).bind fun (x1 : Int) => cond (iEq x1 5) (some 2) (cond (iEq x1 6) (some 2) (cond (iEq x1 1) (some 1) (cond (iEq x1 3) (some 1) (cond (iEq x1 4) (some 1) (some 0)))))
def op_Goes (a0 : Int) : Option Bool :=
  (op_known a0).bind fun (x1 : Bool) => some ((x1 && (iNe a0 18)) && (iNe a0 21))
def depth_walk_look (a0 : T_depth_walk) (a1 : Int) : Option T_depth_walk :=
  need (nIn a1 (a0.code.length : Int)) (cond ((iEq ((a0.code.getD a1.toNat default).Op) 20) && (iLt ((a0.code.getD a1.toNat default).A) (a0.p.Funcs.length : Int))) (need (nIn ((a0.code.getD a1.toNat default).A) (a0.p.Funcs.length : Int)) (need (nIn a1 (a0.depth.length : Int)) ((op_Pops (a0.code.getD a1.toNat default) ((a0.p.Funcs.getD ((a0.code.getD a1.toNat default).A).toNat default).Args)).bind fun (x3_9_1 : Int) => cond (iLt (IntKind.i64.wrap ((a0.depth.getD a1.toNat default) - x3_9_1)) 0) ((depth_walk_wrong a0 a1 2).bind fun (x5 : T_depth_walk) => some x5) ((op_Pushes ((a0.code.getD a1.toNat default).Op)).bind fun (x6 : Int) => cond (iLt 16 (IntKind.i64.wrap ((IntKind.i64.wrap ((a0.depth.getD a1.toNat default) - x3_9_1)) + x6))) ((depth_walk_wrong a0 a1 4).bind fun (x8 : T_depth_walk) => some x8) ((op_Goes ((a0.code.getD a1.toNat default).Op)).bind fun (x9 : Bool) => cond x9 ((depth_walk_leads a0 a1 (IntKind.i64.wrap (a1 + 1)) (IntKind.i64.wrap ((IntKind.i64.wrap ((a0.depth.getD a1.toNat default) - x3_9_1)) + x6))).bind fun (x11 : Bool × T_depth_walk) => cond (!x11.1) (some x11.2) (cond ((iEq ((a0.code.getD a1.toNat default).Op) 18) || (iEq ((a0.code.getD a1.toNat default).Op) 19)) ((depth_walk_leads x11.2 a1 ((a0.code.getD a1.toNat default).A) (IntKind.i64.wrap ((IntKind.i64.wrap ((a0.depth.getD a1.toNat default) - x3_9_1)) + x6))).bind fun (x14 : Bool × T_depth_walk) => some x14.2) (some x11.2))) (cond ((iEq ((a0.code.getD a1.toNat default).Op) 18) || (iEq ((a0.code.getD a1.toNat default).Op) 19)) ((depth_walk_leads a0 a1 ((a0.code.getD a1.toNat default).A) (IntKind.i64.wrap ((IntKind.i64.wrap ((a0.depth.getD a1.toNat default) - x3_9_1)) + x6))).bind fun (x16 : Bool × T_depth_walk) => some x16.2) (some a0))))))) (need (nIn a1 (a0.depth.length : Int)) ((op_Pops (a0.code.getD a1.toNat default) 0).bind fun (x3_9_1 : Int) => cond (iLt (IntKind.i64.wrap ((a0.depth.getD a1.toNat default) - x3_9_1)) 0) ((depth_walk_wrong a0 a1 2).bind fun (x18 : T_depth_walk) => some x18) ((op_Pushes ((a0.code.getD a1.toNat default).Op)).bind fun (x19 : Int) => cond (iLt 16 (IntKind.i64.wrap ((IntKind.i64.wrap ((a0.depth.getD a1.toNat default) - x3_9_1)) + x19))) ((depth_walk_wrong a0 a1 4).bind fun (x21 : T_depth_walk) => some x21) ((op_Goes ((a0.code.getD a1.toNat default).Op)).bind fun (x22 : Bool) => cond x22 ((depth_walk_leads a0 a1 (IntKind.i64.wrap (a1 + 1)) (IntKind.i64.wrap ((IntKind.i64.wrap ((a0.depth.getD a1.toNat default) - x3_9_1)) + x19))).bind fun (x24 : Bool × T_depth_walk) => cond (!x24.1) (some x24.2) (cond ((iEq ((a0.code.getD a1.toNat default).Op) 18) || (iEq ((a0.code.getD a1.toNat default).Op) 19)) ((depth_walk_leads x24.2 a1 ((a0.code.getD a1.toNat default).A) (IntKind.i64.wrap ((IntKind.i64.wrap ((a0.depth.getD a1.toNat default) - x3_9_1)) + x19))).bind fun (x27 : Bool × T_depth_walk) => some x27.2) (some x24.2))) (cond ((iEq ((a0.code.getD a1.toNat default).Op) 18) || (iEq ((a0.code.getD a1.toNat default).Op) 19)) ((depth_walk_leads a0 a1 ((a0.code.getD a1.toNat default).A) (IntKind.i64.wrap ((IntKind.i64.wrap ((a0.depth.getD a1.toNat default) - x3_9_1)) + x19))).bind fun (x29 : Bool × T_depth_walk) => some x29.2) (some a0)))))))
def depth_Of_l13 : Nat → (Int × (List T_api_Decl) × (List (List (List T_api_Need))) × (List T_api_Func) × (List T_api_Ins) × Int × Int × (List Int) × (List Bool)) → Option ((List Int) × Int × Int)
  | 0, _ => none
  | k13 + 1, s12 => cond (iLe 0 s12.1) (need (nIn s12.1 (s12.2.2.2.2.2.2.2.2.length : Int)) ((depth_walk_look (⟨(⟨s12.2.1, s12.2.2.1, s12.2.2.2.1⟩ : T_api_Program), s12.2.2.2.2.1, s12.2.2.2.2.2.2.2.1, s12.2.2.2.2.2.2.2.2.set s12.1.toNat false, s12.2.2.2.2.2.1, s12.2.2.2.2.2.2.1⟩ : T_depth_walk) s12.1).bind fun (x16 : T_depth_walk) => (depth_walk_least x16).bind fun (x17 : Int) => depth_Of_l13 k13 (x17, x16.p.Decls, x16.p.Waits, x16.p.Funcs, x16.code, x16.at_, x16.err, x16.depth, x16.next))) (cond (iNe s12.2.2.2.2.2.2.1 0) (some ([], s12.2.2.2.2.2.1, s12.2.2.2.2.2.2.1)) (some (s12.2.2.2.2.2.2.2.1, 0, 0)))
def depth_Of_l5 (a0 : T_api_Program) (a1 : Int) : Nat → (Int × (List Int)) → Option ((List Int) × Int × Int)
  | 0, _ => none
  | k5 + 1, s4 => cond (iLt s4.1 (((List.replicate (((a0.Funcs.getD a1.toNat default).Code).length : Int).toNat (0 : Int)).map enc_i64).length : Int)) (need (nIn s4.1 (s4.2.length : Int)) (depth_Of_l5 a0 a1 k5 (IntKind.i64.wrap (s4.1 + 1), s4.2.set s4.1.toNat (-1)))) (cond (iEq (((a0.Funcs.getD a1.toNat default).Code).length : Int) 0) (some ([], 0, 3)) (need (nMk (((a0.Funcs.getD a1.toNat default).Code).length : Int) 1) ((depth_walk_leads (⟨a0, (a0.Funcs.getD a1.toNat default).Code, s4.2, List.replicate (((a0.Funcs.getD a1.toNat default).Code).length : Int).toNat (false : Bool), 0, 0⟩ : T_depth_walk) 0 0 0).bind fun (x10 : Bool × T_depth_walk) => (depth_walk_least x10.2).bind fun (x11 : Int) => depth_Of_l13 fuel (x11, x10.2.p.Decls, x10.2.p.Waits, x10.2.p.Funcs, x10.2.code, x10.2.at_, x10.2.err, x10.2.depth, x10.2.next))))
def depth_Of (a0 : T_api_Program) (a1 : Int) : Option ((List Int) × Int × Int) :=
  cond ((iLt a1 0) || (iLe (a0.Funcs.length : Int) a1)) (some ([], 0, 19)) (need (nIn a1 (a0.Funcs.length : Int)) (need (nMk (((a0.Funcs.getD a1.toNat default).Code).length : Int) 8) (depth_Of_l5 a0 a1 fuel (0, List.replicate (((a0.Funcs.getD a1.toNat default).Code).length : Int).toNat (0 : Int)))))
def depth_Most_l2 (a0 : List Int) : Nat → (Int × Int) → Option Int
  | 0, _ => none
  | k2 + 1, s1 => cond (iLt s1.2 (a0.length : Int)) (need (nIn s1.2 (a0.length : Int)) (depth_Most_l2 a0 k2 (iMax s1.1 (a0.getD s1.2.toNat default), IntKind.i64.wrap (s1.2 + 1)))) (some s1.1)
def depth_Most (a0 : List Int) : Option Int :=
  depth_Most_l2 a0 fuel (0, 0)
def law11_lives : Option Bool :=
  (depth_Of (⟨[], [], ([(⟨0, 0, ([(⟨0, 0, 0⟩ : T_api_Ins), (⟨0, 0, 0⟩ : T_api_Ins), (⟨3, 0, 0⟩ : T_api_Ins), (⟨21, 0, 0⟩ : T_api_Ins)] : List T_api_Ins)⟩ : T_api_Func), (⟨0, 0, ([(⟨21, 0, 0⟩ : T_api_Ins)] : List T_api_Ins)⟩ : T_api_Func)] : List T_api_Func)⟩ : T_api_Program) 0).bind fun (x1 : (List Int) × Int × Int) => (depth_Of (⟨[], [], ([(⟨0, 0, ([(⟨0, 0, 0⟩ : T_api_Ins), (⟨0, 0, 0⟩ : T_api_Ins), (⟨3, 0, 0⟩ : T_api_Ins), (⟨21, 0, 0⟩ : T_api_Ins)] : List T_api_Ins)⟩ : T_api_Func), (⟨0, 0, ([(⟨21, 0, 0⟩ : T_api_Ins)] : List T_api_Ins)⟩ : T_api_Func)] : List T_api_Func)⟩ : T_api_Program) 1).bind fun (x2 : (List Int) × Int × Int) => need (!(iEq (x1.1.length : Int) 4) || nIn (2 : Int) (x1.1.length : Int)) (need (!((iEq (x1.1.length : Int) 4) && (iEq (x1.1.getD (2 : Int).toNat default) 2)) || nIn (3 : Int) (x1.1.length : Int)) ((cond ((((((iEq (x1.1.length : Int) 4) && (iEq (x1.1.getD (2 : Int).toNat default) 2)) && (iEq (x1.1.getD (3 : Int).toNat default) 1)) && (iEq x1.2.2 0)) && (iEq x2.2.1 0)) && (iEq x2.2.2 2)) (depth_Most x1.1) (some default)).bind fun (x5 : Int) => some (((((((iEq (x1.1.length : Int) 4) && (iEq (x1.1.getD (2 : Int).toNat default) 2)) && (iEq (x1.1.getD (3 : Int).toNat default) 1)) && (iEq x1.2.2 0)) && (iEq x2.2.1 0)) && (iEq x2.2.2 2)) && (iEq x5 2))))
def law09_Own_l2 (a0 : List (List T_api_Need)) : Nat → (Int × (List (List T_api_Need))) → Option (List (List T_api_Need))
  | 0, _ => none
  | k2 + 1, s1 => cond ((iLt s1.1 (a0.length : Int)) && (iLt s1.1 6)) (need (nIn s1.1 (a0.length : Int)) (cond (iLt 6 ((a0.getD s1.1.toNat default).length : Int)) (need (nSl (0 : Int) (6 : Int) ((a0.getD s1.1.toNat default).length : Int)) (need (nCap ((([] : List T_api_Need).length + (((a0.getD s1.1.toNat default).take (6 : Int).toNat).drop (0 : Int).toNat).length) * 24)) (need (nCap ((s1.2.length + ([([] : List T_api_Need) ++ (((a0.getD s1.1.toNat default).take (6 : Int).toNat).drop (0 : Int).toNat)] : List (List T_api_Need)).length) * 24)) (law09_Own_l2 a0 k2 (IntKind.i64.wrap (s1.1 + 1), s1.2 ++ ([([] : List T_api_Need) ++ (((a0.getD s1.1.toNat default).take (6 : Int).toNat).drop (0 : Int).toNat)] : List (List T_api_Need))))))) (need (nCap ((([] : List T_api_Need).length + (a0.getD s1.1.toNat default).length) * 24)) (need (nCap ((s1.2.length + ([([] : List T_api_Need) ++ (a0.getD s1.1.toNat default)] : List (List T_api_Need)).length) * 24)) (law09_Own_l2 a0 k2 (IntKind.i64.wrap (s1.1 + 1), s1.2 ++ ([([] : List T_api_Need) ++ (a0.getD s1.1.toNat default)] : List (List T_api_Need)))))))) (some s1.2)
def law09_Own (a0 : List (List T_api_Need)) : Option (List (List T_api_Need)) :=
  law09_Own_l2 a0 fuel (0, ([] : List (List T_api_Need)))
def law10_Own_l19 (a0 : T_api_Program) (s10 : Int × (List T_api_Func)) (K13 : (List T_api_Func) → Option T_api_Program) : Nat → (Int × (List T_api_Ins)) → Option T_api_Program
  | 0, _ => none
  | k19 + 1, s18 => need (nIn s10.1 (a0.Funcs.length : Int)) (cond ((iLt s18.1 (((a0.Funcs.getD s10.1.toNat default).Code).length : Int)) && (iLt s18.1 250)) (need (nIn s10.1 (a0.Funcs.length : Int)) (need (nIn s18.1 (((a0.Funcs.getD s10.1.toNat default).Code).length : Int)) (need (nCap ((s18.2.length + ([(((a0.Funcs.getD s10.1.toNat default).Code).getD s18.1.toNat default)] : List T_api_Ins).length) * 24)) (law10_Own_l19 a0 s10 K13 k19 (IntKind.i64.wrap (s18.1 + 1), s18.2 ++ ([(((a0.Funcs.getD s10.1.toNat default).Code).getD s18.1.toNat default)] : List T_api_Ins)))))) (need (nCap ((s10.2.length + ([(⟨(a0.Funcs.getD s10.1.toNat default).Args, (a0.Funcs.getD s10.1.toNat default).Locals, s18.2⟩ : T_api_Func)] : List T_api_Func).length) * 40)) (K13 (s10.2 ++ ([(⟨(a0.Funcs.getD s10.1.toNat default).Args, (a0.Funcs.getD s10.1.toNat default).Locals, s18.2⟩ : T_api_Func)] : List T_api_Func)))))
def law10_Own_l11 (a0 : T_api_Program) (s2 : Int × (List T_api_Decl)) (s6 : Int × (List (List (List T_api_Need)))) : Nat → (Int × (List T_api_Func)) → Option T_api_Program
  | 0, _ => none
  | k11 + 1, s10 => cond ((iLt s10.1 (a0.Funcs.length : Int)) && (iLt s10.1 20)) (withK (fun s14 : List T_api_Func => law10_Own_l11 a0 s2 s6 k11 (IntKind.i64.wrap (s10.1 + 1), s14)) fun K13 => need (nIn s10.1 (a0.Funcs.length : Int)) (need (nIn s10.1 (a0.Funcs.length : Int)) (law10_Own_l19 a0 s10 K13 fuel (0, ([] : List T_api_Ins))))) (some (⟨s2.2, s6.2, s10.2⟩ : T_api_Program))
def law10_Own_l7 (a0 : T_api_Program) (s2 : Int × (List T_api_Decl)) : Nat → (Int × (List (List (List T_api_Need)))) → Option T_api_Program
  | 0, _ => none
  | k7 + 1, s6 => cond ((iLt s6.1 (a0.Waits.length : Int)) && (iLt s6.1 40)) (need (nIn s6.1 (a0.Waits.length : Int)) ((law09_Own (a0.Waits.getD s6.1.toNat default)).bind fun (x9_7_1 : List (List T_api_Need)) => need (nCap ((s6.2.length + ([x9_7_1] : List (List (List T_api_Need))).length) * 24)) (law10_Own_l7 a0 s2 k7 (IntKind.i64.wrap (s6.1 + 1), s6.2 ++ ([x9_7_1] : List (List (List T_api_Need))))))) (law10_Own_l11 a0 s2 s6 fuel (0, ([] : List T_api_Func)))
def law10_Own_l3 (a0 : T_api_Program) : Nat → (Int × (List T_api_Decl)) → Option T_api_Program
  | 0, _ => none
  | k3 + 1, s2 => cond ((iLt s2.1 (a0.Decls.length : Int)) && (iLt s2.1 40)) (need (nIn s2.1 (a0.Decls.length : Int)) (need (nCap ((s2.2.length + ([(a0.Decls.getD s2.1.toNat default)] : List T_api_Decl).length) * 24)) (law10_Own_l3 a0 k3 (IntKind.i64.wrap (s2.1 + 1), s2.2 ++ ([(a0.Decls.getD s2.1.toNat default)] : List T_api_Decl))))) (law10_Own_l7 a0 s2 fuel (0, ([] : List (List (List T_api_Need)))))
def law10_Own (a0 : T_api_Program) : Option T_api_Program :=
  law10_Own_l3 a0 fuel (0, ([] : List T_api_Decl))
def ref06_Takes : Option (List Int) :=
  some ([0, 0, 1, 2, 2, 2, 2, 2, 1, 2, 2, 2, 2, 2, 2, 2, 1, 1, 0, 1, 0, 1, 0, 0, 1, 0, 0, 1, 1, 0, 1, 1, 0, 1, 0, 0, 0, 0, 0, 1, 2, 0, 1, 2, 1, 0, 1, 0, 0, 1, 0, 0] : List Int)
def ref06_Pops (a0 : T_api_Ins) (a1 : Int) : Option Int :=
  (ref06_Known a0.Op).bind fun (x1 : Bool) => cond (!x1) (some 0) (cond (iEq a0.Op 20) (some a1) (cond ((iEq a0.Op 41) || (iEq a0.Op 42)) ((ref06_Takes).bind fun (x5 : List Int) => need (nIn a0.Op (x5.length : Int)) (some (IntKind.i64.wrap ((x5.getD a0.Op.toNat default) + a0.B)))) ((ref06_Takes).bind fun (x7 : List Int) => need (nIn a0.Op (x7.length : Int)) (some (x7.getD a0.Op.toNat default)))))
def ref06_Lays : Option (List Int) :=
  some ([1, 1, 0, 1, 1, 1, 1, 1, 1, 1, 1, 1, 1, 1, 1, 1, 2, 0, 0, 0, 1, 0, 1, 1, 1, 0, 1, 1, 1, 1, 1, 1, 1, 1, 1, 1, 1, 1, 1, 1, 1, 1, 1, 1, 1, 2, 1, 1, 1, 1, 1, 1] : List Int)
def ref06_Pushes (a0 : Int) : Option Int :=
  (ref06_Known a0).bind fun (x1 : Bool) => cond (!x1) (some 0) ((ref06_Lays).bind fun (x3 : List Int) => need (nIn a0 (x3.length : Int)) (some (x3.getD a0.toNat default)))
def ref11_Behind (a0 : T_api_Program) (a1 : T_api_Ins) (a2 : Int) : Option Int :=
  cond ((iEq a1.Op 20) && (iLt a1.A (a0.Funcs.length : Int))) (need (nIn a1.A (a0.Funcs.length : Int)) ((ref06_Pops a1 ((a0.Funcs.getD a1.A.toNat default).Args)).bind fun (x3 : Int) => cond (iLt (IntKind.i64.wrap (a2 - x3)) 0) (some (-1)) ((ref06_Pushes a1.Op).bind fun (x5 : Int) => some (IntKind.i64.wrap ((IntKind.i64.wrap (a2 - x3)) + x5))))) ((ref06_Pops a1 0).bind fun (x6 : Int) => cond (iLt (IntKind.i64.wrap (a2 - x6)) 0) (some (-1)) ((ref06_Pushes a1.Op).bind fun (x8 : Int) => some (IntKind.i64.wrap ((IntKind.i64.wrap (a2 - x6)) + x8))))
def law11_DepthHolds_l11 (a0 : T_api_Program) (a1 : Int) (a2 : List Bool) (x5 : (List Int) × Int × Int) : Nat → (Int × Int × Int) → Option Bool
  | 0, _ => none
  | k11 + 1, s10 => cond ((iLt s10.2.2 (a2.length : Int)) && (iLt s10.2.2 400)) (need (!(!(iLe (((a0.Funcs.getD a1.toNat default).Code).length : Int) s10.1)) || nIn s10.1 (x5.1.length : Int)) ((cond (!((iLe (((a0.Funcs.getD a1.toNat default).Code).length : Int) s10.1) || (iNe (x5.1.getD s10.1.toNat default) s10.2.1))) (depth_Most x5.1) (some default)).bind fun (x14 : Int) => cond (((iLe (((a0.Funcs.getD a1.toNat default).Code).length : Int) s10.1) || (iNe (x5.1.getD s10.1.toNat default) s10.2.1)) || (iLt x14 s10.2.1)) (some false) (need (nIn s10.1 (((a0.Funcs.getD a1.toNat default).Code).length : Int)) ((ref11_Behind a0 (((a0.Funcs.getD a1.toNat default).Code).getD s10.1.toNat default) s10.2.1).bind fun (x17 : Int) => cond ((iLt x17 0) || (iLt 16 x17)) (some false) (cond (iEq ((((a0.Funcs.getD a1.toNat default).Code).getD s10.1.toNat default).Op) 21) ((law11_lives).bind fun (x20 : Bool) => some x20) (need (!((!(iEq ((((a0.Funcs.getD a1.toNat default).Code).getD s10.1.toNat default).Op) 18)) && (iEq ((((a0.Funcs.getD a1.toNat default).Code).getD s10.1.toNat default).Op) 19)) || nIn s10.2.2 (a2.length : Int)) (cond ((iEq ((((a0.Funcs.getD a1.toNat default).Code).getD s10.1.toNat default).Op) 18) || ((iEq ((((a0.Funcs.getD a1.toNat default).Code).getD s10.1.toNat default).Op) 19) && (a2.getD s10.2.2.toNat default))) (law11_DepthHolds_l11 a0 a1 a2 x5 k11 ((((a0.Funcs.getD a1.toNat default).Code).getD s10.1.toNat default).A, x17, IntKind.i64.wrap (s10.2.2 + 1))) (law11_DepthHolds_l11 a0 a1 a2 x5 k11 (IntKind.i64.wrap (s10.1 + 1), x17, IntKind.i64.wrap (s10.2.2 + 1)))))))))) (need (!(iLt s10.1 (((a0.Funcs.getD a1.toNat default).Code).length : Int)) || nIn s10.1 (x5.1.length : Int)) ((cond ((iLt s10.1 (((a0.Funcs.getD a1.toNat default).Code).length : Int)) && (iEq (x5.1.getD s10.1.toNat default) s10.2.1)) (law11_lives) (some default)).bind fun (x24 : Bool) => some (((iLt s10.1 (((a0.Funcs.getD a1.toNat default).Code).length : Int)) && (iEq (x5.1.getD s10.1.toNat default) s10.2.1)) && x24)))
def law11_DepthHolds (a0 : T_api_Program) (a1 : Int) (a2 : List Bool) : Option Bool :=
  (ref10_Check a0).bind fun (x1 : Int) => cond (iNe x1 0) ((law11_lives).bind fun (x3 : Bool) => some x3) ((law10_Own a0).bind fun (x4 : T_api_Program) => (depth_Of x4 a1).bind fun (x5 : (List Int) × Int × Int) => cond (iNe x5.2.2 0) ((law11_lives).bind fun (x7 : Bool) => some x7) (need (nIn a1 (a0.Funcs.length : Int)) (cond (iNe (x5.1.length : Int) (((a0.Funcs.getD a1.toNat default).Code).length : Int)) (some false) (law11_DepthHolds_l11 a0 a1 a2 x5 fuel (0, 0, 0)))))
end LJ
