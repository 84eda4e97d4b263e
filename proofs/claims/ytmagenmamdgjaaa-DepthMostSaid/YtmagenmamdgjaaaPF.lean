/- Plain functions that compute what the Go functions of this seat compute. -/
import Derived.Test.YtmagenmamdgjaaaXEq
import Derived.Test.YtmagenmamdgjaaaXArr
namespace LJ
open Go
set_option linter.unusedVariables false
structure T_api_Decl where
  Kind : Int
  A : Int
  B : Int
  deriving Inhabited, DecidableEq
structure T_api_Need where
  Kind : Int
  Obj : Int
  N : Int
  deriving Inhabited, DecidableEq
structure T_api_Ins where
  Op : Int
  A : Int
  B : Int
  deriving Inhabited, DecidableEq
structure T_api_Func where
  Args : Int
  Locals : Int
  Code : List T_api_Ins
  deriving Inhabited, DecidableEq
structure T_api_Program where
  Decls : List T_api_Decl
  Waits : List (List (List T_api_Need))
  Funcs : List T_api_Func
  deriving Inhabited, DecidableEq
structure T_depth_walk where
  p : T_api_Program
  code : List T_api_Ins
  depth : List Int
  next : List Bool
  at_ : Int
  err : Int
  deriving Inhabited, DecidableEq
def enc_api_Decl (x : T_api_Decl) : List DV := [.int .i64 x.Kind, .int .i64 x.A, .int .i64 x.B]
def enc_api_Need (x : T_api_Need) : List DV := [.int .i64 x.Kind, .int .i64 x.Obj, .int .i64 x.N]
def enc_sl_api_Need (x : List T_api_Need) : List DV := [slT enc_api_Need x]
def enc_sl_sl_api_Need (x : List (List T_api_Need)) : List DV := [slT enc_sl_api_Need x]
def enc_api_Ins (x : T_api_Ins) : List DV := [.int .i64 x.Op, .int .i64 x.A, .int .i64 x.B]
def enc_api_Func (x : T_api_Func) : List DV := [.int .i64 x.Args, .int .i64 x.Locals, slT enc_api_Ins x.Code]
def enc_i64 (x : Int) : List DV := [.int .i64 x]
def enc_bool (x : Bool) : List DV := [.bool x]

def depth_walk_wrong (a0 : T_depth_walk) (a1 : Int) (a2 : Int) : Option T_depth_walk :=
  cond ((iEq a0.err 0) || (iLt a1 a0.at_)) (some (⟨a0.p, a0.code, a0.depth, a0.next, a1, a2⟩ : T_depth_walk)) (some a0)
def depth_walk_leads (a0 : T_depth_walk) (a1 : Int) (a2 : Int) (a3 : Int) : Option (Bool × T_depth_walk) :=
  cond (iLe (a0.code.length : Int) a2) ((depth_walk_wrong a0 a1 3).bind fun (x2 : T_depth_walk) => some (false, x2)) (need (nIn a2 (a0.depth.length : Int)) (cond (iLt (a0.depth.getD a2.toNat default) 0) (need (nIn a2 (a0.depth.length : Int)) (need (nIn a2 (a0.next.length : Int)) (some (true, (⟨a0.p, a0.code, a0.depth.set a2.toNat a3, a0.next.set a2.toNat true, a0.at_, a0.err⟩ : T_depth_walk))))) (need (nIn a2 (a0.depth.length : Int)) (cond (iNe (a0.depth.getD a2.toNat default) a3) ((depth_walk_wrong a0 a1 2).bind fun (x9 : T_depth_walk) => some (false, x9)) (some (true, a0))))))
def slices_Index___bool_bool__l2 (a0 : List Bool) (a1 : Bool) : Nat → Int → Option Int
  | 0, _ => none
  | k2 + 1, s1 => cond (iLt s1 (a0.length : Int)) (need (nIn s1 (a0.length : Int)) (cond (a1 == (a0.getD s1.toNat default)) (some s1) (slices_Index___bool_bool__l2 a0 a1 k2 (IntKind.i64.wrap (s1 + 1))))) (some (-1))
def slices_Index___bool_bool_ (a0 : List Bool) (a1 : Bool) : Option Int :=
  slices_Index___bool_bool__l2 a0 a1 fuel 0
def depth_walk_least (a0 : T_depth_walk) : Option Int :=
  (slices_Index___bool_bool_ a0.next true).bind fun (x1 : Int) => some x1
def op_known (a0 : Int) : Option Bool :=
  some ((iLe 0 a0) && (iLt a0 52))
def op_shape (a0 : Int) : Option Int :=
  cond (iEq a0 2) (some 2) (cond (iEq a0 17) (some 2) (cond (iEq a0 19) (some 2) (cond (iEq a0 21) (some 2) (cond (iEq a0 18) (some 0) (cond (iEq a0 25) (some 0) (cond (iEq a0 16) (some 5) (cond (iEq a0 45) (some 6) (cond (iEq a0 40) (some 4) (cond (iEq a0 43) (some 4) (cond (iEq a0 8) (some 3) (cond (iEq a0 24) (some 3) (cond (iEq a0 27) (some 3) (cond (iEq a0 28) (some 3) (cond (iEq a0 30) (some 3) (cond (iEq a0 31) (some 3) (cond (iEq a0 33) (some 3) (cond (iEq a0 39) (some 3) (cond (iEq a0 44) (some 3) (cond (iEq a0 46) (some 3) (cond (iEq a0 49) (some 3) (cond ((iLe 3 a0) && (iLe a0 15)) (some 4) ((op_known a0).bind fun (x23 : Bool) => cond x23 (some 1) (some 0)))))))))))))))))))))))
def op_Pops (a0 : T_api_Ins) (a1 : Int) : Option Int :=
  withK (fun s2 : Int => some (IntKind.i64.wrap (s2 + a0.B))) fun K1 => cond (iEq a0.Op 20) (some a1) (cond (iEq a0.Op 42) (K1 (IntKind.i64.wrap ((0 : Int) + 1))) (cond (iEq a0.Op 41) (K1 0) ((op_shape a0.Op).bind fun (x6 : Int) => withK (fun s8 : Int => some (IntKind.i64.wrap (s8 + 1))) fun K7 => cond (iEq x6 4) (K7 (IntKind.i64.wrap ((0 : Int) + 1))) (cond (iEq x6 2) (K7 0) (cond (iEq x6 3) (K7 0) (cond (iEq x6 5) (K7 0) (some 0)))))))
def op_Pushes (a0 : Int) : Option Int :=
  (op_shape a0).bind fun (x1 : Int) => cond (iEq x1 5) (some 2) (cond (iEq x1 6) (some 2) (cond (iEq x1 1) (some 1) (cond (iEq x1 3) (some 1) (cond (iEq x1 4) (some 1) (some 0)))))
def op_Goes (a0 : Int) : Option Bool :=
  (op_known a0).bind fun (x1 : Bool) => some ((x1 && (iNe a0 18)) && (iNe a0 21))
def depth_walk_look (a0 : T_depth_walk) (a1 : Int) : Option T_depth_walk :=
  need (nIn a1 (a0.code.length : Int)) (cond ((iEq ((a0.code.getD a1.toNat default).Op) 20) && (iLt ((a0.code.getD a1.toNat default).A) (a0.p.Funcs.length : Int))) (need (nIn ((a0.code.getD a1.toNat default).A) (a0.p.Funcs.length : Int)) (need (nIn a1 (a0.depth.length : Int)) ((op_Pops (a0.code.getD a1.toNat default) ((a0.p.Funcs.getD ((a0.code.getD a1.toNat default).A).toNat default).Args)).bind fun (x3_9_1 : Int) => cond (iLt (IntKind.i64.wrap ((a0.depth.getD a1.toNat default) - x3_9_1)) 0) ((depth_walk_wrong a0 a1 2).bind fun (x5 : T_depth_walk) => some x5) ((op_Pushes ((a0.code.getD a1.toNat default).Op)).bind fun (x6 : Int) => cond (iLt 16 (IntKind.i64.wrap ((IntKind.i64.wrap ((a0.depth.getD a1.toNat default) - x3_9_1)) + x6))) ((depth_walk_wrong a0 a1 4).bind fun (x8 : T_depth_walk) => some x8) ((op_Goes ((a0.code.getD a1.toNat default).Op)).bind fun (x9 : Bool) => cond x9 ((depth_walk_leads a0 a1 (IntKind.i64.wrap (a1 + 1)) (IntKind.i64.wrap ((IntKind.i64.wrap ((a0.depth.getD a1.toNat default) - x3_9_1)) + x6))).bind fun (x11 : Bool × T_depth_walk) => cond (!x11.1) (some x11.2) (cond ((iEq ((a0.code.getD a1.toNat default).Op) 18) || (iEq ((a0.code.getD a1.toNat default).Op) 19)) ((depth_walk_leads x11.2 a1 ((a0.code.getD a1.toNat default).A) (IntKind.i64.wrap ((IntKind.i64.wrap ((a0.depth.getD a1.toNat default) - x3_9_1)) + x6))).bind fun (x14 : Bool × T_depth_walk) => some x14.2) (some x11.2))) (cond ((iEq ((a0.code.getD a1.toNat default).Op) 18) || (iEq ((a0.code.getD a1.toNat default).Op) 19)) ((depth_walk_leads a0 a1 ((a0.code.getD a1.toNat default).A) (IntKind.i64.wrap ((IntKind.i64.wrap ((a0.depth.getD a1.toNat default) - x3_9_1)) + x6))).bind fun (x16 : Bool × T_depth_walk) => some x16.2) (some a0))))))) (need (nIn a1 (a0.depth.length : Int)) ((op_Pops (a0.code.getD a1.toNat default) 0).bind fun (x3_9_1 : Int) => cond (iLt (IntKind.i64.wrap ((a0.depth.getD a1.toNat default) - x3_9_1)) 0) ((depth_walk_wrong a0 a1 2).bind fun (x18 : T_depth_walk) => some x18) ((op_Pushes ((a0.code.getD a1.toNat default).Op)).bind fun (x19 : Int) => cond (iLt 16 (IntKind.i64.wrap ((IntKind.i64.wrap ((a0.depth.getD a1.toNat default) - x3_9_1)) + x19))) ((depth_walk_wrong a0 a1 4).bind fun (x21 : T_depth_walk) => some x21) ((op_Goes ((a0.code.getD a1.toNat default).Op)).bind fun (x22 : Bool) => cond x22 ((depth_walk_leads a0 a1 (IntKind.i64.wrap (a1 + 1)) (IntKind.i64.wrap ((IntKind.i64.wrap ((a0.depth.getD a1.toNat default) - x3_9_1)) + x19))).bind fun (x24 : Bool × T_depth_walk) => cond (!x24.1) (some x24.2) (cond ((iEq ((a0.code.getD a1.toNat default).Op) 18) || (iEq ((a0.code.getD a1.toNat default).Op) 19)) ((depth_walk_leads x24.2 a1 ((a0.code.getD a1.toNat default).A) (IntKind.i64.wrap ((IntKind.i64.wrap ((a0.depth.getD a1.toNat default) - x3_9_1)) + x19))).bind fun (x27 : Bool × T_depth_walk) => some x27.2) (some x24.2))) (cond ((iEq ((a0.code.getD a1.toNat default).Op) 18) || (iEq ((a0.code.getD a1.toNat default).Op) 19)) ((depth_walk_leads a0 a1 ((a0.code.getD a1.toNat default).A) (IntKind.i64.wrap ((IntKind.i64.wrap ((a0.depth.getD a1.toNat default) - x3_9_1)) + x19))).bind fun (x29 : Bool × T_depth_walk) => some x29.2) (some a0)))))))
def depth_Of_l13 : Nat → (Int × (List T_api_Decl) × (List (List (List T_api_Need))) × (List T_api_Func) × (List T_api_Ins) × Int × Int × (List Int) × (List Bool)) → Option ((List Int) × Int × Int)
  | 0, _ => none
  | k13 + 1, s12 => cond (iLe 0 s12.1) (need (nIn s12.1 (s12.2.2.2.2.2.2.2.2.length : Int)) ((depth_walk_look (⟨(⟨s12.2.1, s12.2.2.1, s12.2.2.2.1⟩ : T_api_Program), s12.2.2.2.2.1, s12.2.2.2.2.2.2.2.1, s12.2.2.2.2.2.2.2.2.set s12.1.toNat false, s12.2.2.2.2.2.1, s12.2.2.2.2.2.2.1⟩ : T_depth_walk) s12.1).bind fun (x16 : T_depth_walk) => (depth_walk_least x16).bind fun (x17 : Int) => depth_Of_l13 k13 (x17, x16.p.Decls, x16.p.Waits, x16.p.Funcs, x16.code, x16.at_, x16.err, x16.depth, x16.next))) (cond (iNe s12.2.2.2.2.2.2.1 0) (some ([], s12.2.2.2.2.2.1, s12.2.2.2.2.2.2.1)) (some (s12.2.2.2.2.2.2.2.1, 0, 0)))
def depth_Of_l5 (a0 : T_api_Program) (a1 : Int) : Nat → (Int × (List Int)) → Option ((List Int) × Int × Int)
  | 0, _ => none
  | k5 + 1, s4 => cond (iLt s4.1 (((List.replicate (((a0.Funcs.getD a1.toNat default).Code).length : Int).toNat (0 : Int)).map enc_i64).length : Int)) (need (nIn s4.1 (s4.2.length : Int)) (depth_Of_l5 a0 a1 k5 (IntKind.i64.wrap (s4.1 + 1), s4.2.set s4.1.toNat (-1)))) (cond (iEq (((a0.Funcs.getD a1.toNat default).Code).length : Int) 0) (some ([], 0, 3)) (need (nMk (((a0.Funcs.getD a1.toNat default).Code).length : Int) 1) ((depth_walk_leads (⟨a0, (a0.Funcs.getD a1.toNat default).Code, s4.2, List.replicate (((a0.Funcs.getD a1.toNat default).Code).length : Int).toNat (false : Bool), 0, 0⟩ : T_depth_walk) 0 0 0).bind fun (x10 : Bool × T_depth_walk) => (depth_walk_least x10.2).bind fun (x11 : Int) => depth_Of_l13 fuel (x11, x10.2.p.Decls, x10.2.p.Waits, x10.2.p.Funcs, x10.2.code, x10.2.at_, x10.2.err, x10.2.depth, x10.2.next))))
def depth_Of (a0 : T_api_Program) (a1 : Int) : Option ((List Int) × Int × Int) :=
  cond ((iLt a1 0) || (iLe (a0.Funcs.length : Int) a1)) (some ([], 0, 19)) (need (nIn a1 (a0.Funcs.length : Int)) (need (nMk (((a0.Funcs.getD a1.toNat default).Code).length : Int) 8) (depth_Of_l5 a0 a1 fuel (0, List.replicate (((a0.Funcs.getD a1.toNat default).Code).length : Int).toNat (0 : Int)))))
def depth_Most_l2 (a0 : List Int) : Nat → (Int × Int) → Option Int
  | 0, _ => none
  | k2 + 1, s1 => cond (iLt s1.2 (a0.length : Int)) (need (nIn s1.2 (a0.length : Int)) (depth_Most_l2 a0 k2 (iMax s1.1 (a0.getD s1.2.toNat default), IntKind.i64.wrap (s1.2 + 1)))) (some s1.1)
def depth_Most (a0 : List Int) : Option Int :=
  depth_Most_l2 a0 fuel (0, 0)
def law11_lives : Option Bool :=
  (depth_Of (⟨[], [], ([(⟨0, 0, ([(⟨0, 0, 0⟩ : T_api_Ins), (⟨0, 0, 0⟩ : T_api_Ins), (⟨3, 0, 0⟩ : T_api_Ins), (⟨21, 0, 0⟩ : T_api_Ins)] : List T_api_Ins)⟩ : T_api_Func), (⟨0, 0, ([(⟨21, 0, 0⟩ : T_api_Ins)] : List T_api_Ins)⟩ : T_api_Func)] : List T_api_Func)⟩ : T_api_Program) 0).bind fun (x1 : (List Int) × Int × Int) => (depth_Of (⟨[], [], ([(⟨0, 0, ([(⟨0, 0, 0⟩ : T_api_Ins), (⟨0, 0, 0⟩ : T_api_Ins), (⟨3, 0, 0⟩ : T_api_Ins), (⟨21, 0, 0⟩ : T_api_Ins)] : List T_api_Ins)⟩ : T_api_Func), (⟨0, 0, ([(⟨21, 0, 0⟩ : T_api_Ins)] : List T_api_Ins)⟩ : T_api_Func)] : List T_api_Func)⟩ : T_api_Program) 1).bind fun (x2 : (List Int) × Int × Int) => need (!(iEq (x1.1.length : Int) 4) || nIn (2 : Int) (x1.1.length : Int)) (need (!((iEq (x1.1.length : Int) 4) && (iEq (x1.1.getD (2 : Int).toNat default) 2)) || nIn (3 : Int) (x1.1.length : Int)) ((cond ((((((iEq (x1.1.length : Int) 4) && (iEq (x1.1.getD (2 : Int).toNat default) 2)) && (iEq (x1.1.getD (3 : Int).toNat default) 1)) && (iEq x1.2.2 0)) && (iEq x2.2.1 0)) && (iEq x2.2.2 2)) (depth_Most x1.1) (some default)).bind fun (x5 : Int) => some (((((((iEq (x1.1.length : Int) 4) && (iEq (x1.1.getD (2 : Int).toNat default) 2)) && (iEq (x1.1.getD (3 : Int).toNat default) 1)) && (iEq x1.2.2 0)) && (iEq x2.2.1 0)) && (iEq x2.2.2 2)) && (iEq x5 2))))
def law11_DepthMost_l6 (a0 : List Int) (x4 : Int) : Nat → (Bool × Int) → Option Bool
  | 0, _ => none
  | k6 + 1, s5 => cond (iLt s5.2 (((a0.take (300 : Int).toNat).drop (0 : Int).toNat).length : Int)) (need (nIn s5.2 (((a0.take (300 : Int).toNat).drop (0 : Int).toNat).length : Int)) (cond (iLt x4 (((a0.take (300 : Int).toNat).drop (0 : Int).toNat).getD s5.2.toNat default)) (some false) (need (!(!s5.1) || nIn s5.2 (((a0.take (300 : Int).toNat).drop (0 : Int).toNat).length : Int)) (law11_DepthMost_l6 a0 x4 k6 ((s5.1 || (iEq (((a0.take (300 : Int).toNat).drop (0 : Int).toNat).getD s5.2.toNat default) x4)), IntKind.i64.wrap (s5.2 + 1)))))) ((cond ((iLe 0 x4) && (s5.1 || (iEq x4 0))) (law11_lives) (some default)).bind fun (x11 : Bool) => some (((iLe 0 x4) && (s5.1 || (iEq x4 0))) && x11))
def law11_DepthMost_l15 (a0 : List Int) (x13 : Int) : Nat → (Bool × Int) → Option Bool
  | 0, _ => none
  | k15 + 1, s14 => cond (iLt s14.2 (a0.length : Int)) (need (nIn s14.2 (a0.length : Int)) (cond (iLt x13 (a0.getD s14.2.toNat default)) (some false) (need (!(!s14.1) || nIn s14.2 (a0.length : Int)) (law11_DepthMost_l15 a0 x13 k15 ((s14.1 || (iEq (a0.getD s14.2.toNat default) x13)), IntKind.i64.wrap (s14.2 + 1)))))) ((cond ((iLe 0 x13) && (s14.1 || (iEq x13 0))) (law11_lives) (some default)).bind fun (x20 : Bool) => some (((iLe 0 x13) && (s14.1 || (iEq x13 0))) && x20))
def law11_DepthMost (a0 : List Int) : Option Bool :=
  cond (iLt 300 (a0.length : Int)) (need (nSl (0 : Int) (300 : Int) (a0.length : Int)) (need (nCap ((([] : List Int).length + ((a0.take (300 : Int).toNat).drop (0 : Int).toNat).length) * 8)) ((depth_Most (([] : List Int) ++ ((a0.take (300 : Int).toNat).drop (0 : Int).toNat))).bind fun (x4 : Int) => law11_DepthMost_l6 a0 x4 fuel (false, 0)))) (need (nCap ((([] : List Int).length + a0.length) * 8)) ((depth_Most (([] : List Int) ++ a0)).bind fun (x13 : Int) => law11_DepthMost_l15 a0 x13 fuel (false, 0)))
end LJ
