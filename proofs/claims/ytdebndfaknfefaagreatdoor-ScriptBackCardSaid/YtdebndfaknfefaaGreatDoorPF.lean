/- Plain functions that compute what the Go functions of this seat compute. -/
import Derived.Test.YtdebndfaknfefaaGreatDoorXEq
import Derived.Test.YtdebndfaknfefaaGreatDoorXSub
import Derived.Test.YtdebndfaknfefaaGreatDoorXShelf
import Derived.Test.YtdebndfaknfefaaGreatDoorXPan
import Derived.Test.YtdebndfaknfefaaGreatDoorXDef
import Derived.Test.YtdebndfaknfefaaGreatDoorXByt
namespace LJ
open Go
set_option linter.unusedVariables false
structure af where
  Kind:Int
  Obj:Int
  N:Int
  deriving Inhabited,DecidableEq
def bn (x:af):List DV:=[.int .i64 x.Kind, .int .i64 x.Obj, .int .i64 x.N]
def aC (x:List af):List DV:=[slT bn x]
structure ai where
  Kind:Int
  A:Int
  B:Int
  deriving Inhabited,DecidableEq
structure aq where
  Op:Int
  A:Int
  B:Int
  deriving Inhabited,DecidableEq
structure aw where
  Args:Int
  Locals:Int
  Code:List aq
  deriving Inhabited,DecidableEq
structure aa where
  Decls:List ai
  Waits:List (List (List af))
  Funcs:List aw
  deriving Inhabited,DecidableEq
def ah (x:ai):List DV:=[.int .i64 x.Kind, .int .i64 x.A, .int .i64 x.B]
def ab (x:List (List af)):List DV:=[slT aC x]
def aB (x:aq):List DV:=[.int .i64 x.Op, .int .i64 x.A, .int .i64 x.B]
def aj (x:aw):List DV:=[.int .i64 x.Args, .int .i64 x.Locals,slT aB x.Code]
structure ba where
  Mode:Int
  Workers:Int
  Quantum:Int
  Policy:Int
  deriving Inhabited,DecidableEq
structure ax where
  Kind:Int
  A:Int
  B:Int
  deriving Inhabited,DecidableEq
structure ar where
  Config:ba
  Program:aa
  Events:List ax
  deriving Inhabited,DecidableEq
def aA (x:ax):List DV:=[.int .i64 x.Kind, .int .i64 x.A, .int .i64 x.B]
def aE (x:Int):List DV:=[.int .i64 x]
def rJ (x:List Int):List DV:=[slT aE x]
def fq (x:ByteArray):List DV:=[.str x]
def bu (x:Bool):List DV:=[.bool x]
structure dW where
  Lo:Int
  Hi:Int
  Stride:Int
  deriving Inhabited,DecidableEq
def vB (x:dW):List DV:=[.int .u16 x.Lo, .int .u16 x.Hi, .int .u16 x.Stride]
structure dX where
  Lo:Int
  Hi:Int
  Stride:Int
  deriving Inhabited,DecidableEq
def vC (x:dX):List DV:=[.int .u32 x.Lo, .int .u32 x.Hi, .int .u32 x.Stride]
structure lx where
  R16:List dW
  R32:List dX
  LatinOffset:Int
  deriving Inhabited,DecidableEq
structure aF where
  p:aa
  code:List aq
  depth:List Int
  next:List Bool
  at_:Int
  err:Int
  deriving Inhabited,DecidableEq
def Cv (x:Int):List DV:=[.int .u8 x]
structure de where
  Fn:Int
  Pc:Int
  deriving Inhabited,DecidableEq
structure ay where
  b:ByteArray
  deriving Inhabited,DecidableEq
structure aH where
  addr:Bool
  buf:ByteArray
  deriving Inhabited,DecidableEq
structure ak where
  s:ByteArray
  at_:Int
  err:Int
  deriving Inhabited,DecidableEq
structure ao where
  s:ByteArray
  deriving Inhabited,DecidableEq
def ea (a0:List (List af)):Nat→(Int×(List (List af)))→Option (List (List af))
  | 0,_=>none
  | k2+1,s1=>cond ((iLt s1.1 (a0.length:Int))&&(iLt s1.1 6)) (need (nIn s1.1 (a0.length:Int)) (cond (iLt 6 ((a0.getD s1.1.toNat default).length:Int)) (need (nSl (0:Int) (6:Int) ((a0.getD s1.1.toNat default).length:Int)) (need (nCap ((([]:List af).length+(((a0.getD s1.1.toNat default).take (6:Int).toNat).drop (0:Int).toNat).length)*24)) (need (nCap ((s1.2.length+([([]:List af)++(((a0.getD s1.1.toNat default).take (6:Int).toNat).drop (0:Int).toNat)]:List (List af)).length)*24)) (ea a0 k2 (IntKind.i64.wrap (s1.1+1),s1.2++([([]:List af)++(((a0.getD s1.1.toNat default).take (6:Int).toNat).drop (0:Int).toNat)]:List (List af))))))) (need (nCap ((([]:List af).length+(a0.getD s1.1.toNat default).length)*24)) (need (nCap ((s1.2.length+([([]:List af)++(a0.getD s1.1.toNat default)]:List (List af)).length)*24)) (ea a0 k2 (IntKind.i64.wrap (s1.1+1),s1.2++([([]:List af)++(a0.getD s1.1.toNat default)]:List (List af)))))))) (some s1.2)
def kv (a0:List (List af)):Option (List (List af)):=
  ea a0 fuel (0,([]:List (List af)))
def eh (a0:aa) (s10:Int×(List aw)) (K13:(List aw)→Option aa):Nat→(Int×(List aq))→Option aa
  | 0,_=>none
  | k19+1,s18=>need (nIn s10.1 (a0.Funcs.length:Int)) (cond ((iLt s18.1 (((a0.Funcs.getD s10.1.toNat default).Code).length:Int))&&(iLt s18.1 250)) (need (nIn s10.1 (a0.Funcs.length:Int)) (need (nIn s18.1 (((a0.Funcs.getD s10.1.toNat default).Code).length:Int)) (need (nCap ((s18.2.length+([(((a0.Funcs.getD s10.1.toNat default).Code).getD s18.1.toNat default)]:List aq).length)*24)) (eh a0 s10 K13 k19 (IntKind.i64.wrap (s18.1+1),s18.2++([(((a0.Funcs.getD s10.1.toNat default).Code).getD s18.1.toNat default)]:List aq)))))) (need (nCap ((s10.2.length+([(⟨(a0.Funcs.getD s10.1.toNat default).Args,(a0.Funcs.getD s10.1.toNat default).Locals,s18.2⟩:aw)]:List aw).length)*40)) (K13 (s10.2++([(⟨(a0.Funcs.getD s10.1.toNat default).Args,(a0.Funcs.getD s10.1.toNat default).Locals,s18.2⟩:aw)]:List aw)))))
def dG (a0:aa) (s2:Int×(List ai)) (s6:Int×(List (List (List af)))):Nat→(Int×(List aw))→Option aa
  | 0,_=>none
  | k11+1,s10=>cond ((iLt s10.1 (a0.Funcs.length:Int))&&(iLt s10.1 20)) (iJ (fun s14:List aw=>dG a0 s2 s6 k11 (IntKind.i64.wrap (s10.1+1),s14)) fun K13=>need (nIn s10.1 (a0.Funcs.length:Int)) (need (nIn s10.1 (a0.Funcs.length:Int)) (eh a0 s10 K13 fuel (0,([]:List aq))))) (some (⟨s2.2,s6.2,s10.2⟩:aa))
def eT (a0:aa) (s2:Int×(List ai)):Nat→(Int×(List (List (List af))))→Option aa
  | 0,_=>none
  | k7+1,s6=>cond ((iLt s6.1 (a0.Waits.length:Int))&&(iLt s6.1 40)) (need (nIn s6.1 (a0.Waits.length:Int)) ((kv (a0.Waits.getD s6.1.toNat default)).bind fun (x9_7_1:List (List af))=>need (nCap ((s6.2.length+([x9_7_1]:List (List (List af))).length)*24)) (eT a0 s2 k7 (IntKind.i64.wrap (s6.1+1),s6.2++([x9_7_1]:List (List (List af))))))) (dG a0 s2 s6 fuel (0,([]:List aw)))
def eU (a0:aa):Nat→(Int×(List ai))→Option aa
  | 0,_=>none
  | k3+1,s2=>cond ((iLt s2.1 (a0.Decls.length:Int))&&(iLt s2.1 40)) (need (nIn s2.1 (a0.Decls.length:Int)) (need (nCap ((s2.2.length+([(a0.Decls.getD s2.1.toNat default)]:List ai).length)*24)) (eU a0 k3 (IntKind.i64.wrap (s2.1+1),s2.2++([(a0.Decls.getD s2.1.toNat default)]:List ai))))) (eT a0 s2 fuel (0,([]:List (List (List af)))))
def jC (a0:aa):Option aa:=
  eU a0 fuel (0,([]:List ai))
def jD (a0:ar):Option ar:=
  cond (iLt 4100 (a0.Events.length:Int)) (need (nSl (0:Int) (4100:Int) (a0.Events.length:Int)) ((jC a0.Program).bind fun (x4_4_1:aa)=>need (nCap ((([]:List ax).length+((a0.Events.take (4100:Int).toNat).drop (0:Int).toNat).length)*24)) (some (⟨a0.Config,x4_4_1,([]:List ax)++((a0.Events.take (4100:Int).toNat).drop (0:Int).toNat)⟩:ar)))) ((jC a0.Program).bind fun (x4_4_1:aa)=>need (nCap ((([]:List ax).length+a0.Events.length)*24)) (some (⟨a0.Config,x4_4_1,([]:List ax)++a0.Events⟩:ar)))
def gR (a0:ba):Option Int:=
  cond ((((((((iLt a0.Mode 0)||(iLt 2 a0.Mode))||(iLt a0.Workers 1))||(iLt 8 a0.Workers))||(iLt a0.Quantum 1))||(iLt 100 a0.Quantum))||(iLt a0.Policy 0))||(iLt 3 a0.Policy)) (some 1) (some 0)
def iz (a0:Int):Option Bool:=
  some ((iLe (-2147483648) a0)&&(iLt a0 2147483648))
def df (a0:Int):Nat→Int→Option (List Int)
  | 0,_=>none
  | k2+1,s1=>cond (iLt s1 ((⟨#[117,115,112,99,109,98,118,113]⟩:ByteArray).size:Int)) (need (nIn s1 ((⟨#[117,115,112,99,109,98,118,113]⟩:ByteArray).size:Int)) (cond (iEq (bc (⟨#[117,115,112,99,109,98,118,113]⟩:ByteArray) s1.toNat) a0) (need (nIn s1 (([([1,2]:List Int),([3]:List Int),([6]:List Int),([4]:List Int),([1]:List Int),([5]:List Int),([7]:List Int),([1,6]:List Int)]:List (List Int)).length:Int)) (some (([([1,2]:List Int),([3]:List Int),([6]:List Int),([4]:List Int),([1]:List Int),([5]:List Int),([7]:List Int),([1,6]:List Int)]:List (List Int)).getD s1.toNat default))) (df a0 k2 (IntKind.i64.wrap (s1+1))))) (some [])
def gu (a0:Int):Option (List Int):=
  df a0 fuel 0
def cx (a0:List ai) (a2:Int) (x1:List Int):Nat→Int→Option Bool
  | 0,_=>none
  | k3+1,s2=>cond (((iLt s2 (x1.length:Int))&&(iLe 0 a2))&&(iLt a2 (a0.length:Int))) (need (nIn a2 (a0.length:Int)) (need (nIn s2 (x1.length:Int)) (cond (iEq ((a0.getD a2.toNat default).Kind) (x1.getD s2.toNat default)) (some true) (cx a0 a2 x1 k3 (IntKind.i64.wrap (s2+1)))))) (some false)
def fO (a0:List ai) (a1:Int) (a2:Int):Option Bool:=
  (gu a1).bind fun (x1:List Int)=>cx a0 a2 x1 fuel 0
def iL (a0:List ai) (a1:ai):Option Int:=
  cond ((iLt a1.Kind 1)||(iLt 7 a1.Kind)) (some 6) (cond ((iEq a1.Kind 3)&&((((iLt a1.B 1)||(iLt 1000 a1.B))||(iLt a1.A 0))||(iLt a1.B a1.A))) (some 1) (cond ((iEq a1.Kind 6)&&((iLt a1.A 1)||(iLt 1000 a1.A))) (some 1) ((cond (iEq a1.Kind 7) (iz a1.A) (some default)).bind fun (x4:Bool)=>(cond ((iEq a1.Kind 7)&& !(!x4)) (fO a0 117 a1.B) (some default)).bind fun (x5:Bool)=>cond ((iEq a1.Kind 7)&&((!x4)||(!x5))) (some 1) (cond ((((iNe a1.Kind 3)&&(iNe a1.Kind 7))&&(iNe a1.B 0))||((((iNe a1.Kind 3)&&(iNe a1.Kind 6))&&(iNe a1.Kind 7))&&(iNe a1.A 0))) (some 2) (some 0)))))
def cu (a0:List ai):Nat→Int→Option (Int×Int)
  | 0,_=>none
  | k3+1,s2=>cond (iLt s2 (a0.length:Int)) (need (nIn s2 (a0.length:Int)) ((iL a0 (a0.getD s2.toNat default)).bind fun (x6:Int)=>cond (iNe x6 0) (some (s2,x6)) (cu a0 k3 (IntKind.i64.wrap (s2+1))))) (some (0,0))
def fE (a0:List ai):Option (Int×Int):=
  cond (iLt 32 (a0.length:Int)) (some (0,4)) (cu a0 fuel 0)
def iM (a0:List ai) (a1:af):Option Int:=
  cond ((iLt a1.Kind 1)||(iLt 5 a1.Kind)) (some 6) (need (!(!((iLt a1.Obj 0)||(iLe (a0.length:Int) a1.Obj)))||nIn a1.Obj (a0.length:Int)) (need (!(!((iLt a1.Obj 0)||(iLe (a0.length:Int) a1.Obj)))||nIn a1.Kind (([0,1,2,2,3,6]:List Int).length:Int)) (cond (((iLt a1.Obj 0)||(iLe (a0.length:Int) a1.Obj))||(iNe ((a0.getD a1.Obj.toNat default).Kind) (([0,1,2,2,3,6]:List Int).getD a1.Kind.toNat default))) (some 1) (cond (iEq a1.Kind 4) (need (nIn a1.Obj (a0.length:Int)) (cond (iEq a1.Kind 5) (need (nIn a1.Obj (a0.length:Int)) (cond ((iLt a1.N 1)||(iLt ((a0.getD a1.Obj.toNat default).A) a1.N)) (some 1) (some 0))) (cond ((iLt a1.N 1)||(iLt ((a0.getD a1.Obj.toNat default).B) a1.N)) (some 1) (some 0)))) (cond (iEq a1.Kind 5) (need (nIn a1.Obj (a0.length:Int)) (cond ((iLt a1.N 1)||(iLt ((a0.getD a1.Obj.toNat default).A) a1.N)) (some 1) (some 0))) (cond ((iLt a1.N 0)||(iLt 0 a1.N)) (some 1) (some 0)))))))
def b8 (a1:List (List af)) (s3:Int) (s17:Int) (K20:Unit→Option Int):Nat→Int→Option Int
  | 0,_=>none
  | k23+1,s22=>cond (iLt s22 s17) (need (nIn s22 ((a1.getD s3.toNat default).length:Int)) (need (nIn s17 ((a1.getD s3.toNat default).length:Int)) (need (!(!(iEq (((a1.getD s3.toNat default).getD s22.toNat default).Obj) (((a1.getD s3.toNat default).getD s17.toNat default).Obj)))||nIn s22 ((a1.getD s3.toNat default).length:Int)) (need (!(!((iEq (((a1.getD s3.toNat default).getD s22.toNat default).Obj) (((a1.getD s3.toNat default).getD s17.toNat default).Obj))||(iEq (((a1.getD s3.toNat default).getD s22.toNat default).Kind) 4)))||nIn s17 ((a1.getD s3.toNat default).length:Int)) (cond (((iEq (((a1.getD s3.toNat default).getD s22.toNat default).Obj) (((a1.getD s3.toNat default).getD s17.toNat default).Obj))||(iEq (((a1.getD s3.toNat default).getD s22.toNat default).Kind) 4))||(iEq (((a1.getD s3.toNat default).getD s17.toNat default).Kind) 4)) (some 2) (b8 a1 s3 s17 K20 k23 (IntKind.i64.wrap (s22+1)))))))) (K20 Unit.unit)
def bK (a1:List (List af)) (s3:Int) (K6:Unit→Option Int):Nat→Int→Option Int
  | 0,_=>none
  | k18+1,s17=>cond (iLt s17 ((a1.getD s3.toNat default).length:Int)) (iJ (fun s21:Unit=>bK a1 s3 K6 k18 (IntKind.i64.wrap (s17+1))) fun K20=>b8 a1 s3 s17 K20 fuel 0) (K6 Unit.unit)
def b9 (a0:List ai) (a1:List (List af)) (s3:Int) (K6:Unit→Option Int):Nat→Int→Option Int
  | 0,_=>none
  | k12+1,s11=>cond (iLt s11 ((a1.getD s3.toNat default).length:Int)) (need (nIn s11 ((a1.getD s3.toNat default).length:Int)) ((iM a0 ((a1.getD s3.toNat default).getD s11.toNat default)).bind fun (x15:Int)=>cond (iNe x15 0) (some x15) (b9 a0 a1 s3 K6 k12 (IntKind.i64.wrap (s11+1))))) (bK a1 s3 K6 fuel 0)
def bS (a0:List ai) (a1:List (List af)):Nat→Int→Option Int
  | 0,_=>none
  | k4+1,s3=>cond (iLt s3 (a1.length:Int)) (iJ (fun s7:Unit=>bS a0 a1 k4 (IntKind.i64.wrap (s3+1))) fun K6=>need (nIn s3 (a1.length:Int)) (cond (iEq ((a1.getD s3.toNat default).length:Int) 0) (some 2) (cond (iLt 4 ((a1.getD s3.toNat default).length:Int)) (some 4) (b9 a0 a1 s3 K6 fuel 0)))) (some 0)
def fF (a0:List ai) (a1:List (List af)):Option Int:=
  cond (iEq (a1.length:Int) 0) (some 2) (cond (iLt 4 (a1.length:Int)) (some 4) (bS a0 a1 fuel 0))
def dQ (a0:Int):Option Bool:=
  some ((iLe 0 a0)&&(iLe a0 51))
def jY:Option (List ByteArray):=
  some ([(⟨#[110]⟩:ByteArray),(⟨#[107]⟩:ByteArray),(⟨#[107]⟩:ByteArray),ByteArray.empty,ByteArray.empty,ByteArray.empty,ByteArray.empty,ByteArray.empty,ByteArray.empty,ByteArray.empty,ByteArray.empty,ByteArray.empty,ByteArray.empty,ByteArray.empty,ByteArray.empty,ByteArray.empty,ByteArray.empty,ByteArray.empty,(⟨#[116]⟩:ByteArray),(⟨#[116]⟩:ByteArray),(⟨#[102]⟩:ByteArray),ByteArray.empty,ByteArray.empty,ByteArray.empty,ByteArray.empty,ByteArray.empty,(⟨#[119]⟩:ByteArray),(⟨#[119]⟩:ByteArray),ByteArray.empty,(⟨#[117]⟩:ByteArray),(⟨#[115]⟩:ByteArray),(⟨#[112]⟩:ByteArray),(⟨#[99,109]⟩:ByteArray),(⟨#[99,109]⟩:ByteArray),(⟨#[99]⟩:ByteArray),(⟨#[99]⟩:ByteArray),(⟨#[98]⟩:ByteArray),(⟨#[98]⟩:ByteArray),(⟨#[98]⟩:ByteArray),(⟨#[98]⟩:ByteArray),(⟨#[102]⟩:ByteArray),(⟨#[106,106]⟩:ByteArray),(⟨#[106,106]⟩:ByteArray),ByteArray.empty,ByteArray.empty,(⟨#[118]⟩:ByteArray),(⟨#[118]⟩:ByteArray),ByteArray.empty,ByteArray.empty,(⟨#[113]⟩:ByteArray),(⟨#[109]⟩:ByteArray),(⟨#[109]⟩:ByteArray)]:List ByteArray)
def iA (a0:Int):Option ByteArray:=
  (dQ a0).bind fun (x1:Bool)=>cond (!x1) (some ByteArray.empty) ((jY).bind fun (x3:List ByteArray)=>need (nIn a0 (x3.length:Int)) (some (x3.getD a0.toNat default)))
def gv (a0:Int):Option Int:=
  cond (iEq a0 106) (some 1) (some 0)
def iB (a0:Int):Option Int:=
  cond (iEq a0 107) (some 7) (cond (iEq a0 116) (some 199) (cond (iEq a0 102) (some 15) (cond (iEq a0 106) (some 4) (some 31))))
def ca (a0:aq):Nat→Int→Option Int
  | 0,_=>none
  | k33+1,s32=>cond (iLt s32 2) (need (nIn s32 (([a0.A,a0.B]:List Int).length:Int)) (cond (iNe (([a0.A,a0.B]:List Int).getD s32.toNat default) 0) (some 2) (ca a0 k33 (IntKind.i64.wrap (s32+1))))) (some 0)
def bN (a0:aq) (x3_2_1:ByteArray):Nat→Int→Option Int
  | 0,_=>none
  | k4+1,s3=>cond (iLt s3 (x3_2_1.size:Int)) (need (nIn s3 (x3_2_1.size:Int)) (cond (iEq (bc x3_2_1 s3.toNat) 110) (need (nIn s3 (([a0.A,a0.B]:List Int).length:Int)) ((iz (([a0.A,a0.B]:List Int).getD s3.toNat default)).bind fun (x9:Bool)=>cond (!x9) (some 1) (need (nIn s3 (x3_2_1.size:Int)) (cond (iNe (bc x3_2_1 s3.toNat) 110) (need (nIn s3 (([a0.A,a0.B]:List Int).length:Int)) (need (nIn s3 (x3_2_1.size:Int)) ((gv (bc x3_2_1 s3.toNat)).bind fun (x15:Int)=>cond (iLt (([a0.A,a0.B]:List Int).getD s3.toNat default) x15) (some 1) (need (nIn s3 (([a0.A,a0.B]:List Int).length:Int)) (need (nIn s3 (x3_2_1.size:Int)) ((iB (bc x3_2_1 s3.toNat)).bind fun (x19:Int)=>cond (iLt x19 (([a0.A,a0.B]:List Int).getD s3.toNat default)) (some 1) (bN a0 x3_2_1 k4 (IntKind.i64.wrap (s3+1))))))))) (bN a0 x3_2_1 k4 (IntKind.i64.wrap (s3+1))))))) (need (nIn s3 (x3_2_1.size:Int)) (cond (iNe (bc x3_2_1 s3.toNat) 110) (need (nIn s3 (([a0.A,a0.B]:List Int).length:Int)) (need (nIn s3 (x3_2_1.size:Int)) ((gv (bc x3_2_1 s3.toNat)).bind fun (x25:Int)=>cond (iLt (([a0.A,a0.B]:List Int).getD s3.toNat default) x25) (some 1) (need (nIn s3 (([a0.A,a0.B]:List Int).length:Int)) (need (nIn s3 (x3_2_1.size:Int)) ((iB (bc x3_2_1 s3.toNat)).bind fun (x29:Int)=>cond (iLt x29 (([a0.A,a0.B]:List Int).getD s3.toNat default)) (some 1) (bN a0 x3_2_1 k4 (IntKind.i64.wrap (s3+1))))))))) (bN a0 x3_2_1 k4 (IntKind.i64.wrap (s3+1))))))) (cond ((sEq x3_2_1 (⟨#[106,106]⟩:ByteArray))&&(iLt a0.B a0.A)) (some 1) (ca a0 fuel (x3_2_1.size:Int)))
def gy (a0:aq):Option Int:=
  (dQ a0.Op).bind fun (x1:Bool)=>cond (!x1) (some 6) ((iA a0.Op).bind fun (x3_2_1:ByteArray)=>bN a0 x3_2_1 fuel 0)
def bF (a0:aw):Nat→Int→Option Int
  | 0,_=>none
  | k5+1,s4=>cond (iLt s4 (a0.Code.length:Int)) (need (nIn s4 (a0.Code.length:Int)) ((gy (a0.Code.getD s4.toNat default)).bind fun (x8:Int)=>cond (iNe x8 0) (some x8) (bF a0 k5 (IntKind.i64.wrap (s4+1))))) (some 0)
def dR (a0:aw):Option Int:=
  cond (((iLt a0.Args 0)||(iLt a0.Locals a0.Args))||(iLt 8 a0.Locals)) (some 1) (cond (iEq (a0.Code.length:Int) 0) (some 2) (cond (iLt 200 (a0.Code.length:Int)) (some 4) (bF a0 fuel 0)))
def cb (a0:aa):Nat→Int→Option Int
  | 0,_=>none
  | k13+1,s12=>cond (iLt s12 (a0.Funcs.length:Int)) (need (nIn s12 (a0.Funcs.length:Int)) ((dR (a0.Funcs.getD s12.toNat default)).bind fun (x16:Int)=>cond (iNe x16 0) (some x16) (cb a0 k13 (IntKind.i64.wrap (s12+1))))) (some 0)
def cv (a0:aa):Nat→Int→Option Int
  | 0,_=>none
  | k5+1,s4=>cond (iLt s4 (a0.Waits.length:Int)) (need (nIn s4 (a0.Waits.length:Int)) ((fF a0.Decls (a0.Waits.getD s4.toNat default)).bind fun (x8:Int)=>cond (iNe x8 0) (some x8) (cv a0 k5 (IntKind.i64.wrap (s4+1))))) (cond (iEq (a0.Funcs.length:Int) 0) (some 2) (cond (iLt 16 (a0.Funcs.length:Int)) (some 4) (cb a0 fuel 0)))
def fG (a0:aa):Option Int:=
  (fE a0.Decls).bind fun (x1:Int×Int)=>cond (iNe x1.2 0) (some x1.2) (cond (iLt 32 (a0.Waits.length:Int)) (some 4) (cv a0 fuel 0))
def je (a0:Int):Option Bool:=
  some ((((((iNe a0 110)&&(iNe a0 107))&&(iNe a0 116))&&(iNe a0 102))&&(iNe a0 119))&&(iNe a0 106))
def fV (a0:aa) (a1:aw) (a2:aq) (a3:Int) (a4:Int):Option Int:=
  cond ((((iEq a3 107)&&(iLe a1.Locals a4))||((iEq a3 116)&&(iLe (a1.Code.length:Int) a4)))||((iEq a3 119)&&(iLe (a0.Waits.length:Int) a4))) (some 1) (need (!(((iEq a3 102)&& !(iLe (a0.Funcs.length:Int) a4))&&(iEq a2.Op 40))||nIn a4 (a0.Funcs.length:Int)) (cond ((iEq a3 102)&&((iLe (a0.Funcs.length:Int) a4)||((iEq a2.Op 40)&&(iNe ((a0.Funcs.getD a4.toNat default).Args) 1)))) (some 1) ((je a3).bind fun (x4:Bool)=>(cond x4 (fO a0.Decls a3 a4) (some default)).bind fun (x5:Bool)=>cond (x4&&(!x5)) (some 6) (some 0))))
def iO:Option (List Int):=
  some ([0,0,1,2,2,2,2,2,1,2,2,2,2,2,2,2,1,1,0,1,0,1,0,0,1,0,0,1,1,0,1,1,0,1,0,0,0,0,0,1,2,0,1,2,1,0,1,0,0,1,0,0]:List Int)
def dm (a0:aq) (a1:Int):Option Int:=
  (dQ a0.Op).bind fun (x1:Bool)=>cond (!x1) (some 0) (cond (iEq a0.Op 20) (some a1) (cond ((iEq a0.Op 41)||(iEq a0.Op 42)) ((iO).bind fun (x5:List Int)=>need (nIn a0.Op (x5.length:Int)) (some (IntKind.i64.wrap ((x5.getD a0.Op.toNat default)+a0.B)))) ((iO).bind fun (x7:List Int)=>need (nIn a0.Op (x7.length:Int)) (some (x7.getD a0.Op.toNat default)))))
def kX:Option (List Int):=
  some ([1,1,0,1,1,1,1,1,1,1,1,1,1,1,1,1,2,0,0,0,1,0,1,1,1,0,1,1,1,1,1,1,1,1,1,1,1,1,1,1,1,1,1,1,1,2,1,1,1,1,1,1]:List Int)
def dg (a0:Int):Option Int:=
  (dQ a0).bind fun (x1:Bool)=>cond (!x1) (some 0) ((kX).bind fun (x3:List Int)=>need (nIn a0 (x3.length:Int)) (some (x3.getD a0.toNat default)))
def gS (a0:aa) (a1:aq) (a2:Int):Option Int:=
  cond ((iEq a1.Op 20)&&(iLt a1.A (a0.Funcs.length:Int))) (need (nIn a1.A (a0.Funcs.length:Int)) ((dm a1 ((a0.Funcs.getD a1.A.toNat default).Args)).bind fun (x3:Int)=>cond (iLt (IntKind.i64.wrap (a2 - x3)) 0) (some (-1)) ((dg a1.Op).bind fun (x5:Int)=>some (IntKind.i64.wrap ((IntKind.i64.wrap (a2 - x3))+x5))))) ((dm a1 0).bind fun (x6:Int)=>cond (iLt (IntKind.i64.wrap (a2 - x6)) 0) (some (-1)) ((dg a1.Op).bind fun (x8:Int)=>some (IntKind.i64.wrap ((IntKind.i64.wrap (a2 - x6))+x8))))
def jE (a0:aq) (a1:Int):Option (List Int):=
  cond ((iNe a0.Op 18)&&(iNe a0.Op 21)) (need (nCap ((([]:List Int).length+([IntKind.i64.wrap (a1+1)]:List Int).length)*8)) (cond ((iEq a0.Op 18)||(iEq a0.Op 19)) (need (nCap (((([]:List Int)++([IntKind.i64.wrap (a1+1)]:List Int)).length+([a0.A]:List Int).length)*8)) (some ((([]:List Int)++([IntKind.i64.wrap (a1+1)]:List Int))++([a0.A]:List Int)))) (some (([]:List Int)++([IntKind.i64.wrap (a1+1)]:List Int))))) (cond ((iEq a0.Op 18)||(iEq a0.Op 19)) (need (nCap ((([]:List Int).length+([a0.A]:List Int).length)*8)) (some (([]:List Int)++([a0.A]:List Int)))) (some ([]:List Int)))
def dH (a1:List aq) (x3:Int) (x7:List Int):Nat→(Int×(List Int))→Option (Int×(List Int))
  | 0,_=>none
  | k9+1,s8=>cond (iLt s8.1 (x7.length:Int)) (need (nIn s8.1 (x7.length:Int)) (cond (iLe (a1.length:Int) (x7.getD s8.1.toNat default)) (some (3,s8.2)) (need (nIn s8.1 (x7.length:Int)) (need (nIn (x7.getD s8.1.toNat default) (s8.2.length:Int)) (cond (iLe 0 (s8.2.getD (x7.getD s8.1.toNat default).toNat default)) (need (nIn s8.1 (x7.length:Int)) (need (nIn (x7.getD s8.1.toNat default) (s8.2.length:Int)) (cond (iNe (s8.2.getD (x7.getD s8.1.toNat default).toNat default) x3) (some (2,s8.2)) (need (nIn s8.1 (x7.length:Int)) (need (nIn (x7.getD s8.1.toNat default) (s8.2.length:Int)) (dH a1 x3 x7 k9 (IntKind.i64.wrap (s8.1+1),s8.2.set (x7.getD s8.1.toNat default).toNat x3))))))) (need (nIn s8.1 (x7.length:Int)) (need (nIn (x7.getD s8.1.toNat default) (s8.2.length:Int)) (dH a1 x3 x7 k9 (IntKind.i64.wrap (s8.1+1),s8.2.set (x7.getD s8.1.toNat default).toNat x3))))))))) (some (0,s8.2))
def jF (a0:aa) (a1:List aq) (a2:List Int) (a3:Int):Option (Int×(List Int)):=
  need (nIn a3 (a1.length:Int)) (need (nIn a3 (a2.length:Int)) ((gS a0 (a1.getD a3.toNat default) (a2.getD a3.toNat default)).bind fun (x3:Int)=>cond (iLt x3 0) (some (2,a2)) (cond (iLt 16 x3) (some (4,a2)) (need (nIn a3 (a1.length:Int)) ((jE (a1.getD a3.toNat default) a3).bind fun (x7:List Int)=>dH a1 x3 x7 fuel (0,a2))))))
def dI (a0:aa) (a1:Int) (s10:Int×Int×(List Int)×(List Bool)) (K12:Int→Option ((List Int)×Int×Int)):Nat→Int→Option ((List Int)×Int×Int)
  | 0,_=>none
  | k15+1,s14=>cond (iLt s14 (((a0.Funcs.getD a1.toNat default).Code).length:Int)) (need (nIn s14 (s10.2.2.2.length:Int)) (cond (s10.2.2.2.getD s14.toNat default) (dI a0 a1 s10 K12 k15 (IntKind.i64.wrap (s14+1))) (need (nIn s14 (s10.2.2.1.length:Int)) (cond (iLt (s10.2.2.1.getD s14.toNat default) 0) (dI a0 a1 s10 K12 k15 (IntKind.i64.wrap (s14+1))) (K12 s14))))) (K12 s14)
def ed (a0:aa) (a1:Int) (K8:(Int×Int×(List Int))→Option ((List Int)×Int×Int)):Nat→(Int×Int×(List Int)×(List Bool))→Option ((List Int)×Int×Int)
  | 0,_=>none
  | k11+1,s10=>iJ (fun s13:Int=>cond (iEq s13 (((a0.Funcs.getD a1.toNat default).Code).length:Int)) (K8 (s10.1,s10.2.1,s10.2.2.1)) ((jF a0 ((a0.Funcs.getD a1.toNat default).Code) s10.2.2.1 s13).bind fun (x22:Int×(List Int))=>need (nIn s13 (s10.2.2.2.length:Int)) (cond ((iNe x22.1 0)&&(iLt s13 s10.1)) (ed a0 a1 K8 k11 (s13,x22.1,x22.2,s10.2.2.2.set s13.toNat true)) (ed a0 a1 K8 k11 (s10.1,s10.2.1,x22.2,s10.2.2.2.set s13.toNat true))))) fun K12=>dI a0 a1 s10 K12 fuel 0
def eV (a0:aa) (a1:Int):Nat→(Int×(List Int))→Option ((List Int)×Int×Int)
  | 0,_=>none
  | k5+1,s4=>cond (iLt s4.1 (((a0.Funcs.getD a1.toNat default).Code).length:Int)) (need (nIn s4.1 (s4.2.length:Int)) (eV a0 a1 k5 (IntKind.i64.wrap (s4.1+1),s4.2.set s4.1.toNat (-1)))) (iJ (fun s9:Int×Int×(List Int)=>cond (iNe s9.2.1 0) (some ([],s9.1,s9.2.1)) (some (s9.2.2,0,0))) fun K8=>ed a0 a1 K8 fuel ((((a0.Funcs.getD a1.toNat default).Code).length:Int),0,s4.2,List.replicate (((a0.Funcs.getD a1.toNat default).Code).length:Int).toNat (false:Bool)))
def kY (a0:aa) (a1:Int):Option ((List Int)×Int×Int):=
  cond ((iLt a1 0)||(iLe (a0.Funcs.length:Int) a1)) (some ([],0,19)) (need (nIn a1 (a0.Funcs.length:Int)) (cond (iEq (((a0.Funcs.getD a1.toNat default).Code).length:Int) 0) (some ([],0,3)) (need (nMk (((a0.Funcs.getD a1.toNat default).Code).length:Int) 8) (need (nMk (((a0.Funcs.getD a1.toNat default).Code).length:Int) 1) (eV a0 a1 fuel (1,List.replicate (((a0.Funcs.getD a1.toNat default).Code).length:Int).toNat (0:Int)))))))
def cJ (a0:aa) (s5:Int) (s11:Int) (x14_2_1:ByteArray) (K14:Unit→Option (Int×Int×Int)):Nat→Int→Option (Int×Int×Int)
  | 0,_=>none
  | k18+1,s17=>cond (iLt s17 (x14_2_1.size:Int)) (need (nIn s17 (x14_2_1.size:Int)) (need (nIn s17 (([(((a0.Funcs.getD s5.toNat default).Code).getD s11.toNat default).A,(((a0.Funcs.getD s5.toNat default).Code).getD s11.toNat default).B]:List Int).length:Int)) ((fV a0 (a0.Funcs.getD s5.toNat default) (((a0.Funcs.getD s5.toNat default).Code).getD s11.toNat default) (bc x14_2_1 s17.toNat) (([(((a0.Funcs.getD s5.toNat default).Code).getD s11.toNat default).A,(((a0.Funcs.getD s5.toNat default).Code).getD s11.toNat default).B]:List Int).getD s17.toNat default)).bind fun (x22:Int)=>cond (iNe x22 0) (some (s5,s11,x22)) (cJ a0 s5 s11 x14_2_1 K14 k18 (IntKind.i64.wrap (s17+1)))))) (K14 Unit.unit)
def cK (a0:aa) (s5:Int) (K8:Unit→Option (Int×Int×Int)):Nat→Int→Option (Int×Int×Int)
  | 0,_=>none
  | k12+1,s11=>cond (iLt s11 (((a0.Funcs.getD s5.toNat default).Code).length:Int)) (iJ (fun s15:Unit=>cK a0 s5 K8 k12 (IntKind.i64.wrap (s11+1))) fun K14=>need (nIn s11 (((a0.Funcs.getD s5.toNat default).Code).length:Int)) ((iA ((((a0.Funcs.getD s5.toNat default).Code).getD s11.toNat default).Op)).bind fun (x14_2_1:ByteArray)=>cJ a0 s5 s11 x14_2_1 K14 fuel 0)) ((kY a0 s5).bind fun (x24:(List Int)×Int×Int)=>cond (iNe x24.2.2 0) (some (s5,x24.2.1,x24.2.2)) (K8 Unit.unit))
def cZ (a0:aa):Nat→Int→Option (Int×Int×Int)
  | 0,_=>none
  | k6+1,s5=>cond (iLt s5 (a0.Funcs.length:Int)) (iJ (fun s9:Unit=>cZ a0 k6 (IntKind.i64.wrap (s5+1))) fun K8=>need (nIn s5 (a0.Funcs.length:Int)) (cK a0 s5 K8 fuel 0)) (some (0,0,0))
def fW (a0:aa):Option (Int×Int×Int):=
  (fG a0).bind fun (x1:Int)=>cond (iNe x1 0) (some (0,0,x1)) (need (nIn (0:Int) (a0.Funcs.length:Int)) (cond (iNe ((a0.Funcs.getD (0:Int).toNat default).Args) 0) (some (0,0,1)) (cZ a0 fuel 0)))
def dS (a0:ar):Nat→Int→Option Int
  | 0,_=>none
  | k7+1,s6=>cond (iLt s6 (a0.Events.length:Int)) (need (nIn s6 (a0.Events.length:Int)) (cond ((iNe ((a0.Events.getD s6.toNat default).Kind) 1)&&(iNe ((a0.Events.getD s6.toNat default).Kind) 2)) (some 6) (cond ((iEq ((a0.Events.getD s6.toNat default).Kind) 2)&&(iNe ((a0.Events.getD s6.toNat default).B) 0)) (some 2) (dS a0 k7 (IntKind.i64.wrap (s6+1)))))) (some 0)
def iP (a0:ar):Option Int:=
  (gR a0.Config).bind fun (x1:Int)=>cond (iNe x1 0) (some 1) ((fW a0.Program).bind fun (x3:Int×Int×Int)=>cond (iNe x3.2.2 0) (some x3.2.2) (cond (iLt 4000 (a0.Events.length:Int)) (some 4) (dS a0 fuel 0)))
def iQ (a0:Int) (a1:Int) (a2:Int):Option Bool:=
  some ((iLe a1 a0)&&(iLe a0 a2))
def fX (a0:ba):Option Int:=
  (iQ a0.Mode 0 2).bind fun (x1:Bool)=>(cond x1 (iQ a0.Workers 1 8) (some default)).bind fun (x2:Bool)=>(cond (x1&&x2) (iQ a0.Quantum 1 100) (some default)).bind fun (x3:Bool)=>(cond ((x1&&x2)&&x3) (iQ a0.Policy 0 3) (some default)).bind fun (x4:Bool)=>cond (((x1&&x2)&&x3)&&x4) (some 0) (some 1)
def jG (a0:Int) (a1:Int):Option Bool:=
  some ((iLe a1 a0)&&(iLe a0 1000))
def jH (a0:Int):Option Bool:=
  some (iEq (IntKind.i64.wrap (IntKind.i32.wrap a0)) a0)
def eW (a0:List ai) (a1:Int) (a2:Int):Option Bool:=
  cond ((iLt a2 0)||(iLe (a0.length:Int) a2)) (some false) (need (nIn a2 (a0.length:Int)) (cond (iEq a1 117) (some ((iEq ((a0.getD a2.toNat default).Kind) 1)||(iEq ((a0.getD a2.toNat default).Kind) 2))) (cond (iEq a1 115) (some (iEq ((a0.getD a2.toNat default).Kind) 3)) (cond (iEq a1 112) (some (iEq ((a0.getD a2.toNat default).Kind) 6)) (cond (iEq a1 99) (some (iEq ((a0.getD a2.toNat default).Kind) 4)) (cond (iEq a1 109) (some (iEq ((a0.getD a2.toNat default).Kind) 1)) (cond (iEq a1 98) (some (iEq ((a0.getD a2.toNat default).Kind) 5)) (cond (iEq a1 118) (some (iEq ((a0.getD a2.toNat default).Kind) 7)) (cond (iEq a1 113) (some ((iEq ((a0.getD a2.toNat default).Kind) 1)||(iEq ((a0.getD a2.toNat default).Kind) 6))) (some false))))))))))
def mP (a0:List ai) (a1:ai):Option Int:=
  cond (iEq a1.Kind 3) ((jG a1.B 1).bind fun (x2:Bool)=>cond (!((x2&&(iLe 0 a1.A))&&(iLe a1.A a1.B))) (some 1) (some 0)) (cond (iEq a1.Kind 6) ((jG a1.A 1).bind fun (x5:Bool)=>cond (!x5) (some 1) (cond (!(iEq a1.B 0)) (some 2) (some 0))) (cond (iEq a1.Kind 7) ((jH a1.A).bind fun (x9:Bool)=>(cond x9 (eW a0 117 a1.B) (some default)).bind fun (x10:Bool)=>cond (!(x9&&x10)) (some 1) (some 0)) (cond (iEq a1.Kind 1) (cond (!((iEq a1.A 0)&&(iEq a1.B 0))) (some 2) (some 0)) (cond (iEq a1.Kind 2) (cond (!((iEq a1.A 0)&&(iEq a1.B 0))) (some 2) (some 0)) (cond (iEq a1.Kind 4) (cond (!((iEq a1.A 0)&&(iEq a1.B 0))) (some 2) (some 0)) (cond (iEq a1.Kind 5) (cond (!((iEq a1.A 0)&&(iEq a1.B 0))) (some 2) (some 0)) (some 6)))))))
def ei (a0:List ai):Nat→Int→Option (Int×Int)
  | 0,_=>none
  | k3+1,s2=>cond (iLt s2 (a0.length:Int)) (need (nIn s2 (a0.length:Int)) ((mP a0 (a0.getD s2.toNat default)).bind fun (x6:Int)=>cond (iNe x6 0) (some (s2,x6)) (ei a0 k3 (IntKind.i64.wrap (s2+1))))) (some (0,0))
def gz (a0:List ai):Option (Int×Int):=
  cond (iLt 32 (a0.length:Int)) (some (0,4)) (ei a0 fuel 0)
def bj (a0:Int):Option Bool:=
  some ((iEq a0 4)||(iEq a0 5))
def mQ (a0:List ai) (a1:af):Option Int:=
  cond (iEq a1.Kind 1) ((eW a0 109 a1.Obj).bind fun (x2:Bool)=>need (!((!(!x2))&&false)||nIn a1.Obj (a0.length:Int)) (cond ((!x2)||(false&&(iNe ((a0.getD a1.Obj.toNat default).Kind) 2))) (some 1) (cond (iEq a1.Kind 4) (need (nIn a1.Obj (a0.length:Int)) ((bj a1.Kind).bind fun (x7:Bool)=>cond (((x7&&(iLt a1.N 1))||(iLt a1.N 0))||(iLt ((a0.getD a1.Obj.toNat default).B) a1.N)) (some 1) (some 0))) (cond (iEq a1.Kind 5) (need (nIn a1.Obj (a0.length:Int)) ((bj a1.Kind).bind fun (x11:Bool)=>cond (((x11&&(iLt a1.N 1))||(iLt a1.N 0))||(iLt ((a0.getD a1.Obj.toNat default).A) a1.N)) (some 1) (some 0))) ((bj a1.Kind).bind fun (x13:Bool)=>cond (((x13&&(iLt a1.N 1))||(iLt a1.N 0))||(iLt 0 a1.N)) (some 1) (some 0)))))) (cond (iEq a1.Kind 2) ((eW a0 117 a1.Obj).bind fun (x16:Bool)=>need (!((!(!x16))&&true)||nIn a1.Obj (a0.length:Int)) (cond ((!x16)||(true&&(iNe ((a0.getD a1.Obj.toNat default).Kind) 2))) (some 1) (cond (iEq a1.Kind 4) (need (nIn a1.Obj (a0.length:Int)) ((bj a1.Kind).bind fun (x21:Bool)=>cond (((x21&&(iLt a1.N 1))||(iLt a1.N 0))||(iLt ((a0.getD a1.Obj.toNat default).B) a1.N)) (some 1) (some 0))) (cond (iEq a1.Kind 5) (need (nIn a1.Obj (a0.length:Int)) ((bj a1.Kind).bind fun (x25:Bool)=>cond (((x25&&(iLt a1.N 1))||(iLt a1.N 0))||(iLt ((a0.getD a1.Obj.toNat default).A) a1.N)) (some 1) (some 0))) ((bj a1.Kind).bind fun (x27:Bool)=>cond (((x27&&(iLt a1.N 1))||(iLt a1.N 0))||(iLt 0 a1.N)) (some 1) (some 0)))))) (cond (iEq a1.Kind 3) ((eW a0 117 a1.Obj).bind fun (x30:Bool)=>need (!((!(!x30))&&true)||nIn a1.Obj (a0.length:Int)) (cond ((!x30)||(true&&(iNe ((a0.getD a1.Obj.toNat default).Kind) 2))) (some 1) (cond (iEq a1.Kind 4) (need (nIn a1.Obj (a0.length:Int)) ((bj a1.Kind).bind fun (x35:Bool)=>cond (((x35&&(iLt a1.N 1))||(iLt a1.N 0))||(iLt ((a0.getD a1.Obj.toNat default).B) a1.N)) (some 1) (some 0))) (cond (iEq a1.Kind 5) (need (nIn a1.Obj (a0.length:Int)) ((bj a1.Kind).bind fun (x39:Bool)=>cond (((x39&&(iLt a1.N 1))||(iLt a1.N 0))||(iLt ((a0.getD a1.Obj.toNat default).A) a1.N)) (some 1) (some 0))) ((bj a1.Kind).bind fun (x41:Bool)=>cond (((x41&&(iLt a1.N 1))||(iLt a1.N 0))||(iLt 0 a1.N)) (some 1) (some 0)))))) (cond (iEq a1.Kind 4) ((eW a0 115 a1.Obj).bind fun (x44:Bool)=>need (!((!(!x44))&&false)||nIn a1.Obj (a0.length:Int)) (cond ((!x44)||(false&&(iNe ((a0.getD a1.Obj.toNat default).Kind) 2))) (some 1) (cond (iEq a1.Kind 4) (need (nIn a1.Obj (a0.length:Int)) ((bj a1.Kind).bind fun (x49:Bool)=>cond (((x49&&(iLt a1.N 1))||(iLt a1.N 0))||(iLt ((a0.getD a1.Obj.toNat default).B) a1.N)) (some 1) (some 0))) (cond (iEq a1.Kind 5) (need (nIn a1.Obj (a0.length:Int)) ((bj a1.Kind).bind fun (x53:Bool)=>cond (((x53&&(iLt a1.N 1))||(iLt a1.N 0))||(iLt ((a0.getD a1.Obj.toNat default).A) a1.N)) (some 1) (some 0))) ((bj a1.Kind).bind fun (x55:Bool)=>cond (((x55&&(iLt a1.N 1))||(iLt a1.N 0))||(iLt 0 a1.N)) (some 1) (some 0)))))) (cond (iEq a1.Kind 5) ((eW a0 112 a1.Obj).bind fun (x58:Bool)=>need (!((!(!x58))&&false)||nIn a1.Obj (a0.length:Int)) (cond ((!x58)||(false&&(iNe ((a0.getD a1.Obj.toNat default).Kind) 2))) (some 1) (cond (iEq a1.Kind 4) (need (nIn a1.Obj (a0.length:Int)) ((bj a1.Kind).bind fun (x63:Bool)=>cond (((x63&&(iLt a1.N 1))||(iLt a1.N 0))||(iLt ((a0.getD a1.Obj.toNat default).B) a1.N)) (some 1) (some 0))) (cond (iEq a1.Kind 5) (need (nIn a1.Obj (a0.length:Int)) ((bj a1.Kind).bind fun (x67:Bool)=>cond (((x67&&(iLt a1.N 1))||(iLt a1.N 0))||(iLt ((a0.getD a1.Obj.toNat default).A) a1.N)) (some 1) (some 0))) ((bj a1.Kind).bind fun (x69:Bool)=>cond (((x69&&(iLt a1.N 1))||(iLt a1.N 0))||(iLt 0 a1.N)) (some 1) (some 0)))))) (some 6)))))
def o3 (a0:Int):Option Int:=
  cond ((iLt a0 0)||(iLt 63 a0)) (some 0) (need (nNn a0) (some (IntKind.u64.wrap ((1:Int)*2 ^min (a0:Int).toNat IntKind.u64.bits))))
def fY (a0:Int) (a1:Int):Option Int:=
  (o3 a1).bind fun (x1:Int)=>some (Go.bits .or .u64 a0 x1)
def eD (a0:Int):Option Int:=
  some (Go.bits .and .i64 (IntKind.i64.wrap (IntKind.u64.wrap ((IntKind.u64.wrap ((IntKind.u64.wrap ((Go.bits .and .u64 (IntKind.u64.wrap (((IntKind.u64.wrap ((Go.bits .and .u64 ((IntKind.u64.wrap ((Go.bits .and .u64 (a0 /2 ^min (1:Int).toNat IntKind.u64.bits) 6148914691236517205)+(Go.bits .and .u64 a0 6148914691236517205))) /2 ^min (2:Int).toNat IntKind.u64.bits) 3689348814741910323)+(Go.bits .and .u64 (IntKind.u64.wrap ((Go.bits .and .u64 (a0 /2 ^min (1:Int).toNat IntKind.u64.bits) 6148914691236517205)+(Go.bits .and .u64 a0 6148914691236517205))) 3689348814741910323))) /2 ^min (4:Int).toNat IntKind.u64.bits)+(IntKind.u64.wrap ((Go.bits .and .u64 ((IntKind.u64.wrap ((Go.bits .and .u64 (a0 /2 ^min (1:Int).toNat IntKind.u64.bits) 6148914691236517205)+(Go.bits .and .u64 a0 6148914691236517205))) /2 ^min (2:Int).toNat IntKind.u64.bits) 3689348814741910323)+(Go.bits .and .u64 (IntKind.u64.wrap ((Go.bits .and .u64 (a0 /2 ^min (1:Int).toNat IntKind.u64.bits) 6148914691236517205)+(Go.bits .and .u64 a0 6148914691236517205))) 3689348814741910323))))) 1085102592571150095)+((Go.bits .and .u64 (IntKind.u64.wrap (((IntKind.u64.wrap ((Go.bits .and .u64 ((IntKind.u64.wrap ((Go.bits .and .u64 (a0 /2 ^min (1:Int).toNat IntKind.u64.bits) 6148914691236517205)+(Go.bits .and .u64 a0 6148914691236517205))) /2 ^min (2:Int).toNat IntKind.u64.bits) 3689348814741910323)+(Go.bits .and .u64 (IntKind.u64.wrap ((Go.bits .and .u64 (a0 /2 ^min (1:Int).toNat IntKind.u64.bits) 6148914691236517205)+(Go.bits .and .u64 a0 6148914691236517205))) 3689348814741910323))) /2 ^min (4:Int).toNat IntKind.u64.bits)+(IntKind.u64.wrap ((Go.bits .and .u64 ((IntKind.u64.wrap ((Go.bits .and .u64 (a0 /2 ^min (1:Int).toNat IntKind.u64.bits) 6148914691236517205)+(Go.bits .and .u64 a0 6148914691236517205))) /2 ^min (2:Int).toNat IntKind.u64.bits) 3689348814741910323)+(Go.bits .and .u64 (IntKind.u64.wrap ((Go.bits .and .u64 (a0 /2 ^min (1:Int).toNat IntKind.u64.bits) 6148914691236517205)+(Go.bits .and .u64 a0 6148914691236517205))) 3689348814741910323))))) 1085102592571150095) /2 ^min (8:Int).toNat IntKind.u64.bits)))+((IntKind.u64.wrap ((Go.bits .and .u64 (IntKind.u64.wrap (((IntKind.u64.wrap ((Go.bits .and .u64 ((IntKind.u64.wrap ((Go.bits .and .u64 (a0 /2 ^min (1:Int).toNat IntKind.u64.bits) 6148914691236517205)+(Go.bits .and .u64 a0 6148914691236517205))) /2 ^min (2:Int).toNat IntKind.u64.bits) 3689348814741910323)+(Go.bits .and .u64 (IntKind.u64.wrap ((Go.bits .and .u64 (a0 /2 ^min (1:Int).toNat IntKind.u64.bits) 6148914691236517205)+(Go.bits .and .u64 a0 6148914691236517205))) 3689348814741910323))) /2 ^min (4:Int).toNat IntKind.u64.bits)+(IntKind.u64.wrap ((Go.bits .and .u64 ((IntKind.u64.wrap ((Go.bits .and .u64 (a0 /2 ^min (1:Int).toNat IntKind.u64.bits) 6148914691236517205)+(Go.bits .and .u64 a0 6148914691236517205))) /2 ^min (2:Int).toNat IntKind.u64.bits) 3689348814741910323)+(Go.bits .and .u64 (IntKind.u64.wrap ((Go.bits .and .u64 (a0 /2 ^min (1:Int).toNat IntKind.u64.bits) 6148914691236517205)+(Go.bits .and .u64 a0 6148914691236517205))) 3689348814741910323))))) 1085102592571150095)+((Go.bits .and .u64 (IntKind.u64.wrap (((IntKind.u64.wrap ((Go.bits .and .u64 ((IntKind.u64.wrap ((Go.bits .and .u64 (a0 /2 ^min (1:Int).toNat IntKind.u64.bits) 6148914691236517205)+(Go.bits .and .u64 a0 6148914691236517205))) /2 ^min (2:Int).toNat IntKind.u64.bits) 3689348814741910323)+(Go.bits .and .u64 (IntKind.u64.wrap ((Go.bits .and .u64 (a0 /2 ^min (1:Int).toNat IntKind.u64.bits) 6148914691236517205)+(Go.bits .and .u64 a0 6148914691236517205))) 3689348814741910323))) /2 ^min (4:Int).toNat IntKind.u64.bits)+(IntKind.u64.wrap ((Go.bits .and .u64 ((IntKind.u64.wrap ((Go.bits .and .u64 (a0 /2 ^min (1:Int).toNat IntKind.u64.bits) 6148914691236517205)+(Go.bits .and .u64 a0 6148914691236517205))) /2 ^min (2:Int).toNat IntKind.u64.bits) 3689348814741910323)+(Go.bits .and .u64 (IntKind.u64.wrap ((Go.bits .and .u64 (a0 /2 ^min (1:Int).toNat IntKind.u64.bits) 6148914691236517205)+(Go.bits .and .u64 a0 6148914691236517205))) 3689348814741910323))))) 1085102592571150095) /2 ^min (8:Int).toNat IntKind.u64.bits))) /2 ^min (16:Int).toNat IntKind.u64.bits)))+((IntKind.u64.wrap ((IntKind.u64.wrap ((Go.bits .and .u64 (IntKind.u64.wrap (((IntKind.u64.wrap ((Go.bits .and .u64 ((IntKind.u64.wrap ((Go.bits .and .u64 (a0 /2 ^min (1:Int).toNat IntKind.u64.bits) 6148914691236517205)+(Go.bits .and .u64 a0 6148914691236517205))) /2 ^min (2:Int).toNat IntKind.u64.bits) 3689348814741910323)+(Go.bits .and .u64 (IntKind.u64.wrap ((Go.bits .and .u64 (a0 /2 ^min (1:Int).toNat IntKind.u64.bits) 6148914691236517205)+(Go.bits .and .u64 a0 6148914691236517205))) 3689348814741910323))) /2 ^min (4:Int).toNat IntKind.u64.bits)+(IntKind.u64.wrap ((Go.bits .and .u64 ((IntKind.u64.wrap ((Go.bits .and .u64 (a0 /2 ^min (1:Int).toNat IntKind.u64.bits) 6148914691236517205)+(Go.bits .and .u64 a0 6148914691236517205))) /2 ^min (2:Int).toNat IntKind.u64.bits) 3689348814741910323)+(Go.bits .and .u64 (IntKind.u64.wrap ((Go.bits .and .u64 (a0 /2 ^min (1:Int).toNat IntKind.u64.bits) 6148914691236517205)+(Go.bits .and .u64 a0 6148914691236517205))) 3689348814741910323))))) 1085102592571150095)+((Go.bits .and .u64 (IntKind.u64.wrap (((IntKind.u64.wrap ((Go.bits .and .u64 ((IntKind.u64.wrap ((Go.bits .and .u64 (a0 /2 ^min (1:Int).toNat IntKind.u64.bits) 6148914691236517205)+(Go.bits .and .u64 a0 6148914691236517205))) /2 ^min (2:Int).toNat IntKind.u64.bits) 3689348814741910323)+(Go.bits .and .u64 (IntKind.u64.wrap ((Go.bits .and .u64 (a0 /2 ^min (1:Int).toNat IntKind.u64.bits) 6148914691236517205)+(Go.bits .and .u64 a0 6148914691236517205))) 3689348814741910323))) /2 ^min (4:Int).toNat IntKind.u64.bits)+(IntKind.u64.wrap ((Go.bits .and .u64 ((IntKind.u64.wrap ((Go.bits .and .u64 (a0 /2 ^min (1:Int).toNat IntKind.u64.bits) 6148914691236517205)+(Go.bits .and .u64 a0 6148914691236517205))) /2 ^min (2:Int).toNat IntKind.u64.bits) 3689348814741910323)+(Go.bits .and .u64 (IntKind.u64.wrap ((Go.bits .and .u64 (a0 /2 ^min (1:Int).toNat IntKind.u64.bits) 6148914691236517205)+(Go.bits .and .u64 a0 6148914691236517205))) 3689348814741910323))))) 1085102592571150095) /2 ^min (8:Int).toNat IntKind.u64.bits)))+((IntKind.u64.wrap ((Go.bits .and .u64 (IntKind.u64.wrap (((IntKind.u64.wrap ((Go.bits .and .u64 ((IntKind.u64.wrap ((Go.bits .and .u64 (a0 /2 ^min (1:Int).toNat IntKind.u64.bits) 6148914691236517205)+(Go.bits .and .u64 a0 6148914691236517205))) /2 ^min (2:Int).toNat IntKind.u64.bits) 3689348814741910323)+(Go.bits .and .u64 (IntKind.u64.wrap ((Go.bits .and .u64 (a0 /2 ^min (1:Int).toNat IntKind.u64.bits) 6148914691236517205)+(Go.bits .and .u64 a0 6148914691236517205))) 3689348814741910323))) /2 ^min (4:Int).toNat IntKind.u64.bits)+(IntKind.u64.wrap ((Go.bits .and .u64 ((IntKind.u64.wrap ((Go.bits .and .u64 (a0 /2 ^min (1:Int).toNat IntKind.u64.bits) 6148914691236517205)+(Go.bits .and .u64 a0 6148914691236517205))) /2 ^min (2:Int).toNat IntKind.u64.bits) 3689348814741910323)+(Go.bits .and .u64 (IntKind.u64.wrap ((Go.bits .and .u64 (a0 /2 ^min (1:Int).toNat IntKind.u64.bits) 6148914691236517205)+(Go.bits .and .u64 a0 6148914691236517205))) 3689348814741910323))))) 1085102592571150095)+((Go.bits .and .u64 (IntKind.u64.wrap (((IntKind.u64.wrap ((Go.bits .and .u64 ((IntKind.u64.wrap ((Go.bits .and .u64 (a0 /2 ^min (1:Int).toNat IntKind.u64.bits) 6148914691236517205)+(Go.bits .and .u64 a0 6148914691236517205))) /2 ^min (2:Int).toNat IntKind.u64.bits) 3689348814741910323)+(Go.bits .and .u64 (IntKind.u64.wrap ((Go.bits .and .u64 (a0 /2 ^min (1:Int).toNat IntKind.u64.bits) 6148914691236517205)+(Go.bits .and .u64 a0 6148914691236517205))) 3689348814741910323))) /2 ^min (4:Int).toNat IntKind.u64.bits)+(IntKind.u64.wrap ((Go.bits .and .u64 ((IntKind.u64.wrap ((Go.bits .and .u64 (a0 /2 ^min (1:Int).toNat IntKind.u64.bits) 6148914691236517205)+(Go.bits .and .u64 a0 6148914691236517205))) /2 ^min (2:Int).toNat IntKind.u64.bits) 3689348814741910323)+(Go.bits .and .u64 (IntKind.u64.wrap ((Go.bits .and .u64 (a0 /2 ^min (1:Int).toNat IntKind.u64.bits) 6148914691236517205)+(Go.bits .and .u64 a0 6148914691236517205))) 3689348814741910323))))) 1085102592571150095) /2 ^min (8:Int).toNat IntKind.u64.bits))) /2 ^min (16:Int).toNat IntKind.u64.bits))) /2 ^min (32:Int).toNat IntKind.u64.bits)))) 127)
def gK (a0:Int):Option Int:=
  (eD a0).bind fun (x1:Int)=>some x1
def fH (a0:List ai) (a1:List af):Nat→(Int×Bool×Int)→Option Int
  | 0,_=>none
  | k4+1,s3=>cond (iLt s3.2.2 (a1.length:Int)) (need (nIn s3.2.2 (a1.length:Int)) ((mQ a0 (a1.getD s3.2.2.toNat default)).bind fun (x7:Int)=>cond (iNe x7 0) (some x7) ((fY s3.1 ((a1.getD s3.2.2.toNat default).Obj)).bind fun (x9:Int)=>fH a0 a1 k4 (x9,(s3.2.1||(iEq ((a1.getD s3.2.2.toNat default).Kind) 4)),IntKind.i64.wrap (s3.2.2+1))))) ((gK s3.1).bind fun (x10:Int)=>cond ((iLt x10 (a1.length:Int))||(s3.2.1&&(iLt 1 (a1.length:Int)))) (some 2) (some 0))
def mR (a0:List ai) (a1:List af):Option Int:=
  cond (iEq (a1.length:Int) 0) (some 2) (cond (iLt 4 (a1.length:Int)) (some 4) (fH a0 a1 fuel (0,false,0)))
def ej (a0:List ai) (a1:List (List af)):Nat→Int→Option Int
  | 0,_=>none
  | k4+1,s3=>cond (iLt s3 (a1.length:Int)) (need (nIn s3 (a1.length:Int)) ((mR a0 (a1.getD s3.toNat default)).bind fun (x7:Int)=>cond (iNe x7 0) (some x7) (ej a0 a1 k4 (IntKind.i64.wrap (s3+1))))) (some 0)
def gA (a0:List ai) (a1:List (List af)):Option Int:=
  cond (iEq (a1.length:Int) 0) (some 2) (cond (iLt 4 (a1.length:Int)) (some 4) (ej a0 a1 fuel 0))
def jZ (a0:Int):Option Bool:=
  some ((iLe 0 a0)&&(iLt a0 52))
def kz (a0:List dW) (a1:Int):Nat→Int→Option Bool
  | 0,_=>none
  | k3+1,s2=>cond (iLt s2 (a0.length:Int)) (need (nIn s2 (a0.length:Int)) (cond (iLt a1 ((a0.getD s2.toNat default).Lo)) (some false) (cond (iLe a1 ((a0.getD s2.toNat default).Hi)) (need (!(!(iEq ((a0.getD s2.toNat default).Stride) 1))||nNz ((a0.getD s2.toNat default).Stride)) (some ((iEq ((a0.getD s2.toNat default).Stride) 1)||(iEq (Int.tmod (IntKind.u16.wrap (a1 - ((a0.getD s2.toNat default).Lo))) ((a0.getD s2.toNat default).Stride)) 0)))) (kz a0 a1 k3 (IntKind.i64.wrap (s2+1)))))) (some false)
def hX (a0:List dW) (a1:Int):Nat→(Int×Int)→Option Bool
  | 0,_=>none
  | k10+1,s9=>cond (iLt s9.1 s9.2) (need (nIn (IntKind.i64.wrap ((IntKind.u64.wrap (IntKind.i64.wrap (s9.1+s9.2))) /2 ^min (1:Int).toNat IntKind.u64.bits)) (a0.length:Int)) (cond ((iLe ((a0.getD (IntKind.i64.wrap ((IntKind.u64.wrap (IntKind.i64.wrap (s9.1+s9.2))) /2 ^min (1:Int).toNat IntKind.u64.bits)).toNat default).Lo) a1)&&(iLe a1 ((a0.getD (IntKind.i64.wrap ((IntKind.u64.wrap (IntKind.i64.wrap (s9.1+s9.2))) /2 ^min (1:Int).toNat IntKind.u64.bits)).toNat default).Hi))) (need (!(!(iEq ((a0.getD (IntKind.i64.wrap ((IntKind.u64.wrap (IntKind.i64.wrap (s9.1+s9.2))) /2 ^min (1:Int).toNat IntKind.u64.bits)).toNat default).Stride) 1))||nNz ((a0.getD (IntKind.i64.wrap ((IntKind.u64.wrap (IntKind.i64.wrap (s9.1+s9.2))) /2 ^min (1:Int).toNat IntKind.u64.bits)).toNat default).Stride)) (some ((iEq ((a0.getD (IntKind.i64.wrap ((IntKind.u64.wrap (IntKind.i64.wrap (s9.1+s9.2))) /2 ^min (1:Int).toNat IntKind.u64.bits)).toNat default).Stride) 1)||(iEq (Int.tmod (IntKind.u16.wrap (a1 - ((a0.getD (IntKind.i64.wrap ((IntKind.u64.wrap (IntKind.i64.wrap (s9.1+s9.2))) /2 ^min (1:Int).toNat IntKind.u64.bits)).toNat default).Lo))) ((a0.getD (IntKind.i64.wrap ((IntKind.u64.wrap (IntKind.i64.wrap (s9.1+s9.2))) /2 ^min (1:Int).toNat IntKind.u64.bits)).toNat default).Stride)) 0)))) (cond (iLt a1 ((a0.getD (IntKind.i64.wrap ((IntKind.u64.wrap (IntKind.i64.wrap (s9.1+s9.2))) /2 ^min (1:Int).toNat IntKind.u64.bits)).toNat default).Lo)) (hX a0 a1 k10 (s9.1,IntKind.i64.wrap ((IntKind.u64.wrap (IntKind.i64.wrap (s9.1+s9.2))) /2 ^min (1:Int).toNat IntKind.u64.bits))) (hX a0 a1 k10 (IntKind.i64.wrap ((IntKind.i64.wrap ((IntKind.u64.wrap (IntKind.i64.wrap (s9.1+s9.2))) /2 ^min (1:Int).toNat IntKind.u64.bits))+1),s9.2))))) (some false)
def ur (a0:List dW) (a1:Int):Option Bool:=
  cond ((iLe (a0.length:Int) 18)||(iLe a1 255)) (kz a0 a1 fuel 0) (hX a0 a1 fuel (0,(a0.length:Int)))
def kA (a0:List dX) (a1:Int):Nat→Int→Option Bool
  | 0,_=>none
  | k3+1,s2=>cond (iLt s2 (a0.length:Int)) (need (nIn s2 (a0.length:Int)) (cond (iLt a1 ((a0.getD s2.toNat default).Lo)) (some false) (cond (iLe a1 ((a0.getD s2.toNat default).Hi)) (need (!(!(iEq ((a0.getD s2.toNat default).Stride) 1))||nNz ((a0.getD s2.toNat default).Stride)) (some ((iEq ((a0.getD s2.toNat default).Stride) 1)||(iEq (Int.tmod (IntKind.u32.wrap (a1 - ((a0.getD s2.toNat default).Lo))) ((a0.getD s2.toNat default).Stride)) 0)))) (kA a0 a1 k3 (IntKind.i64.wrap (s2+1)))))) (some false)
def hZ (a0:List dX) (a1:Int):Nat→(Int×Int)→Option Bool
  | 0,_=>none
  | k10+1,s9=>cond (iLt s9.1 s9.2) (need (nIn (IntKind.i64.wrap ((IntKind.u64.wrap (IntKind.i64.wrap (s9.1+s9.2))) /2 ^min (1:Int).toNat IntKind.u64.bits)) (a0.length:Int)) (cond ((iLe ((a0.getD (IntKind.i64.wrap ((IntKind.u64.wrap (IntKind.i64.wrap (s9.1+s9.2))) /2 ^min (1:Int).toNat IntKind.u64.bits)).toNat default).Lo) a1)&&(iLe a1 ((a0.getD (IntKind.i64.wrap ((IntKind.u64.wrap (IntKind.i64.wrap (s9.1+s9.2))) /2 ^min (1:Int).toNat IntKind.u64.bits)).toNat default).Hi))) (need (!(!(iEq ((a0.getD (IntKind.i64.wrap ((IntKind.u64.wrap (IntKind.i64.wrap (s9.1+s9.2))) /2 ^min (1:Int).toNat IntKind.u64.bits)).toNat default).Stride) 1))||nNz ((a0.getD (IntKind.i64.wrap ((IntKind.u64.wrap (IntKind.i64.wrap (s9.1+s9.2))) /2 ^min (1:Int).toNat IntKind.u64.bits)).toNat default).Stride)) (some ((iEq ((a0.getD (IntKind.i64.wrap ((IntKind.u64.wrap (IntKind.i64.wrap (s9.1+s9.2))) /2 ^min (1:Int).toNat IntKind.u64.bits)).toNat default).Stride) 1)||(iEq (Int.tmod (IntKind.u32.wrap (a1 - ((a0.getD (IntKind.i64.wrap ((IntKind.u64.wrap (IntKind.i64.wrap (s9.1+s9.2))) /2 ^min (1:Int).toNat IntKind.u64.bits)).toNat default).Lo))) ((a0.getD (IntKind.i64.wrap ((IntKind.u64.wrap (IntKind.i64.wrap (s9.1+s9.2))) /2 ^min (1:Int).toNat IntKind.u64.bits)).toNat default).Stride)) 0)))) (cond (iLt a1 ((a0.getD (IntKind.i64.wrap ((IntKind.u64.wrap (IntKind.i64.wrap (s9.1+s9.2))) /2 ^min (1:Int).toNat IntKind.u64.bits)).toNat default).Lo)) (hZ a0 a1 k10 (s9.1,IntKind.i64.wrap ((IntKind.u64.wrap (IntKind.i64.wrap (s9.1+s9.2))) /2 ^min (1:Int).toNat IntKind.u64.bits))) (hZ a0 a1 k10 (IntKind.i64.wrap ((IntKind.i64.wrap ((IntKind.u64.wrap (IntKind.i64.wrap (s9.1+s9.2))) /2 ^min (1:Int).toNat IntKind.u64.bits))+1),s9.2))))) (some false)
def uu (a0:List dX) (a1:Int):Option Bool:=
  cond (iLe (a0.length:Int) 18) (kA a0 a1 fuel 0) (hZ a0 a1 fuel (0,(a0.length:Int)))
def rK (a0:lx) (a1:Int):Option Bool:=
  need (!(iLt a0.LatinOffset (a0.R16.length:Int))||nIn (IntKind.i64.wrap ((a0.R16.length:Int) - 1)) (a0.R16.length:Int)) (cond ((iLt a0.LatinOffset (a0.R16.length:Int))&&(iLe (IntKind.u32.wrap a1) (IntKind.u32.wrap ((a0.R16.getD (IntKind.i64.wrap ((a0.R16.length:Int) - 1)).toNat default).Hi)))) (need (nSl a0.LatinOffset (a0.R16.length:Int) (a0.R16.length:Int)) ((ur ((a0.R16.take (a0.R16.length:Int).toNat).drop a0.LatinOffset.toNat) (IntKind.u16.wrap a1)).bind fun (x4:Bool)=>some x4)) (need (!(iLt 0 (a0.R32.length:Int))||nIn (0:Int) (a0.R32.length:Int)) (cond ((iLt 0 (a0.R32.length:Int))&&(iLe (IntKind.i32.wrap ((a0.R32.getD (0:Int).toNat default).Lo)) a1)) ((uu a0.R32 (IntKind.u32.wrap a1)).bind fun (x7:Bool)=>some x7) (some false))))
def eR (a0:ByteArray) (K8:Int→Option (List ByteArray)):Nat→Int→Option (List ByteArray)
  | 0,_=>none
  | k11+1,s10=>cond (iLt s10 (a0.size:Int)) (need (nIn s10 (a0.size:Int)) (need (nIn (bc a0 s10.toNat) ((256:Nat):Int)) (cond (iNe (aU.getD (bc a0 s10.toNat).toNat default) 0) (eR a0 K8 k11 (IntKind.i64.wrap (s10+1))) (K8 s10)))) (K8 s10)
def eS (a0:ByteArray) (K26:Int→Option (List ByteArray)):Nat→Int→Option (List ByteArray)
  | 0,_=>none
  | k29+1,s28=>cond (iLt s28 (a0.size:Int)) (need (nIn s28 (a0.size:Int)) (need (nIn (bc a0 s28.toNat) ((256:Nat):Int)) (cond (iNe (aU.getD (bc a0 s28.toNat).toNat default) 0) (eS a0 K26 k29 (IntKind.i64.wrap (s28+1))) (K26 s28)))) (K26 s28)
def dJ (a0:ByteArray) (K16:(Int×Int×(List ByteArray))→Option (List ByteArray)):Nat→(Int×Int×Int×(List ByteArray))→Option (List ByteArray)
  | 0,_=>none
  | k19+1,s18=>cond (iLt s18.2.2.1 (a0.size:Int)) (need (nIn s18.2.2.1 (a0.size:Int)) (need (nIn (bc a0 s18.2.2.1.toNat) ((256:Nat):Int)) (cond (iEq (aU.getD (bc a0 s18.2.2.1.toNat).toNat default) 0) (dJ a0 K16 k19 (s18.1,s18.2.1,IntKind.i64.wrap (s18.2.2.1+1),s18.2.2.2)) (need (nSl s18.2.1 s18.2.2.1 (a0.size:Int)) (need (nIn s18.1 (s18.2.2.2.length:Int)) (iJ (fun s27:Int=>dJ a0 K16 k19 (IntKind.i64.wrap (s18.1+1),s27,s27,s18.2.2.2.set s18.1.toNat (a0.extract s18.2.1.toNat s18.2.2.1.toNat))) fun K26=>eS a0 K26 fuel (IntKind.i64.wrap (s18.2.2.1+1)))))))) (K16 (s18.1,s18.2.1,s18.2.2.2))
def ff (a0:ByteArray):Nat→(Int×Int×Int×Int)→Option (List ByteArray)
  | 0,_=>none
  | k2+1,s1=>cond (iLt s1.2.2.2 (a0.size:Int)) (need (nIn s1.2.2.2 (a0.size:Int)) (need (nIn (bc a0 s1.2.2.2.toNat) ((256:Nat):Int)) (ff a0 k2 (IntKind.i64.wrap (s1.1+(Go.bits .and .i64 s1.2.1 (Go.bits .xor .i64 (cond IntKind.i64.signed (-1) IntKind.i64.max) (IntKind.i64.wrap (aU.getD (bc a0 s1.2.2.2.toNat).toNat default))))),IntKind.i64.wrap (aU.getD (bc a0 s1.2.2.2.toNat).toNat default),Go.bits .or .u8 s1.2.2.1 (bc a0 s1.2.2.2.toNat),IntKind.i64.wrap (s1.2.2.2+1))))) (cond (iLe 128 s1.2.2.1) (none) (need (nMk s1.1 16) (iJ (fun s9:Int=>iJ (fun s17:Int×Int×(List ByteArray)=>cond (iLt s17.2.1 (a0.size:Int)) (need (nTo s17.2.1 (a0.size:Int)) (need (nIn s17.1 (s17.2.2.length:Int)) (some (s17.2.2.set s17.1.toNat (a0.extract s17.2.1.toNat a0.size))))) (some s17.2.2)) fun K16=>dJ a0 K16 fuel (0,s9,s9,List.replicate s1.1.toNat (ByteArray.empty:ByteArray))) fun K8=>eR a0 K8 fuel 0)))
def eI (a0:ByteArray):Option (List ByteArray):=
  ff a0 fuel (0,1,0,0)
def lM (a0:Int):Option ByteArray:=
  (jZ a0).bind fun (x1:Bool)=>cond (!x1) (some ByteArray.empty) ((eI (⟨#[112,117,115,104,32,108,111,97,100,32,115,116,111,114,101,32,97,100,100,32,115,117,98,32,109,117,108,32,100,105,118,32,109,111,100,32,110,101,103,32,108,116,32,101,113,32,97,110,100,32,111,114,32,120,111,114,32,115,104,108,32,115,104,114,32,100,117,112,32,100,114,111,112,32,106,117,109,112,32,122,101,114,111,32,99,97,108,108,32,114,101,116,32,115,101,108,102,32,110,111,119,32,111,117,116,32,121,105,101,108,100,32,119,97,105,116,32,119,97,105,116,102,111,114,32,115,108,101,101,112,32,117,110,108,111,99,107,32,112,111,115,116,32,103,105,118,101,32,99,119,97,105,116,32,99,119,97,105,116,102,111,114,32,115,105,103,110,97,108,32,98,114,111,97,100,99,97,115,116,32,101,110,114,111,108,32,108,101,97,118,101,32,97,114,114,105,118,101,32,97,114,114,105,118,101,102,111,114,32,115,112,97,119,110,32,106,111,105,110,32,106,111,105,110,102,111,114,32,103,114,97,110,116,32,119,97,105,118,101,32,114,101,97,100,32,119,114,105,116,101,32,98,101,103,105,110,32,99,111,109,109,105,116,32,99,108,97,105,109,32,100,101,97,100,32,109,101,110,100]⟩:ByteArray)).bind fun (x3:List ByteArray)=>need (nIn a0 (x3.length:Int)) (some (x3.getD a0.toNat default)))
def j0 (a0:Int):Option ByteArray:=
  (jZ a0).bind fun (x1:Bool)=>cond (!x1) (some ByteArray.empty) ((eI (⟨#[110,32,107,32,107,32,46,32,46,32,46,32,46,32,46,32,46,32,46,32,46,32,46,32,46,32,46,32,46,32,46,32,46,32,46,32,116,32,116,32,102,32,46,32,46,32,46,32,46,32,46,32,119,32,119,32,46,32,117,32,115,32,112,32,99,109,32,99,109,32,99,32,99,32,98,32,98,32,98,32,98,32,102,32,106,106,32,106,106,32,46,32,46,32,118,32,118,32,46,32,46,32,113,32,109,32,109]⟩:ByteArray)).bind fun (x3:List ByteArray)=>need (nIn a0 (x3.length:Int)) (cond (sEq (x3.getD a0.toNat default) (⟨#[46]⟩:ByteArray)) (some ByteArray.empty) (some (x3.getD a0.toNat default))))
def uv (a0:Int) (a1:Int):Option Bool:=
  cond (iEq a0 110) ((jH a1).bind fun (x2:Bool)=>some x2) (cond (iEq a0 107) (some ((iLe 0 a1)&&(iLt a1 8))) (cond (iEq a0 116) (some ((iLe 0 a1)&&(iLt a1 200))) (cond (iEq a0 102) (some ((iLe 0 a1)&&(iLt a1 16))) (cond (iEq a0 119) (some ((iLe 0 a1)&&(iLt a1 32))) (cond (iEq a0 106) (some ((iLe 1 a1)&&(iLe a1 4))) (some ((iLe 0 a1)&&(iLt a1 32))))))))
def cM (a0:aq) (x3_2_1:ByteArray):Nat→Int→Option Int
  | 0,_=>none
  | k13+1,s12=>cond (iLt s12 ((((2:Nat):Int) - (x3_2_1.size:Int)).toNat:Int)) (need (nNn (x3_2_1.size:Int)) (need (nIn s12 ((((2:Nat):Int) - (x3_2_1.size:Int)).toNat:Int)) (need (nIn ((x3_2_1.size:Int)+s12) ((2:Nat):Int)) (cond (iNe (([a0.A,a0.B]:List Int).getD ((x3_2_1.size:Int)+s12).toNat default) 0) (some 2) (cM a0 x3_2_1 k13 (IntKind.i64.wrap (s12+1))))))) (some 0)
def dh (a0:aq) (x3_2_1:ByteArray):Nat→Int→Option Int
  | 0,_=>none
  | k4+1,s3=>cond (iLt s3 (x3_2_1.size:Int)) (need (nIn s3 (x3_2_1.size:Int)) (need (nIn s3 ((2:Nat):Int)) ((uv (bc x3_2_1 s3.toNat) (([a0.A,a0.B]:List Int).getD s3.toNat default)).bind fun (x8:Bool)=>cond (!x8) (some 1) (dh a0 x3_2_1 k4 (IntKind.i64.wrap (s3+1)))))) (cond ((sEq x3_2_1 (⟨#[106,106]⟩:ByteArray))&&(iLt a0.B a0.A)) (some 1) (need (nSl (x3_2_1.size:Int) ((2:Nat):Int) ((2:Nat):Int)) (cM a0 x3_2_1 fuel 0)))
def iR (a0:aq):Option Int:=
  (lM a0.Op).bind fun (x1:ByteArray)=>cond (sEq x1 ByteArray.empty) (some 6) ((j0 a0.Op).bind fun (x3_2_1:ByteArray)=>dh a0 x3_2_1 fuel 0)
def cE (a0:aw):Nat→Int→Option Int
  | 0,_=>none
  | k5+1,s4=>cond (iLt s4 (a0.Code.length:Int)) (need (nIn s4 (a0.Code.length:Int)) ((iR (a0.Code.getD s4.toNat default)).bind fun (x8:Int)=>cond (iNe x8 0) (some x8) (cE a0 k5 (IntKind.i64.wrap (s4+1))))) (some 0)
def fZ (a0:aw):Option Int:=
  cond (((iLt a0.Args 0)||(iLt a0.Locals a0.Args))||(iLt 8 a0.Locals)) (some 1) (cond (iEq (a0.Code.length:Int) 0) (some 2) (cond (iLt 200 (a0.Code.length:Int)) (some 4) (cE a0 fuel 0)))
def dT (a0:aa):Nat→Int→Option Int
  | 0,_=>none
  | k13+1,s12=>cond (iLt s12 (a0.Funcs.length:Int)) (need (nIn s12 (a0.Funcs.length:Int)) ((fZ (a0.Funcs.getD s12.toNat default)).bind fun (x16:Int)=>cond (iNe x16 0) (some x16) (dT a0 k13 (IntKind.i64.wrap (s12+1))))) (some 0)
def eo (a0:aa):Nat→Int→Option Int
  | 0,_=>none
  | k5+1,s4=>cond (iLt s4 (a0.Waits.length:Int)) (need (nIn s4 (a0.Waits.length:Int)) ((gA a0.Decls (a0.Waits.getD s4.toNat default)).bind fun (x8:Int)=>cond (iNe x8 0) (some x8) (eo a0 k5 (IntKind.i64.wrap (s4+1))))) (cond (iEq (a0.Funcs.length:Int) 0) (some 2) (cond (iLt 16 (a0.Funcs.length:Int)) (some 4) (dT a0 fuel 0)))
def gB (a0:aa):Option Int:=
  (gz a0.Decls).bind fun (x1:Int×Int)=>cond (iNe x1.2 0) (some x1.2) (cond (iLt 32 (a0.Waits.length:Int)) (some 4) (eo a0 fuel 0))
def fu (a0:aa) (a1:aw) (a2:aq) (a3:Int) (a4:Int):Option Int:=
  cond (iEq a3 110) (some 0) (cond (iEq a3 106) (some 0) (cond (iEq a3 107) (cond (!(iLt a4 a1.Locals)) (some 1) (some 0)) (cond (iEq a3 116) (cond (!(iLt a4 (a1.Code.length:Int))) (some 1) (some 0)) (cond (iEq a3 102) (need (!((iLt a4 (a0.Funcs.length:Int))&& !(iNe a2.Op 40))||nIn a4 (a0.Funcs.length:Int)) (cond (!((iLt a4 (a0.Funcs.length:Int))&&((iNe a2.Op 40)||(iEq ((a0.Funcs.getD a4.toNat default).Args) 1)))) (some 1) (some 0))) (cond (iEq a3 119) (cond (!(iLt a4 (a0.Waits.length:Int))) (some 1) (some 0)) ((eW a0.Decls a3 a4).bind fun (x12:Bool)=>cond (!x12) (some 6) (some 0)))))))
def bh (a0:aF) (a1:Int) (a2:Int):Option aF:=
  cond ((iEq a0.err 0)||(iLt a1 a0.at_)) (some (⟨a0.p,a0.code,a0.depth,a0.next,a1,a2⟩:aF)) (some a0)
def aN (a0:aF) (a1:Int) (a2:Int) (a3:Int):Option (Bool×aF):=
  cond (iLe (a0.code.length:Int) a2) ((bh a0 a1 3).bind fun (x2:aF)=>some (false,x2)) (need (nIn a2 (a0.depth.length:Int)) (cond (iLt (a0.depth.getD a2.toNat default) 0) (need (nIn a2 (a0.depth.length:Int)) (need (nIn a2 (a0.next.length:Int)) (some (true,(⟨a0.p,a0.code,a0.depth.set a2.toNat a3,a0.next.set a2.toNat true,a0.at_,a0.err⟩:aF))))) (need (nIn a2 (a0.depth.length:Int)) (cond (iNe (a0.depth.getD a2.toNat default) a3) ((bh a0 a1 2).bind fun (x9:aF)=>some (false,x9)) (some (true,a0))))))
def bm (a0:List Bool) (a1:Bool):Nat→Int→Option Int
  | 0,_=>none
  | k2+1,s1=>cond (iLt s1 (a0.length:Int)) (need (nIn s1 (a0.length:Int)) (cond (a1==(a0.getD s1.toNat default)) (some s1) (bm a0 a1 k2 (IntKind.i64.wrap (s1+1))))) (some (-1))
def cN (a0:List Bool) (a1:Bool):Option Int:=
  bm a0 a1 fuel 0
def bT (a0:aF):Option Int:=
  (cN a0.next true).bind fun (x1:Int)=>some x1
def jf (a0:Int):Option Int:=
  cond (iEq a0 2) (some 2) (cond (iEq a0 17) (some 2) (cond (iEq a0 19) (some 2) (cond (iEq a0 21) (some 2) (cond (iEq a0 18) (some 0) (cond (iEq a0 25) (some 0) (cond (iEq a0 16) (some 5) (cond (iEq a0 45) (some 6) (cond (iEq a0 40) (some 4) (cond (iEq a0 43) (some 4) (cond (iEq a0 8) (some 3) (cond (iEq a0 24) (some 3) (cond (iEq a0 27) (some 3) (cond (iEq a0 28) (some 3) (cond (iEq a0 30) (some 3) (cond (iEq a0 31) (some 3) (cond (iEq a0 33) (some 3) (cond (iEq a0 39) (some 3) (cond (iEq a0 44) (some 3) (cond (iEq a0 46) (some 3) (cond (iEq a0 49) (some 3) (cond ((iLe 3 a0)&&(iLe a0 15)) (some 4) ((jZ a0).bind fun (x23:Bool)=>cond x23 (some 1) (some 0)))))))))))))))))))))))
def fI (a0:aq) (a1:Int):Option Int:=
  iJ (fun s2:Int=>some (IntKind.i64.wrap (s2+a0.B))) fun K1=>cond (iEq a0.Op 20) (some a1) (cond (iEq a0.Op 42) (K1 (IntKind.i64.wrap ((0:Int)+1))) (cond (iEq a0.Op 41) (K1 0) ((jf a0.Op).bind fun (x6:Int)=>iJ (fun s8:Int=>some (IntKind.i64.wrap (s8+1))) fun K7=>cond (iEq x6 4) (K7 (IntKind.i64.wrap ((0:Int)+1))) (cond (iEq x6 2) (K7 0) (cond (iEq x6 3) (K7 0) (cond (iEq x6 5) (K7 0) (some 0)))))))
def cP (a0:Int):Option Int:=
  (jf a0).bind fun (x1:Int)=>cond (iEq x1 5) (some 2) (cond (iEq x1 6) (some 2) (cond (iEq x1 1) (some 1) (cond (iEq x1 3) (some 1) (cond (iEq x1 4) (some 1) (some 0)))))
def kB (a0:Int):Option Bool:=
  (jZ a0).bind fun (x1:Bool)=>some ((x1&&(iNe a0 18))&&(iNe a0 21))
def cy (a0:aF) (a1:Int):Option aF:=
  need (nIn a1 (a0.code.length:Int)) (cond ((iEq ((a0.code.getD a1.toNat default).Op) 20)&&(iLt ((a0.code.getD a1.toNat default).A) (a0.p.Funcs.length:Int))) (need (nIn ((a0.code.getD a1.toNat default).A) (a0.p.Funcs.length:Int)) (need (nIn a1 (a0.depth.length:Int)) ((fI (a0.code.getD a1.toNat default) ((a0.p.Funcs.getD ((a0.code.getD a1.toNat default).A).toNat default).Args)).bind fun (x3_9_1:Int)=>cond (iLt (IntKind.i64.wrap ((a0.depth.getD a1.toNat default) - x3_9_1)) 0) ((bh a0 a1 2).bind fun (x5:aF)=>some x5) ((cP ((a0.code.getD a1.toNat default).Op)).bind fun (x6:Int)=>cond (iLt 16 (IntKind.i64.wrap ((IntKind.i64.wrap ((a0.depth.getD a1.toNat default) - x3_9_1))+x6))) ((bh a0 a1 4).bind fun (x8:aF)=>some x8) ((kB ((a0.code.getD a1.toNat default).Op)).bind fun (x9:Bool)=>cond x9 ((aN a0 a1 (IntKind.i64.wrap (a1+1)) (IntKind.i64.wrap ((IntKind.i64.wrap ((a0.depth.getD a1.toNat default) - x3_9_1))+x6))).bind fun (x11:Bool×aF)=>cond (!x11.1) (some x11.2) (cond ((iEq ((a0.code.getD a1.toNat default).Op) 18)||(iEq ((a0.code.getD a1.toNat default).Op) 19)) ((aN x11.2 a1 ((a0.code.getD a1.toNat default).A) (IntKind.i64.wrap ((IntKind.i64.wrap ((a0.depth.getD a1.toNat default) - x3_9_1))+x6))).bind fun (x14:Bool×aF)=>some x14.2) (some x11.2))) (cond ((iEq ((a0.code.getD a1.toNat default).Op) 18)||(iEq ((a0.code.getD a1.toNat default).Op) 19)) ((aN a0 a1 ((a0.code.getD a1.toNat default).A) (IntKind.i64.wrap ((IntKind.i64.wrap ((a0.depth.getD a1.toNat default) - x3_9_1))+x6))).bind fun (x16:Bool×aF)=>some x16.2) (some a0))))))) (need (nIn a1 (a0.depth.length:Int)) ((fI (a0.code.getD a1.toNat default) 0).bind fun (x3_9_1:Int)=>cond (iLt (IntKind.i64.wrap ((a0.depth.getD a1.toNat default) - x3_9_1)) 0) ((bh a0 a1 2).bind fun (x18:aF)=>some x18) ((cP ((a0.code.getD a1.toNat default).Op)).bind fun (x19:Int)=>cond (iLt 16 (IntKind.i64.wrap ((IntKind.i64.wrap ((a0.depth.getD a1.toNat default) - x3_9_1))+x19))) ((bh a0 a1 4).bind fun (x21:aF)=>some x21) ((kB ((a0.code.getD a1.toNat default).Op)).bind fun (x22:Bool)=>cond x22 ((aN a0 a1 (IntKind.i64.wrap (a1+1)) (IntKind.i64.wrap ((IntKind.i64.wrap ((a0.depth.getD a1.toNat default) - x3_9_1))+x19))).bind fun (x24:Bool×aF)=>cond (!x24.1) (some x24.2) (cond ((iEq ((a0.code.getD a1.toNat default).Op) 18)||(iEq ((a0.code.getD a1.toNat default).Op) 19)) ((aN x24.2 a1 ((a0.code.getD a1.toNat default).A) (IntKind.i64.wrap ((IntKind.i64.wrap ((a0.depth.getD a1.toNat default) - x3_9_1))+x19))).bind fun (x27:Bool×aF)=>some x27.2) (some x24.2))) (cond ((iEq ((a0.code.getD a1.toNat default).Op) 18)||(iEq ((a0.code.getD a1.toNat default).Op) 19)) ((aN a0 a1 ((a0.code.getD a1.toNat default).A) (IntKind.i64.wrap ((IntKind.i64.wrap ((a0.depth.getD a1.toNat default) - x3_9_1))+x19))).bind fun (x29:Bool×aF)=>some x29.2) (some a0)))))))
def dK:Nat→(Int×(List ai)×(List (List (List af)))×(List aw)×(List aq)×Int×Int×(List Int)×(List Bool))→Option ((List Int)×Int×Int)
  | 0,_=>none
  | k13+1,s12=>cond (iLe 0 s12.1) (need (nIn s12.1 (s12.2.2.2.2.2.2.2.2.length:Int)) ((cy (⟨(⟨s12.2.1,s12.2.2.1,s12.2.2.2.1⟩:aa),s12.2.2.2.2.1,s12.2.2.2.2.2.2.2.1,s12.2.2.2.2.2.2.2.2.set s12.1.toNat false,s12.2.2.2.2.2.1,s12.2.2.2.2.2.2.1⟩:aF) s12.1).bind fun (x16:aF)=>(bT x16).bind fun (x17:Int)=>dK k13 (x17,x16.p.Decls,x16.p.Waits,x16.p.Funcs,x16.code,x16.at_,x16.err,x16.depth,x16.next))) (cond (iNe s12.2.2.2.2.2.2.1 0) (some ([],s12.2.2.2.2.2.1,s12.2.2.2.2.2.2.1)) (some (s12.2.2.2.2.2.2.2.1,0,0)))
def eX (a0:aa) (a1:Int):Nat→(Int×(List Int))→Option ((List Int)×Int×Int)
  | 0,_=>none
  | k5+1,s4=>cond (iLt s4.1 (((List.replicate (((a0.Funcs.getD a1.toNat default).Code).length:Int).toNat (0:Int)).map aE).length:Int)) (need (nIn s4.1 (s4.2.length:Int)) (eX a0 a1 k5 (IntKind.i64.wrap (s4.1+1),s4.2.set s4.1.toNat (-1)))) (cond (iEq (((a0.Funcs.getD a1.toNat default).Code).length:Int) 0) (some ([],0,3)) (need (nMk (((a0.Funcs.getD a1.toNat default).Code).length:Int) 1) ((aN (⟨a0,(a0.Funcs.getD a1.toNat default).Code,s4.2,List.replicate (((a0.Funcs.getD a1.toNat default).Code).length:Int).toNat (false:Bool),0,0⟩:aF) 0 0 0).bind fun (x10:Bool×aF)=>(bT x10.2).bind fun (x11:Int)=>dK fuel (x11,x10.2.p.Decls,x10.2.p.Waits,x10.2.p.Funcs,x10.2.code,x10.2.at_,x10.2.err,x10.2.depth,x10.2.next))))
def jg (a0:aa) (a1:Int):Option ((List Int)×Int×Int):=
  cond ((iLt a1 0)||(iLe (a0.Funcs.length:Int) a1)) (some ([],0,19)) (need (nIn a1 (a0.Funcs.length:Int)) (need (nMk (((a0.Funcs.getD a1.toNat default).Code).length:Int) 8) (eX a0 a1 fuel (0,List.replicate (((a0.Funcs.getD a1.toNat default).Code).length:Int).toNat (0:Int)))))
def cq (a0:aa) (a1:Int) (s2:Int) (K5:Unit→Option (Int×Int)) (x8:ByteArray):Nat→Int→Option (Int×Int)
  | 0,_=>none
  | k10+1,s9=>cond (iLt s9 ((jd x8).length:Int)) (need (nIn s9 ((jd x8).length:Int)) (need (nIn s9 ((2:Nat):Int)) ((fu a0 (a0.Funcs.getD a1.toNat default) (((a0.Funcs.getD a1.toNat default).Code).getD s2.toNat default) ((jd x8).getD s9.toNat default) (([(((a0.Funcs.getD a1.toNat default).Code).getD s2.toNat default).A,(((a0.Funcs.getD a1.toNat default).Code).getD s2.toNat default).B]:List Int).getD s9.toNat default)).bind fun (x14:Int)=>cond (iNe x14 0) (some (s2,x14)) (cq a0 a1 s2 K5 x8 k10 (IntKind.i64.wrap (s9+1)))))) (K5 Unit.unit)
def cz (a0:aa) (a1:Int):Nat→Int→Option (Int×Int)
  | 0,_=>none
  | k3+1,s2=>cond (iLt s2 (((a0.Funcs.getD a1.toNat default).Code).length:Int)) (iJ (fun s6:Unit=>cz a0 a1 k3 (IntKind.i64.wrap (s2+1))) fun K5=>need (nIn s2 (((a0.Funcs.getD a1.toNat default).Code).length:Int)) ((j0 ((((a0.Funcs.getD a1.toNat default).Code).getD s2.toNat default).Op)).bind fun (x8:ByteArray)=>cq a0 a1 s2 K5 x8 fuel 0)) ((jg a0 a1).bind fun (x16:(List Int)×Int×Int)=>some (x16.2.1,x16.2.2))
def dq (a0:aa) (a1:Int):Option (Int×Int):=
  need (nIn a1 (a0.Funcs.length:Int)) (cz a0 a1 fuel 0)
def bO (a0:aa):Nat→Int→Option (de×Int)
  | 0,_=>none
  | k6+1,s5=>cond (iLt s5 (a0.Funcs.length:Int)) ((dq a0 s5).bind fun (x8:Int×Int)=>cond (iNe x8.2 0) (some ((⟨s5,x8.1⟩:de),x8.2)) (bO a0 k6 (IntKind.i64.wrap (s5+1)))) (some ((⟨0,0⟩:de),0))
def cO (a0:aa):Option (de×Int):=
  (gB a0).bind fun (x1:Int)=>cond (iNe x1 0) (some ((⟨0,0⟩:de),x1)) (need (nIn (0:Int) (a0.Funcs.length:Int)) (cond (iLt 0 ((a0.Funcs.getD (0:Int).toNat default).Args)) (some ((⟨0,0⟩:de),1)) (bO a0 fuel 0)))
def dr (a0:ar):Nat→Int→Option Int
  | 0,_=>none
  | k7+1,s6=>cond (iLt s6 (a0.Events.length:Int)) (need (nIn s6 (a0.Events.length:Int)) (cond ((iNe ((a0.Events.getD s6.toNat default).Kind) 1)&&(iNe ((a0.Events.getD s6.toNat default).Kind) 2)) (some 6) (cond ((iEq ((a0.Events.getD s6.toNat default).Kind) 2)&&(iNe ((a0.Events.getD s6.toNat default).B) 0)) (some 2) (dr a0 k7 (IntKind.i64.wrap (s6+1)))))) (some 0)
def eY (a0:ar):Option Int:=
  (fX a0.Config).bind fun (x1:Int)=>cond (iNe x1 0) (some x1) ((cO a0.Program).bind fun (x3:de×Int)=>cond (iNe x3.2 0) (some x3.2) (cond (iLt 4000 (a0.Events.length:Int)) (some 4) (dr a0 fuel 0)))
def dF (K1:(Int×ByteArray)→Option ay):Nat→(Int×ByteArray)→Option ay
  | 0,_=>none
  | k4+1,s3=>cond (iLt 127 s3.1) (need (nCap (s3.2.size+1)) (need (nIn (Go.bits .or .u8 (IntKind.u8.wrap s3.1) 128) 256) (dF K1 k4 (s3.1 /2 ^min (7:Int).toNat IntKind.u64.bits,s3.2.push (UInt8.ofNat (Go.bits .or .u8 (IntKind.u8.wrap s3.1) 128).toNat))))) (K1 (s3.1,s3.2))
def bf (a0:ay) (a1:Int):Option ay:=
  iJ (fun s2:Int×ByteArray=>need (nCap (s2.2.size+1)) (need (nIn (IntKind.u8.wrap s2.1) 256) (some (⟨s2.2.push (UInt8.ofNat (IntKind.u8.wrap s2.1).toNat)⟩:ay)))) fun K1=>dF K1 fuel (a1,a0.b)
def cd (a0:ay) (a1:Int):Option ay:=
  need (nCap (a0.b.size+1)) (need (nIn (IntKind.u8.wrap a1) 256) (some (⟨a0.b.push (UInt8.ofNat (IntKind.u8.wrap a1).toNat)⟩:ay)))
def db (a0:ay) (a1:Int):Option ay:=
  (bf a0 (Go.bits .xor .u64 (IntKind.u64.wrap ((IntKind.u64.wrap a1)*2 ^min (1:Int).toNat IntKind.u64.bits)) (IntKind.u64.wrap (a1 /2 ^min (63:Int).toNat IntKind.i64.bits)))).bind fun (x1:ay)=>some x1
def cw (a0:ay):Option ByteArray:=
  some a0.b
def dt (a0:List ai):Nat→(Int×ByteArray)→Option (ByteArray×Int)
  | 0,_=>none
  | k5+1,s4=>cond (iLt s4.1 (a0.length:Int)) (need (nIn s4.1 (a0.length:Int)) ((cd (⟨s4.2⟩:ay) ((a0.getD s4.1.toNat default).Kind)).bind fun (x8:ay)=>cond (iEq ((a0.getD s4.1.toNat default).Kind) 3) ((bf x8 (IntKind.u64.wrap ((a0.getD s4.1.toNat default).A))).bind fun (x10:ay)=>(bf x10 (IntKind.u64.wrap ((a0.getD s4.1.toNat default).B))).bind fun (x11:ay)=>dt a0 k5 (IntKind.i64.wrap (s4.1+1),x11.b)) (cond (iEq ((a0.getD s4.1.toNat default).Kind) 6) ((bf x8 (IntKind.u64.wrap ((a0.getD s4.1.toNat default).A))).bind fun (x13:ay)=>dt a0 k5 (IntKind.i64.wrap (s4.1+1),x13.b)) (cond (iEq ((a0.getD s4.1.toNat default).Kind) 7) ((db x8 ((a0.getD s4.1.toNat default).A)).bind fun (x15:ay)=>(bf x15 (IntKind.u64.wrap ((a0.getD s4.1.toNat default).B))).bind fun (x16:ay)=>dt a0 k5 (IntKind.i64.wrap (s4.1+1),x16.b)) (dt a0 k5 (IntKind.i64.wrap (s4.1+1),x8.b)))))) ((cw (⟨s4.2⟩:ay)).bind fun (x17:ByteArray)=>some (x17,0))
def mS (a0:List ai):Option (ByteArray×Int):=
  (gz a0).bind fun (x1:Int×Int)=>cond (iNe x1.2 0) (some (ByteArray.empty,x1.2)) ((bf (⟨ByteArray.empty⟩:ay) (IntKind.u64.wrap (a0.length:Int))).bind fun (x3:ay)=>dt a0 fuel (0,x3.b))
def il (a0:Int):Option ByteArray:=
  (bf (⟨ByteArray.empty⟩:ay) (IntKind.u64.wrap a0)).bind fun (x1:ay)=>(cw x1).bind fun (x2:ByteArray)=>some x2
def cf (a0:aH):Option aH:=
  cond (!a0.addr) (some (⟨true,a0.buf⟩:aH)) (cond (!a0.addr) (none) (some a0))
def aY (a0:aH) (a1:ByteArray):Option (Int×Unit×aH):=
  (cf a0).bind fun (x1:aH)=>need (nCap (x1.buf.size+a1.size)) (some ((a1.size:Int),(),(⟨x1.addr,x1.buf++a1⟩:aH)))
def dL (a1:List (List af)) (s4:Int×ByteArray) (K7:ByteArray→Option (ByteArray×Int)):Nat→(Int×ByteArray)→Option (ByteArray×Int)
  | 0,_=>none
  | k12+1,s11=>cond (iLt s11.1 ((a1.getD s4.1.toNat default).length:Int)) (need (nIn s11.1 ((a1.getD s4.1.toNat default).length:Int)) ((cd (⟨s11.2⟩:ay) (((a1.getD s4.1.toNat default).getD s11.1.toNat default).Kind)).bind fun (x15:ay)=>(bf x15 (IntKind.u64.wrap (((a1.getD s4.1.toNat default).getD s11.1.toNat default).Obj))).bind fun (x16:ay)=>(bj (((a1.getD s4.1.toNat default).getD s11.1.toNat default).Kind)).bind fun (x17:Bool)=>cond x17 ((bf x16 (IntKind.u64.wrap (((a1.getD s4.1.toNat default).getD s11.1.toNat default).N))).bind fun (x19:ay)=>dL a1 s4 K7 k12 (IntKind.i64.wrap (s11.1+1),x19.b)) (dL a1 s4 K7 k12 (IntKind.i64.wrap (s11.1+1),x16.b)))) (K7 s11.2)
def eZ (a1:List (List af)):Nat→(Int×ByteArray)→Option (ByteArray×Int)
  | 0,_=>none
  | k5+1,s4=>cond (iLt s4.1 (a1.length:Int)) (iJ (fun s8:ByteArray=>eZ a1 k5 (IntKind.i64.wrap (s4.1+1),s8)) fun K7=>need (nIn s4.1 (a1.length:Int)) ((bf (⟨s4.2⟩:ay) (IntKind.u64.wrap ((a1.getD s4.1.toNat default).length:Int))).bind fun (x10:ay)=>dL a1 s4 K7 fuel (0,x10.b))) ((cw (⟨s4.2⟩:ay)).bind fun (x20:ByteArray)=>some (x20,0))
def mT (a0:List ai) (a1:List (List af)):Option (ByteArray×Int):=
  (gA a0 a1).bind fun (x1:Int)=>cond (iNe x1 0) (some (ByteArray.empty,x1)) ((bf (⟨ByteArray.empty⟩:ay) (IntKind.u64.wrap (a1.length:Int))).bind fun (x3:ay)=>eZ a1 fuel (0,x3.b))
def eJ (a0:aq) (x4_4_1:ByteArray):Nat→(Int×ByteArray)→Option (ByteArray×Int)
  | 0,_=>none
  | k5+1,s4=>cond (iLt s4.1 (x4_4_1.size:Int)) (need (nIn s4.1 (x4_4_1.size:Int)) (cond (iEq (bc x4_4_1 s4.1.toNat) 110) (need (nIn s4.1 ((2:Nat):Int)) ((db (⟨s4.2⟩:ay) (([a0.A,a0.B]:List Int).getD s4.1.toNat default)).bind fun (x10:ay)=>eJ a0 x4_4_1 k5 (IntKind.i64.wrap (s4.1+1),x10.b))) (need (nIn s4.1 ((2:Nat):Int)) ((bf (⟨s4.2⟩:ay) (IntKind.u64.wrap (([a0.A,a0.B]:List Int).getD s4.1.toNat default))).bind fun (x12:ay)=>eJ a0 x4_4_1 k5 (IntKind.i64.wrap (s4.1+1),x12.b))))) ((cw (⟨s4.2⟩:ay)).bind fun (x13:ByteArray)=>some (x13,0))
def pF (a0:aq):Option (ByteArray×Int):=
  (iR a0).bind fun (x1:Int)=>cond (iNe x1 0) (some (ByteArray.empty,x1)) ((j0 a0.Op).bind fun (x4_4_1:ByteArray)=>(cd (⟨ByteArray.empty⟩:ay) a0.Op).bind fun (x3:ay)=>eJ a0 x4_4_1 fuel (0,x3.b))
def cI (a0:aH):Option ByteArray:=
  some a0.buf
def e8 (a0:aa) (s16:Int×Bool×ByteArray) (K19:(Bool×ByteArray)→Option (ByteArray×Int)):Nat→(Int×Bool×ByteArray)→Option (ByteArray×Int)
  | 0,_=>none
  | k29+1,s28=>cond (iLt s28.1 (((a0.Funcs.getD s16.1.toNat default).Code).length:Int)) (need (nIn s28.1 (((a0.Funcs.getD s16.1.toNat default).Code).length:Int)) ((pF (((a0.Funcs.getD s16.1.toNat default).Code).getD s28.1.toNat default)).bind fun (x32:ByteArray×Int)=>(aY (⟨s28.2.1,s28.2.2⟩:aH) x32.1).bind fun (x33:Int×Unit×aH)=>e8 a0 s16 K19 k29 (IntKind.i64.wrap (s28.1+1),x33.2.2.addr,x33.2.2.buf))) (K19 (s28.2.1,s28.2.2))
def di (a0:aa):Nat→(Int×Bool×ByteArray)→Option (ByteArray×Int)
  | 0,_=>none
  | k17+1,s16=>cond (iLt s16.1 (a0.Funcs.length:Int)) (iJ (fun s20:Bool×ByteArray=>di a0 k17 (IntKind.i64.wrap (s16.1+1),s20.1,s20.2)) fun K19=>need (nIn s16.1 (a0.Funcs.length:Int)) ((il ((a0.Funcs.getD s16.1.toNat default).Args)).bind fun (x22:ByteArray)=>(il ((a0.Funcs.getD s16.1.toNat default).Locals)).bind fun (x23:ByteArray)=>need (nStr (x22.size+x23.size)) ((il (((a0.Funcs.getD s16.1.toNat default).Code).length:Int)).bind fun (x25:ByteArray)=>need (nStr ((x22++x23).size+x25.size)) ((aY (⟨s16.2.1,s16.2.2⟩:aH) ((x22++x23)++x25)).bind fun (x27:Int×Unit×aH)=>e8 a0 s16 K19 fuel (0,x27.2.2.addr,x27.2.2.buf))))) ((cI (⟨s16.2.1,s16.2.2⟩:aH)).bind fun (x34:ByteArray)=>some (x34,0))
def eu (a0:aa):Nat→(Int×Bool×ByteArray)→Option (ByteArray×Int)
  | 0,_=>none
  | k9+1,s8=>cond (iLt s8.1 (a0.Waits.length:Int)) (need (nIn s8.1 (a0.Waits.length:Int)) ((mT a0.Decls (a0.Waits.getD s8.1.toNat default)).bind fun (x12:ByteArray×Int)=>(aY (⟨s8.2.1,s8.2.2⟩:aH) x12.1).bind fun (x13:Int×Unit×aH)=>eu a0 k9 (IntKind.i64.wrap (s8.1+1),x13.2.2.addr,x13.2.2.buf))) ((il (a0.Funcs.length:Int)).bind fun (x14:ByteArray)=>(aY (⟨s8.2.1,s8.2.2⟩:aH) x14).bind fun (x15:Int×Unit×aH)=>di a0 fuel (0,x15.2.2.addr,x15.2.2.buf))
def mU (a0:aa):Option (ByteArray×Int):=
  (gB a0).bind fun (x1:Int)=>cond (iNe x1 0) (some (ByteArray.empty,x1)) ((mS a0.Decls).bind fun (x3:ByteArray×Int)=>need (nStr ((⟨#[76,74,1]⟩:ByteArray).size+x3.1.size)) ((il (a0.Waits.length:Int)).bind fun (x5:ByteArray)=>need (nStr (((⟨#[76,74,1]⟩:ByteArray)++x3.1).size+x5.size)) ((aY (⟨false,ByteArray.empty⟩:aH) (((⟨#[76,74,1]⟩:ByteArray)++x3.1)++x5)).bind fun (x7:Int×Unit×aH)=>eu a0 fuel (0,x7.2.2.addr,x7.2.2.buf))))
def eK (a0:ay) (a1:ByteArray):Option ay:=
  (bf a0 (IntKind.u64.wrap (a1.size:Int))).bind fun (x1:ay)=>need (nCap (x1.b.size+a1.size)) (some (⟨x1.b++a1⟩:ay))
def dj (a0:ar):Nat→(Int×ByteArray)→Option (ByteArray×Int)
  | 0,_=>none
  | k14+1,s13=>cond (iLt s13.1 (a0.Events.length:Int)) (need (nIn s13.1 (a0.Events.length:Int)) ((cd (⟨s13.2⟩:ay) ((a0.Events.getD s13.1.toNat default).Kind)).bind fun (x17:ay)=>(db x17 ((a0.Events.getD s13.1.toNat default).A)).bind fun (x18:ay)=>cond (iEq ((a0.Events.getD s13.1.toNat default).Kind) 1) ((db x18 ((a0.Events.getD s13.1.toNat default).B)).bind fun (x20:ay)=>dj a0 k14 (IntKind.i64.wrap (s13.1+1),x20.b)) (dj a0 k14 (IntKind.i64.wrap (s13.1+1),x18.b)))) ((cw (⟨s13.2⟩:ay)).bind fun (x21:ByteArray)=>need (nStr ((⟨#[76,83,1]⟩:ByteArray).size+x21.size)) (some ((⟨#[76,83,1]⟩:ByteArray)++x21,0)))
def ew (a0:ar):Nat→(Int×ByteArray)→Option (ByteArray×Int)
  | 0,_=>none
  | k5+1,s4=>cond (iLt s4.1 (([a0.Config.Mode,a0.Config.Workers,a0.Config.Quantum,a0.Config.Policy]:List Int).length:Int)) (need (nIn s4.1 (([a0.Config.Mode,a0.Config.Workers,a0.Config.Quantum,a0.Config.Policy]:List Int).length:Int)) ((bf (⟨s4.2⟩:ay) (IntKind.u64.wrap (([a0.Config.Mode,a0.Config.Workers,a0.Config.Quantum,a0.Config.Policy]:List Int).getD s4.1.toNat default))).bind fun (x8:ay)=>ew a0 k5 (IntKind.i64.wrap (s4.1+1),x8.b))) ((mU a0.Program).bind fun (x9:ByteArray×Int)=>cond (iNe x9.2 0) (some (ByteArray.empty,x9.2)) ((eK (⟨s4.2⟩:ay) x9.1).bind fun (x11:ay)=>(bf x11 (IntKind.u64.wrap (a0.Events.length:Int))).bind fun (x12:ay)=>dj a0 fuel (0,x12.b)))
def iC (a0:ar):Option (ByteArray×Int):=
  (eY a0).bind fun (x1:Int)=>cond (iNe x1 0) (some (ByteArray.empty,x1)) (ew a0 fuel (0,ByteArray.empty))
def j3:Option ar:=
  some (⟨(⟨0,1,2,0⟩:ba),(⟨[],[],([(⟨0,0,([(⟨22,0,0⟩:aq),(⟨21,0,0⟩:aq)]:List aq)⟩:aw)]:List aw)⟩:aa),([(⟨1,0,1⟩:ax),(⟨2,5,0⟩:ax)]:List ax)⟩:ar)
def bZ (a0:ByteArray) (a1:ByteArray):Option Bool:=
  need (!(iLe (a1.size:Int) (a0.size:Int))||nTo (a1.size:Int) (a0.size:Int)) (some ((iLe (a1.size:Int) (a0.size:Int))&&(sEq (a0.extract 0 (a1.size:Int).toNat) a1)))
def dx (a0:ByteArray) (a1:ByteArray):Option (ByteArray×Bool):=
  (bZ a0 a1).bind fun (x1:Bool)=>cond (!x1) (some (a0,false)) (need (nTo (a1.size:Int) (a0.size:Int)) (some (a0.extract (a1.size:Int).toNat a0.size,true)))
def fg (a0:ByteArray) (a1:ByteArray):Option (ByteArray×Bool):=
  (dx a0 a1).bind fun (x1:ByteArray×Bool)=>some (x1.1,x1.2)
def eL (a0:ByteArray):Option ak:=
  some (⟨a0,0,0⟩:ak)
def dc (a0:ak) (a1:Int):Option ak:=
  cond (iEq a0.err 0) (some (⟨a0.s,(a0.s.size:Int),a1⟩:ak)) (some a0)
def bV (a0:ak):Option (Int×ak):=
  cond (iLe (a0.s.size:Int) a0.at_) ((dc a0 3).bind fun (x2:ak)=>some (0,x2)) (need (nIn (IntKind.i64.wrap ((IntKind.i64.wrap (a0.at_+1)) - 1)) (a0.s.size:Int)) (some (IntKind.i64.wrap (bc a0.s (IntKind.i64.wrap ((IntKind.i64.wrap (a0.at_+1)) - 1)).toNat),(⟨a0.s,IntKind.i64.wrap (a0.at_+1),a0.err⟩:ak))))
def cQ:Nat→(Int×Int×ByteArray×Int×Int)→Option (Int×ak)
  | 0,_=>none
  | k2+1,s1=>cond (iLt s1.2.1 10) ((bV (⟨s1.2.2.1,s1.2.2.2.1,s1.2.2.2.2⟩:ak)).bind fun (x4:Int×ak)=>cond (iNe x4.2.err 0) (some (0,x4.2)) (cond (((iEq s1.2.1 9)&&(iLt 1 x4.1))||((iLt 0 s1.2.1)&&(iEq x4.1 0))) ((dc x4.2 2).bind fun (x7:ak)=>some (0,x7)) (need (nNn (IntKind.i64.wrap ((7:Int)*s1.2.1))) (cond (iLt x4.1 128) (some (Go.bits .or .u64 s1.1 (IntKind.u64.wrap ((IntKind.u64.wrap (Go.bits .and .i64 x4.1 127))*2 ^min (IntKind.i64.wrap ((7:Int)*s1.2.1):Int).toNat IntKind.u64.bits)),x4.2)) (cQ k2 (Go.bits .or .u64 s1.1 (IntKind.u64.wrap ((IntKind.u64.wrap (Go.bits .and .i64 x4.1 127))*2 ^min (IntKind.i64.wrap ((7:Int)*s1.2.1):Int).toNat IntKind.u64.bits)),IntKind.i64.wrap (s1.2.1+1),x4.2.s,x4.2.at_,x4.2.err)))))) (some (s1.1,(⟨s1.2.2.1,s1.2.2.2.1,s1.2.2.2.2⟩:ak)))
def bC (a0:ak):Option (Int×ak):=
  cQ fuel (0,0,a0.s,a0.at_,a0.err)
def fh (a0:ak):Option (Int×ak):=
  (bC a0).bind fun (x1:Int×ak)=>some (IntKind.i64.wrap (iMin x1.1 (2147483648:Int)),x1.2)
def fi (a0:ak):Option (ByteArray×ak):=
  (bC a0).bind fun (x1:Int×ak)=>cond (iLt (IntKind.u64.wrap (IntKind.i64.wrap ((x1.2.s.size:Int) - x1.2.at_))) x1.1) ((dc x1.2 3).bind fun (x3:ak)=>some (ByteArray.empty,x3)) (need (nSl (IntKind.i64.wrap ((IntKind.i64.wrap (x1.2.at_+(IntKind.i64.wrap x1.1))) - (IntKind.i64.wrap x1.1))) (IntKind.i64.wrap (x1.2.at_+(IntKind.i64.wrap x1.1))) (x1.2.s.size:Int)) (some (x1.2.s.extract (IntKind.i64.wrap ((IntKind.i64.wrap (x1.2.at_+(IntKind.i64.wrap x1.1))) - (IntKind.i64.wrap x1.1))).toNat (IntKind.i64.wrap (x1.2.at_+(IntKind.i64.wrap x1.1))).toNat,(⟨x1.2.s,IntKind.i64.wrap (x1.2.at_+(IntKind.i64.wrap x1.1)),x1.2.err⟩:ak))))
def bg (a0:ak):Option Int:=
  some a0.err
def fj (a0:ByteArray) (a1:ByteArray):Option Bool:=
  (bZ a0 a1).bind fun (x1:Bool)=>some x1
def kC (a0:Int):Option ByteArray:=
  cond (iEq a0 1) (some (⟨#[109,117,116,101,120]⟩:ByteArray)) (cond (iEq a0 2) (some (⟨#[114,119]⟩:ByteArray)) (cond (iEq a0 3) (some (⟨#[115,101,109]⟩:ByteArray)) (cond (iEq a0 4) (some (⟨#[99,111,110,100]⟩:ByteArray)) (cond (iEq a0 5) (some (⟨#[98,97,114]⟩:ByteArray)) (cond (iEq a0 6) (some (⟨#[112,111,111,108]⟩:ByteArray)) (cond (iEq a0 7) (some (⟨#[99,101,108,108]⟩:ByteArray)) (some ByteArray.empty)))))))
def im (a0:ak):Option (Int×ak):=
  (bC a0).bind fun (x1:Int×ak)=>some (IntKind.i64.wrap (iMin x1.1 (2147483648:Int)),x1.2)
def cF (a0:ak):Option (Int×ak):=
  (bC a0).bind fun (x1:Int×ak)=>some (Go.bits .xor .i64 (IntKind.i64.wrap (x1.1 /2 ^min (1:Int).toNat IntKind.u64.bits)) (IntKind.i64.wrap (0 - (IntKind.i64.wrap (Go.bits .and .u64 x1.1 1)))),x1.2)
def jI (a0:ak):Option (ai×Int×ak):=
  (bV a0).bind fun (x1:Int×ak)=>(bg x1.2).bind fun (x2:Int)=>(cond (iEq x2 0) (kC x1.1) (some default)).bind fun (x3:ByteArray)=>cond ((iEq x2 0)&&(sEq x3 ByteArray.empty)) (some ((⟨x1.1,0,0⟩:ai),6,x1.2)) (cond (iEq x1.1 3) ((im x1.2).bind fun (x6:Int×ak)=>(im x6.2).bind fun (x7:Int×ak)=>(bg x7.2).bind fun (x8:Int)=>some ((⟨x1.1,x6.1,x7.1⟩:ai),x8,x7.2)) (cond (iEq x1.1 6) ((im x1.2).bind fun (x10:Int×ak)=>(bg x10.2).bind fun (x11:Int)=>some ((⟨x1.1,x10.1,0⟩:ai),x11,x10.2)) (cond (iEq x1.1 7) ((cF x1.2).bind fun (x13:Int×ak)=>(im x13.2).bind fun (x14:Int×ak)=>(bg x14.2).bind fun (x15:Int)=>some ((⟨x1.1,x13.1,x14.1⟩:ai),x15,x14.2)) ((bg x1.2).bind fun (x16:Int)=>some ((⟨x1.1,0,0⟩:ai),x16,x1.2)))))
def cA (a0:ak):Option Int:=
  some (IntKind.i64.wrap ((a0.s.size:Int) - a0.at_))
def fJ (a0:ByteArray) (x2:Int×ak):Nat→(Int×(List ai)×ByteArray×Int×Int)→Option ((List ai)×Int×Int)
  | 0,_=>none
  | k8+1,s7=>cond (iLt s7.1 x2.1) ((jI (⟨s7.2.2.1,s7.2.2.2.1,s7.2.2.2.2⟩:ak)).bind fun (x10:ai×Int×ak)=>cond (iNe x10.2.1 0) (some ([],0,x10.2.1)) (need (nCap ((s7.2.1.length+([x10.1]:List ai).length)*24)) (fJ a0 x2 k8 (IntKind.u64.wrap (s7.1+1),s7.2.1++([x10.1]:List ai),x10.2.2.s,x10.2.2.at_,x10.2.2.err)))) ((gz s7.2.1).bind fun (x13:Int×Int)=>cond (iNe x13.2 0) (some ([],0,x13.2)) ((cA (⟨s7.2.2.1,s7.2.2.2.1,s7.2.2.2.2⟩:ak)).bind fun (x15:Int)=>some (s7.2.1,IntKind.i64.wrap ((a0.size:Int) - x15),0)))
def mV (a0:ByteArray):Option ((List ai)×Int×Int):=
  (eL a0).bind fun (x1:ak)=>(bC x1).bind fun (x2:Int×ak)=>(bg x2.2).bind fun (x3:Int)=>cond (iNe x3 0) (some ([],0,x3)) (cond (iLt 32 x2.1) (some ([],0,4)) (fJ a0 x2 fuel (0,([]:List ai),x2.2.s,x2.2.at_,x2.2.err)))
def bB (a0:ao) (a1:Int) (a2:Int):Option (Int ⊕ ao):=
  cond (iNe a2 0) (some (.inl a2)) (need (nTo a1 (a0.s.size:Int)) (some (.inr (⟨a0.s.extract a1.toNat a0.s.size⟩:ao))))
def cg (a0:ao):Option (Int ⊕ (Int×ao)):=
  (eL a0.s).bind fun (x1:ak)=>(bC x1).bind fun (x2:Int×ak)=>(cA x2.2).bind fun (x3_7_1:Int)=>(bg x2.2).bind fun (x3_10_1:Int)=>(bB a0 (IntKind.i64.wrap ((a0.s.size:Int) - x3_7_1)) x3_10_1).bind fun (x3_11_1:Int ⊕ ao)=>lv x3_11_1 fun (x3_11_1r:ao)=>some (.inr (IntKind.i64.wrap (iMin x2.1 (2147483648:Int)),x3_11_1r))
def bU (a0:ao) (a1:Int):Option (Int ⊕ (Int×ao)):=
  (cg a0).bind fun (x1:Int ⊕ (Int×ao))=>lv x1 fun (x1r:Int×ao)=>cond (iLt a1 x1r.1) (some (.inl 4)) (some (.inr (x1r.1,x1r.2)))
def iT (a0:ak) (a1:Int):Option (Int×Int×ak):=
  (bC a0).bind fun (x1:Int×ak)=>cond (iLt a1 x1.1) (some (0,4,x1.2)) ((bg x1.2).bind fun (x3:Int)=>some (IntKind.i64.wrap x1.1,x3,x1.2))
def jJ (a0:ak):Option (af×Int×ak):=
  (bV a0).bind fun (x1:Int×ak)=>(bg x1.2).bind fun (x2:Int)=>cond (iNe x2 0) (some ((⟨x1.1,0,0⟩:af),x2,x1.2)) (cond ((iLt x1.1 1)||(iLt 5 x1.1)) (some ((⟨x1.1,0,0⟩:af),6,x1.2)) ((bC x1.2).bind fun (x5:Int×ak)=>(bj x1.1).bind fun (x6:Bool)=>cond x6 ((bC x5.2).bind fun (x8:Int×ak)=>(bg x8.2).bind fun (x9:Int)=>some ((⟨x1.1,IntKind.i64.wrap (iMin x5.1 (2147483648:Int)),IntKind.i64.wrap (iMin x8.1 (2147483648:Int))⟩:af),x9,x8.2)) ((bg x5.2).bind fun (x10:Int)=>some ((⟨x1.1,IntKind.i64.wrap (iMin x5.1 (2147483648:Int)),0⟩:af),x10,x5.2))))
def e9 (s5:Int×(List (List af))×ByteArray×Int×Int) (K8:((List (List af))×ByteArray×Int×Int)→Option ((List (List af))×Int×Int)) (x10:Int×Int×ak):Nat→(Int×(List af)×ByteArray×Int×Int)→Option ((List (List af))×Int×Int)
  | 0,_=>none
  | k14+1,s13=>cond (iLt s13.1 x10.1) ((jJ (⟨s13.2.2.1,s13.2.2.2.1,s13.2.2.2.2⟩:ak)).bind fun (x16:af×Int×ak)=>cond (iNe x16.2.1 0) (some ([],0,x16.2.1)) (need (nCap ((s13.2.1.length+([x16.1]:List af).length)*24)) (e9 s5 K8 x10 k14 (IntKind.i64.wrap (s13.1+1),s13.2.1++([x16.1]:List af),x16.2.2.s,x16.2.2.at_,x16.2.2.err)))) (need (nCap ((s5.2.1.length+([s13.2.1]:List (List af)).length)*24)) (K8 (s5.2.1++([s13.2.1]:List (List af)),s13.2.2.1,s13.2.2.2.1,s13.2.2.2.2)))
def fa (a0:List ai) (a1:ByteArray) (x2:Int×Int×ak):Nat→(Int×(List (List af))×ByteArray×Int×Int)→Option ((List (List af))×Int×Int)
  | 0,_=>none
  | k6+1,s5=>cond (iLt s5.1 x2.1) (iJ (fun s9:(List (List af))×ByteArray×Int×Int=>fa a0 a1 x2 k6 (IntKind.i64.wrap (s5.1+1),s9.1,s9.2.1,s9.2.2.1,s9.2.2.2)) fun K8=>(iT (⟨s5.2.2.1,s5.2.2.2.1,s5.2.2.2.2⟩:ak) 4).bind fun (x10:Int×Int×ak)=>cond (iNe x10.2.1 0) (some ([],0,x10.2.1)) (e9 s5 K8 x10 fuel (0,([]:List af),x10.2.2.s,x10.2.2.at_,x10.2.2.err))) ((gA a0 s5.2.1).bind fun (x20:Int)=>cond (iNe x20 0) (some ([],0,x20)) ((cA (⟨s5.2.2.1,s5.2.2.2.1,s5.2.2.2.2⟩:ak)).bind fun (x22:Int)=>some (s5.2.1,IntKind.i64.wrap ((a1.size:Int) - x22),0)))
def mW (a0:List ai) (a1:ByteArray):Option ((List (List af))×Int×Int):=
  (eL a1).bind fun (x1:ak)=>(iT x1 4).bind fun (x2:Int×Int×ak)=>cond (iNe x2.2.1 0) (some ([],0,x2.2.1)) (fa a0 a1 x2 fuel (0,([]:List (List af)),x2.2.2.s,x2.2.2.at_,x2.2.2.err))
def eN (a0:ByteArray) (x2:Int×ak) (x7:ByteArray):Nat→(Int×(List Int)×ByteArray×Int×Int)→Option (aq×Int×Int)
  | 0,_=>none
  | k9+1,s8=>cond (iLt s8.1 (x7.size:Int)) (need (nIn s8.1 (x7.size:Int)) (cond (iEq (bc x7 s8.1.toNat) 110) ((cF (⟨s8.2.2.1,s8.2.2.2.1,s8.2.2.2.2⟩:ak)).bind fun (x13:Int×ak)=>need (nIn s8.1 ((2:Nat):Int)) ((bg x13.2).bind fun (x15:Int)=>cond (iNe x15 0) (some ((⟨0,0,0⟩:aq),0,x15)) (eN a0 x2 x7 k9 (IntKind.i64.wrap (s8.1+1),(aset 2 s8.2.1 s8.1.toNat x13.1),x13.2.s,x13.2.at_,x13.2.err)))) ((bC (⟨s8.2.2.1,s8.2.2.2.1,s8.2.2.2.2⟩:ak)).bind fun (x17:Int×ak)=>need (nIn s8.1 ((2:Nat):Int)) ((bg x17.2).bind fun (x19:Int)=>cond (iNe x19 0) (some ((⟨0,0,0⟩:aq),0,x19)) (eN a0 x2 x7 k9 (IntKind.i64.wrap (s8.1+1),(aset 2 s8.2.1 s8.1.toNat (IntKind.i64.wrap (iMin x17.1 (2147483648:Int)))),x17.2.s,x17.2.at_,x17.2.err)))))) (need (nIn (0:Int) ((2:Nat):Int)) (need (nIn (1:Int) ((2:Nat):Int)) ((iR (⟨x2.1,(s8.2.1.getD (0:Int).toNat default),(s8.2.1.getD (1:Int).toNat default)⟩:aq)).bind fun (x23:Int)=>cond (iNe x23 0) (some ((⟨0,0,0⟩:aq),0,x23)) ((cA (⟨s8.2.2.1,s8.2.2.2.1,s8.2.2.2.2⟩:ak)).bind fun (x25:Int)=>some ((⟨x2.1,(s8.2.1.getD (0:Int).toNat default),(s8.2.1.getD (1:Int).toNat default)⟩:aq),IntKind.i64.wrap ((a0.size:Int) - x25),0)))))
def pG (a0:ByteArray):Option (aq×Int×Int):=
  (eL a0).bind fun (x1:ak)=>(bV x1).bind fun (x2:Int×ak)=>(bg x2.2).bind fun (x3:Int)=>cond (iNe x3 0) (some ((⟨0,0,0⟩:aq),0,x3)) ((lM x2.1).bind fun (x5:ByteArray)=>cond (sEq x5 ByteArray.empty) (some ((⟨0,0,0⟩:aq),0,6)) ((j0 x2.1).bind fun (x7:ByteArray)=>eN a0 x2 x7 fuel (0,([0,0]:List Int),x2.2.s,x2.2.at_,x2.2.err)))
def bI (x1r:Int×ao) (x2r:Int×ao) (x3r:Int×ao):Nat→(Int×ByteArray×(List aq))→Option (Int ⊕ (aw×ao))
  | 0,_=>none
  | k6+1,s5=>cond (iLt s5.1 x3r.1) ((pG s5.2.1).bind fun (x8:aq×Int×Int)=>(bB (⟨s5.2.1⟩:ao) x8.2.1 x8.2.2).bind fun (x9:Int ⊕ ao)=>lv x9 fun (x9r:ao)=>need (nCap ((s5.2.2.length+([x8.1]:List aq).length)*24)) (bI x1r x2r x3r k6 (IntKind.i64.wrap (s5.1+1),x9r.s,s5.2.2++([x8.1]:List aq)))) (some (.inr ((⟨x1r.1,x2r.1,s5.2.2⟩:aw),(⟨s5.2.1⟩:ao))))
def bP (a0:ao):Option (Int ⊕ (aw×ao)):=
  (cg a0).bind fun (x1:Int ⊕ (Int×ao))=>lv x1 fun (x1r:Int×ao)=>(cg x1r.2).bind fun (x2:Int ⊕ (Int×ao))=>lv x2 fun (x2r:Int×ao)=>(bU x2r.2 200).bind fun (x3:Int ⊕ (Int×ao))=>lv x3 fun (x3r:Int×ao)=>bI x1r x2r x3r fuel (0,x3r.2.s,([]:List aq))
def bJ (x1:(List ai)×Int×Int) (s5:Int×ByteArray×(List (List (List af)))) (x10r:Int×ao):Nat→(Int×ByteArray×(List aw))→Option (Int ⊕ (aa×ao))
  | 0,_=>none
  | k13+1,s12=>cond (iLt s12.1 x10r.1) ((bP (⟨s12.2.1⟩:ao)).bind fun (x12_3_1:Int ⊕ (aw×ao))=>lv x12_3_1 fun (x12_3_1r:aw×ao)=>need (nCap ((s12.2.2.length+([x12_3_1r.1]:List aw).length)*40)) (bJ x1 s5 x10r k13 (IntKind.i64.wrap (s12.1+1),x12_3_1r.2.s,s12.2.2++([x12_3_1r.1]:List aw)))) (cond (!sEq s12.2.1 ByteArray.empty) (some (.inl 2)) (some (.inr ((⟨x1.1,s5.2.2,s12.2.2⟩:aa),(⟨s12.2.1⟩:ao)))))
def bQ (x1:(List ai)×Int×Int) (x3r:Int×ao):Nat→(Int×ByteArray×(List (List (List af))))→Option (Int ⊕ (aa×ao))
  | 0,_=>none
  | k6+1,s5=>cond (iLt s5.1 x3r.1) ((mW x1.1 s5.2.1).bind fun (x6_6_1:(List (List af))×Int×Int)=>(bB (⟨s5.2.1⟩:ao) x6_6_1.2.1 x6_6_1.2.2).bind fun (x8:Int ⊕ ao)=>lv x8 fun (x8r:ao)=>need (nCap ((s5.2.2.length+([x6_6_1.1]:List (List (List af))).length)*24)) (bQ x1 x3r k6 (IntKind.i64.wrap (s5.1+1),x8r.s,s5.2.2++([x6_6_1.1]:List (List (List af)))))) ((bU (⟨s5.2.1⟩:ao) 16).bind fun (x10:Int ⊕ (Int×ao))=>lv x10 fun (x10r:Int×ao)=>bJ x1 s5 x10r fuel (0,x10r.2.s,([]:List aw)))
def bR (a0:ao):Option (Int ⊕ (aa×ao)):=
  (mV a0.s).bind fun (x1:(List ai)×Int×Int)=>(bB a0 x1.2.1 x1.2.2).bind fun (x2:Int ⊕ ao)=>lv x2 fun (x2r:ao)=>(bU x2r 32).bind fun (x3:Int ⊕ (Int×ao))=>lv x3 fun (x3r:Int×ao)=>bQ x1 x3r fuel (0,x3r.2.s,([]:List (List (List af))))
def kZ (a0:ByteArray):Option (Int ⊕ (aa×Int)):=
  (fj a0 (⟨#[76,74,1]⟩:ByteArray)).bind fun (x1:Bool)=>cond (!x1) (some (.inr ((⟨([]:List ai),([]:List (List (List af))),([]:List aw)⟩:aa),2))) (need (nTo (3:Int) (a0.size:Int)) ((bR (⟨a0.extract (3:Int).toNat a0.size⟩:ao)).bind fun (x4:Int ⊕ (aa×ao))=>lv x4 fun (x4r:aa×ao)=>(gB x4r.1).bind fun (x5:Int)=>cond (iNe x5 0) (some (.inr ((⟨([]:List ai),([]:List (List (List af))),([]:List aw)⟩:aa),x5))) (some (.inr (x4r.1,0)))))
def mX (a0:ByteArray):Option (aa×Int):=
  (kZ a0).bind fun z=>some (pget (fun e=>((⟨[],[],[]⟩:aa),e)) z)
def ee (a0:ak):Option (ax×Int×ak):=
  (bV a0).bind fun (x1:Int×ak)=>(bg x1.2).bind fun (x2:Int)=>cond (iNe x2 0) (some ((⟨x1.1,0,0⟩:ax),x2,x1.2)) (cond ((iNe x1.1 1)&&(iNe x1.1 2)) (some ((⟨x1.1,0,0⟩:ax),6,x1.2)) ((cF x1.2).bind fun (x5:Int×ak)=>cond (iEq x1.1 1) ((cF x5.2).bind fun (x7:Int×ak)=>(bg x7.2).bind fun (x8:Int)=>some ((⟨x1.1,x5.1,x7.1⟩:ax),x8,x7.2)) ((bg x5.2).bind fun (x9:Int)=>some ((⟨x1.1,x5.1,0⟩:ax),x9,x5.2))))
def du (x1:Int×ak) (x2:Int×ak) (x3:Int×ak) (x4:Int×ak) (x8:aa×Int) (x10:Int×ak):Nat→(Int×ByteArray×Int×Int×(List ax))→Option (ar×Int×ak)
  | 0,_=>none
  | k16+1,s15=>cond (iLt s15.1 x10.1) ((ee (⟨s15.2.1,s15.2.2.1,s15.2.2.2.1⟩:ak)).bind fun (x18:ax×Int×ak)=>cond (iNe x18.2.1 0) (some ((⟨(⟨x1.1,x2.1,x3.1,x4.1⟩:ba),x8.1,s15.2.2.2.2⟩:ar),x18.2.1,x18.2.2)) (need (nCap ((s15.2.2.2.2.length+([x18.1]:List ax).length)*24)) (du x1 x2 x3 x4 x8 x10 k16 (IntKind.u64.wrap (s15.1+1),x18.2.2.s,x18.2.2.at_,x18.2.2.err,s15.2.2.2.2++([x18.1]:List ax))))) ((cA (⟨s15.2.1,s15.2.2.1,s15.2.2.2.1⟩:ak)).bind fun (x21:Int)=>cond (iLt 0 x21) (some ((⟨(⟨x1.1,x2.1,x3.1,x4.1⟩:ba),x8.1,s15.2.2.2.2⟩:ar),2,(⟨s15.2.1,s15.2.2.1,s15.2.2.2.1⟩:ak))) ((eY (⟨(⟨x1.1,x2.1,x3.1,x4.1⟩:ba),x8.1,s15.2.2.2.2⟩:ar)).bind fun (x28_2_1:Int)=>some ((⟨(⟨x1.1,x2.1,x3.1,x4.1⟩:ba),x8.1,s15.2.2.2.2⟩:ar),x28_2_1,(⟨s15.2.1,s15.2.2.1,s15.2.2.2.1⟩:ak))))
def gC (a0:ak):Option (ar×Int×ak):=
  (fh a0).bind fun (x1:Int×ak)=>(fh x1.2).bind fun (x2:Int×ak)=>(fh x2.2).bind fun (x3:Int×ak)=>(fh x3.2).bind fun (x4:Int×ak)=>(fi x4.2).bind fun (x5:ByteArray×ak)=>(bg x5.2).bind fun (x6:Int)=>cond (iNe x6 0) (some ((⟨(⟨x1.1,x2.1,x3.1,x4.1⟩:ba),(⟨([]:List ai),([]:List (List (List af))),([]:List aw)⟩:aa),([]:List ax)⟩:ar),x6,x5.2)) ((mX x5.1).bind fun (x8:aa×Int)=>cond (iNe x8.2 0) (some ((⟨(⟨x1.1,x2.1,x3.1,x4.1⟩:ba),x8.1,([]:List ax)⟩:ar),x8.2,x5.2)) ((bC x5.2).bind fun (x10:Int×ak)=>(bg x10.2).bind fun (x11:Int)=>cond (iNe x11 0) (some ((⟨(⟨x1.1,x2.1,x3.1,x4.1⟩:ba),x8.1,([]:List ax)⟩:ar),x11,x10.2)) (cond (iLt 4000 x10.1) (some ((⟨(⟨x1.1,x2.1,x3.1,x4.1⟩:ba),x8.1,([]:List ax)⟩:ar),4,x10.2)) (du x1 x2 x3 x4 x8 x10 fuel (0,x10.2.s,x10.2.at_,x10.2.err,([]:List ax))))))
def fP (a0:ByteArray):Option (ar×Int):=
  (fg a0 (⟨#[76,83,1]⟩:ByteArray)).bind fun (x1:ByteArray×Bool)=>cond (!x1.2) (some ((⟨(⟨0,0,0,0⟩:ba),(⟨([]:List ai),([]:List (List (List af))),([]:List aw)⟩:aa),([]:List ax)⟩:ar),2)) ((eL x1.1).bind fun (x3:ak)=>(gC x3).bind fun (x4:ar×Int×ak)=>cond (iNe x4.2.1 0) (some ((⟨(⟨0,0,0,0⟩:ba),(⟨([]:List ai),([]:List (List (List af))),([]:List aw)⟩:aa),([]:List ax)⟩:ar),x4.2.1)) (some (x4.1,0)))
def dU (a0:List (List af)) (a1:List (List af)) (s2:Int) (K5:Unit→Option Bool):Nat→Int→Option Bool
  | 0,_=>none
  | k11+1,s10=>need (nIn s2 (a0.length:Int)) (cond (iLt s10 ((a0.getD s2.toNat default).length:Int)) (need (nIn s2 (a0.length:Int)) (need (nIn s10 ((a0.getD s2.toNat default).length:Int)) (need (nIn s2 (a1.length:Int)) (need (nIn s10 ((a1.getD s2.toNat default).length:Int)) (cond (!((iEq (((a0.getD s2.toNat default).getD s10.toNat default).Kind) (((a1.getD s2.toNat default).getD s10.toNat default).Kind))&&((iEq (((a0.getD s2.toNat default).getD s10.toNat default).Obj) (((a1.getD s2.toNat default).getD s10.toNat default).Obj))&&((iEq (((a0.getD s2.toNat default).getD s10.toNat default).N) (((a1.getD s2.toNat default).getD s10.toNat default).N))&&true)))) (some false) (dU a0 a1 s2 K5 k11 (IntKind.i64.wrap (s10+1)))))))) (K5 Unit.unit))
def dM (a0:List (List af)) (a1:List (List af)):Nat→Int→Option Bool
  | 0,_=>none
  | k3+1,s2=>cond (iLt s2 (a0.length:Int)) (iJ (fun s6:Unit=>dM a0 a1 k3 (IntKind.i64.wrap (s2+1))) fun K5=>need (nIn s2 (a0.length:Int)) (need (nIn s2 (a1.length:Int)) (cond (iNe ((a0.getD s2.toNat default).length:Int) ((a1.getD s2.toNat default).length:Int)) (some false) (dU a0 a1 s2 K5 fuel 0)))) (some true)
def fl (a0:List (List af)) (a1:List (List af)):Option Bool:=
  cond (iNe (a0.length:Int) (a1.length:Int)) (some false) (dM a0 a1 fuel 0)
def dV (a0:aa) (a1:aa) (s15:Int) (K18:Unit→Option Bool):Nat→Int→Option Bool
  | 0,_=>none
  | k22+1,s21=>cond (iLt s21 (((a0.Funcs.getD s15.toNat default).Code).length:Int)) (need (nIn s21 (((a0.Funcs.getD s15.toNat default).Code).length:Int)) (need (nIn s21 (((a1.Funcs.getD s15.toNat default).Code).length:Int)) (cond (!((iEq ((((a0.Funcs.getD s15.toNat default).Code).getD s21.toNat default).Op) ((((a1.Funcs.getD s15.toNat default).Code).getD s21.toNat default).Op))&&((iEq ((((a0.Funcs.getD s15.toNat default).Code).getD s21.toNat default).A) ((((a1.Funcs.getD s15.toNat default).Code).getD s21.toNat default).A))&&((iEq ((((a0.Funcs.getD s15.toNat default).Code).getD s21.toNat default).B) ((((a1.Funcs.getD s15.toNat default).Code).getD s21.toNat default).B))&&true)))) (some false) (dV a0 a1 s15 K18 k22 (IntKind.i64.wrap (s21+1)))))) (K18 Unit.unit)
def dk (a0:aa) (a1:aa):Nat→Int→Option Bool
  | 0,_=>none
  | k16+1,s15=>cond (iLt s15 (a0.Funcs.length:Int)) (iJ (fun s19:Unit=>dk a0 a1 k16 (IntKind.i64.wrap (s15+1))) fun K18=>need (nIn s15 (a0.Funcs.length:Int)) (need (nIn s15 (a1.Funcs.length:Int)) (cond (((iNe ((a0.Funcs.getD s15.toNat default).Args) ((a1.Funcs.getD s15.toNat default).Args))||(iNe ((a0.Funcs.getD s15.toNat default).Locals) ((a1.Funcs.getD s15.toNat default).Locals)))||(iNe (((a0.Funcs.getD s15.toNat default).Code).length:Int) (((a1.Funcs.getD s15.toNat default).Code).length:Int))) (some false) (dV a0 a1 s15 K18 fuel 0)))) (some true)
def ey (a0:aa) (a1:aa):Nat→Int→Option Bool
  | 0,_=>none
  | k9+1,s8=>cond (iLt s8 (a0.Waits.length:Int)) (need (nIn s8 (a0.Waits.length:Int)) (need (nIn s8 (a1.Waits.length:Int)) ((fl (a0.Waits.getD s8.toNat default) (a1.Waits.getD s8.toNat default)).bind fun (x13:Bool)=>cond (!x13) (some false) (ey a0 a1 k9 (IntKind.i64.wrap (s8+1)))))) (dk a0 a1 fuel 0)
def ez (a0:aa) (a1:aa):Nat→Int→Option Bool
  | 0,_=>none
  | k3+1,s2=>cond (iLt s2 (a0.Decls.length:Int)) (need (nIn s2 (a0.Decls.length:Int)) (need (nIn s2 (a1.Decls.length:Int)) (cond (!((iEq ((a0.Decls.getD s2.toNat default).Kind) ((a1.Decls.getD s2.toNat default).Kind))&&((iEq ((a0.Decls.getD s2.toNat default).A) ((a1.Decls.getD s2.toNat default).A))&&((iEq ((a0.Decls.getD s2.toNat default).B) ((a1.Decls.getD s2.toNat default).B))&&true)))) (some false) (ez a0 a1 k3 (IntKind.i64.wrap (s2+1)))))) (ey a0 a1 fuel 0)
def iE (a0:aa) (a1:aa):Option Bool:=
  cond (((iNe (a0.Decls.length:Int) (a1.Decls.length:Int))||(iNe (a0.Waits.length:Int) (a1.Waits.length:Int)))||(iNe (a0.Funcs.length:Int) (a1.Funcs.length:Int))) (some false) (ez a0 a1 fuel 0)
def eA (a0:ar) (a1:ar):Nat→Int→Option Bool
  | 0,_=>none
  | k4+1,s3=>cond (iLt s3 (a0.Events.length:Int)) (need (nIn s3 (a0.Events.length:Int)) (need (nIn s3 (a1.Events.length:Int)) (cond (!((iEq ((a0.Events.getD s3.toNat default).Kind) ((a1.Events.getD s3.toNat default).Kind))&&((iEq ((a0.Events.getD s3.toNat default).A) ((a1.Events.getD s3.toNat default).A))&&((iEq ((a0.Events.getD s3.toNat default).B) ((a1.Events.getD s3.toNat default).B))&&true)))) (some false) (eA a0 a1 k4 (IntKind.i64.wrap (s3+1)))))) (some true)
def iG (a0:ar) (a1:ar):Option Bool:=
  (cond (!(!((iEq a0.Config.Mode a1.Config.Mode)&&((iEq a0.Config.Workers a1.Config.Workers)&&((iEq a0.Config.Quantum a1.Config.Quantum)&&((iEq a0.Config.Policy a1.Config.Policy)&&true)))))) (iE a0.Program a1.Program) (some default)).bind fun (x1:Bool)=>cond (((!((iEq a0.Config.Mode a1.Config.Mode)&&((iEq a0.Config.Workers a1.Config.Workers)&&((iEq a0.Config.Quantum a1.Config.Quantum)&&((iEq a0.Config.Policy a1.Config.Policy)&&true)))))||(!x1))||(iNe (a0.Events.length:Int) (a1.Events.length:Int))) (some false) (eA a0 a1 fuel 0)
def iU:Option Bool:=
  (j3).bind fun (x1:ar)=>(iC x1).bind fun (x2:ByteArray×Int)=>(fP x2.1).bind fun (x3:ar×Int)=>cond (((sEq x2.1 (⟨#[76,83,1,0,1,2,0,11,76,74,1,0,0,1,0,0,2,22,21,2,1,0,2,2,10]⟩:ByteArray))&&(iEq x2.2 0))&&(iEq x3.2 0)) ((j3).bind fun (x5:ar)=>(iG x3.1 x5).bind fun (x6:Bool)=>cond x6 ((eY (⟨(⟨0,0,0,0⟩:ba),(⟨[],[],[]⟩:aa),[]⟩:ar)).bind fun (x8:Int)=>some (iEq x8 1)) (some false)) (some false)
def fz (a0:ar) (a1:ByteArray):Option Bool:=
  (jD a0).bind fun (x1:ar)=>(iP x1).bind fun (x2:Int)=>cond (iNe x2 0) ((iU).bind fun (x4:Bool)=>some x4) ((jD x1).bind fun (x5:ar)=>(iC x5).bind fun (x6:ByteArray×Int)=>cond ((iNe x6.2 0)||(sEq x6.1 ByteArray.empty)) (some false) ((fP x6.1).bind fun (x8:ar×Int)=>need (nStr (x6.1.size+a1.size)) ((fP (x6.1++a1)).bind fun (x10:ar×Int)=>need (nTo (IntKind.i64.wrap ((x6.1.size:Int) - 1)) (x6.1.size:Int)) ((fP (x6.1.extract 0 (IntKind.i64.wrap ((x6.1.size:Int) - 1)).toNat)).bind fun (x12:ar×Int)=>(cond (iEq x8.2 0) (iG x8.1 x1) (some default)).bind fun (x13:Bool)=>(cond ((((iEq x8.2 0)&&x13)&&((iEq x10.2 0)==(sEq a1 ByteArray.empty)))&&(iNe x12.2 0)) (iU) (some default)).bind fun (x14:Bool)=>some (((((iEq x8.2 0)&&x13)&&((iEq x10.2 0)==(sEq a1 ByteArray.empty)))&&(iNe x12.2 0))&&x14)))))
end LJ
