/- Plain functions that compute what the Go functions of this seat compute. -/
import Derived.Test.YtdebndfaknfefaaGreatDoorXEq
import Derived.Test.YtdebndfaknfefaaGreatDoorXSub
import Derived.Test.YtdebndfaknfefaaGreatDoorXShelf
import Derived.Test.YtdebndfaknfefaaGreatDoorXPan
import Derived.Test.YtdebndfaknfefaaGreatDoorXDef
import Derived.Test.YtdebndfaknfefaaGreatDoorXByt
namespace LJ
open Go
set_option linter.unusedVariables false
structure ah where
  Kind:Int
  Obj:Int
  N:Int
  deriving Inhabited,DecidableEq
def bw (x:ah):List DV:=[.int .i64 x.Kind, .int .i64 x.Obj, .int .i64 x.N]
def aC (x:List ah):List DV:=[slT bw x]
structure ai where
  Kind:Int
  A:Int
  B:Int
  deriving Inhabited,DecidableEq
structure ar where
  Op:Int
  A:Int
  B:Int
  deriving Inhabited,DecidableEq
structure ax where
  Args:Int
  Locals:Int
  Code:List ar
  deriving Inhabited,DecidableEq
structure aa where
  Decls:List ai
  Waits:List (List (List ah))
  Funcs:List ax
  deriving Inhabited,DecidableEq
def aj (x:ai):List DV:=[.int .i64 x.Kind, .int .i64 x.A, .int .i64 x.B]
def ab (x:List (List ah)):List DV:=[slT aC x]
def aF (x:ar):List DV:=[.int .i64 x.Op, .int .i64 x.A, .int .i64 x.B]
def ak (x:ax):List DV:=[.int .i64 x.Args, .int .i64 x.Locals,slT aF x.Code]
structure aO where
  Mode:Int
  Workers:Int
  Quantum:Int
  Policy:Int
  deriving Inhabited,DecidableEq
structure ay where
  Kind:Int
  A:Int
  B:Int
  deriving Inhabited,DecidableEq
structure aq where
  Config:aO
  Program:aa
  Events:List ay
  deriving Inhabited,DecidableEq
def aB (x:ay):List DV:=[.int .i64 x.Kind, .int .i64 x.A, .int .i64 x.B]
def aG (x:Int):List DV:=[.int .i64 x]
def sO (x:List Int):List DV:=[slT aG x]
def fT (x:ByteArray):List DV:=[.str x]
def bB (x:Bool):List DV:=[.bool x]
structure eu where
  Lo:Int
  Hi:Int
  Stride:Int
  deriving Inhabited,DecidableEq
def wO (x:eu):List DV:=[.int .u16 x.Lo, .int .u16 x.Hi, .int .u16 x.Stride]
structure ew where
  Lo:Int
  Hi:Int
  Stride:Int
  deriving Inhabited,DecidableEq
def wP (x:ew):List DV:=[.int .u32 x.Lo, .int .u32 x.Hi, .int .u32 x.Stride]
structure mF where
  R16:List eu
  R32:List ew
  LatinOffset:Int
  deriving Inhabited,DecidableEq
structure aH where
  p:aa
  code:List ar
  depth:List Int
  next:List Bool
  at_:Int
  err:Int
  deriving Inhabited,DecidableEq
def Dn (x:Int):List DV:=[.int .u8 x]
structure cY where
  Fn:Int
  Pc:Int
  deriving Inhabited,DecidableEq
structure aD where
  b:ByteArray
  deriving Inhabited,DecidableEq
structure aJ where
  addr:Bool
  buf:ByteArray
  deriving Inhabited,DecidableEq
structure an where
  s:ByteArray
  at_:Int
  err:Int
  deriving Inhabited,DecidableEq
structure aw where
  s:ByteArray
  deriving Inhabited,DecidableEq
structure aA where
  S:ByteArray
  At:Int
  Err:Int
  deriving Inhabited,DecidableEq
def ey (a0:List (List ah)):Nat→(Int×(List (List ah)))→Option (List (List ah))
  | 0,_=>none
  | k2+1,s1=>cond ((iLt s1.1 (a0.length:Int))&&(iLt s1.1 6)) (need (nIn s1.1 (a0.length:Int)) (cond (iLt 6 ((a0.getD s1.1.toNat default).length:Int)) (need (nSl (0:Int) (6:Int) ((a0.getD s1.1.toNat default).length:Int)) (need (nCap ((([]:List ah).length+(((a0.getD s1.1.toNat default).take (6:Int).toNat).drop (0:Int).toNat).length)*24)) (need (nCap ((s1.2.length+([([]:List ah)++(((a0.getD s1.1.toNat default).take (6:Int).toNat).drop (0:Int).toNat)]:List (List ah)).length)*24)) (ey a0 k2 (IntKind.i64.wrap (s1.1+1),s1.2++([([]:List ah)++(((a0.getD s1.1.toNat default).take (6:Int).toNat).drop (0:Int).toNat)]:List (List ah))))))) (need (nCap ((([]:List ah).length+(a0.getD s1.1.toNat default).length)*24)) (need (nCap ((s1.2.length+([([]:List ah)++(a0.getD s1.1.toNat default)]:List (List ah)).length)*24)) (ey a0 k2 (IntKind.i64.wrap (s1.1+1),s1.2++([([]:List ah)++(a0.getD s1.1.toNat default)]:List (List ah)))))))) (some s1.2)
def lv (a0:List (List ah)):Option (List (List ah)):=
  ey a0 fuel (0,([]:List (List ah)))
def eG (a0:aa) (s10:Int×(List ax)) (K13:(List ax)→Option aa):Nat→(Int×(List ar))→Option aa
  | 0,_=>none
  | k19+1,s18=>need (nIn s10.1 (a0.Funcs.length:Int)) (cond ((iLt s18.1 (((a0.Funcs.getD s10.1.toNat default).Code).length:Int))&&(iLt s18.1 250)) (need (nIn s10.1 (a0.Funcs.length:Int)) (need (nIn s18.1 (((a0.Funcs.getD s10.1.toNat default).Code).length:Int)) (need (nCap ((s18.2.length+([(((a0.Funcs.getD s10.1.toNat default).Code).getD s18.1.toNat default)]:List ar).length)*24)) (eG a0 s10 K13 k19 (IntKind.i64.wrap (s18.1+1),s18.2++([(((a0.Funcs.getD s10.1.toNat default).Code).getD s18.1.toNat default)]:List ar)))))) (need (nCap ((s10.2.length+([(⟨(a0.Funcs.getD s10.1.toNat default).Args,(a0.Funcs.getD s10.1.toNat default).Locals,s18.2⟩:ax)]:List ax).length)*40)) (K13 (s10.2++([(⟨(a0.Funcs.getD s10.1.toNat default).Args,(a0.Funcs.getD s10.1.toNat default).Locals,s18.2⟩:ax)]:List ax)))))
def dS (a0:aa) (s2:Int×(List ai)) (s6:Int×(List (List (List ah)))):Nat→(Int×(List ax))→Option aa
  | 0,_=>none
  | k11+1,s10=>cond ((iLt s10.1 (a0.Funcs.length:Int))&&(iLt s10.1 20)) (gJ (fun s14:List ax=>dS a0 s2 s6 k11 (IntKind.i64.wrap (s10.1+1),s14)) fun K13=>need (nIn s10.1 (a0.Funcs.length:Int)) (need (nIn s10.1 (a0.Funcs.length:Int)) (eG a0 s10 K13 fuel (0,([]:List ar))))) (some (⟨s2.2,s6.2,s10.2⟩:aa))
def fv (a0:aa) (s2:Int×(List ai)):Nat→(Int×(List (List (List ah))))→Option aa
  | 0,_=>none
  | k7+1,s6=>cond ((iLt s6.1 (a0.Waits.length:Int))&&(iLt s6.1 40)) (need (nIn s6.1 (a0.Waits.length:Int)) ((lv (a0.Waits.getD s6.1.toNat default)).bind fun (x9_7_1:List (List ah))=>need (nCap ((s6.2.length+([x9_7_1]:List (List (List ah))).length)*24)) (fv a0 s2 k7 (IntKind.i64.wrap (s6.1+1),s6.2++([x9_7_1]:List (List (List ah))))))) (dS a0 s2 s6 fuel (0,([]:List ax)))
def fw (a0:aa):Nat→(Int×(List ai))→Option aa
  | 0,_=>none
  | k3+1,s2=>cond ((iLt s2.1 (a0.Decls.length:Int))&&(iLt s2.1 40)) (need (nIn s2.1 (a0.Decls.length:Int)) (need (nCap ((s2.2.length+([(a0.Decls.getD s2.1.toNat default)]:List ai).length)*24)) (fw a0 k3 (IntKind.i64.wrap (s2.1+1),s2.2++([(a0.Decls.getD s2.1.toNat default)]:List ai))))) (fv a0 s2 fuel (0,([]:List (List (List ah)))))
def j8 (a0:aa):Option aa:=
  fw a0 fuel (0,([]:List ai))
def fx (a0:aq):Option aq:=
  cond (iLt 4100 (a0.Events.length:Int)) (need (nSl (0:Int) (4100:Int) (a0.Events.length:Int)) ((j8 a0.Program).bind fun (x4_4_1:aa)=>need (nCap ((([]:List ay).length+((a0.Events.take (4100:Int).toNat).drop (0:Int).toNat).length)*24)) (some (⟨a0.Config,x4_4_1,([]:List ay)++((a0.Events.take (4100:Int).toNat).drop (0:Int).toNat)⟩:aq)))) ((j8 a0.Program).bind fun (x4_4_1:aa)=>need (nCap ((([]:List ay).length+a0.Events.length)*24)) (some (⟨a0.Config,x4_4_1,([]:List ay)++a0.Events⟩:aq)))
def gq (a0:aO):Option Int:=
  cond ((((((((iLt a0.Mode 0)||(iLt 2 a0.Mode))||(iLt a0.Workers 1))||(iLt 8 a0.Workers))||(iLt a0.Quantum 1))||(iLt 100 a0.Quantum))||(iLt a0.Policy 0))||(iLt 3 a0.Policy)) (some 1) (some 0)
def jg (a0:Int):Option Bool:=
  some ((iLe (-2147483648) a0)&&(iLt a0 2147483648))
def dt (a0:Int):Nat→Int→Option (List Int)
  | 0,_=>none
  | k2+1,s1=>cond (iLt s1 ((⟨#[117,115,112,99,109,98,118,113]⟩:ByteArray).size:Int)) (need (nIn s1 ((⟨#[117,115,112,99,109,98,118,113]⟩:ByteArray).size:Int)) (cond (iEq (bg (⟨#[117,115,112,99,109,98,118,113]⟩:ByteArray) s1.toNat) a0) (need (nIn s1 (([([1,2]:List Int),([3]:List Int),([6]:List Int),([4]:List Int),([1]:List Int),([5]:List Int),([7]:List Int),([1,6]:List Int)]:List (List Int)).length:Int)) (some (([([1,2]:List Int),([3]:List Int),([6]:List Int),([4]:List Int),([1]:List Int),([5]:List Int),([7]:List Int),([1,6]:List Int)]:List (List Int)).getD s1.toNat default))) (dt a0 k2 (IntKind.i64.wrap (s1+1))))) (some [])
def ie (a0:Int):Option (List Int):=
  dt a0 fuel 0
def cF (a0:List ai) (a2:Int) (x1:List Int):Nat→Int→Option Bool
  | 0,_=>none
  | k3+1,s2=>cond (((iLt s2 (x1.length:Int))&&(iLe 0 a2))&&(iLt a2 (a0.length:Int))) (need (nIn a2 (a0.length:Int)) (need (nIn s2 (x1.length:Int)) (cond (iEq ((a0.getD a2.toNat default).Kind) (x1.getD s2.toNat default)) (some true) (cF a0 a2 x1 k3 (IntKind.i64.wrap (s2+1)))))) (some false)
def gr (a0:List ai) (a1:Int) (a2:Int):Option Bool:=
  (ie a1).bind fun (x1:List Int)=>cF a0 a2 x1 fuel 0
def jn (a0:List ai) (a1:ai):Option Int:=
  cond ((iLt a1.Kind 1)||(iLt 7 a1.Kind)) (some 6) (cond ((iEq a1.Kind 3)&&((((iLt a1.B 1)||(iLt 1000 a1.B))||(iLt a1.A 0))||(iLt a1.B a1.A))) (some 1) (cond ((iEq a1.Kind 6)&&((iLt a1.A 1)||(iLt 1000 a1.A))) (some 1) ((cond (iEq a1.Kind 7) (jg a1.A) (some default)).bind fun (x4:Bool)=>(cond ((iEq a1.Kind 7)&& !(!x4)) (gr a0 117 a1.B) (some default)).bind fun (x5:Bool)=>cond ((iEq a1.Kind 7)&&((!x4)||(!x5))) (some 1) (cond ((((iNe a1.Kind 3)&&(iNe a1.Kind 7))&&(iNe a1.B 0))||((((iNe a1.Kind 3)&&(iNe a1.Kind 6))&&(iNe a1.Kind 7))&&(iNe a1.A 0))) (some 2) (some 0)))))
def cC (a0:List ai):Nat→Int→Option (Int×Int)
  | 0,_=>none
  | k3+1,s2=>cond (iLt s2 (a0.length:Int)) (need (nIn s2 (a0.length:Int)) ((jn a0 (a0.getD s2.toNat default)).bind fun (x6:Int)=>cond (iNe x6 0) (some (s2,x6)) (cC a0 k3 (IntKind.i64.wrap (s2+1))))) (some (0,0))
def fy (a0:List ai):Option (Int×Int):=
  cond (iLt 32 (a0.length:Int)) (some (0,4)) (cC a0 fuel 0)
def jo (a0:List ai) (a1:ah):Option Int:=
  cond ((iLt a1.Kind 1)||(iLt 5 a1.Kind)) (some 6) (need (!(!((iLt a1.Obj 0)||(iLe (a0.length:Int) a1.Obj)))||nIn a1.Obj (a0.length:Int)) (need (!(!((iLt a1.Obj 0)||(iLe (a0.length:Int) a1.Obj)))||nIn a1.Kind (([0,1,2,2,3,6]:List Int).length:Int)) (cond (((iLt a1.Obj 0)||(iLe (a0.length:Int) a1.Obj))||(iNe ((a0.getD a1.Obj.toNat default).Kind) (([0,1,2,2,3,6]:List Int).getD a1.Kind.toNat default))) (some 1) (cond (iEq a1.Kind 4) (need (nIn a1.Obj (a0.length:Int)) (cond (iEq a1.Kind 5) (need (nIn a1.Obj (a0.length:Int)) (cond ((iLt a1.N 1)||(iLt ((a0.getD a1.Obj.toNat default).A) a1.N)) (some 1) (some 0))) (cond ((iLt a1.N 1)||(iLt ((a0.getD a1.Obj.toNat default).B) a1.N)) (some 1) (some 0)))) (cond (iEq a1.Kind 5) (need (nIn a1.Obj (a0.length:Int)) (cond ((iLt a1.N 1)||(iLt ((a0.getD a1.Obj.toNat default).A) a1.N)) (some 1) (some 0))) (cond ((iLt a1.N 0)||(iLt 0 a1.N)) (some 1) (some 0)))))))
def ck (a1:List (List ah)) (s3:Int) (s17:Int) (K20:Unit→Option Int):Nat→Int→Option Int
  | 0,_=>none
  | k23+1,s22=>cond (iLt s22 s17) (need (nIn s22 ((a1.getD s3.toNat default).length:Int)) (need (nIn s17 ((a1.getD s3.toNat default).length:Int)) (need (!(!(iEq (((a1.getD s3.toNat default).getD s22.toNat default).Obj) (((a1.getD s3.toNat default).getD s17.toNat default).Obj)))||nIn s22 ((a1.getD s3.toNat default).length:Int)) (need (!(!((iEq (((a1.getD s3.toNat default).getD s22.toNat default).Obj) (((a1.getD s3.toNat default).getD s17.toNat default).Obj))||(iEq (((a1.getD s3.toNat default).getD s22.toNat default).Kind) 4)))||nIn s17 ((a1.getD s3.toNat default).length:Int)) (cond (((iEq (((a1.getD s3.toNat default).getD s22.toNat default).Obj) (((a1.getD s3.toNat default).getD s17.toNat default).Obj))||(iEq (((a1.getD s3.toNat default).getD s22.toNat default).Kind) 4))||(iEq (((a1.getD s3.toNat default).getD s17.toNat default).Kind) 4)) (some 2) (ck a1 s3 s17 K20 k23 (IntKind.i64.wrap (s22+1)))))))) (K20 Unit.unit)
def bR (a1:List (List ah)) (s3:Int) (K6:Unit→Option Int):Nat→Int→Option Int
  | 0,_=>none
  | k18+1,s17=>cond (iLt s17 ((a1.getD s3.toNat default).length:Int)) (gJ (fun s21:Unit=>bR a1 s3 K6 k18 (IntKind.i64.wrap (s17+1))) fun K20=>ck a1 s3 s17 K20 fuel 0) (K6 Unit.unit)
def cm (a0:List ai) (a1:List (List ah)) (s3:Int) (K6:Unit→Option Int):Nat→Int→Option Int
  | 0,_=>none
  | k12+1,s11=>cond (iLt s11 ((a1.getD s3.toNat default).length:Int)) (need (nIn s11 ((a1.getD s3.toNat default).length:Int)) ((jo a0 ((a1.getD s3.toNat default).getD s11.toNat default)).bind fun (x15:Int)=>cond (iNe x15 0) (some x15) (cm a0 a1 s3 K6 k12 (IntKind.i64.wrap (s11+1))))) (bR a1 s3 K6 fuel 0)
def ca (a0:List ai) (a1:List (List ah)):Nat→Int→Option Int
  | 0,_=>none
  | k4+1,s3=>cond (iLt s3 (a1.length:Int)) (gJ (fun s7:Unit=>ca a0 a1 k4 (IntKind.i64.wrap (s3+1))) fun K6=>need (nIn s3 (a1.length:Int)) (cond (iEq ((a1.getD s3.toNat default).length:Int) 0) (some 2) (cond (iLt 4 ((a1.getD s3.toNat default).length:Int)) (some 4) (cm a0 a1 s3 K6 fuel 0)))) (some 0)
def fz (a0:List ai) (a1:List (List ah)):Option Int:=
  cond (iEq (a1.length:Int) 0) (some 2) (cond (iLt 4 (a1.length:Int)) (some 4) (ca a0 a1 fuel 0))
def dD (a0:Int):Option Bool:=
  some ((iLe 0 a0)&&(iLe a0 51))
def kE:Option (List ByteArray):=
  some ([(⟨#[110]⟩:ByteArray),(⟨#[107]⟩:ByteArray),(⟨#[107]⟩:ByteArray),ByteArray.empty,ByteArray.empty,ByteArray.empty,ByteArray.empty,ByteArray.empty,ByteArray.empty,ByteArray.empty,ByteArray.empty,ByteArray.empty,ByteArray.empty,ByteArray.empty,ByteArray.empty,ByteArray.empty,ByteArray.empty,ByteArray.empty,(⟨#[116]⟩:ByteArray),(⟨#[116]⟩:ByteArray),(⟨#[102]⟩:ByteArray),ByteArray.empty,ByteArray.empty,ByteArray.empty,ByteArray.empty,ByteArray.empty,(⟨#[119]⟩:ByteArray),(⟨#[119]⟩:ByteArray),ByteArray.empty,(⟨#[117]⟩:ByteArray),(⟨#[115]⟩:ByteArray),(⟨#[112]⟩:ByteArray),(⟨#[99,109]⟩:ByteArray),(⟨#[99,109]⟩:ByteArray),(⟨#[99]⟩:ByteArray),(⟨#[99]⟩:ByteArray),(⟨#[98]⟩:ByteArray),(⟨#[98]⟩:ByteArray),(⟨#[98]⟩:ByteArray),(⟨#[98]⟩:ByteArray),(⟨#[102]⟩:ByteArray),(⟨#[106,106]⟩:ByteArray),(⟨#[106,106]⟩:ByteArray),ByteArray.empty,ByteArray.empty,(⟨#[118]⟩:ByteArray),(⟨#[118]⟩:ByteArray),ByteArray.empty,ByteArray.empty,(⟨#[113]⟩:ByteArray),(⟨#[109]⟩:ByteArray),(⟨#[109]⟩:ByteArray)]:List ByteArray)
def gu (a0:Int):Option ByteArray:=
  (dD a0).bind fun (x1:Bool)=>cond (!x1) (some ByteArray.empty) ((kE).bind fun (x3:List ByteArray)=>need (nIn a0 (x3.length:Int)) (some (x3.getD a0.toNat default)))
def ig (a0:Int):Option Int:=
  cond (iEq a0 106) (some 1) (some 0)
def jh (a0:Int):Option Int:=
  cond (iEq a0 107) (some 7) (cond (iEq a0 116) (some 199) (cond (iEq a0 102) (some 15) (cond (iEq a0 106) (some 4) (some 31))))
def cn (a0:ar):Nat→Int→Option Int
  | 0,_=>none
  | k33+1,s32=>cond (iLt s32 2) (need (nIn s32 (([a0.A,a0.B]:List Int).length:Int)) (cond (iNe (([a0.A,a0.B]:List Int).getD s32.toNat default) 0) (some 2) (cn a0 k33 (IntKind.i64.wrap (s32+1))))) (some 0)
def bV (a0:ar) (x3_2_1:ByteArray):Nat→Int→Option Int
  | 0,_=>none
  | k4+1,s3=>cond (iLt s3 (x3_2_1.size:Int)) (need (nIn s3 (x3_2_1.size:Int)) (cond (iEq (bg x3_2_1 s3.toNat) 110) (need (nIn s3 (([a0.A,a0.B]:List Int).length:Int)) ((jg (([a0.A,a0.B]:List Int).getD s3.toNat default)).bind fun (x9:Bool)=>cond (!x9) (some 1) (need (nIn s3 (x3_2_1.size:Int)) (cond (iNe (bg x3_2_1 s3.toNat) 110) (need (nIn s3 (([a0.A,a0.B]:List Int).length:Int)) (need (nIn s3 (x3_2_1.size:Int)) ((ig (bg x3_2_1 s3.toNat)).bind fun (x15:Int)=>cond (iLt (([a0.A,a0.B]:List Int).getD s3.toNat default) x15) (some 1) (need (nIn s3 (([a0.A,a0.B]:List Int).length:Int)) (need (nIn s3 (x3_2_1.size:Int)) ((jh (bg x3_2_1 s3.toNat)).bind fun (x19:Int)=>cond (iLt x19 (([a0.A,a0.B]:List Int).getD s3.toNat default)) (some 1) (bV a0 x3_2_1 k4 (IntKind.i64.wrap (s3+1))))))))) (bV a0 x3_2_1 k4 (IntKind.i64.wrap (s3+1))))))) (need (nIn s3 (x3_2_1.size:Int)) (cond (iNe (bg x3_2_1 s3.toNat) 110) (need (nIn s3 (([a0.A,a0.B]:List Int).length:Int)) (need (nIn s3 (x3_2_1.size:Int)) ((ig (bg x3_2_1 s3.toNat)).bind fun (x25:Int)=>cond (iLt (([a0.A,a0.B]:List Int).getD s3.toNat default) x25) (some 1) (need (nIn s3 (([a0.A,a0.B]:List Int).length:Int)) (need (nIn s3 (x3_2_1.size:Int)) ((jh (bg x3_2_1 s3.toNat)).bind fun (x29:Int)=>cond (iLt x29 (([a0.A,a0.B]:List Int).getD s3.toNat default)) (some 1) (bV a0 x3_2_1 k4 (IntKind.i64.wrap (s3+1))))))))) (bV a0 x3_2_1 k4 (IntKind.i64.wrap (s3+1))))))) (cond ((sEq x3_2_1 (⟨#[106,106]⟩:ByteArray))&&(iLt a0.B a0.A)) (some 1) (cn a0 fuel (x3_2_1.size:Int)))
def gd (a0:ar):Option Int:=
  (dD a0.Op).bind fun (x1:Bool)=>cond (!x1) (some 6) ((gu a0.Op).bind fun (x3_2_1:ByteArray)=>bV a0 x3_2_1 fuel 0)
def bL (a0:ax):Nat→Int→Option Int
  | 0,_=>none
  | k5+1,s4=>cond (iLt s4 (a0.Code.length:Int)) (need (nIn s4 (a0.Code.length:Int)) ((gd (a0.Code.getD s4.toNat default)).bind fun (x8:Int)=>cond (iNe x8 0) (some x8) (bL a0 k5 (IntKind.i64.wrap (s4+1))))) (some 0)
def ea (a0:ax):Option Int:=
  cond (((iLt a0.Args 0)||(iLt a0.Locals a0.Args))||(iLt 8 a0.Locals)) (some 1) (cond (iEq (a0.Code.length:Int) 0) (some 2) (cond (iLt 200 (a0.Code.length:Int)) (some 4) (bL a0 fuel 0)))
def cq (a0:aa):Nat→Int→Option Int
  | 0,_=>none
  | k13+1,s12=>cond (iLt s12 (a0.Funcs.length:Int)) (need (nIn s12 (a0.Funcs.length:Int)) ((ea (a0.Funcs.getD s12.toNat default)).bind fun (x16:Int)=>cond (iNe x16 0) (some x16) (cq a0 k13 (IntKind.i64.wrap (s12+1))))) (some 0)
def cD (a0:aa):Nat→Int→Option Int
  | 0,_=>none
  | k5+1,s4=>cond (iLt s4 (a0.Waits.length:Int)) (need (nIn s4 (a0.Waits.length:Int)) ((fz a0.Decls (a0.Waits.getD s4.toNat default)).bind fun (x8:Int)=>cond (iNe x8 0) (some x8) (cD a0 k5 (IntKind.i64.wrap (s4+1))))) (cond (iEq (a0.Funcs.length:Int) 0) (some 2) (cond (iLt 16 (a0.Funcs.length:Int)) (some 4) (cq a0 fuel 0)))
def fA (a0:aa):Option Int:=
  (fy a0.Decls).bind fun (x1:Int×Int)=>cond (iNe x1.2 0) (some x1.2) (cond (iLt 32 (a0.Waits.length:Int)) (some 4) (cD a0 fuel 0))
def jL (a0:Int):Option Bool:=
  some ((((((iNe a0 110)&&(iNe a0 107))&&(iNe a0 116))&&(iNe a0 102))&&(iNe a0 119))&&(iNe a0 106))
def gK (a0:aa) (a1:ax) (a2:ar) (a3:Int) (a4:Int):Option Int:=
  cond ((((iEq a3 107)&&(iLe a1.Locals a4))||((iEq a3 116)&&(iLe (a1.Code.length:Int) a4)))||((iEq a3 119)&&(iLe (a0.Waits.length:Int) a4))) (some 1) (need (!(((iEq a3 102)&& !(iLe (a0.Funcs.length:Int) a4))&&(iEq a2.Op 40))||nIn a4 (a0.Funcs.length:Int)) (cond ((iEq a3 102)&&((iLe (a0.Funcs.length:Int) a4)||((iEq a2.Op 40)&&(iNe ((a0.Funcs.getD a4.toNat default).Args) 1)))) (some 1) ((jL a3).bind fun (x4:Bool)=>(cond x4 (gr a0.Decls a3 a4) (some default)).bind fun (x5:Bool)=>cond (x4&&(!x5)) (some 6) (some 0))))
def jq:Option (List Int):=
  some ([0,0,1,2,2,2,2,2,1,2,2,2,2,2,2,2,1,1,0,1,0,1,0,0,1,0,0,1,1,0,1,1,0,1,0,0,0,0,0,1,2,0,1,2,1,0,1,0,0,1,0,0]:List Int)
def dB (a0:ar) (a1:Int):Option Int:=
  (dD a0.Op).bind fun (x1:Bool)=>cond (!x1) (some 0) (cond (iEq a0.Op 20) (some a1) (cond ((iEq a0.Op 41)||(iEq a0.Op 42)) ((jq).bind fun (x5:List Int)=>need (nIn a0.Op (x5.length:Int)) (some (IntKind.i64.wrap ((x5.getD a0.Op.toNat default)+a0.B)))) ((jq).bind fun (x7:List Int)=>need (nIn a0.Op (x7.length:Int)) (some (x7.getD a0.Op.toNat default)))))
def ml:Option (List Int):=
  some ([1,1,0,1,1,1,1,1,1,1,1,1,1,1,1,1,2,0,0,0,1,0,1,1,1,0,1,1,1,1,1,1,1,1,1,1,1,1,1,1,1,1,1,1,1,2,1,1,1,1,1,1]:List Int)
def du (a0:Int):Option Int:=
  (dD a0).bind fun (x1:Bool)=>cond (!x1) (some 0) ((ml).bind fun (x3:List Int)=>need (nIn a0 (x3.length:Int)) (some (x3.getD a0.toNat default)))
def iI (a0:aa) (a1:ar) (a2:Int):Option Int:=
  cond ((iEq a1.Op 20)&&(iLt a1.A (a0.Funcs.length:Int))) (need (nIn a1.A (a0.Funcs.length:Int)) ((dB a1 ((a0.Funcs.getD a1.A.toNat default).Args)).bind fun (x3:Int)=>cond (iLt (IntKind.i64.wrap (a2 - x3)) 0) (some (-1)) ((du a1.Op).bind fun (x5:Int)=>some (IntKind.i64.wrap ((IntKind.i64.wrap (a2 - x3))+x5))))) ((dB a1 0).bind fun (x6:Int)=>cond (iLt (IntKind.i64.wrap (a2 - x6)) 0) (some (-1)) ((du a1.Op).bind fun (x8:Int)=>some (IntKind.i64.wrap ((IntKind.i64.wrap (a2 - x6))+x8))))
def j9 (a0:ar) (a1:Int):Option (List Int):=
  cond ((iNe a0.Op 18)&&(iNe a0.Op 21)) (need (nCap ((([]:List Int).length+([IntKind.i64.wrap (a1+1)]:List Int).length)*8)) (cond ((iEq a0.Op 18)||(iEq a0.Op 19)) (need (nCap (((([]:List Int)++([IntKind.i64.wrap (a1+1)]:List Int)).length+([a0.A]:List Int).length)*8)) (some ((([]:List Int)++([IntKind.i64.wrap (a1+1)]:List Int))++([a0.A]:List Int)))) (some (([]:List Int)++([IntKind.i64.wrap (a1+1)]:List Int))))) (cond ((iEq a0.Op 18)||(iEq a0.Op 19)) (need (nCap ((([]:List Int).length+([a0.A]:List Int).length)*8)) (some (([]:List Int)++([a0.A]:List Int)))) (some ([]:List Int)))
def cM (a1:List ar) (x3:Int) (x7:List Int):Nat→(Int×(List Int))→Option (Int×(List Int))
  | 0,_=>none
  | k9+1,s8=>cond (iLt s8.1 (x7.length:Int)) (need (nIn s8.1 (x7.length:Int)) (cond (iLe (a1.length:Int) (x7.getD s8.1.toNat default)) (some (3,s8.2)) (need (nIn s8.1 (x7.length:Int)) (need (nIn (x7.getD s8.1.toNat default) (s8.2.length:Int)) (cond (iLe 0 (s8.2.getD (x7.getD s8.1.toNat default).toNat default)) (need (nIn s8.1 (x7.length:Int)) (need (nIn (x7.getD s8.1.toNat default) (s8.2.length:Int)) (cond (iNe (s8.2.getD (x7.getD s8.1.toNat default).toNat default) x3) (some (2,s8.2)) (need (nIn s8.1 (x7.length:Int)) (need (nIn (x7.getD s8.1.toNat default) (s8.2.length:Int)) (cM a1 x3 x7 k9 (IntKind.i64.wrap (s8.1+1),s8.2.set (x7.getD s8.1.toNat default).toNat x3))))))) (need (nIn s8.1 (x7.length:Int)) (need (nIn (x7.getD s8.1.toNat default) (s8.2.length:Int)) (cM a1 x3 x7 k9 (IntKind.i64.wrap (s8.1+1),s8.2.set (x7.getD s8.1.toNat default).toNat x3))))))))) (some (0,s8.2))
def iJ (a0:aa) (a1:List ar) (a2:List Int) (a3:Int):Option (Int×(List Int)):=
  need (nIn a3 (a1.length:Int)) (need (nIn a3 (a2.length:Int)) ((iI a0 (a1.getD a3.toNat default) (a2.getD a3.toNat default)).bind fun (x3:Int)=>cond (iLt x3 0) (some (2,a2)) (cond (iLt 16 x3) (some (4,a2)) (need (nIn a3 (a1.length:Int)) ((j9 (a1.getD a3.toNat default) a3).bind fun (x7:List Int)=>cM a1 x3 x7 fuel (0,a2))))))
def cA (a0:aa) (a1:Int) (s10:Int×Int×(List Int)×(List Bool)) (K12:Int→Option ((List Int)×Int×Int)):Nat→Int→Option ((List Int)×Int×Int)
  | 0,_=>none
  | k15+1,s14=>cond (iLt s14 (((a0.Funcs.getD a1.toNat default).Code).length:Int)) (need (nIn s14 (s10.2.2.2.length:Int)) (cond (s10.2.2.2.getD s14.toNat default) (cA a0 a1 s10 K12 k15 (IntKind.i64.wrap (s14+1))) (need (nIn s14 (s10.2.2.1.length:Int)) (cond (iLt (s10.2.2.1.getD s14.toNat default) 0) (cA a0 a1 s10 K12 k15 (IntKind.i64.wrap (s14+1))) (K12 s14))))) (K12 s14)
def dv (a0:aa) (a1:Int) (K8:(Int×Int×(List Int))→Option ((List Int)×Int×Int)):Nat→(Int×Int×(List Int)×(List Bool))→Option ((List Int)×Int×Int)
  | 0,_=>none
  | k11+1,s10=>gJ (fun s13:Int=>cond (iEq s13 (((a0.Funcs.getD a1.toNat default).Code).length:Int)) (K8 (s10.1,s10.2.1,s10.2.2.1)) ((iJ a0 ((a0.Funcs.getD a1.toNat default).Code) s10.2.2.1 s13).bind fun (x22:Int×(List Int))=>need (nIn s13 (s10.2.2.2.length:Int)) (cond ((iNe x22.1 0)&&(iLt s13 s10.1)) (dv a0 a1 K8 k11 (s13,x22.1,x22.2,s10.2.2.2.set s13.toNat true)) (dv a0 a1 K8 k11 (s10.1,s10.2.1,x22.2,s10.2.2.2.set s13.toNat true))))) fun K12=>cA a0 a1 s10 K12 fuel 0
def eH (a0:aa) (a1:Int):Nat→(Int×(List Int))→Option ((List Int)×Int×Int)
  | 0,_=>none
  | k5+1,s4=>cond (iLt s4.1 (((a0.Funcs.getD a1.toNat default).Code).length:Int)) (need (nIn s4.1 (s4.2.length:Int)) (eH a0 a1 k5 (IntKind.i64.wrap (s4.1+1),s4.2.set s4.1.toNat (-1)))) (gJ (fun s9:Int×Int×(List Int)=>cond (iNe s9.2.1 0) (some ([],s9.1,s9.2.1)) (some (s9.2.2,0,0))) fun K8=>dv a0 a1 K8 fuel ((((a0.Funcs.getD a1.toNat default).Code).length:Int),0,s4.2,List.replicate (((a0.Funcs.getD a1.toNat default).Code).length:Int).toNat (false:Bool)))
def jM (a0:aa) (a1:Int):Option ((List Int)×Int×Int):=
  cond ((iLt a1 0)||(iLe (a0.Funcs.length:Int) a1)) (some ([],0,19)) (need (nIn a1 (a0.Funcs.length:Int)) (cond (iEq (((a0.Funcs.getD a1.toNat default).Code).length:Int) 0) (some ([],0,3)) (need (nMk (((a0.Funcs.getD a1.toNat default).Code).length:Int) 8) (need (nMk (((a0.Funcs.getD a1.toNat default).Code).length:Int) 1) (eH a0 a1 fuel (1,List.replicate (((a0.Funcs.getD a1.toNat default).Code).length:Int).toNat (0:Int)))))))
def cV (a0:aa) (s5:Int) (s11:Int) (x14_2_1:ByteArray) (K14:Unit→Option (Int×Int×Int)):Nat→Int→Option (Int×Int×Int)
  | 0,_=>none
  | k18+1,s17=>cond (iLt s17 (x14_2_1.size:Int)) (need (nIn s17 (x14_2_1.size:Int)) (need (nIn s17 (([(((a0.Funcs.getD s5.toNat default).Code).getD s11.toNat default).A,(((a0.Funcs.getD s5.toNat default).Code).getD s11.toNat default).B]:List Int).length:Int)) ((gK a0 (a0.Funcs.getD s5.toNat default) (((a0.Funcs.getD s5.toNat default).Code).getD s11.toNat default) (bg x14_2_1 s17.toNat) (([(((a0.Funcs.getD s5.toNat default).Code).getD s11.toNat default).A,(((a0.Funcs.getD s5.toNat default).Code).getD s11.toNat default).B]:List Int).getD s17.toNat default)).bind fun (x22:Int)=>cond (iNe x22 0) (some (s5,s11,x22)) (cV a0 s5 s11 x14_2_1 K14 k18 (IntKind.i64.wrap (s17+1)))))) (K14 Unit.unit)
def cW (a0:aa) (s5:Int) (K8:Unit→Option (Int×Int×Int)):Nat→Int→Option (Int×Int×Int)
  | 0,_=>none
  | k12+1,s11=>cond (iLt s11 (((a0.Funcs.getD s5.toNat default).Code).length:Int)) (gJ (fun s15:Unit=>cW a0 s5 K8 k12 (IntKind.i64.wrap (s11+1))) fun K14=>need (nIn s11 (((a0.Funcs.getD s5.toNat default).Code).length:Int)) ((gu ((((a0.Funcs.getD s5.toNat default).Code).getD s11.toNat default).Op)).bind fun (x14_2_1:ByteArray)=>cV a0 s5 s11 x14_2_1 K14 fuel 0)) ((jM a0 s5).bind fun (x24:(List Int)×Int×Int)=>cond (iNe x24.2.2 0) (some (s5,x24.2.1,x24.2.2)) (K8 Unit.unit))
def cN (a0:aa):Nat→Int→Option (Int×Int×Int)
  | 0,_=>none
  | k6+1,s5=>cond (iLt s5 (a0.Funcs.length:Int)) (gJ (fun s9:Unit=>cN a0 k6 (IntKind.i64.wrap (s5+1))) fun K8=>need (nIn s5 (a0.Funcs.length:Int)) (cW a0 s5 K8 fuel 0)) (some (0,0,0))
def eI (a0:aa):Option (Int×Int×Int):=
  (fA a0).bind fun (x1:Int)=>cond (iNe x1 0) (some (0,0,x1)) (need (nIn (0:Int) (a0.Funcs.length:Int)) (cond (iNe ((a0.Funcs.getD (0:Int).toNat default).Args) 0) (some (0,0,1)) (cN a0 fuel 0)))
def ed (a0:aq):Nat→Int→Option Int
  | 0,_=>none
  | k7+1,s6=>cond (iLt s6 (a0.Events.length:Int)) (need (nIn s6 (a0.Events.length:Int)) (cond ((iNe ((a0.Events.getD s6.toNat default).Kind) 1)&&(iNe ((a0.Events.getD s6.toNat default).Kind) 2)) (some 6) (cond ((iEq ((a0.Events.getD s6.toNat default).Kind) 2)&&(iNe ((a0.Events.getD s6.toNat default).B) 0)) (some 2) (ed a0 k7 (IntKind.i64.wrap (s6+1)))))) (some 0)
def gf (a0:aq):Option Int:=
  (gq a0.Config).bind fun (x1:Int)=>cond (iNe x1 0) (some 1) ((eI a0.Program).bind fun (x3:Int×Int×Int)=>cond (iNe x3.2.2 0) (some x3.2.2) (cond (iLt 4000 (a0.Events.length:Int)) (some 4) (ed a0 fuel 0)))
def jr (a0:Int) (a1:Int) (a2:Int):Option Bool:=
  some ((iLe a1 a0)&&(iLe a0 a2))
def fJ (a0:aO):Option Int:=
  (jr a0.Mode 0 2).bind fun (x1:Bool)=>(cond x1 (jr a0.Workers 1 8) (some default)).bind fun (x2:Bool)=>(cond (x1&&x2) (jr a0.Quantum 1 100) (some default)).bind fun (x3:Bool)=>(cond ((x1&&x2)&&x3) (jr a0.Policy 0 3) (some default)).bind fun (x4:Bool)=>cond (((x1&&x2)&&x3)&&x4) (some 0) (some 1)
def ka (a0:Int) (a1:Int):Option Bool:=
  some ((iLe a1 a0)&&(iLe a0 1000))
def kb (a0:Int):Option Bool:=
  some (iEq (IntKind.i64.wrap (IntKind.i32.wrap a0)) a0)
def fB (a0:List ai) (a1:Int) (a2:Int):Option Bool:=
  cond ((iLt a2 0)||(iLe (a0.length:Int) a2)) (some false) (need (nIn a2 (a0.length:Int)) (cond (iEq a1 117) (some ((iEq ((a0.getD a2.toNat default).Kind) 1)||(iEq ((a0.getD a2.toNat default).Kind) 2))) (cond (iEq a1 115) (some (iEq ((a0.getD a2.toNat default).Kind) 3)) (cond (iEq a1 112) (some (iEq ((a0.getD a2.toNat default).Kind) 6)) (cond (iEq a1 99) (some (iEq ((a0.getD a2.toNat default).Kind) 4)) (cond (iEq a1 109) (some (iEq ((a0.getD a2.toNat default).Kind) 1)) (cond (iEq a1 98) (some (iEq ((a0.getD a2.toNat default).Kind) 5)) (cond (iEq a1 118) (some (iEq ((a0.getD a2.toNat default).Kind) 7)) (cond (iEq a1 113) (some ((iEq ((a0.getD a2.toNat default).Kind) 1)||(iEq ((a0.getD a2.toNat default).Kind) 6))) (some false))))))))))
def nR (a0:List ai) (a1:ai):Option Int:=
  cond (iEq a1.Kind 3) ((ka a1.B 1).bind fun (x2:Bool)=>cond (!((x2&&(iLe 0 a1.A))&&(iLe a1.A a1.B))) (some 1) (some 0)) (cond (iEq a1.Kind 6) ((ka a1.A 1).bind fun (x5:Bool)=>cond (!x5) (some 1) (cond (!(iEq a1.B 0)) (some 2) (some 0))) (cond (iEq a1.Kind 7) ((kb a1.A).bind fun (x9:Bool)=>(cond x9 (fB a0 117 a1.B) (some default)).bind fun (x10:Bool)=>cond (!(x9&&x10)) (some 1) (some 0)) (cond (iEq a1.Kind 1) (cond (!((iEq a1.A 0)&&(iEq a1.B 0))) (some 2) (some 0)) (cond (iEq a1.Kind 2) (cond (!((iEq a1.A 0)&&(iEq a1.B 0))) (some 2) (some 0)) (cond (iEq a1.Kind 4) (cond (!((iEq a1.A 0)&&(iEq a1.B 0))) (some 2) (some 0)) (cond (iEq a1.Kind 5) (cond (!((iEq a1.A 0)&&(iEq a1.B 0))) (some 2) (some 0)) (some 6)))))))
def eJ (a0:List ai):Nat→Int→Option (Int×Int)
  | 0,_=>none
  | k3+1,s2=>cond (iLt s2 (a0.length:Int)) (need (nIn s2 (a0.length:Int)) ((nR a0 (a0.getD s2.toNat default)).bind fun (x6:Int)=>cond (iNe x6 0) (some (s2,x6)) (eJ a0 k3 (IntKind.i64.wrap (s2+1))))) (some (0,0))
def ij (a0:List ai):Option (Int×Int):=
  cond (iLt 32 (a0.length:Int)) (some (0,4)) (eJ a0 fuel 0)
def bt (a0:Int):Option Bool:=
  some ((iEq a0 4)||(iEq a0 5))
def nS (a0:List ai) (a1:ah):Option Int:=
  cond (iEq a1.Kind 1) ((fB a0 109 a1.Obj).bind fun (x2:Bool)=>need (!((!(!x2))&&false)||nIn a1.Obj (a0.length:Int)) (cond ((!x2)||(false&&(iNe ((a0.getD a1.Obj.toNat default).Kind) 2))) (some 1) (cond (iEq a1.Kind 4) (need (nIn a1.Obj (a0.length:Int)) ((bt a1.Kind).bind fun (x7:Bool)=>cond (((x7&&(iLt a1.N 1))||(iLt a1.N 0))||(iLt ((a0.getD a1.Obj.toNat default).B) a1.N)) (some 1) (some 0))) (cond (iEq a1.Kind 5) (need (nIn a1.Obj (a0.length:Int)) ((bt a1.Kind).bind fun (x11:Bool)=>cond (((x11&&(iLt a1.N 1))||(iLt a1.N 0))||(iLt ((a0.getD a1.Obj.toNat default).A) a1.N)) (some 1) (some 0))) ((bt a1.Kind).bind fun (x13:Bool)=>cond (((x13&&(iLt a1.N 1))||(iLt a1.N 0))||(iLt 0 a1.N)) (some 1) (some 0)))))) (cond (iEq a1.Kind 2) ((fB a0 117 a1.Obj).bind fun (x16:Bool)=>need (!((!(!x16))&&true)||nIn a1.Obj (a0.length:Int)) (cond ((!x16)||(true&&(iNe ((a0.getD a1.Obj.toNat default).Kind) 2))) (some 1) (cond (iEq a1.Kind 4) (need (nIn a1.Obj (a0.length:Int)) ((bt a1.Kind).bind fun (x21:Bool)=>cond (((x21&&(iLt a1.N 1))||(iLt a1.N 0))||(iLt ((a0.getD a1.Obj.toNat default).B) a1.N)) (some 1) (some 0))) (cond (iEq a1.Kind 5) (need (nIn a1.Obj (a0.length:Int)) ((bt a1.Kind).bind fun (x25:Bool)=>cond (((x25&&(iLt a1.N 1))||(iLt a1.N 0))||(iLt ((a0.getD a1.Obj.toNat default).A) a1.N)) (some 1) (some 0))) ((bt a1.Kind).bind fun (x27:Bool)=>cond (((x27&&(iLt a1.N 1))||(iLt a1.N 0))||(iLt 0 a1.N)) (some 1) (some 0)))))) (cond (iEq a1.Kind 3) ((fB a0 117 a1.Obj).bind fun (x30:Bool)=>need (!((!(!x30))&&true)||nIn a1.Obj (a0.length:Int)) (cond ((!x30)||(true&&(iNe ((a0.getD a1.Obj.toNat default).Kind) 2))) (some 1) (cond (iEq a1.Kind 4) (need (nIn a1.Obj (a0.length:Int)) ((bt a1.Kind).bind fun (x35:Bool)=>cond (((x35&&(iLt a1.N 1))||(iLt a1.N 0))||(iLt ((a0.getD a1.Obj.toNat default).B) a1.N)) (some 1) (some 0))) (cond (iEq a1.Kind 5) (need (nIn a1.Obj (a0.length:Int)) ((bt a1.Kind).bind fun (x39:Bool)=>cond (((x39&&(iLt a1.N 1))||(iLt a1.N 0))||(iLt ((a0.getD a1.Obj.toNat default).A) a1.N)) (some 1) (some 0))) ((bt a1.Kind).bind fun (x41:Bool)=>cond (((x41&&(iLt a1.N 1))||(iLt a1.N 0))||(iLt 0 a1.N)) (some 1) (some 0)))))) (cond (iEq a1.Kind 4) ((fB a0 115 a1.Obj).bind fun (x44:Bool)=>need (!((!(!x44))&&false)||nIn a1.Obj (a0.length:Int)) (cond ((!x44)||(false&&(iNe ((a0.getD a1.Obj.toNat default).Kind) 2))) (some 1) (cond (iEq a1.Kind 4) (need (nIn a1.Obj (a0.length:Int)) ((bt a1.Kind).bind fun (x49:Bool)=>cond (((x49&&(iLt a1.N 1))||(iLt a1.N 0))||(iLt ((a0.getD a1.Obj.toNat default).B) a1.N)) (some 1) (some 0))) (cond (iEq a1.Kind 5) (need (nIn a1.Obj (a0.length:Int)) ((bt a1.Kind).bind fun (x53:Bool)=>cond (((x53&&(iLt a1.N 1))||(iLt a1.N 0))||(iLt ((a0.getD a1.Obj.toNat default).A) a1.N)) (some 1) (some 0))) ((bt a1.Kind).bind fun (x55:Bool)=>cond (((x55&&(iLt a1.N 1))||(iLt a1.N 0))||(iLt 0 a1.N)) (some 1) (some 0)))))) (cond (iEq a1.Kind 5) ((fB a0 112 a1.Obj).bind fun (x58:Bool)=>need (!((!(!x58))&&false)||nIn a1.Obj (a0.length:Int)) (cond ((!x58)||(false&&(iNe ((a0.getD a1.Obj.toNat default).Kind) 2))) (some 1) (cond (iEq a1.Kind 4) (need (nIn a1.Obj (a0.length:Int)) ((bt a1.Kind).bind fun (x63:Bool)=>cond (((x63&&(iLt a1.N 1))||(iLt a1.N 0))||(iLt ((a0.getD a1.Obj.toNat default).B) a1.N)) (some 1) (some 0))) (cond (iEq a1.Kind 5) (need (nIn a1.Obj (a0.length:Int)) ((bt a1.Kind).bind fun (x67:Bool)=>cond (((x67&&(iLt a1.N 1))||(iLt a1.N 0))||(iLt ((a0.getD a1.Obj.toNat default).A) a1.N)) (some 1) (some 0))) ((bt a1.Kind).bind fun (x69:Bool)=>cond (((x69&&(iLt a1.N 1))||(iLt a1.N 0))||(iLt 0 a1.N)) (some 1) (some 0)))))) (some 6)))))
def qq (a0:Int):Option Int:=
  cond ((iLt a0 0)||(iLt 63 a0)) (some 0) (need (nNn a0) (some (IntKind.u64.wrap ((1:Int)*2 ^min (a0:Int).toNat IntKind.u64.bits))))
def gL (a0:Int) (a1:Int):Option Int:=
  (qq a1).bind fun (x1:Int)=>some (Go.bits .or .u64 a0 x1)
def eX (a0:Int):Option Int:=
  some (Go.bits .and .i64 (IntKind.i64.wrap (IntKind.u64.wrap ((IntKind.u64.wrap ((IntKind.u64.wrap ((Go.bits .and .u64 (IntKind.u64.wrap (((IntKind.u64.wrap ((Go.bits .and .u64 ((IntKind.u64.wrap ((Go.bits .and .u64 (a0 /2 ^min (1:Int).toNat IntKind.u64.bits) 6148914691236517205)+(Go.bits .and .u64 a0 6148914691236517205))) /2 ^min (2:Int).toNat IntKind.u64.bits) 3689348814741910323)+(Go.bits .and .u64 (IntKind.u64.wrap ((Go.bits .and .u64 (a0 /2 ^min (1:Int).toNat IntKind.u64.bits) 6148914691236517205)+(Go.bits .and .u64 a0 6148914691236517205))) 3689348814741910323))) /2 ^min (4:Int).toNat IntKind.u64.bits)+(IntKind.u64.wrap ((Go.bits .and .u64 ((IntKind.u64.wrap ((Go.bits .and .u64 (a0 /2 ^min (1:Int).toNat IntKind.u64.bits) 6148914691236517205)+(Go.bits .and .u64 a0 6148914691236517205))) /2 ^min (2:Int).toNat IntKind.u64.bits) 3689348814741910323)+(Go.bits .and .u64 (IntKind.u64.wrap ((Go.bits .and .u64 (a0 /2 ^min (1:Int).toNat IntKind.u64.bits) 6148914691236517205)+(Go.bits .and .u64 a0 6148914691236517205))) 3689348814741910323))))) 1085102592571150095)+((Go.bits .and .u64 (IntKind.u64.wrap (((IntKind.u64.wrap ((Go.bits .and .u64 ((IntKind.u64.wrap ((Go.bits .and .u64 (a0 /2 ^min (1:Int).toNat IntKind.u64.bits) 6148914691236517205)+(Go.bits .and .u64 a0 6148914691236517205))) /2 ^min (2:Int).toNat IntKind.u64.bits) 3689348814741910323)+(Go.bits .and .u64 (IntKind.u64.wrap ((Go.bits .and .u64 (a0 /2 ^min (1:Int).toNat IntKind.u64.bits) 6148914691236517205)+(Go.bits .and .u64 a0 6148914691236517205))) 3689348814741910323))) /2 ^min (4:Int).toNat IntKind.u64.bits)+(IntKind.u64.wrap ((Go.bits .and .u64 ((IntKind.u64.wrap ((Go.bits .and .u64 (a0 /2 ^min (1:Int).toNat IntKind.u64.bits) 6148914691236517205)+(Go.bits .and .u64 a0 6148914691236517205))) /2 ^min (2:Int).toNat IntKind.u64.bits) 3689348814741910323)+(Go.bits .and .u64 (IntKind.u64.wrap ((Go.bits .and .u64 (a0 /2 ^min (1:Int).toNat IntKind.u64.bits) 6148914691236517205)+(Go.bits .and .u64 a0 6148914691236517205))) 3689348814741910323))))) 1085102592571150095) /2 ^min (8:Int).toNat IntKind.u64.bits)))+((IntKind.u64.wrap ((Go.bits .and .u64 (IntKind.u64.wrap (((IntKind.u64.wrap ((Go.bits .and .u64 ((IntKind.u64.wrap ((Go.bits .and .u64 (a0 /2 ^min (1:Int).toNat IntKind.u64.bits) 6148914691236517205)+(Go.bits .and .u64 a0 6148914691236517205))) /2 ^min (2:Int).toNat IntKind.u64.bits) 3689348814741910323)+(Go.bits .and .u64 (IntKind.u64.wrap ((Go.bits .and .u64 (a0 /2 ^min (1:Int).toNat IntKind.u64.bits) 6148914691236517205)+(Go.bits .and .u64 a0 6148914691236517205))) 3689348814741910323))) /2 ^min (4:Int).toNat IntKind.u64.bits)+(IntKind.u64.wrap ((Go.bits .and .u64 ((IntKind.u64.wrap ((Go.bits .and .u64 (a0 /2 ^min (1:Int).toNat IntKind.u64.bits) 6148914691236517205)+(Go.bits .and .u64 a0 6148914691236517205))) /2 ^min (2:Int).toNat IntKind.u64.bits) 3689348814741910323)+(Go.bits .and .u64 (IntKind.u64.wrap ((Go.bits .and .u64 (a0 /2 ^min (1:Int).toNat IntKind.u64.bits) 6148914691236517205)+(Go.bits .and .u64 a0 6148914691236517205))) 3689348814741910323))))) 1085102592571150095)+((Go.bits .and .u64 (IntKind.u64.wrap (((IntKind.u64.wrap ((Go.bits .and .u64 ((IntKind.u64.wrap ((Go.bits .and .u64 (a0 /2 ^min (1:Int).toNat IntKind.u64.bits) 6148914691236517205)+(Go.bits .and .u64 a0 6148914691236517205))) /2 ^min (2:Int).toNat IntKind.u64.bits) 3689348814741910323)+(Go.bits .and .u64 (IntKind.u64.wrap ((Go.bits .and .u64 (a0 /2 ^min (1:Int).toNat IntKind.u64.bits) 6148914691236517205)+(Go.bits .and .u64 a0 6148914691236517205))) 3689348814741910323))) /2 ^min (4:Int).toNat IntKind.u64.bits)+(IntKind.u64.wrap ((Go.bits .and .u64 ((IntKind.u64.wrap ((Go.bits .and .u64 (a0 /2 ^min (1:Int).toNat IntKind.u64.bits) 6148914691236517205)+(Go.bits .and .u64 a0 6148914691236517205))) /2 ^min (2:Int).toNat IntKind.u64.bits) 3689348814741910323)+(Go.bits .and .u64 (IntKind.u64.wrap ((Go.bits .and .u64 (a0 /2 ^min (1:Int).toNat IntKind.u64.bits) 6148914691236517205)+(Go.bits .and .u64 a0 6148914691236517205))) 3689348814741910323))))) 1085102592571150095) /2 ^min (8:Int).toNat IntKind.u64.bits))) /2 ^min (16:Int).toNat IntKind.u64.bits)))+((IntKind.u64.wrap ((IntKind.u64.wrap ((Go.bits .and .u64 (IntKind.u64.wrap (((IntKind.u64.wrap ((Go.bits .and .u64 ((IntKind.u64.wrap ((Go.bits .and .u64 (a0 /2 ^min (1:Int).toNat IntKind.u64.bits) 6148914691236517205)+(Go.bits .and .u64 a0 6148914691236517205))) /2 ^min (2:Int).toNat IntKind.u64.bits) 3689348814741910323)+(Go.bits .and .u64 (IntKind.u64.wrap ((Go.bits .and .u64 (a0 /2 ^min (1:Int).toNat IntKind.u64.bits) 6148914691236517205)+(Go.bits .and .u64 a0 6148914691236517205))) 3689348814741910323))) /2 ^min (4:Int).toNat IntKind.u64.bits)+(IntKind.u64.wrap ((Go.bits .and .u64 ((IntKind.u64.wrap ((Go.bits .and .u64 (a0 /2 ^min (1:Int).toNat IntKind.u64.bits) 6148914691236517205)+(Go.bits .and .u64 a0 6148914691236517205))) /2 ^min (2:Int).toNat IntKind.u64.bits) 3689348814741910323)+(Go.bits .and .u64 (IntKind.u64.wrap ((Go.bits .and .u64 (a0 /2 ^min (1:Int).toNat IntKind.u64.bits) 6148914691236517205)+(Go.bits .and .u64 a0 6148914691236517205))) 3689348814741910323))))) 1085102592571150095)+((Go.bits .and .u64 (IntKind.u64.wrap (((IntKind.u64.wrap ((Go.bits .and .u64 ((IntKind.u64.wrap ((Go.bits .and .u64 (a0 /2 ^min (1:Int).toNat IntKind.u64.bits) 6148914691236517205)+(Go.bits .and .u64 a0 6148914691236517205))) /2 ^min (2:Int).toNat IntKind.u64.bits) 3689348814741910323)+(Go.bits .and .u64 (IntKind.u64.wrap ((Go.bits .and .u64 (a0 /2 ^min (1:Int).toNat IntKind.u64.bits) 6148914691236517205)+(Go.bits .and .u64 a0 6148914691236517205))) 3689348814741910323))) /2 ^min (4:Int).toNat IntKind.u64.bits)+(IntKind.u64.wrap ((Go.bits .and .u64 ((IntKind.u64.wrap ((Go.bits .and .u64 (a0 /2 ^min (1:Int).toNat IntKind.u64.bits) 6148914691236517205)+(Go.bits .and .u64 a0 6148914691236517205))) /2 ^min (2:Int).toNat IntKind.u64.bits) 3689348814741910323)+(Go.bits .and .u64 (IntKind.u64.wrap ((Go.bits .and .u64 (a0 /2 ^min (1:Int).toNat IntKind.u64.bits) 6148914691236517205)+(Go.bits .and .u64 a0 6148914691236517205))) 3689348814741910323))))) 1085102592571150095) /2 ^min (8:Int).toNat IntKind.u64.bits)))+((IntKind.u64.wrap ((Go.bits .and .u64 (IntKind.u64.wrap (((IntKind.u64.wrap ((Go.bits .and .u64 ((IntKind.u64.wrap ((Go.bits .and .u64 (a0 /2 ^min (1:Int).toNat IntKind.u64.bits) 6148914691236517205)+(Go.bits .and .u64 a0 6148914691236517205))) /2 ^min (2:Int).toNat IntKind.u64.bits) 3689348814741910323)+(Go.bits .and .u64 (IntKind.u64.wrap ((Go.bits .and .u64 (a0 /2 ^min (1:Int).toNat IntKind.u64.bits) 6148914691236517205)+(Go.bits .and .u64 a0 6148914691236517205))) 3689348814741910323))) /2 ^min (4:Int).toNat IntKind.u64.bits)+(IntKind.u64.wrap ((Go.bits .and .u64 ((IntKind.u64.wrap ((Go.bits .and .u64 (a0 /2 ^min (1:Int).toNat IntKind.u64.bits) 6148914691236517205)+(Go.bits .and .u64 a0 6148914691236517205))) /2 ^min (2:Int).toNat IntKind.u64.bits) 3689348814741910323)+(Go.bits .and .u64 (IntKind.u64.wrap ((Go.bits .and .u64 (a0 /2 ^min (1:Int).toNat IntKind.u64.bits) 6148914691236517205)+(Go.bits .and .u64 a0 6148914691236517205))) 3689348814741910323))))) 1085102592571150095)+((Go.bits .and .u64 (IntKind.u64.wrap (((IntKind.u64.wrap ((Go.bits .and .u64 ((IntKind.u64.wrap ((Go.bits .and .u64 (a0 /2 ^min (1:Int).toNat IntKind.u64.bits) 6148914691236517205)+(Go.bits .and .u64 a0 6148914691236517205))) /2 ^min (2:Int).toNat IntKind.u64.bits) 3689348814741910323)+(Go.bits .and .u64 (IntKind.u64.wrap ((Go.bits .and .u64 (a0 /2 ^min (1:Int).toNat IntKind.u64.bits) 6148914691236517205)+(Go.bits .and .u64 a0 6148914691236517205))) 3689348814741910323))) /2 ^min (4:Int).toNat IntKind.u64.bits)+(IntKind.u64.wrap ((Go.bits .and .u64 ((IntKind.u64.wrap ((Go.bits .and .u64 (a0 /2 ^min (1:Int).toNat IntKind.u64.bits) 6148914691236517205)+(Go.bits .and .u64 a0 6148914691236517205))) /2 ^min (2:Int).toNat IntKind.u64.bits) 3689348814741910323)+(Go.bits .and .u64 (IntKind.u64.wrap ((Go.bits .and .u64 (a0 /2 ^min (1:Int).toNat IntKind.u64.bits) 6148914691236517205)+(Go.bits .and .u64 a0 6148914691236517205))) 3689348814741910323))))) 1085102592571150095) /2 ^min (8:Int).toNat IntKind.u64.bits))) /2 ^min (16:Int).toNat IntKind.u64.bits))) /2 ^min (32:Int).toNat IntKind.u64.bits)))) 127)
def iw (a0:Int):Option Int:=
  (eX a0).bind fun (x1:Int)=>some x1
def gg (a0:List ai) (a1:List ah):Nat→(Int×Bool×Int)→Option Int
  | 0,_=>none
  | k4+1,s3=>cond (iLt s3.2.2 (a1.length:Int)) (need (nIn s3.2.2 (a1.length:Int)) ((nS a0 (a1.getD s3.2.2.toNat default)).bind fun (x7:Int)=>cond (iNe x7 0) (some x7) ((gL s3.1 ((a1.getD s3.2.2.toNat default).Obj)).bind fun (x9:Int)=>gg a0 a1 k4 (x9,(s3.2.1||(iEq ((a1.getD s3.2.2.toNat default).Kind) 4)),IntKind.i64.wrap (s3.2.2+1))))) ((iw s3.1).bind fun (x10:Int)=>cond ((iLt x10 (a1.length:Int))||(s3.2.1&&(iLt 1 (a1.length:Int)))) (some 2) (some 0))
def nT (a0:List ai) (a1:List ah):Option Int:=
  cond (iEq (a1.length:Int) 0) (some 2) (cond (iLt 4 (a1.length:Int)) (some 4) (gg a0 a1 fuel (0,false,0)))
def eK (a0:List ai) (a1:List (List ah)):Nat→Int→Option Int
  | 0,_=>none
  | k4+1,s3=>cond (iLt s3 (a1.length:Int)) (need (nIn s3 (a1.length:Int)) ((nT a0 (a1.getD s3.toNat default)).bind fun (x7:Int)=>cond (iNe x7 0) (some x7) (eK a0 a1 k4 (IntKind.i64.wrap (s3+1))))) (some 0)
def ik (a0:List ai) (a1:List (List ah)):Option Int:=
  cond (iEq (a1.length:Int) 0) (some 2) (cond (iLt 4 (a1.length:Int)) (some 4) (eK a0 a1 fuel 0))
def kF (a0:Int):Option Bool:=
  some ((iLe 0 a0)&&(iLt a0 52))
def lx (a0:List eu) (a1:Int):Nat→Int→Option Bool
  | 0,_=>none
  | k3+1,s2=>cond (iLt s2 (a0.length:Int)) (need (nIn s2 (a0.length:Int)) (cond (iLt a1 ((a0.getD s2.toNat default).Lo)) (some false) (cond (iLe a1 ((a0.getD s2.toNat default).Hi)) (need (!(!(iEq ((a0.getD s2.toNat default).Stride) 1))||nNz ((a0.getD s2.toNat default).Stride)) (some ((iEq ((a0.getD s2.toNat default).Stride) 1)||(iEq (Int.tmod (IntKind.u16.wrap (a1 - ((a0.getD s2.toNat default).Lo))) ((a0.getD s2.toNat default).Stride)) 0)))) (lx a0 a1 k3 (IntKind.i64.wrap (s2+1)))))) (some false)
def iV (a0:List eu) (a1:Int):Nat→(Int×Int)→Option Bool
  | 0,_=>none
  | k10+1,s9=>cond (iLt s9.1 s9.2) (need (nIn (IntKind.i64.wrap ((IntKind.u64.wrap (IntKind.i64.wrap (s9.1+s9.2))) /2 ^min (1:Int).toNat IntKind.u64.bits)) (a0.length:Int)) (cond ((iLe ((a0.getD (IntKind.i64.wrap ((IntKind.u64.wrap (IntKind.i64.wrap (s9.1+s9.2))) /2 ^min (1:Int).toNat IntKind.u64.bits)).toNat default).Lo) a1)&&(iLe a1 ((a0.getD (IntKind.i64.wrap ((IntKind.u64.wrap (IntKind.i64.wrap (s9.1+s9.2))) /2 ^min (1:Int).toNat IntKind.u64.bits)).toNat default).Hi))) (need (!(!(iEq ((a0.getD (IntKind.i64.wrap ((IntKind.u64.wrap (IntKind.i64.wrap (s9.1+s9.2))) /2 ^min (1:Int).toNat IntKind.u64.bits)).toNat default).Stride) 1))||nNz ((a0.getD (IntKind.i64.wrap ((IntKind.u64.wrap (IntKind.i64.wrap (s9.1+s9.2))) /2 ^min (1:Int).toNat IntKind.u64.bits)).toNat default).Stride)) (some ((iEq ((a0.getD (IntKind.i64.wrap ((IntKind.u64.wrap (IntKind.i64.wrap (s9.1+s9.2))) /2 ^min (1:Int).toNat IntKind.u64.bits)).toNat default).Stride) 1)||(iEq (Int.tmod (IntKind.u16.wrap (a1 - ((a0.getD (IntKind.i64.wrap ((IntKind.u64.wrap (IntKind.i64.wrap (s9.1+s9.2))) /2 ^min (1:Int).toNat IntKind.u64.bits)).toNat default).Lo))) ((a0.getD (IntKind.i64.wrap ((IntKind.u64.wrap (IntKind.i64.wrap (s9.1+s9.2))) /2 ^min (1:Int).toNat IntKind.u64.bits)).toNat default).Stride)) 0)))) (cond (iLt a1 ((a0.getD (IntKind.i64.wrap ((IntKind.u64.wrap (IntKind.i64.wrap (s9.1+s9.2))) /2 ^min (1:Int).toNat IntKind.u64.bits)).toNat default).Lo)) (iV a0 a1 k10 (s9.1,IntKind.i64.wrap ((IntKind.u64.wrap (IntKind.i64.wrap (s9.1+s9.2))) /2 ^min (1:Int).toNat IntKind.u64.bits))) (iV a0 a1 k10 (IntKind.i64.wrap ((IntKind.i64.wrap ((IntKind.u64.wrap (IntKind.i64.wrap (s9.1+s9.2))) /2 ^min (1:Int).toNat IntKind.u64.bits))+1),s9.2))))) (some false)
def vr (a0:List eu) (a1:Int):Option Bool:=
  cond ((iLe (a0.length:Int) 18)||(iLe a1 255)) (lx a0 a1 fuel 0) (iV a0 a1 fuel (0,(a0.length:Int)))
def ly (a0:List ew) (a1:Int):Nat→Int→Option Bool
  | 0,_=>none
  | k3+1,s2=>cond (iLt s2 (a0.length:Int)) (need (nIn s2 (a0.length:Int)) (cond (iLt a1 ((a0.getD s2.toNat default).Lo)) (some false) (cond (iLe a1 ((a0.getD s2.toNat default).Hi)) (need (!(!(iEq ((a0.getD s2.toNat default).Stride) 1))||nNz ((a0.getD s2.toNat default).Stride)) (some ((iEq ((a0.getD s2.toNat default).Stride) 1)||(iEq (Int.tmod (IntKind.u32.wrap (a1 - ((a0.getD s2.toNat default).Lo))) ((a0.getD s2.toNat default).Stride)) 0)))) (ly a0 a1 k3 (IntKind.i64.wrap (s2+1)))))) (some false)
def iW (a0:List ew) (a1:Int):Nat→(Int×Int)→Option Bool
  | 0,_=>none
  | k10+1,s9=>cond (iLt s9.1 s9.2) (need (nIn (IntKind.i64.wrap ((IntKind.u64.wrap (IntKind.i64.wrap (s9.1+s9.2))) /2 ^min (1:Int).toNat IntKind.u64.bits)) (a0.length:Int)) (cond ((iLe ((a0.getD (IntKind.i64.wrap ((IntKind.u64.wrap (IntKind.i64.wrap (s9.1+s9.2))) /2 ^min (1:Int).toNat IntKind.u64.bits)).toNat default).Lo) a1)&&(iLe a1 ((a0.getD (IntKind.i64.wrap ((IntKind.u64.wrap (IntKind.i64.wrap (s9.1+s9.2))) /2 ^min (1:Int).toNat IntKind.u64.bits)).toNat default).Hi))) (need (!(!(iEq ((a0.getD (IntKind.i64.wrap ((IntKind.u64.wrap (IntKind.i64.wrap (s9.1+s9.2))) /2 ^min (1:Int).toNat IntKind.u64.bits)).toNat default).Stride) 1))||nNz ((a0.getD (IntKind.i64.wrap ((IntKind.u64.wrap (IntKind.i64.wrap (s9.1+s9.2))) /2 ^min (1:Int).toNat IntKind.u64.bits)).toNat default).Stride)) (some ((iEq ((a0.getD (IntKind.i64.wrap ((IntKind.u64.wrap (IntKind.i64.wrap (s9.1+s9.2))) /2 ^min (1:Int).toNat IntKind.u64.bits)).toNat default).Stride) 1)||(iEq (Int.tmod (IntKind.u32.wrap (a1 - ((a0.getD (IntKind.i64.wrap ((IntKind.u64.wrap (IntKind.i64.wrap (s9.1+s9.2))) /2 ^min (1:Int).toNat IntKind.u64.bits)).toNat default).Lo))) ((a0.getD (IntKind.i64.wrap ((IntKind.u64.wrap (IntKind.i64.wrap (s9.1+s9.2))) /2 ^min (1:Int).toNat IntKind.u64.bits)).toNat default).Stride)) 0)))) (cond (iLt a1 ((a0.getD (IntKind.i64.wrap ((IntKind.u64.wrap (IntKind.i64.wrap (s9.1+s9.2))) /2 ^min (1:Int).toNat IntKind.u64.bits)).toNat default).Lo)) (iW a0 a1 k10 (s9.1,IntKind.i64.wrap ((IntKind.u64.wrap (IntKind.i64.wrap (s9.1+s9.2))) /2 ^min (1:Int).toNat IntKind.u64.bits))) (iW a0 a1 k10 (IntKind.i64.wrap ((IntKind.i64.wrap ((IntKind.u64.wrap (IntKind.i64.wrap (s9.1+s9.2))) /2 ^min (1:Int).toNat IntKind.u64.bits))+1),s9.2))))) (some false)
def vt (a0:List ew) (a1:Int):Option Bool:=
  cond (iLe (a0.length:Int) 18) (ly a0 a1 fuel 0) (iW a0 a1 fuel (0,(a0.length:Int)))
def sP (a0:mF) (a1:Int):Option Bool:=
  need (!(iLt a0.LatinOffset (a0.R16.length:Int))||nIn (IntKind.i64.wrap ((a0.R16.length:Int) - 1)) (a0.R16.length:Int)) (cond ((iLt a0.LatinOffset (a0.R16.length:Int))&&(iLe (IntKind.u32.wrap a1) (IntKind.u32.wrap ((a0.R16.getD (IntKind.i64.wrap ((a0.R16.length:Int) - 1)).toNat default).Hi)))) (need (nSl a0.LatinOffset (a0.R16.length:Int) (a0.R16.length:Int)) ((vr ((a0.R16.take (a0.R16.length:Int).toNat).drop a0.LatinOffset.toNat) (IntKind.u16.wrap a1)).bind fun (x4:Bool)=>some x4)) (need (!(iLt 0 (a0.R32.length:Int))||nIn (0:Int) (a0.R32.length:Int)) (cond ((iLt 0 (a0.R32.length:Int))&&(iLe (IntKind.i32.wrap ((a0.R32.getD (0:Int).toNat default).Lo)) a1)) ((vt a0.R32 (IntKind.u32.wrap a1)).bind fun (x7:Bool)=>some x7) (some false))))
def fq (a0:ByteArray) (K8:Int→Option (List ByteArray)):Nat→Int→Option (List ByteArray)
  | 0,_=>none
  | k11+1,s10=>cond (iLt s10 (a0.size:Int)) (need (nIn s10 (a0.size:Int)) (need (nIn (bg a0 s10.toNat) ((256:Nat):Int)) (cond (iNe (aV.getD (bg a0 s10.toNat).toNat default) 0) (fq a0 K8 k11 (IntKind.i64.wrap (s10+1))) (K8 s10)))) (K8 s10)
def fr (a0:ByteArray) (K26:Int→Option (List ByteArray)):Nat→Int→Option (List ByteArray)
  | 0,_=>none
  | k29+1,s28=>cond (iLt s28 (a0.size:Int)) (need (nIn s28 (a0.size:Int)) (need (nIn (bg a0 s28.toNat) ((256:Nat):Int)) (cond (iNe (aV.getD (bg a0 s28.toNat).toNat default) 0) (fr a0 K26 k29 (IntKind.i64.wrap (s28+1))) (K26 s28)))) (K26 s28)
def dT (a0:ByteArray) (K16:(Int×Int×(List ByteArray))→Option (List ByteArray)):Nat→(Int×Int×Int×(List ByteArray))→Option (List ByteArray)
  | 0,_=>none
  | k19+1,s18=>cond (iLt s18.2.2.1 (a0.size:Int)) (need (nIn s18.2.2.1 (a0.size:Int)) (need (nIn (bg a0 s18.2.2.1.toNat) ((256:Nat):Int)) (cond (iEq (aV.getD (bg a0 s18.2.2.1.toNat).toNat default) 0) (dT a0 K16 k19 (s18.1,s18.2.1,IntKind.i64.wrap (s18.2.2.1+1),s18.2.2.2)) (need (nSl s18.2.1 s18.2.2.1 (a0.size:Int)) (need (nIn s18.1 (s18.2.2.2.length:Int)) (gJ (fun s27:Int=>dT a0 K16 k19 (IntKind.i64.wrap (s18.1+1),s27,s27,s18.2.2.2.set s18.1.toNat (a0.extract s18.2.1.toNat s18.2.2.1.toNat))) fun K26=>fr a0 K26 fuel (IntKind.i64.wrap (s18.2.2.1+1)))))))) (K16 (s18.1,s18.2.1,s18.2.2.2))
def fK (a0:ByteArray):Nat→(Int×Int×Int×Int)→Option (List ByteArray)
  | 0,_=>none
  | k2+1,s1=>cond (iLt s1.2.2.2 (a0.size:Int)) (need (nIn s1.2.2.2 (a0.size:Int)) (need (nIn (bg a0 s1.2.2.2.toNat) ((256:Nat):Int)) (fK a0 k2 (IntKind.i64.wrap (s1.1+(Go.bits .and .i64 s1.2.1 (Go.bits .xor .i64 (cond IntKind.i64.signed (-1) IntKind.i64.max) (IntKind.i64.wrap (aV.getD (bg a0 s1.2.2.2.toNat).toNat default))))),IntKind.i64.wrap (aV.getD (bg a0 s1.2.2.2.toNat).toNat default),Go.bits .or .u8 s1.2.2.1 (bg a0 s1.2.2.2.toNat),IntKind.i64.wrap (s1.2.2.2+1))))) (cond (iLe 128 s1.2.2.1) (none) (need (nMk s1.1 16) (gJ (fun s9:Int=>gJ (fun s17:Int×Int×(List ByteArray)=>cond (iLt s17.2.1 (a0.size:Int)) (need (nTo s17.2.1 (a0.size:Int)) (need (nIn s17.1 (s17.2.2.length:Int)) (some (s17.2.2.set s17.1.toNat (a0.extract s17.2.1.toNat a0.size))))) (some s17.2.2)) fun K16=>dT a0 K16 fuel (0,s9,s9,List.replicate s1.1.toNat (ByteArray.empty:ByteArray))) fun K8=>fq a0 K8 fuel 0)))
def e9 (a0:ByteArray):Option (List ByteArray):=
  fK a0 fuel (0,1,0,0)
def mY (a0:Int):Option ByteArray:=
  (kF a0).bind fun (x1:Bool)=>cond (!x1) (some ByteArray.empty) ((e9 (⟨#[112,117,115,104,32,108,111,97,100,32,115,116,111,114,101,32,97,100,100,32,115,117,98,32,109,117,108,32,100,105,118,32,109,111,100,32,110,101,103,32,108,116,32,101,113,32,97,110,100,32,111,114,32,120,111,114,32,115,104,108,32,115,104,114,32,100,117,112,32,100,114,111,112,32,106,117,109,112,32,122,101,114,111,32,99,97,108,108,32,114,101,116,32,115,101,108,102,32,110,111,119,32,111,117,116,32,121,105,101,108,100,32,119,97,105,116,32,119,97,105,116,102,111,114,32,115,108,101,101,112,32,117,110,108,111,99,107,32,112,111,115,116,32,103,105,118,101,32,99,119,97,105,116,32,99,119,97,105,116,102,111,114,32,115,105,103,110,97,108,32,98,114,111,97,100,99,97,115,116,32,101,110,114,111,108,32,108,101,97,118,101,32,97,114,114,105,118,101,32,97,114,114,105,118,101,102,111,114,32,115,112,97,119,110,32,106,111,105,110,32,106,111,105,110,102,111,114,32,103,114,97,110,116,32,119,97,105,118,101,32,114,101,97,100,32,119,114,105,116,101,32,98,101,103,105,110,32,99,111,109,109,105,116,32,99,108,97,105,109,32,100,101,97,100,32,109,101,110,100]⟩:ByteArray)).bind fun (x3:List ByteArray)=>need (nIn a0 (x3.length:Int)) (some (x3.getD a0.toNat default)))
def kG (a0:Int):Option ByteArray:=
  (kF a0).bind fun (x1:Bool)=>cond (!x1) (some ByteArray.empty) ((e9 (⟨#[110,32,107,32,107,32,46,32,46,32,46,32,46,32,46,32,46,32,46,32,46,32,46,32,46,32,46,32,46,32,46,32,46,32,46,32,116,32,116,32,102,32,46,32,46,32,46,32,46,32,46,32,119,32,119,32,46,32,117,32,115,32,112,32,99,109,32,99,109,32,99,32,99,32,98,32,98,32,98,32,98,32,102,32,106,106,32,106,106,32,46,32,46,32,118,32,118,32,46,32,46,32,113,32,109,32,109]⟩:ByteArray)).bind fun (x3:List ByteArray)=>need (nIn a0 (x3.length:Int)) (cond (sEq (x3.getD a0.toNat default) (⟨#[46]⟩:ByteArray)) (some ByteArray.empty) (some (x3.getD a0.toNat default))))
def vu (a0:Int) (a1:Int):Option Bool:=
  cond (iEq a0 110) ((kb a1).bind fun (x2:Bool)=>some x2) (cond (iEq a0 107) (some ((iLe 0 a1)&&(iLt a1 8))) (cond (iEq a0 116) (some ((iLe 0 a1)&&(iLt a1 200))) (cond (iEq a0 102) (some ((iLe 0 a1)&&(iLt a1 16))) (cond (iEq a0 119) (some ((iLe 0 a1)&&(iLt a1 32))) (cond (iEq a0 106) (some ((iLe 1 a1)&&(iLe a1 4))) (some ((iLe 0 a1)&&(iLt a1 32))))))))
def cZ (a0:ar) (x3_2_1:ByteArray):Nat→Int→Option Int
  | 0,_=>none
  | k13+1,s12=>cond (iLt s12 ((((2:Nat):Int) - (x3_2_1.size:Int)).toNat:Int)) (need (nNn (x3_2_1.size:Int)) (need (nIn s12 ((((2:Nat):Int) - (x3_2_1.size:Int)).toNat:Int)) (need (nIn ((x3_2_1.size:Int)+s12) ((2:Nat):Int)) (cond (iNe (([a0.A,a0.B]:List Int).getD ((x3_2_1.size:Int)+s12).toNat default) 0) (some 2) (cZ a0 x3_2_1 k13 (IntKind.i64.wrap (s12+1))))))) (some 0)
def dw (a0:ar) (x3_2_1:ByteArray):Nat→Int→Option Int
  | 0,_=>none
  | k4+1,s3=>cond (iLt s3 (x3_2_1.size:Int)) (need (nIn s3 (x3_2_1.size:Int)) (need (nIn s3 ((2:Nat):Int)) ((vu (bg x3_2_1 s3.toNat) (([a0.A,a0.B]:List Int).getD s3.toNat default)).bind fun (x8:Bool)=>cond (!x8) (some 1) (dw a0 x3_2_1 k4 (IntKind.i64.wrap (s3+1)))))) (cond ((sEq x3_2_1 (⟨#[106,106]⟩:ByteArray))&&(iLt a0.B a0.A)) (some 1) (need (nSl (x3_2_1.size:Int) ((2:Nat):Int) ((2:Nat):Int)) (cZ a0 x3_2_1 fuel 0)))
def js (a0:ar):Option Int:=
  (mY a0.Op).bind fun (x1:ByteArray)=>cond (sEq x1 ByteArray.empty) (some 6) ((kG a0.Op).bind fun (x3_2_1:ByteArray)=>dw a0 x3_2_1 fuel 0)
def cO (a0:ax):Nat→Int→Option Int
  | 0,_=>none
  | k5+1,s4=>cond (iLt s4 (a0.Code.length:Int)) (need (nIn s4 (a0.Code.length:Int)) ((js (a0.Code.getD s4.toNat default)).bind fun (x8:Int)=>cond (iNe x8 0) (some x8) (cO a0 k5 (IntKind.i64.wrap (s4+1))))) (some 0)
def gM (a0:ax):Option Int:=
  cond (((iLt a0.Args 0)||(iLt a0.Locals a0.Args))||(iLt 8 a0.Locals)) (some 1) (cond (iEq (a0.Code.length:Int) 0) (some 2) (cond (iLt 200 (a0.Code.length:Int)) (some 4) (cO a0 fuel 0)))
def ee (a0:aa):Nat→Int→Option Int
  | 0,_=>none
  | k13+1,s12=>cond (iLt s12 (a0.Funcs.length:Int)) (need (nIn s12 (a0.Funcs.length:Int)) ((gM (a0.Funcs.getD s12.toNat default)).bind fun (x16:Int)=>cond (iNe x16 0) (some x16) (ee a0 k13 (IntKind.i64.wrap (s12+1))))) (some 0)
def eL (a0:aa):Nat→Int→Option Int
  | 0,_=>none
  | k5+1,s4=>cond (iLt s4 (a0.Waits.length:Int)) (need (nIn s4 (a0.Waits.length:Int)) ((ik a0.Decls (a0.Waits.getD s4.toNat default)).bind fun (x8:Int)=>cond (iNe x8 0) (some x8) (eL a0 k5 (IntKind.i64.wrap (s4+1))))) (cond (iEq (a0.Funcs.length:Int) 0) (some 2) (cond (iLt 16 (a0.Funcs.length:Int)) (some 4) (ee a0 fuel 0)))
def il (a0:aa):Option Int:=
  (ij a0.Decls).bind fun (x1:Int×Int)=>cond (iNe x1.2 0) (some x1.2) (cond (iLt 32 (a0.Waits.length:Int)) (some 4) (eL a0 fuel 0))
def fV (a0:aa) (a1:ax) (a2:ar) (a3:Int) (a4:Int):Option Int:=
  cond (iEq a3 110) (some 0) (cond (iEq a3 106) (some 0) (cond (iEq a3 107) (cond (!(iLt a4 a1.Locals)) (some 1) (some 0)) (cond (iEq a3 116) (cond (!(iLt a4 (a1.Code.length:Int))) (some 1) (some 0)) (cond (iEq a3 102) (need (!((iLt a4 (a0.Funcs.length:Int))&& !(iNe a2.Op 40))||nIn a4 (a0.Funcs.length:Int)) (cond (!((iLt a4 (a0.Funcs.length:Int))&&((iNe a2.Op 40)||(iEq ((a0.Funcs.getD a4.toNat default).Args) 1)))) (some 1) (some 0))) (cond (iEq a3 119) (cond (!(iLt a4 (a0.Waits.length:Int))) (some 1) (some 0)) ((fB a0.Decls a3 a4).bind fun (x12:Bool)=>cond (!x12) (some 6) (some 0)))))))
def bh (a0:aH) (a1:Int) (a2:Int):Option aH:=
  cond ((iEq a0.err 0)||(iLt a1 a0.at_)) (some (⟨a0.p,a0.code,a0.depth,a0.next,a1,a2⟩:aH)) (some a0)
def aW (a0:aH) (a1:Int) (a2:Int) (a3:Int):Option (Bool×aH):=
  cond (iLe (a0.code.length:Int) a2) ((bh a0 a1 3).bind fun (x2:aH)=>some (false,x2)) (need (nIn a2 (a0.depth.length:Int)) (cond (iLt (a0.depth.getD a2.toNat default) 0) (need (nIn a2 (a0.depth.length:Int)) (need (nIn a2 (a0.next.length:Int)) (some (true,(⟨a0.p,a0.code,a0.depth.set a2.toNat a3,a0.next.set a2.toNat true,a0.at_,a0.err⟩:aH))))) (need (nIn a2 (a0.depth.length:Int)) (cond (iNe (a0.depth.getD a2.toNat default) a3) ((bh a0 a1 2).bind fun (x9:aH)=>some (false,x9)) (some (true,a0))))))
def aY (a0:List Bool) (a1:Bool):Nat→Int→Option Int
  | 0,_=>none
  | k2+1,s1=>cond (iLt s1 (a0.length:Int)) (need (nIn s1 (a0.length:Int)) (cond (a1==(a0.getD s1.toNat default)) (some s1) (aY a0 a1 k2 (IntKind.i64.wrap (s1+1))))) (some (-1))
def cr (a0:List Bool) (a1:Bool):Option Int:=
  aY a0 a1 fuel 0
def bS (a0:aH):Option Int:=
  (cr a0.next true).bind fun (x1:Int)=>some x1
def jN (a0:Int):Option Int:=
  cond (iEq a0 2) (some 2) (cond (iEq a0 17) (some 2) (cond (iEq a0 19) (some 2) (cond (iEq a0 21) (some 2) (cond (iEq a0 18) (some 0) (cond (iEq a0 25) (some 0) (cond (iEq a0 16) (some 5) (cond (iEq a0 45) (some 6) (cond (iEq a0 40) (some 4) (cond (iEq a0 43) (some 4) (cond (iEq a0 8) (some 3) (cond (iEq a0 24) (some 3) (cond (iEq a0 27) (some 3) (cond (iEq a0 28) (some 3) (cond (iEq a0 30) (some 3) (cond (iEq a0 31) (some 3) (cond (iEq a0 33) (some 3) (cond (iEq a0 39) (some 3) (cond (iEq a0 44) (some 3) (cond (iEq a0 46) (some 3) (cond (iEq a0 49) (some 3) (cond ((iLe 3 a0)&&(iLe a0 15)) (some 4) ((kF a0).bind fun (x23:Bool)=>cond x23 (some 1) (some 0)))))))))))))))))))))))
def gh (a0:ar) (a1:Int):Option Int:=
  gJ (fun s2:Int=>some (IntKind.i64.wrap (s2+a0.B))) fun K1=>cond (iEq a0.Op 20) (some a1) (cond (iEq a0.Op 42) (K1 (IntKind.i64.wrap ((0:Int)+1))) (cond (iEq a0.Op 41) (K1 0) ((jN a0.Op).bind fun (x6:Int)=>gJ (fun s8:Int=>some (IntKind.i64.wrap (s8+1))) fun K7=>cond (iEq x6 4) (K7 (IntKind.i64.wrap ((0:Int)+1))) (cond (iEq x6 2) (K7 0) (cond (iEq x6 3) (K7 0) (cond (iEq x6 5) (K7 0) (some 0)))))))
def c8 (a0:Int):Option Int:=
  (jN a0).bind fun (x1:Int)=>cond (iEq x1 5) (some 2) (cond (iEq x1 6) (some 2) (cond (iEq x1 1) (some 1) (cond (iEq x1 3) (some 1) (cond (iEq x1 4) (some 1) (some 0)))))
def lz (a0:Int):Option Bool:=
  (kF a0).bind fun (x1:Bool)=>some ((x1&&(iNe a0 18))&&(iNe a0 21))
def cG (a0:aH) (a1:Int):Option aH:=
  need (nIn a1 (a0.code.length:Int)) (cond ((iEq ((a0.code.getD a1.toNat default).Op) 20)&&(iLt ((a0.code.getD a1.toNat default).A) (a0.p.Funcs.length:Int))) (need (nIn ((a0.code.getD a1.toNat default).A) (a0.p.Funcs.length:Int)) (need (nIn a1 (a0.depth.length:Int)) ((gh (a0.code.getD a1.toNat default) ((a0.p.Funcs.getD ((a0.code.getD a1.toNat default).A).toNat default).Args)).bind fun (x3_9_1:Int)=>cond (iLt (IntKind.i64.wrap ((a0.depth.getD a1.toNat default) - x3_9_1)) 0) ((bh a0 a1 2).bind fun (x5:aH)=>some x5) ((c8 ((a0.code.getD a1.toNat default).Op)).bind fun (x6:Int)=>cond (iLt 16 (IntKind.i64.wrap ((IntKind.i64.wrap ((a0.depth.getD a1.toNat default) - x3_9_1))+x6))) ((bh a0 a1 4).bind fun (x8:aH)=>some x8) ((lz ((a0.code.getD a1.toNat default).Op)).bind fun (x9:Bool)=>cond x9 ((aW a0 a1 (IntKind.i64.wrap (a1+1)) (IntKind.i64.wrap ((IntKind.i64.wrap ((a0.depth.getD a1.toNat default) - x3_9_1))+x6))).bind fun (x11:Bool×aH)=>cond (!x11.1) (some x11.2) (cond ((iEq ((a0.code.getD a1.toNat default).Op) 18)||(iEq ((a0.code.getD a1.toNat default).Op) 19)) ((aW x11.2 a1 ((a0.code.getD a1.toNat default).A) (IntKind.i64.wrap ((IntKind.i64.wrap ((a0.depth.getD a1.toNat default) - x3_9_1))+x6))).bind fun (x14:Bool×aH)=>some x14.2) (some x11.2))) (cond ((iEq ((a0.code.getD a1.toNat default).Op) 18)||(iEq ((a0.code.getD a1.toNat default).Op) 19)) ((aW a0 a1 ((a0.code.getD a1.toNat default).A) (IntKind.i64.wrap ((IntKind.i64.wrap ((a0.depth.getD a1.toNat default) - x3_9_1))+x6))).bind fun (x16:Bool×aH)=>some x16.2) (some a0))))))) (need (nIn a1 (a0.depth.length:Int)) ((gh (a0.code.getD a1.toNat default) 0).bind fun (x3_9_1:Int)=>cond (iLt (IntKind.i64.wrap ((a0.depth.getD a1.toNat default) - x3_9_1)) 0) ((bh a0 a1 2).bind fun (x18:aH)=>some x18) ((c8 ((a0.code.getD a1.toNat default).Op)).bind fun (x19:Int)=>cond (iLt 16 (IntKind.i64.wrap ((IntKind.i64.wrap ((a0.depth.getD a1.toNat default) - x3_9_1))+x19))) ((bh a0 a1 4).bind fun (x21:aH)=>some x21) ((lz ((a0.code.getD a1.toNat default).Op)).bind fun (x22:Bool)=>cond x22 ((aW a0 a1 (IntKind.i64.wrap (a1+1)) (IntKind.i64.wrap ((IntKind.i64.wrap ((a0.depth.getD a1.toNat default) - x3_9_1))+x19))).bind fun (x24:Bool×aH)=>cond (!x24.1) (some x24.2) (cond ((iEq ((a0.code.getD a1.toNat default).Op) 18)||(iEq ((a0.code.getD a1.toNat default).Op) 19)) ((aW x24.2 a1 ((a0.code.getD a1.toNat default).A) (IntKind.i64.wrap ((IntKind.i64.wrap ((a0.depth.getD a1.toNat default) - x3_9_1))+x19))).bind fun (x27:Bool×aH)=>some x27.2) (some x24.2))) (cond ((iEq ((a0.code.getD a1.toNat default).Op) 18)||(iEq ((a0.code.getD a1.toNat default).Op) 19)) ((aW a0 a1 ((a0.code.getD a1.toNat default).A) (IntKind.i64.wrap ((IntKind.i64.wrap ((a0.depth.getD a1.toNat default) - x3_9_1))+x19))).bind fun (x29:Bool×aH)=>some x29.2) (some a0)))))))
def ez:Nat→(Int×(List ai)×(List (List (List ah)))×(List ax)×(List ar)×Int×Int×(List Int)×(List Bool))→Option ((List Int)×Int×Int)
  | 0,_=>none
  | k13+1,s12=>cond (iLe 0 s12.1) (need (nIn s12.1 (s12.2.2.2.2.2.2.2.2.length:Int)) ((cG (⟨(⟨s12.2.1,s12.2.2.1,s12.2.2.2.1⟩:aa),s12.2.2.2.2.1,s12.2.2.2.2.2.2.2.1,s12.2.2.2.2.2.2.2.2.set s12.1.toNat false,s12.2.2.2.2.2.1,s12.2.2.2.2.2.2.1⟩:aH) s12.1).bind fun (x16:aH)=>(bS x16).bind fun (x17:Int)=>ez k13 (x17,x16.p.Decls,x16.p.Waits,x16.p.Funcs,x16.code,x16.at_,x16.err,x16.depth,x16.next))) (cond (iNe s12.2.2.2.2.2.2.1 0) (some ([],s12.2.2.2.2.2.1,s12.2.2.2.2.2.2.1)) (some (s12.2.2.2.2.2.2.2.1,0,0)))
def gi (a0:aa) (a1:Int):Nat→(Int×(List Int))→Option ((List Int)×Int×Int)
  | 0,_=>none
  | k5+1,s4=>cond (iLt s4.1 (((List.replicate (((a0.Funcs.getD a1.toNat default).Code).length:Int).toNat (0:Int)).map aG).length:Int)) (need (nIn s4.1 (s4.2.length:Int)) (gi a0 a1 k5 (IntKind.i64.wrap (s4.1+1),s4.2.set s4.1.toNat (-1)))) (cond (iEq (((a0.Funcs.getD a1.toNat default).Code).length:Int) 0) (some ([],0,3)) (need (nMk (((a0.Funcs.getD a1.toNat default).Code).length:Int) 1) ((aW (⟨a0,(a0.Funcs.getD a1.toNat default).Code,s4.2,List.replicate (((a0.Funcs.getD a1.toNat default).Code).length:Int).toNat (false:Bool),0,0⟩:aH) 0 0 0).bind fun (x10:Bool×aH)=>(bS x10.2).bind fun (x11:Int)=>ez fuel (x11,x10.2.p.Decls,x10.2.p.Waits,x10.2.p.Funcs,x10.2.code,x10.2.at_,x10.2.err,x10.2.depth,x10.2.next))))
def nU (a0:aa) (a1:Int):Option ((List Int)×Int×Int):=
  cond ((iLt a1 0)||(iLe (a0.Funcs.length:Int) a1)) (some ([],0,19)) (need (nIn a1 (a0.Funcs.length:Int)) (need (nMk (((a0.Funcs.getD a1.toNat default).Code).length:Int) 8) (gi a0 a1 fuel (0,List.replicate (((a0.Funcs.getD a1.toNat default).Code).length:Int).toNat (0:Int)))))
def cz (a0:aa) (a1:Int) (s2:Int) (K5:Unit→Option (Int×Int)) (x8:ByteArray):Nat→Int→Option (Int×Int)
  | 0,_=>none
  | k10+1,s9=>cond (iLt s9 ((jK x8).length:Int)) (need (nIn s9 ((jK x8).length:Int)) (need (nIn s9 ((2:Nat):Int)) ((fV a0 (a0.Funcs.getD a1.toNat default) (((a0.Funcs.getD a1.toNat default).Code).getD s2.toNat default) ((jK x8).getD s9.toNat default) (([(((a0.Funcs.getD a1.toNat default).Code).getD s2.toNat default).A,(((a0.Funcs.getD a1.toNat default).Code).getD s2.toNat default).B]:List Int).getD s9.toNat default)).bind fun (x14:Int)=>cond (iNe x14 0) (some (s2,x14)) (cz a0 a1 s2 K5 x8 k10 (IntKind.i64.wrap (s9+1)))))) (K5 Unit.unit)
def cH (a0:aa) (a1:Int):Nat→Int→Option (Int×Int)
  | 0,_=>none
  | k3+1,s2=>cond (iLt s2 (((a0.Funcs.getD a1.toNat default).Code).length:Int)) (gJ (fun s6:Unit=>cH a0 a1 k3 (IntKind.i64.wrap (s2+1))) fun K5=>need (nIn s2 (((a0.Funcs.getD a1.toNat default).Code).length:Int)) ((kG ((((a0.Funcs.getD a1.toNat default).Code).getD s2.toNat default).Op)).bind fun (x8:ByteArray)=>cz a0 a1 s2 K5 x8 fuel 0)) ((nU a0 a1).bind fun (x16:(List Int)×Int×Int)=>some (x16.2.1,x16.2.2))
def gN (a0:aa) (a1:Int):Option (Int×Int):=
  need (nIn a1 (a0.Funcs.length:Int)) (cH a0 a1 fuel 0)
def cX (a0:aa):Nat→Int→Option (cY×Int)
  | 0,_=>none
  | k6+1,s5=>cond (iLt s5 (a0.Funcs.length:Int)) ((gN a0 s5).bind fun (x8:Int×Int)=>cond (iNe x8.2 0) (some ((⟨s5,x8.1⟩:cY),x8.2)) (cX a0 k6 (IntKind.i64.wrap (s5+1)))) (some ((⟨0,0⟩:cY),0))
def ef (a0:aa):Option (cY×Int):=
  (il a0).bind fun (x1:Int)=>cond (iNe x1 0) (some ((⟨0,0⟩:cY),x1)) (need (nIn (0:Int) (a0.Funcs.length:Int)) (cond (iLt 0 ((a0.Funcs.getD (0:Int).toNat default).Args)) (some ((⟨0,0⟩:cY),1)) (cX a0 fuel 0)))
def dE (a0:aq):Nat→Int→Option Int
  | 0,_=>none
  | k7+1,s6=>cond (iLt s6 (a0.Events.length:Int)) (need (nIn s6 (a0.Events.length:Int)) (cond ((iNe ((a0.Events.getD s6.toNat default).Kind) 1)&&(iNe ((a0.Events.getD s6.toNat default).Kind) 2)) (some 6) (cond ((iEq ((a0.Events.getD s6.toNat default).Kind) 2)&&(iNe ((a0.Events.getD s6.toNat default).B) 0)) (some 2) (dE a0 k7 (IntKind.i64.wrap (s6+1)))))) (some 0)
def dU (a0:aq):Option Int:=
  (fJ a0.Config).bind fun (x1:Int)=>cond (iNe x1 0) (some x1) ((ef a0.Program).bind fun (x3:cY×Int)=>cond (iNe x3.2 0) (some x3.2) (cond (iLt 4000 (a0.Events.length:Int)) (some 4) (dE a0 fuel 0)))
def dR (K1:(Int×ByteArray)→Option aD):Nat→(Int×ByteArray)→Option aD
  | 0,_=>none
  | k4+1,s3=>cond (iLt 127 s3.1) (need (nCap (s3.2.size+1)) (need (nIn (Go.bits .or .u8 (IntKind.u8.wrap s3.1) 128) 256) (dR K1 k4 (s3.1 /2 ^min (7:Int).toNat IntKind.u64.bits,s3.2.push (UInt8.ofNat (Go.bits .or .u8 (IntKind.u8.wrap s3.1) 128).toNat))))) (K1 (s3.1,s3.2))
def bj (a0:aD) (a1:Int):Option aD:=
  gJ (fun s2:Int×ByteArray=>need (nCap (s2.2.size+1)) (need (nIn (IntKind.u8.wrap s2.1) 256) (some (⟨s2.2.push (UInt8.ofNat (IntKind.u8.wrap s2.1).toNat)⟩:aD)))) fun K1=>dR K1 fuel (a1,a0.b)
def ct (a0:aD) (a1:Int):Option aD:=
  need (nCap (a0.b.size+1)) (need (nIn (IntKind.u8.wrap a1) 256) (some (⟨a0.b.push (UInt8.ofNat (IntKind.u8.wrap a1).toNat)⟩:aD)))
def dm (a0:aD) (a1:Int):Option aD:=
  (bj a0 (Go.bits .xor .u64 (IntKind.u64.wrap ((IntKind.u64.wrap a1)*2 ^min (1:Int).toNat IntKind.u64.bits)) (IntKind.u64.wrap (a1 /2 ^min (63:Int).toNat IntKind.i64.bits)))).bind fun (x1:aD)=>some x1
def cE (a0:aD):Option ByteArray:=
  some a0.b
def dF (a0:List ai):Nat→(Int×ByteArray)→Option (ByteArray×Int)
  | 0,_=>none
  | k5+1,s4=>cond (iLt s4.1 (a0.length:Int)) (need (nIn s4.1 (a0.length:Int)) ((ct (⟨s4.2⟩:aD) ((a0.getD s4.1.toNat default).Kind)).bind fun (x8:aD)=>cond (iEq ((a0.getD s4.1.toNat default).Kind) 3) ((bj x8 (IntKind.u64.wrap ((a0.getD s4.1.toNat default).A))).bind fun (x10:aD)=>(bj x10 (IntKind.u64.wrap ((a0.getD s4.1.toNat default).B))).bind fun (x11:aD)=>dF a0 k5 (IntKind.i64.wrap (s4.1+1),x11.b)) (cond (iEq ((a0.getD s4.1.toNat default).Kind) 6) ((bj x8 (IntKind.u64.wrap ((a0.getD s4.1.toNat default).A))).bind fun (x13:aD)=>dF a0 k5 (IntKind.i64.wrap (s4.1+1),x13.b)) (cond (iEq ((a0.getD s4.1.toNat default).Kind) 7) ((dm x8 ((a0.getD s4.1.toNat default).A)).bind fun (x15:aD)=>(bj x15 (IntKind.u64.wrap ((a0.getD s4.1.toNat default).B))).bind fun (x16:aD)=>dF a0 k5 (IntKind.i64.wrap (s4.1+1),x16.b)) (dF a0 k5 (IntKind.i64.wrap (s4.1+1),x8.b)))))) ((cE (⟨s4.2⟩:aD)).bind fun (x17:ByteArray)=>some (x17,0))
def nV (a0:List ai):Option (ByteArray×Int):=
  (ij a0).bind fun (x1:Int×Int)=>cond (iNe x1.2 0) (some (ByteArray.empty,x1.2)) ((bj (⟨ByteArray.empty⟩:aD) (IntKind.u64.wrap (a0.length:Int))).bind fun (x3:aD)=>dF a0 fuel (0,x3.b))
def i7 (a0:Int):Option ByteArray:=
  (bj (⟨ByteArray.empty⟩:aD) (IntKind.u64.wrap a0)).bind fun (x1:aD)=>(cE x1).bind fun (x2:ByteArray)=>some x2
def cu (a0:aJ):Option aJ:=
  cond (!a0.addr) (some (⟨true,a0.buf⟩:aJ)) (cond (!a0.addr) (none) (some a0))
def bc (a0:aJ) (a1:ByteArray):Option (Int×Unit×aJ):=
  (cu a0).bind fun (x1:aJ)=>need (nCap (x1.buf.size+a1.size)) (some ((a1.size:Int),(),(⟨x1.addr,x1.buf++a1⟩:aJ)))
def dV (a1:List (List ah)) (s4:Int×ByteArray) (K7:ByteArray→Option (ByteArray×Int)):Nat→(Int×ByteArray)→Option (ByteArray×Int)
  | 0,_=>none
  | k12+1,s11=>cond (iLt s11.1 ((a1.getD s4.1.toNat default).length:Int)) (need (nIn s11.1 ((a1.getD s4.1.toNat default).length:Int)) ((ct (⟨s11.2⟩:aD) (((a1.getD s4.1.toNat default).getD s11.1.toNat default).Kind)).bind fun (x15:aD)=>(bj x15 (IntKind.u64.wrap (((a1.getD s4.1.toNat default).getD s11.1.toNat default).Obj))).bind fun (x16:aD)=>(bt (((a1.getD s4.1.toNat default).getD s11.1.toNat default).Kind)).bind fun (x17:Bool)=>cond x17 ((bj x16 (IntKind.u64.wrap (((a1.getD s4.1.toNat default).getD s11.1.toNat default).N))).bind fun (x19:aD)=>dV a1 s4 K7 k12 (IntKind.i64.wrap (s11.1+1),x19.b)) (dV a1 s4 K7 k12 (IntKind.i64.wrap (s11.1+1),x16.b)))) (K7 s11.2)
def fC (a1:List (List ah)):Nat→(Int×ByteArray)→Option (ByteArray×Int)
  | 0,_=>none
  | k5+1,s4=>cond (iLt s4.1 (a1.length:Int)) (gJ (fun s8:ByteArray=>fC a1 k5 (IntKind.i64.wrap (s4.1+1),s8)) fun K7=>need (nIn s4.1 (a1.length:Int)) ((bj (⟨s4.2⟩:aD) (IntKind.u64.wrap ((a1.getD s4.1.toNat default).length:Int))).bind fun (x10:aD)=>dV a1 s4 K7 fuel (0,x10.b))) ((cE (⟨s4.2⟩:aD)).bind fun (x20:ByteArray)=>some (x20,0))
def nW (a0:List ai) (a1:List (List ah)):Option (ByteArray×Int):=
  (ik a0 a1).bind fun (x1:Int)=>cond (iNe x1 0) (some (ByteArray.empty,x1)) ((bj (⟨ByteArray.empty⟩:aD) (IntKind.u64.wrap (a1.length:Int))).bind fun (x3:aD)=>fC a1 fuel (0,x3.b))
def fc (a0:ar) (x4_4_1:ByteArray):Nat→(Int×ByteArray)→Option (ByteArray×Int)
  | 0,_=>none
  | k5+1,s4=>cond (iLt s4.1 (x4_4_1.size:Int)) (need (nIn s4.1 (x4_4_1.size:Int)) (cond (iEq (bg x4_4_1 s4.1.toNat) 110) (need (nIn s4.1 ((2:Nat):Int)) ((dm (⟨s4.2⟩:aD) (([a0.A,a0.B]:List Int).getD s4.1.toNat default)).bind fun (x10:aD)=>fc a0 x4_4_1 k5 (IntKind.i64.wrap (s4.1+1),x10.b))) (need (nIn s4.1 ((2:Nat):Int)) ((bj (⟨s4.2⟩:aD) (IntKind.u64.wrap (([a0.A,a0.B]:List Int).getD s4.1.toNat default))).bind fun (x12:aD)=>fc a0 x4_4_1 k5 (IntKind.i64.wrap (s4.1+1),x12.b))))) ((cE (⟨s4.2⟩:aD)).bind fun (x13:ByteArray)=>some (x13,0))
def qU (a0:ar):Option (ByteArray×Int):=
  (js a0).bind fun (x1:Int)=>cond (iNe x1 0) (some (ByteArray.empty,x1)) ((kG a0.Op).bind fun (x4_4_1:ByteArray)=>(ct (⟨ByteArray.empty⟩:aD) a0.Op).bind fun (x3:aD)=>fc a0 x4_4_1 fuel (0,x3.b))
def cS (a0:aJ):Option ByteArray:=
  some a0.buf
def fD (a0:aa) (s16:Int×Bool×ByteArray) (K19:(Bool×ByteArray)→Option (ByteArray×Int)):Nat→(Int×Bool×ByteArray)→Option (ByteArray×Int)
  | 0,_=>none
  | k29+1,s28=>cond (iLt s28.1 (((a0.Funcs.getD s16.1.toNat default).Code).length:Int)) (need (nIn s28.1 (((a0.Funcs.getD s16.1.toNat default).Code).length:Int)) ((qU (((a0.Funcs.getD s16.1.toNat default).Code).getD s28.1.toNat default)).bind fun (x32:ByteArray×Int)=>(bc (⟨s28.2.1,s28.2.2⟩:aJ) x32.1).bind fun (x33:Int×Unit×aJ)=>fD a0 s16 K19 k29 (IntKind.i64.wrap (s28.1+1),x33.2.2.addr,x33.2.2.buf))) (K19 (s28.2.1,s28.2.2))
def dx (a0:aa):Nat→(Int×Bool×ByteArray)→Option (ByteArray×Int)
  | 0,_=>none
  | k17+1,s16=>cond (iLt s16.1 (a0.Funcs.length:Int)) (gJ (fun s20:Bool×ByteArray=>dx a0 k17 (IntKind.i64.wrap (s16.1+1),s20.1,s20.2)) fun K19=>need (nIn s16.1 (a0.Funcs.length:Int)) ((i7 ((a0.Funcs.getD s16.1.toNat default).Args)).bind fun (x22:ByteArray)=>(i7 ((a0.Funcs.getD s16.1.toNat default).Locals)).bind fun (x23:ByteArray)=>need (nStr (x22.size+x23.size)) ((i7 (((a0.Funcs.getD s16.1.toNat default).Code).length:Int)).bind fun (x25:ByteArray)=>need (nStr ((x22++x23).size+x25.size)) ((bc (⟨s16.2.1,s16.2.2⟩:aJ) ((x22++x23)++x25)).bind fun (x27:Int×Unit×aJ)=>fD a0 s16 K19 fuel (0,x27.2.2.addr,x27.2.2.buf))))) ((cS (⟨s16.2.1,s16.2.2⟩:aJ)).bind fun (x34:ByteArray)=>some (x34,0))
def eN (a0:aa):Nat→(Int×Bool×ByteArray)→Option (ByteArray×Int)
  | 0,_=>none
  | k9+1,s8=>cond (iLt s8.1 (a0.Waits.length:Int)) (need (nIn s8.1 (a0.Waits.length:Int)) ((nW a0.Decls (a0.Waits.getD s8.1.toNat default)).bind fun (x12:ByteArray×Int)=>(bc (⟨s8.2.1,s8.2.2⟩:aJ) x12.1).bind fun (x13:Int×Unit×aJ)=>eN a0 k9 (IntKind.i64.wrap (s8.1+1),x13.2.2.addr,x13.2.2.buf))) ((i7 (a0.Funcs.length:Int)).bind fun (x14:ByteArray)=>(bc (⟨s8.2.1,s8.2.2⟩:aJ) x14).bind fun (x15:Int×Unit×aJ)=>dx a0 fuel (0,x15.2.2.addr,x15.2.2.buf))
def nX (a0:aa):Option (ByteArray×Int):=
  (il a0).bind fun (x1:Int)=>cond (iNe x1 0) (some (ByteArray.empty,x1)) ((nV a0.Decls).bind fun (x3:ByteArray×Int)=>need (nStr ((⟨#[76,74,1]⟩:ByteArray).size+x3.1.size)) ((i7 (a0.Waits.length:Int)).bind fun (x5:ByteArray)=>need (nStr (((⟨#[76,74,1]⟩:ByteArray)++x3.1).size+x5.size)) ((bc (⟨false,ByteArray.empty⟩:aJ) (((⟨#[76,74,1]⟩:ByteArray)++x3.1)++x5)).bind fun (x7:Int×Unit×aJ)=>eN a0 fuel (0,x7.2.2.addr,x7.2.2.buf))))
def fe (a0:aD) (a1:ByteArray):Option aD:=
  (bj a0 (IntKind.u64.wrap (a1.size:Int))).bind fun (x1:aD)=>need (nCap (x1.b.size+a1.size)) (some (⟨x1.b++a1⟩:aD))
def dy (a0:aq):Nat→(Int×ByteArray)→Option (ByteArray×Int)
  | 0,_=>none
  | k14+1,s13=>cond (iLt s13.1 (a0.Events.length:Int)) (need (nIn s13.1 (a0.Events.length:Int)) ((ct (⟨s13.2⟩:aD) ((a0.Events.getD s13.1.toNat default).Kind)).bind fun (x17:aD)=>(dm x17 ((a0.Events.getD s13.1.toNat default).A)).bind fun (x18:aD)=>cond (iEq ((a0.Events.getD s13.1.toNat default).Kind) 1) ((dm x18 ((a0.Events.getD s13.1.toNat default).B)).bind fun (x20:aD)=>dy a0 k14 (IntKind.i64.wrap (s13.1+1),x20.b)) (dy a0 k14 (IntKind.i64.wrap (s13.1+1),x18.b)))) ((cE (⟨s13.2⟩:aD)).bind fun (x21:ByteArray)=>need (nStr ((⟨#[76,83,1]⟩:ByteArray).size+x21.size)) (some ((⟨#[76,83,1]⟩:ByteArray)++x21,0)))
def eO (a0:aq):Nat→(Int×ByteArray)→Option (ByteArray×Int)
  | 0,_=>none
  | k5+1,s4=>cond (iLt s4.1 (([a0.Config.Mode,a0.Config.Workers,a0.Config.Quantum,a0.Config.Policy]:List Int).length:Int)) (need (nIn s4.1 (([a0.Config.Mode,a0.Config.Workers,a0.Config.Quantum,a0.Config.Policy]:List Int).length:Int)) ((bj (⟨s4.2⟩:aD) (IntKind.u64.wrap (([a0.Config.Mode,a0.Config.Workers,a0.Config.Quantum,a0.Config.Policy]:List Int).getD s4.1.toNat default))).bind fun (x8:aD)=>eO a0 k5 (IntKind.i64.wrap (s4.1+1),x8.b))) ((nX a0.Program).bind fun (x9:ByteArray×Int)=>cond (iNe x9.2 0) (some (ByteArray.empty,x9.2)) ((fe (⟨s4.2⟩:aD) x9.1).bind fun (x11:aD)=>(bj x11 (IntKind.u64.wrap (a0.Events.length:Int))).bind fun (x12:aD)=>dy a0 fuel (0,x12.b)))
def ff (a0:aq):Option (ByteArray×Int):=
  (dU a0).bind fun (x1:Int)=>cond (iNe x1 0) (some (ByteArray.empty,x1)) (eO a0 fuel (0,ByteArray.empty))
def gv:Nat→(Int×ByteArray)→Option ByteArray
  | 0,_=>none
  | k2+1,s1=>cond (iLe 128 s1.1) (need (nIn (IntKind.u8.wrap (IntKind.u64.wrap ((Int.tmod s1.1 128)+128))) 256) (need (nStr (s1.2.size+(ByteArray.empty.push (UInt8.ofNat (IntKind.u8.wrap (IntKind.u64.wrap ((Int.tmod s1.1 128)+128))).toNat)).size)) (gv k2 (IntKind.u64.wrap (Int.tdiv s1.1 128),s1.2++(ByteArray.empty.push (UInt8.ofNat (IntKind.u8.wrap (IntKind.u64.wrap ((Int.tmod s1.1 128)+128))).toNat)))))) (need (nIn (IntKind.u8.wrap s1.1) 256) (need (nStr (s1.2.size+(ByteArray.empty.push (UInt8.ofNat (IntKind.u8.wrap s1.1).toNat)).size)) (some (s1.2++(ByteArray.empty.push (UInt8.ofNat (IntKind.u8.wrap s1.1).toNat))))))
def bJ (a0:Int):Option ByteArray:=
  gv fuel (a0,ByteArray.empty)
def gO (a0:Int):Option ByteArray:=
  cond (iLe 0 a0) ((bJ (IntKind.u64.wrap ((2:Int)*(IntKind.u64.wrap a0)))).bind fun (x2:ByteArray)=>some x2) ((bJ (IntKind.u64.wrap ((IntKind.u64.wrap ((2:Int)*(IntKind.u64.wrap (IntKind.i64.wrap (0 - (IntKind.i64.wrap (a0+1)))))))+1))).bind fun (x3:ByteArray)=>some x3)
def eA (a0:List ai):Nat→(ByteArray×Int)→Option ByteArray
  | 0,_=>none
  | k3+1,s2=>cond (iLt s2.2 (a0.length:Int)) (gJ (fun s6:ByteArray=>eA a0 k3 (s6,IntKind.i64.wrap (s2.2+1))) fun K5=>need (nIn s2.2 (a0.length:Int)) (need (nIn (IntKind.u8.wrap ((a0.getD s2.2.toNat default).Kind)) 256) (need (nStr (s2.1.size+(ByteArray.empty.push (UInt8.ofNat (IntKind.u8.wrap ((a0.getD s2.2.toNat default).Kind)).toNat)).size)) (cond ((iEq ((a0.getD s2.2.toNat default).Kind) 3)||(iEq ((a0.getD s2.2.toNat default).Kind) 6)) ((bJ (IntKind.u64.wrap ((a0.getD s2.2.toNat default).A))).bind fun (x11:ByteArray)=>need (nStr ((s2.1++(ByteArray.empty.push (UInt8.ofNat (IntKind.u8.wrap ((a0.getD s2.2.toNat default).Kind)).toNat))).size+x11.size)) (cond (iEq ((a0.getD s2.2.toNat default).Kind) 7) ((gO ((a0.getD s2.2.toNat default).A)).bind fun (x14:ByteArray)=>need (nStr (((s2.1++(ByteArray.empty.push (UInt8.ofNat (IntKind.u8.wrap ((a0.getD s2.2.toNat default).Kind)).toNat)))++x11).size+x14.size)) (cond ((iEq ((a0.getD s2.2.toNat default).Kind) 3)||(iEq ((a0.getD s2.2.toNat default).Kind) 7)) ((bJ (IntKind.u64.wrap ((a0.getD s2.2.toNat default).B))).bind fun (x17:ByteArray)=>need (nStr ((((s2.1++(ByteArray.empty.push (UInt8.ofNat (IntKind.u8.wrap ((a0.getD s2.2.toNat default).Kind)).toNat)))++x11)++x14).size+x17.size)) (K5 ((((s2.1++(ByteArray.empty.push (UInt8.ofNat (IntKind.u8.wrap ((a0.getD s2.2.toNat default).Kind)).toNat)))++x11)++x14)++x17))) (K5 (((s2.1++(ByteArray.empty.push (UInt8.ofNat (IntKind.u8.wrap ((a0.getD s2.2.toNat default).Kind)).toNat)))++x11)++x14)))) (cond ((iEq ((a0.getD s2.2.toNat default).Kind) 3)||(iEq ((a0.getD s2.2.toNat default).Kind) 7)) ((bJ (IntKind.u64.wrap ((a0.getD s2.2.toNat default).B))).bind fun (x20:ByteArray)=>need (nStr (((s2.1++(ByteArray.empty.push (UInt8.ofNat (IntKind.u8.wrap ((a0.getD s2.2.toNat default).Kind)).toNat)))++x11).size+x20.size)) (K5 (((s2.1++(ByteArray.empty.push (UInt8.ofNat (IntKind.u8.wrap ((a0.getD s2.2.toNat default).Kind)).toNat)))++x11)++x20))) (K5 ((s2.1++(ByteArray.empty.push (UInt8.ofNat (IntKind.u8.wrap ((a0.getD s2.2.toNat default).Kind)).toNat)))++x11))))) (cond (iEq ((a0.getD s2.2.toNat default).Kind) 7) ((gO ((a0.getD s2.2.toNat default).A)).bind fun (x23:ByteArray)=>need (nStr ((s2.1++(ByteArray.empty.push (UInt8.ofNat (IntKind.u8.wrap ((a0.getD s2.2.toNat default).Kind)).toNat))).size+x23.size)) (cond ((iEq ((a0.getD s2.2.toNat default).Kind) 3)||(iEq ((a0.getD s2.2.toNat default).Kind) 7)) ((bJ (IntKind.u64.wrap ((a0.getD s2.2.toNat default).B))).bind fun (x26:ByteArray)=>need (nStr (((s2.1++(ByteArray.empty.push (UInt8.ofNat (IntKind.u8.wrap ((a0.getD s2.2.toNat default).Kind)).toNat)))++x23).size+x26.size)) (K5 (((s2.1++(ByteArray.empty.push (UInt8.ofNat (IntKind.u8.wrap ((a0.getD s2.2.toNat default).Kind)).toNat)))++x23)++x26))) (K5 ((s2.1++(ByteArray.empty.push (UInt8.ofNat (IntKind.u8.wrap ((a0.getD s2.2.toNat default).Kind)).toNat)))++x23)))) (cond ((iEq ((a0.getD s2.2.toNat default).Kind) 3)||(iEq ((a0.getD s2.2.toNat default).Kind) 7)) ((bJ (IntKind.u64.wrap ((a0.getD s2.2.toNat default).B))).bind fun (x29:ByteArray)=>need (nStr ((s2.1++(ByteArray.empty.push (UInt8.ofNat (IntKind.u8.wrap ((a0.getD s2.2.toNat default).Kind)).toNat))).size+x29.size)) (K5 ((s2.1++(ByteArray.empty.push (UInt8.ofNat (IntKind.u8.wrap ((a0.getD s2.2.toNat default).Kind)).toNat)))++x29))) (K5 (s2.1++(ByteArray.empty.push (UInt8.ofNat (IntKind.u8.wrap ((a0.getD s2.2.toNat default).Kind)).toNat)))))))))) (some s2.1)
def lA (a0:List ai):Option ByteArray:=
  (bJ (IntKind.u64.wrap (a0.length:Int))).bind fun (x1:ByteArray)=>eA a0 fuel (x1,0)
def dp (a0:List (List ah)) (s2:ByteArray×Int) (K5:ByteArray→Option ByteArray):Nat→(ByteArray×Int)→Option ByteArray
  | 0,_=>none
  | k11+1,s10=>need (nIn s2.2 (a0.length:Int)) (cond (iLt s10.2 ((a0.getD s2.2.toNat default).length:Int)) (need (nIn s2.2 (a0.length:Int)) (need (nIn s10.2 ((a0.getD s2.2.toNat default).length:Int)) (need (nIn (IntKind.u8.wrap (((a0.getD s2.2.toNat default).getD s10.2.toNat default).Kind)) 256) (need (nStr (s10.1.size+(ByteArray.empty.push (UInt8.ofNat (IntKind.u8.wrap (((a0.getD s2.2.toNat default).getD s10.2.toNat default).Kind)).toNat)).size)) ((bJ (IntKind.u64.wrap (((a0.getD s2.2.toNat default).getD s10.2.toNat default).Obj))).bind fun (x10_10_1:ByteArray)=>need (nStr ((s10.1++(ByteArray.empty.push (UInt8.ofNat (IntKind.u8.wrap (((a0.getD s2.2.toNat default).getD s10.2.toNat default).Kind)).toNat))).size+x10_10_1.size)) (cond (iLt 3 (((a0.getD s2.2.toNat default).getD s10.2.toNat default).Kind)) ((bJ (IntKind.u64.wrap (((a0.getD s2.2.toNat default).getD s10.2.toNat default).N))).bind fun (x17:ByteArray)=>need (nStr (((s10.1++(ByteArray.empty.push (UInt8.ofNat (IntKind.u8.wrap (((a0.getD s2.2.toNat default).getD s10.2.toNat default).Kind)).toNat)))++x10_10_1).size+x17.size)) (dp a0 s2 K5 k11 (((s10.1++(ByteArray.empty.push (UInt8.ofNat (IntKind.u8.wrap (((a0.getD s2.2.toNat default).getD s10.2.toNat default).Kind)).toNat)))++x10_10_1)++x17,IntKind.i64.wrap (s10.2+1)))) (dp a0 s2 K5 k11 ((s10.1++(ByteArray.empty.push (UInt8.ofNat (IntKind.u8.wrap (((a0.getD s2.2.toNat default).getD s10.2.toNat default).Kind)).toNat)))++x10_10_1,IntKind.i64.wrap (s10.2+1))))))))) (K5 s10.1))
def eB (a0:List (List ah)):Nat→(ByteArray×Int)→Option ByteArray
  | 0,_=>none
  | k3+1,s2=>cond (iLt s2.2 (a0.length:Int)) (gJ (fun s6:ByteArray=>eB a0 k3 (s6,IntKind.i64.wrap (s2.2+1))) fun K5=>need (nIn s2.2 (a0.length:Int)) ((bJ (IntKind.u64.wrap ((a0.getD s2.2.toNat default).length:Int))).bind fun (x8:ByteArray)=>need (nStr (s2.1.size+x8.size)) (dp a0 s2 K5 fuel (s2.1++x8,0)))) (some s2.1)
def lB (a0:List (List ah)):Option ByteArray:=
  (bJ (IntKind.u64.wrap (a0.length:Int))).bind fun (x1:ByteArray)=>eB a0 fuel (x1,0)
def dz (a0:ar) (x1_2_1:ByteArray):Nat→(ByteArray×Int)→Option ByteArray
  | 0,_=>none
  | k3+1,s2=>cond (iLt s2.2 (x1_2_1.size:Int)) (need (nIn s2.2 (x1_2_1.size:Int)) (cond (iEq (bg x1_2_1 s2.2.toNat) 110) (need (nIn s2.2 (([a0.A,a0.B]:List Int).length:Int)) ((gO (([a0.A,a0.B]:List Int).getD s2.2.toNat default)).bind fun (x8:ByteArray)=>need (nStr (s2.1.size+x8.size)) (dz a0 x1_2_1 k3 (s2.1++x8,IntKind.i64.wrap (s2.2+1))))) (need (nIn s2.2 (([a0.A,a0.B]:List Int).length:Int)) ((bJ (IntKind.u64.wrap (([a0.A,a0.B]:List Int).getD s2.2.toNat default))).bind fun (x11:ByteArray)=>need (nStr (s2.1.size+x11.size)) (dz a0 x1_2_1 k3 (s2.1++x11,IntKind.i64.wrap (s2.2+1))))))) (some s2.1)
def lC (a0:ar):Option ByteArray:=
  (gu a0.Op).bind fun (x1_2_1:ByteArray)=>need (nIn (IntKind.u8.wrap a0.Op) 256) (dz a0 x1_2_1 fuel (ByteArray.empty.push (UInt8.ofNat (IntKind.u8.wrap a0.Op).toNat),0))
def eP (a0:aa) (s13:ByteArray×Int) (K16:ByteArray→Option ByteArray):Nat→(ByteArray×Int)→Option ByteArray
  | 0,_=>none
  | k26+1,s25=>cond (iLt s25.2 (((a0.Funcs.getD s13.2.toNat default).Code).length:Int)) (need (nIn s25.2 (((a0.Funcs.getD s13.2.toNat default).Code).length:Int)) ((lC (((a0.Funcs.getD s13.2.toNat default).Code).getD s25.2.toNat default)).bind fun (x29:ByteArray)=>need (nStr (s25.1.size+x29.size)) (eP a0 s13 K16 k26 (s25.1++x29,IntKind.i64.wrap (s25.2+1))))) (K16 s25.1)
def dW (a0:aa):Nat→(ByteArray×Int)→Option ByteArray
  | 0,_=>none
  | k14+1,s13=>cond (iLt s13.2 (a0.Funcs.length:Int)) (gJ (fun s17:ByteArray=>dW a0 k14 (s17,IntKind.i64.wrap (s13.2+1))) fun K16=>need (nIn s13.2 (a0.Funcs.length:Int)) ((bJ (IntKind.u64.wrap ((a0.Funcs.getD s13.2.toNat default).Args))).bind fun (x19:ByteArray)=>need (nStr (s13.1.size+x19.size)) ((bJ (IntKind.u64.wrap ((a0.Funcs.getD s13.2.toNat default).Locals))).bind fun (x21:ByteArray)=>need (nStr ((s13.1++x19).size+x21.size)) ((bJ (IntKind.u64.wrap (((a0.Funcs.getD s13.2.toNat default).Code).length:Int))).bind fun (x23:ByteArray)=>need (nStr (((s13.1++x19)++x21).size+x23.size)) (eP a0 s13 K16 fuel (((s13.1++x19)++x21)++x23,0)))))) (some s13.1)
def fE (a0:aa):Nat→(ByteArray×Int)→Option ByteArray
  | 0,_=>none
  | k6+1,s5=>cond (iLt s5.2 (a0.Waits.length:Int)) (need (nIn s5.2 (a0.Waits.length:Int)) ((lB (a0.Waits.getD s5.2.toNat default)).bind fun (x9:ByteArray)=>need (nStr (s5.1.size+x9.size)) (fE a0 k6 (s5.1++x9,IntKind.i64.wrap (s5.2+1))))) ((bJ (IntKind.u64.wrap (a0.Funcs.length:Int))).bind fun (x11:ByteArray)=>need (nStr (s5.1.size+x11.size)) (dW a0 fuel (s5.1++x11,0)))
def lD (a0:aa):Option ByteArray:=
  (lA a0.Decls).bind fun (x1:ByteArray)=>need (nStr ((⟨#[76,74,1]⟩:ByteArray).size+x1.size)) ((bJ (IntKind.u64.wrap (a0.Waits.length:Int))).bind fun (x3:ByteArray)=>need (nStr (((⟨#[76,74,1]⟩:ByteArray)++x1).size+x3.size)) (fE a0 fuel (((⟨#[76,74,1]⟩:ByteArray)++x1)++x3,0)))
def kc (a0:ByteArray):Option ByteArray:=
  (bJ (IntKind.u64.wrap (a0.size:Int))).bind fun (x1:ByteArray)=>need (nStr (x1.size+a0.size)) (some (x1++a0))
def dX (a0:aq):Nat→(ByteArray×Int)→Option ByteArray
  | 0,_=>none
  | k15+1,s14=>cond (iLt s14.2 (a0.Events.length:Int)) (need (nIn s14.2 (a0.Events.length:Int)) (need (nIn (IntKind.u8.wrap ((a0.Events.getD s14.2.toNat default).Kind)) 256) (need (nStr (s14.1.size+(ByteArray.empty.push (UInt8.ofNat (IntKind.u8.wrap ((a0.Events.getD s14.2.toNat default).Kind)).toNat)).size)) ((gO ((a0.Events.getD s14.2.toNat default).A)).bind fun (x8_9_1:ByteArray)=>need (nStr ((s14.1++(ByteArray.empty.push (UInt8.ofNat (IntKind.u8.wrap ((a0.Events.getD s14.2.toNat default).Kind)).toNat))).size+x8_9_1.size)) (cond (iEq ((a0.Events.getD s14.2.toNat default).Kind) 1) ((gO ((a0.Events.getD s14.2.toNat default).B)).bind fun (x19:ByteArray)=>need (nStr (((s14.1++(ByteArray.empty.push (UInt8.ofNat (IntKind.u8.wrap ((a0.Events.getD s14.2.toNat default).Kind)).toNat)))++x8_9_1).size+x19.size)) (dX a0 k15 (((s14.1++(ByteArray.empty.push (UInt8.ofNat (IntKind.u8.wrap ((a0.Events.getD s14.2.toNat default).Kind)).toNat)))++x8_9_1)++x19,IntKind.i64.wrap (s14.2+1)))) (dX a0 k15 ((s14.1++(ByteArray.empty.push (UInt8.ofNat (IntKind.u8.wrap ((a0.Events.getD s14.2.toNat default).Kind)).toNat)))++x8_9_1,IntKind.i64.wrap (s14.2+1)))))))) (some s14.1)
def lF (a0:aq):Option ByteArray:=
  (bJ (IntKind.u64.wrap a0.Config.Mode)).bind fun (x1:ByteArray)=>need (nStr ((⟨#[76,83,1]⟩:ByteArray).size+x1.size)) ((bJ (IntKind.u64.wrap a0.Config.Workers)).bind fun (x3:ByteArray)=>need (nStr (((⟨#[76,83,1]⟩:ByteArray)++x1).size+x3.size)) ((bJ (IntKind.u64.wrap a0.Config.Quantum)).bind fun (x5:ByteArray)=>need (nStr ((((⟨#[76,83,1]⟩:ByteArray)++x1)++x3).size+x5.size)) ((bJ (IntKind.u64.wrap a0.Config.Policy)).bind fun (x7:ByteArray)=>need (nStr (((((⟨#[76,83,1]⟩:ByteArray)++x1)++x3)++x5).size+x7.size)) ((lD a0.Program).bind fun (x9:ByteArray)=>(kc x9).bind fun (x10:ByteArray)=>need (nStr ((((((⟨#[76,83,1]⟩:ByteArray)++x1)++x3)++x5)++x7).size+x10.size)) ((bJ (IntKind.u64.wrap (a0.Events.length:Int))).bind fun (x12:ByteArray)=>need (nStr (((((((⟨#[76,83,1]⟩:ByteArray)++x1)++x3)++x5)++x7)++x10).size+x12.size)) (dX a0 fuel (((((((⟨#[76,83,1]⟩:ByteArray)++x1)++x3)++x5)++x7)++x10)++x12,0)))))))
def kH:Option aq:=
  some (⟨(⟨0,1,2,0⟩:aO),(⟨[],[],([(⟨0,0,([(⟨22,0,0⟩:ar),(⟨21,0,0⟩:ar)]:List ar)⟩:ax)]:List ax)⟩:aa),([(⟨1,0,1⟩:ay),(⟨2,5,0⟩:ay)]:List ay)⟩:aq)
def cj (a0:ByteArray) (a1:ByteArray):Option Bool:=
  need (!(iLe (a1.size:Int) (a0.size:Int))||nTo (a1.size:Int) (a0.size:Int)) (some ((iLe (a1.size:Int) (a0.size:Int))&&(sEq (a0.extract 0 (a1.size:Int).toNat) a1)))
def dK (a0:ByteArray) (a1:ByteArray):Option (ByteArray×Bool):=
  (cj a0 a1).bind fun (x1:Bool)=>cond (!x1) (some (a0,false)) (need (nTo (a1.size:Int) (a0.size:Int)) (some (a0.extract (a1.size:Int).toNat a0.size,true)))
def fL (a0:ByteArray) (a1:ByteArray):Option (ByteArray×Bool):=
  (dK a0 a1).bind fun (x1:ByteArray×Bool)=>some (x1.1,x1.2)
def fg (a0:ByteArray):Option an:=
  some (⟨a0,0,0⟩:an)
def dq (a0:an) (a1:Int):Option an:=
  cond (iEq a0.err 0) (some (⟨a0.s,(a0.s.size:Int),a1⟩:an)) (some a0)
def cd (a0:an):Option (Int×an):=
  cond (iLe (a0.s.size:Int) a0.at_) ((dq a0 3).bind fun (x2:an)=>some (0,x2)) (need (nIn (IntKind.i64.wrap ((IntKind.i64.wrap (a0.at_+1)) - 1)) (a0.s.size:Int)) (some (IntKind.i64.wrap (bg a0.s (IntKind.i64.wrap ((IntKind.i64.wrap (a0.at_+1)) - 1)).toNat),(⟨a0.s,IntKind.i64.wrap (a0.at_+1),a0.err⟩:an))))
def c9:Nat→(Int×Int×ByteArray×Int×Int)→Option (Int×an)
  | 0,_=>none
  | k2+1,s1=>cond (iLt s1.2.1 10) ((cd (⟨s1.2.2.1,s1.2.2.2.1,s1.2.2.2.2⟩:an)).bind fun (x4:Int×an)=>cond (iNe x4.2.err 0) (some (0,x4.2)) (cond (((iEq s1.2.1 9)&&(iLt 1 x4.1))||((iLt 0 s1.2.1)&&(iEq x4.1 0))) ((dq x4.2 2).bind fun (x7:an)=>some (0,x7)) (need (nNn (IntKind.i64.wrap ((7:Int)*s1.2.1))) (cond (iLt x4.1 128) (some (Go.bits .or .u64 s1.1 (IntKind.u64.wrap ((IntKind.u64.wrap (Go.bits .and .i64 x4.1 127))*2 ^min (IntKind.i64.wrap ((7:Int)*s1.2.1):Int).toNat IntKind.u64.bits)),x4.2)) (c9 k2 (Go.bits .or .u64 s1.1 (IntKind.u64.wrap ((IntKind.u64.wrap (Go.bits .and .i64 x4.1 127))*2 ^min (IntKind.i64.wrap ((7:Int)*s1.2.1):Int).toNat IntKind.u64.bits)),IntKind.i64.wrap (s1.2.1+1),x4.2.s,x4.2.at_,x4.2.err)))))) (some (s1.1,(⟨s1.2.2.1,s1.2.2.2.1,s1.2.2.2.2⟩:an)))
def bK (a0:an):Option (Int×an):=
  c9 fuel (0,0,a0.s,a0.at_,a0.err)
def fM (a0:an):Option (Int×an):=
  (bK a0).bind fun (x1:Int×an)=>some (IntKind.i64.wrap (iMin x1.1 (2147483648:Int)),x1.2)
def fN (a0:an):Option (ByteArray×an):=
  (bK a0).bind fun (x1:Int×an)=>cond (iLt (IntKind.u64.wrap (IntKind.i64.wrap ((x1.2.s.size:Int) - x1.2.at_))) x1.1) ((dq x1.2 3).bind fun (x3:an)=>some (ByteArray.empty,x3)) (need (nSl (IntKind.i64.wrap ((IntKind.i64.wrap (x1.2.at_+(IntKind.i64.wrap x1.1))) - (IntKind.i64.wrap x1.1))) (IntKind.i64.wrap (x1.2.at_+(IntKind.i64.wrap x1.1))) (x1.2.s.size:Int)) (some (x1.2.s.extract (IntKind.i64.wrap ((IntKind.i64.wrap (x1.2.at_+(IntKind.i64.wrap x1.1))) - (IntKind.i64.wrap x1.1))).toNat (IntKind.i64.wrap (x1.2.at_+(IntKind.i64.wrap x1.1))).toNat,(⟨x1.2.s,IntKind.i64.wrap (x1.2.at_+(IntKind.i64.wrap x1.1)),x1.2.err⟩:an))))
def bk (a0:an):Option Int:=
  some a0.err
def fO (a0:ByteArray) (a1:ByteArray):Option Bool:=
  (cj a0 a1).bind fun (x1:Bool)=>some x1
def lG (a0:Int):Option ByteArray:=
  cond (iEq a0 1) (some (⟨#[109,117,116,101,120]⟩:ByteArray)) (cond (iEq a0 2) (some (⟨#[114,119]⟩:ByteArray)) (cond (iEq a0 3) (some (⟨#[115,101,109]⟩:ByteArray)) (cond (iEq a0 4) (some (⟨#[99,111,110,100]⟩:ByteArray)) (cond (iEq a0 5) (some (⟨#[98,97,114]⟩:ByteArray)) (cond (iEq a0 6) (some (⟨#[112,111,111,108]⟩:ByteArray)) (cond (iEq a0 7) (some (⟨#[99,101,108,108]⟩:ByteArray)) (some ByteArray.empty)))))))
def i9 (a0:an):Option (Int×an):=
  (bK a0).bind fun (x1:Int×an)=>some (IntKind.i64.wrap (iMin x1.1 (2147483648:Int)),x1.2)
def cP (a0:an):Option (Int×an):=
  (bK a0).bind fun (x1:Int×an)=>some (Go.bits .xor .i64 (IntKind.i64.wrap (x1.1 /2 ^min (1:Int).toNat IntKind.u64.bits)) (IntKind.i64.wrap (0 - (IntKind.i64.wrap (Go.bits .and .u64 x1.1 1)))),x1.2)
def kd (a0:an):Option (ai×Int×an):=
  (cd a0).bind fun (x1:Int×an)=>(bk x1.2).bind fun (x2:Int)=>(cond (iEq x2 0) (lG x1.1) (some default)).bind fun (x3:ByteArray)=>cond ((iEq x2 0)&&(sEq x3 ByteArray.empty)) (some ((⟨x1.1,0,0⟩:ai),6,x1.2)) (cond (iEq x1.1 3) ((i9 x1.2).bind fun (x6:Int×an)=>(i9 x6.2).bind fun (x7:Int×an)=>(bk x7.2).bind fun (x8:Int)=>some ((⟨x1.1,x6.1,x7.1⟩:ai),x8,x7.2)) (cond (iEq x1.1 6) ((i9 x1.2).bind fun (x10:Int×an)=>(bk x10.2).bind fun (x11:Int)=>some ((⟨x1.1,x10.1,0⟩:ai),x11,x10.2)) (cond (iEq x1.1 7) ((cP x1.2).bind fun (x13:Int×an)=>(i9 x13.2).bind fun (x14:Int×an)=>(bk x14.2).bind fun (x15:Int)=>some ((⟨x1.1,x13.1,x14.1⟩:ai),x15,x14.2)) ((bk x1.2).bind fun (x16:Int)=>some ((⟨x1.1,0,0⟩:ai),x16,x1.2)))))
def cI (a0:an):Option Int:=
  some (IntKind.i64.wrap ((a0.s.size:Int) - a0.at_))
def gj (a0:ByteArray) (x2:Int×an):Nat→(Int×(List ai)×ByteArray×Int×Int)→Option ((List ai)×Int×Int)
  | 0,_=>none
  | k8+1,s7=>cond (iLt s7.1 x2.1) ((kd (⟨s7.2.2.1,s7.2.2.2.1,s7.2.2.2.2⟩:an)).bind fun (x10:ai×Int×an)=>cond (iNe x10.2.1 0) (some ([],0,x10.2.1)) (need (nCap ((s7.2.1.length+([x10.1]:List ai).length)*24)) (gj a0 x2 k8 (IntKind.u64.wrap (s7.1+1),s7.2.1++([x10.1]:List ai),x10.2.2.s,x10.2.2.at_,x10.2.2.err)))) ((ij s7.2.1).bind fun (x13:Int×Int)=>cond (iNe x13.2 0) (some ([],0,x13.2)) ((cI (⟨s7.2.2.1,s7.2.2.2.1,s7.2.2.2.2⟩:an)).bind fun (x15:Int)=>some (s7.2.1,IntKind.i64.wrap ((a0.size:Int) - x15),0)))
def nY (a0:ByteArray):Option ((List ai)×Int×Int):=
  (fg a0).bind fun (x1:an)=>(bK x1).bind fun (x2:Int×an)=>(bk x2.2).bind fun (x3:Int)=>cond (iNe x3 0) (some ([],0,x3)) (cond (iLt 32 x2.1) (some ([],0,4)) (gj a0 x2 fuel (0,([]:List ai),x2.2.s,x2.2.at_,x2.2.err)))
def bI (a0:aw) (a1:Int) (a2:Int):Option (Int ⊕ aw):=
  cond (iNe a2 0) (some (.inl a2)) (need (nTo a1 (a0.s.size:Int)) (some (.inr (⟨a0.s.extract a1.toNat a0.s.size⟩:aw))))
def cv (a0:aw):Option (Int ⊕ (Int×aw)):=
  (fg a0.s).bind fun (x1:an)=>(bK x1).bind fun (x2:Int×an)=>(cI x2.2).bind fun (x3_7_1:Int)=>(bk x2.2).bind fun (x3_10_1:Int)=>(bI a0 (IntKind.i64.wrap ((a0.s.size:Int) - x3_7_1)) x3_10_1).bind fun (x3_11_1:Int ⊕ aw)=>mE x3_11_1 fun (x3_11_1r:aw)=>some (.inr (IntKind.i64.wrap (iMin x2.1 (2147483648:Int)),x3_11_1r))
def cb (a0:aw) (a1:Int):Option (Int ⊕ (Int×aw)):=
  (cv a0).bind fun (x1:Int ⊕ (Int×aw))=>mE x1 fun (x1r:Int×aw)=>cond (iLt a1 x1r.1) (some (.inl 4)) (some (.inr (x1r.1,x1r.2)))
def jt (a0:an) (a1:Int):Option (Int×Int×an):=
  (bK a0).bind fun (x1:Int×an)=>cond (iLt a1 x1.1) (some (0,4,x1.2)) ((bk x1.2).bind fun (x3:Int)=>some (IntKind.i64.wrap x1.1,x3,x1.2))
def ke (a0:an):Option (ah×Int×an):=
  (cd a0).bind fun (x1:Int×an)=>(bk x1.2).bind fun (x2:Int)=>cond (iNe x2 0) (some ((⟨x1.1,0,0⟩:ah),x2,x1.2)) (cond ((iLt x1.1 1)||(iLt 5 x1.1)) (some ((⟨x1.1,0,0⟩:ah),6,x1.2)) ((bK x1.2).bind fun (x5:Int×an)=>(bt x1.1).bind fun (x6:Bool)=>cond x6 ((bK x5.2).bind fun (x8:Int×an)=>(bk x8.2).bind fun (x9:Int)=>some ((⟨x1.1,IntKind.i64.wrap (iMin x5.1 (2147483648:Int)),IntKind.i64.wrap (iMin x8.1 (2147483648:Int))⟩:ah),x9,x8.2)) ((bk x5.2).bind fun (x10:Int)=>some ((⟨x1.1,IntKind.i64.wrap (iMin x5.1 (2147483648:Int)),0⟩:ah),x10,x5.2))))
def fF (s5:Int×(List (List ah))×ByteArray×Int×Int) (K8:((List (List ah))×ByteArray×Int×Int)→Option ((List (List ah))×Int×Int)) (x10:Int×Int×an):Nat→(Int×(List ah)×ByteArray×Int×Int)→Option ((List (List ah))×Int×Int)
  | 0,_=>none
  | k14+1,s13=>cond (iLt s13.1 x10.1) ((ke (⟨s13.2.2.1,s13.2.2.2.1,s13.2.2.2.2⟩:an)).bind fun (x16:ah×Int×an)=>cond (iNe x16.2.1 0) (some ([],0,x16.2.1)) (need (nCap ((s13.2.1.length+([x16.1]:List ah).length)*24)) (fF s5 K8 x10 k14 (IntKind.i64.wrap (s13.1+1),s13.2.1++([x16.1]:List ah),x16.2.2.s,x16.2.2.at_,x16.2.2.err)))) (need (nCap ((s5.2.1.length+([s13.2.1]:List (List ah)).length)*24)) (K8 (s5.2.1++([s13.2.1]:List (List ah)),s13.2.2.1,s13.2.2.2.1,s13.2.2.2.2)))
def fG (a0:List ai) (a1:ByteArray) (x2:Int×Int×an):Nat→(Int×(List (List ah))×ByteArray×Int×Int)→Option ((List (List ah))×Int×Int)
  | 0,_=>none
  | k6+1,s5=>cond (iLt s5.1 x2.1) (gJ (fun s9:(List (List ah))×ByteArray×Int×Int=>fG a0 a1 x2 k6 (IntKind.i64.wrap (s5.1+1),s9.1,s9.2.1,s9.2.2.1,s9.2.2.2)) fun K8=>(jt (⟨s5.2.2.1,s5.2.2.2.1,s5.2.2.2.2⟩:an) 4).bind fun (x10:Int×Int×an)=>cond (iNe x10.2.1 0) (some ([],0,x10.2.1)) (fF s5 K8 x10 fuel (0,([]:List ah),x10.2.2.s,x10.2.2.at_,x10.2.2.err))) ((ik a0 s5.2.1).bind fun (x20:Int)=>cond (iNe x20 0) (some ([],0,x20)) ((cI (⟨s5.2.2.1,s5.2.2.2.1,s5.2.2.2.2⟩:an)).bind fun (x22:Int)=>some (s5.2.1,IntKind.i64.wrap ((a1.size:Int) - x22),0)))
def nZ (a0:List ai) (a1:ByteArray):Option ((List (List ah))×Int×Int):=
  (fg a1).bind fun (x1:an)=>(jt x1 4).bind fun (x2:Int×Int×an)=>cond (iNe x2.2.1 0) (some ([],0,x2.2.1)) (fG a0 a1 x2 fuel (0,([]:List (List ah)),x2.2.2.s,x2.2.2.at_,x2.2.2.err))
def fh (a0:ByteArray) (x2:Int×an) (x7:ByteArray):Nat→(Int×(List Int)×ByteArray×Int×Int)→Option (ar×Int×Int)
  | 0,_=>none
  | k9+1,s8=>cond (iLt s8.1 (x7.size:Int)) (need (nIn s8.1 (x7.size:Int)) (cond (iEq (bg x7 s8.1.toNat) 110) ((cP (⟨s8.2.2.1,s8.2.2.2.1,s8.2.2.2.2⟩:an)).bind fun (x13:Int×an)=>need (nIn s8.1 ((2:Nat):Int)) ((bk x13.2).bind fun (x15:Int)=>cond (iNe x15 0) (some ((⟨0,0,0⟩:ar),0,x15)) (fh a0 x2 x7 k9 (IntKind.i64.wrap (s8.1+1),(aset 2 s8.2.1 s8.1.toNat x13.1),x13.2.s,x13.2.at_,x13.2.err)))) ((bK (⟨s8.2.2.1,s8.2.2.2.1,s8.2.2.2.2⟩:an)).bind fun (x17:Int×an)=>need (nIn s8.1 ((2:Nat):Int)) ((bk x17.2).bind fun (x19:Int)=>cond (iNe x19 0) (some ((⟨0,0,0⟩:ar),0,x19)) (fh a0 x2 x7 k9 (IntKind.i64.wrap (s8.1+1),(aset 2 s8.2.1 s8.1.toNat (IntKind.i64.wrap (iMin x17.1 (2147483648:Int)))),x17.2.s,x17.2.at_,x17.2.err)))))) (need (nIn (0:Int) ((2:Nat):Int)) (need (nIn (1:Int) ((2:Nat):Int)) ((js (⟨x2.1,(s8.2.1.getD (0:Int).toNat default),(s8.2.1.getD (1:Int).toNat default)⟩:ar)).bind fun (x23:Int)=>cond (iNe x23 0) (some ((⟨0,0,0⟩:ar),0,x23)) ((cI (⟨s8.2.2.1,s8.2.2.2.1,s8.2.2.2.2⟩:an)).bind fun (x25:Int)=>some ((⟨x2.1,(s8.2.1.getD (0:Int).toNat default),(s8.2.1.getD (1:Int).toNat default)⟩:ar),IntKind.i64.wrap ((a0.size:Int) - x25),0)))))
def qV (a0:ByteArray):Option (ar×Int×Int):=
  (fg a0).bind fun (x1:an)=>(cd x1).bind fun (x2:Int×an)=>(bk x2.2).bind fun (x3:Int)=>cond (iNe x3 0) (some ((⟨0,0,0⟩:ar),0,x3)) ((mY x2.1).bind fun (x5:ByteArray)=>cond (sEq x5 ByteArray.empty) (some ((⟨0,0,0⟩:ar),0,6)) ((kG x2.1).bind fun (x7:ByteArray)=>fh a0 x2 x7 fuel (0,([0,0]:List Int),x2.2.s,x2.2.at_,x2.2.err)))
def bO (x1r:Int×aw) (x2r:Int×aw) (x3r:Int×aw):Nat→(Int×ByteArray×(List ar))→Option (Int ⊕ (ax×aw))
  | 0,_=>none
  | k6+1,s5=>cond (iLt s5.1 x3r.1) ((qV s5.2.1).bind fun (x8:ar×Int×Int)=>(bI (⟨s5.2.1⟩:aw) x8.2.1 x8.2.2).bind fun (x9:Int ⊕ aw)=>mE x9 fun (x9r:aw)=>need (nCap ((s5.2.2.length+([x8.1]:List ar).length)*24)) (bO x1r x2r x3r k6 (IntKind.i64.wrap (s5.1+1),x9r.s,s5.2.2++([x8.1]:List ar)))) (some (.inr ((⟨x1r.1,x2r.1,s5.2.2⟩:ax),(⟨s5.2.1⟩:aw))))
def bW (a0:aw):Option (Int ⊕ (ax×aw)):=
  (cv a0).bind fun (x1:Int ⊕ (Int×aw))=>mE x1 fun (x1r:Int×aw)=>(cv x1r.2).bind fun (x2:Int ⊕ (Int×aw))=>mE x2 fun (x2r:Int×aw)=>(cb x2r.2 200).bind fun (x3:Int ⊕ (Int×aw))=>mE x3 fun (x3r:Int×aw)=>bO x1r x2r x3r fuel (0,x3r.2.s,([]:List ar))
def bP (x1:(List ai)×Int×Int) (s5:Int×ByteArray×(List (List (List ah)))) (x10r:Int×aw):Nat→(Int×ByteArray×(List ax))→Option (Int ⊕ (aa×aw))
  | 0,_=>none
  | k13+1,s12=>cond (iLt s12.1 x10r.1) ((bW (⟨s12.2.1⟩:aw)).bind fun (x12_3_1:Int ⊕ (ax×aw))=>mE x12_3_1 fun (x12_3_1r:ax×aw)=>need (nCap ((s12.2.2.length+([x12_3_1r.1]:List ax).length)*40)) (bP x1 s5 x10r k13 (IntKind.i64.wrap (s12.1+1),x12_3_1r.2.s,s12.2.2++([x12_3_1r.1]:List ax)))) (cond (!sEq s12.2.1 ByteArray.empty) (some (.inl 2)) (some (.inr ((⟨x1.1,s5.2.2,s12.2.2⟩:aa),(⟨s12.2.1⟩:aw)))))
def bZ (x1:(List ai)×Int×Int) (x3r:Int×aw):Nat→(Int×ByteArray×(List (List (List ah))))→Option (Int ⊕ (aa×aw))
  | 0,_=>none
  | k6+1,s5=>cond (iLt s5.1 x3r.1) ((nZ x1.1 s5.2.1).bind fun (x6_6_1:(List (List ah))×Int×Int)=>(bI (⟨s5.2.1⟩:aw) x6_6_1.2.1 x6_6_1.2.2).bind fun (x8:Int ⊕ aw)=>mE x8 fun (x8r:aw)=>need (nCap ((s5.2.2.length+([x6_6_1.1]:List (List (List ah))).length)*24)) (bZ x1 x3r k6 (IntKind.i64.wrap (s5.1+1),x8r.s,s5.2.2++([x6_6_1.1]:List (List (List ah)))))) ((cb (⟨s5.2.1⟩:aw) 16).bind fun (x10:Int ⊕ (Int×aw))=>mE x10 fun (x10r:Int×aw)=>bP x1 s5 x10r fuel (0,x10r.2.s,([]:List ax)))
def b9 (a0:aw):Option (Int ⊕ (aa×aw)):=
  (nY a0.s).bind fun (x1:(List ai)×Int×Int)=>(bI a0 x1.2.1 x1.2.2).bind fun (x2:Int ⊕ aw)=>mE x2 fun (x2r:aw)=>(cb x2r 32).bind fun (x3:Int ⊕ (Int×aw))=>mE x3 fun (x3r:Int×aw)=>bZ x1 x3r fuel (0,x3r.2.s,([]:List (List (List ah))))
def mm (a0:ByteArray):Option (Int ⊕ (aa×Int)):=
  (fO a0 (⟨#[76,74,1]⟩:ByteArray)).bind fun (x1:Bool)=>cond (!x1) (some (.inr ((⟨([]:List ai),([]:List (List (List ah))),([]:List ax)⟩:aa),2))) (need (nTo (3:Int) (a0.size:Int)) ((b9 (⟨a0.extract (3:Int).toNat a0.size⟩:aw)).bind fun (x4:Int ⊕ (aa×aw))=>mE x4 fun (x4r:aa×aw)=>(il x4r.1).bind fun (x5:Int)=>cond (iNe x5 0) (some (.inr ((⟨([]:List ai),([]:List (List (List ah))),([]:List ax)⟩:aa),x5))) (some (.inr (x4r.1,0)))))
def n3 (a0:ByteArray):Option (aa×Int):=
  (mm a0).bind fun z=>some (pget (fun e=>((⟨[],[],[]⟩:aa),e)) z)
def eC (a0:an):Option (ay×Int×an):=
  (cd a0).bind fun (x1:Int×an)=>(bk x1.2).bind fun (x2:Int)=>cond (iNe x2 0) (some ((⟨x1.1,0,0⟩:ay),x2,x1.2)) (cond ((iNe x1.1 1)&&(iNe x1.1 2)) (some ((⟨x1.1,0,0⟩:ay),6,x1.2)) ((cP x1.2).bind fun (x5:Int×an)=>cond (iEq x1.1 1) ((cP x5.2).bind fun (x7:Int×an)=>(bk x7.2).bind fun (x8:Int)=>some ((⟨x1.1,x5.1,x7.1⟩:ay),x8,x7.2)) ((bk x5.2).bind fun (x9:Int)=>some ((⟨x1.1,x5.1,0⟩:ay),x9,x5.2))))
def dG (x1:Int×an) (x2:Int×an) (x3:Int×an) (x4:Int×an) (x8:aa×Int) (x10:Int×an):Nat→(Int×ByteArray×Int×Int×(List ay))→Option (aq×Int×an)
  | 0,_=>none
  | k16+1,s15=>cond (iLt s15.1 x10.1) ((eC (⟨s15.2.1,s15.2.2.1,s15.2.2.2.1⟩:an)).bind fun (x18:ay×Int×an)=>cond (iNe x18.2.1 0) (some ((⟨(⟨x1.1,x2.1,x3.1,x4.1⟩:aO),x8.1,s15.2.2.2.2⟩:aq),x18.2.1,x18.2.2)) (need (nCap ((s15.2.2.2.2.length+([x18.1]:List ay).length)*24)) (dG x1 x2 x3 x4 x8 x10 k16 (IntKind.u64.wrap (s15.1+1),x18.2.2.s,x18.2.2.at_,x18.2.2.err,s15.2.2.2.2++([x18.1]:List ay))))) ((cI (⟨s15.2.1,s15.2.2.1,s15.2.2.2.1⟩:an)).bind fun (x21:Int)=>cond (iLt 0 x21) (some ((⟨(⟨x1.1,x2.1,x3.1,x4.1⟩:aO),x8.1,s15.2.2.2.2⟩:aq),2,(⟨s15.2.1,s15.2.2.1,s15.2.2.2.1⟩:an))) ((dU (⟨(⟨x1.1,x2.1,x3.1,x4.1⟩:aO),x8.1,s15.2.2.2.2⟩:aq)).bind fun (x28_2_1:Int)=>some ((⟨(⟨x1.1,x2.1,x3.1,x4.1⟩:aO),x8.1,s15.2.2.2.2⟩:aq),x28_2_1,(⟨s15.2.1,s15.2.2.1,s15.2.2.2.1⟩:an))))
def im (a0:an):Option (aq×Int×an):=
  (fM a0).bind fun (x1:Int×an)=>(fM x1.2).bind fun (x2:Int×an)=>(fM x2.2).bind fun (x3:Int×an)=>(fM x3.2).bind fun (x4:Int×an)=>(fN x4.2).bind fun (x5:ByteArray×an)=>(bk x5.2).bind fun (x6:Int)=>cond (iNe x6 0) (some ((⟨(⟨x1.1,x2.1,x3.1,x4.1⟩:aO),(⟨([]:List ai),([]:List (List (List ah))),([]:List ax)⟩:aa),([]:List ay)⟩:aq),x6,x5.2)) ((n3 x5.1).bind fun (x8:aa×Int)=>cond (iNe x8.2 0) (some ((⟨(⟨x1.1,x2.1,x3.1,x4.1⟩:aO),x8.1,([]:List ay)⟩:aq),x8.2,x5.2)) ((bK x5.2).bind fun (x10:Int×an)=>(bk x10.2).bind fun (x11:Int)=>cond (iNe x11 0) (some ((⟨(⟨x1.1,x2.1,x3.1,x4.1⟩:aO),x8.1,([]:List ay)⟩:aq),x11,x10.2)) (cond (iLt 4000 x10.1) (some ((⟨(⟨x1.1,x2.1,x3.1,x4.1⟩:aO),x8.1,([]:List ay)⟩:aq),4,x10.2)) (dG x1 x2 x3 x4 x8 x10 fuel (0,x10.2.s,x10.2.at_,x10.2.err,([]:List ay))))))
def fi (a0:ByteArray):Option (aq×Int):=
  (fL a0 (⟨#[76,83,1]⟩:ByteArray)).bind fun (x1:ByteArray×Bool)=>cond (!x1.2) (some ((⟨(⟨0,0,0,0⟩:aO),(⟨([]:List ai),([]:List (List (List ah))),([]:List ax)⟩:aa),([]:List ay)⟩:aq),2)) ((fg x1.1).bind fun (x3:an)=>(im x3).bind fun (x4:aq×Int×an)=>cond (iNe x4.2.1 0) (some ((⟨(⟨0,0,0,0⟩:aO),(⟨([]:List ai),([]:List (List (List ah))),([]:List ax)⟩:aa),([]:List ay)⟩:aq),x4.2.1)) (some (x4.1,0)))
def iy (a0:List (List ah)) (a1:List (List ah)) (s2:Int) (K5:Unit→Option Bool):Nat→Int→Option Bool
  | 0,_=>none
  | k11+1,s10=>need (nIn s2 (a0.length:Int)) (cond (iLt s10 ((a0.getD s2.toNat default).length:Int)) (need (nIn s2 (a0.length:Int)) (need (nIn s10 ((a0.getD s2.toNat default).length:Int)) (need (nIn s2 (a1.length:Int)) (need (nIn s10 ((a1.getD s2.toNat default).length:Int)) (cond (!((iEq (((a0.getD s2.toNat default).getD s10.toNat default).Kind) (((a1.getD s2.toNat default).getD s10.toNat default).Kind))&&((iEq (((a0.getD s2.toNat default).getD s10.toNat default).Obj) (((a1.getD s2.toNat default).getD s10.toNat default).Obj))&&((iEq (((a0.getD s2.toNat default).getD s10.toNat default).N) (((a1.getD s2.toNat default).getD s10.toNat default).N))&&true)))) (some false) (iy a0 a1 s2 K5 k11 (IntKind.i64.wrap (s10+1)))))))) (K5 Unit.unit))
def ja (a0:List (List ah)) (a1:List (List ah)):Nat→Int→Option Bool
  | 0,_=>none
  | k3+1,s2=>cond (iLt s2 (a0.length:Int)) (gJ (fun s6:Unit=>ja a0 a1 k3 (IntKind.i64.wrap (s2+1))) fun K5=>need (nIn s2 (a0.length:Int)) (need (nIn s2 (a1.length:Int)) (cond (iNe ((a0.getD s2.toNat default).length:Int) ((a1.getD s2.toNat default).length:Int)) (some false) (iy a0 a1 s2 K5 fuel 0)))) (some true)
def ji (a0:List (List ah)) (a1:List (List ah)):Option Bool:=
  cond (iNe (a0.length:Int) (a1.length:Int)) (some false) (ja a0 a1 fuel 0)
def eg (a0:aa) (a1:aa) (s15:Int) (K18:Unit→Option Bool):Nat→Int→Option Bool
  | 0,_=>none
  | k22+1,s21=>cond (iLt s21 (((a0.Funcs.getD s15.toNat default).Code).length:Int)) (need (nIn s21 (((a0.Funcs.getD s15.toNat default).Code).length:Int)) (need (nIn s21 (((a1.Funcs.getD s15.toNat default).Code).length:Int)) (cond (!((iEq ((((a0.Funcs.getD s15.toNat default).Code).getD s21.toNat default).Op) ((((a1.Funcs.getD s15.toNat default).Code).getD s21.toNat default).Op))&&((iEq ((((a0.Funcs.getD s15.toNat default).Code).getD s21.toNat default).A) ((((a1.Funcs.getD s15.toNat default).Code).getD s21.toNat default).A))&&((iEq ((((a0.Funcs.getD s15.toNat default).Code).getD s21.toNat default).B) ((((a1.Funcs.getD s15.toNat default).Code).getD s21.toNat default).B))&&true)))) (some false) (eg a0 a1 s15 K18 k22 (IntKind.i64.wrap (s21+1)))))) (K18 Unit.unit)
def dA (a0:aa) (a1:aa):Nat→Int→Option Bool
  | 0,_=>none
  | k16+1,s15=>cond (iLt s15 (a0.Funcs.length:Int)) (gJ (fun s19:Unit=>dA a0 a1 k16 (IntKind.i64.wrap (s15+1))) fun K18=>need (nIn s15 (a0.Funcs.length:Int)) (need (nIn s15 (a1.Funcs.length:Int)) (cond (((iNe ((a0.Funcs.getD s15.toNat default).Args) ((a1.Funcs.getD s15.toNat default).Args))||(iNe ((a0.Funcs.getD s15.toNat default).Locals) ((a1.Funcs.getD s15.toNat default).Locals)))||(iNe (((a0.Funcs.getD s15.toNat default).Code).length:Int) (((a1.Funcs.getD s15.toNat default).Code).length:Int))) (some false) (eg a0 a1 s15 K18 fuel 0)))) (some true)
def eR (a0:aa) (a1:aa):Nat→Int→Option Bool
  | 0,_=>none
  | k9+1,s8=>cond (iLt s8 (a0.Waits.length:Int)) (need (nIn s8 (a0.Waits.length:Int)) (need (nIn s8 (a1.Waits.length:Int)) ((ji (a0.Waits.getD s8.toNat default) (a1.Waits.getD s8.toNat default)).bind fun (x13:Bool)=>cond (!x13) (some false) (eR a0 a1 k9 (IntKind.i64.wrap (s8+1)))))) (dA a0 a1 fuel 0)
def eS (a0:aa) (a1:aa):Nat→Int→Option Bool
  | 0,_=>none
  | k3+1,s2=>cond (iLt s2 (a0.Decls.length:Int)) (need (nIn s2 (a0.Decls.length:Int)) (need (nIn s2 (a1.Decls.length:Int)) (cond (!((iEq ((a0.Decls.getD s2.toNat default).Kind) ((a1.Decls.getD s2.toNat default).Kind))&&((iEq ((a0.Decls.getD s2.toNat default).A) ((a1.Decls.getD s2.toNat default).A))&&((iEq ((a0.Decls.getD s2.toNat default).B) ((a1.Decls.getD s2.toNat default).B))&&true)))) (some false) (eS a0 a1 k3 (IntKind.i64.wrap (s2+1)))))) (eR a0 a1 fuel 0)
def iq (a0:aa) (a1:aa):Option Bool:=
  cond (((iNe (a0.Decls.length:Int) (a1.Decls.length:Int))||(iNe (a0.Waits.length:Int) (a1.Waits.length:Int)))||(iNe (a0.Funcs.length:Int) (a1.Funcs.length:Int))) (some false) (eS a0 a1 fuel 0)
def eT (a0:aq) (a1:aq):Nat→Int→Option Bool
  | 0,_=>none
  | k4+1,s3=>cond (iLt s3 (a0.Events.length:Int)) (need (nIn s3 (a0.Events.length:Int)) (need (nIn s3 (a1.Events.length:Int)) (cond (!((iEq ((a0.Events.getD s3.toNat default).Kind) ((a1.Events.getD s3.toNat default).Kind))&&((iEq ((a0.Events.getD s3.toNat default).A) ((a1.Events.getD s3.toNat default).A))&&((iEq ((a0.Events.getD s3.toNat default).B) ((a1.Events.getD s3.toNat default).B))&&true)))) (some false) (eT a0 a1 k4 (IntKind.i64.wrap (s3+1)))))) (some true)
def fP (a0:aq) (a1:aq):Option Bool:=
  (cond (!(!((iEq a0.Config.Mode a1.Config.Mode)&&((iEq a0.Config.Workers a1.Config.Workers)&&((iEq a0.Config.Quantum a1.Config.Quantum)&&((iEq a0.Config.Policy a1.Config.Policy)&&true)))))) (iq a0.Program a1.Program) (some default)).bind fun (x1:Bool)=>cond (((!((iEq a0.Config.Mode a1.Config.Mode)&&((iEq a0.Config.Workers a1.Config.Workers)&&((iEq a0.Config.Quantum a1.Config.Quantum)&&((iEq a0.Config.Policy a1.Config.Policy)&&true)))))||(!x1))||(iNe (a0.Events.length:Int) (a1.Events.length:Int))) (some false) (eT a0 a1 fuel 0)
def eU:Option Bool:=
  (kH).bind fun (x1:aq)=>(ff x1).bind fun (x2:ByteArray×Int)=>(fi x2.1).bind fun (x3:aq×Int)=>cond (((sEq x2.1 (⟨#[76,83,1,0,1,2,0,11,76,74,1,0,0,1,0,0,2,22,21,2,1,0,2,2,10]⟩:ByteArray))&&(iEq x2.2 0))&&(iEq x3.2 0)) ((kH).bind fun (x5:aq)=>(fP x3.1 x5).bind fun (x6:Bool)=>cond x6 ((dU (⟨(⟨0,0,0,0⟩:aO),(⟨[],[],[]⟩:aa),[]⟩:aq)).bind fun (x8:Int)=>some (iEq x8 1)) (some false)) (some false)
def ft (a0:aq):Option Bool:=
  (fx a0).bind fun (x1:aq)=>(gf x1).bind fun (x2:Int)=>(fx x1).bind fun (x3:aq)=>(ff x3).bind fun (x4:ByteArray×Int)=>(fx x1).bind fun (x5:aq)=>(dU x5).bind fun (x6:Int)=>cond ((iNe x6 x2)||(iNe x4.2 x2)) (some false) ((fJ x1.Config).bind fun (x8:Int)=>(gq x1.Config).bind fun (x9:Int)=>cond (iNe x8 x9) (some false) ((cond ((!((iNe x2 0)&&(sEq x4.1 ByteArray.empty)))&&(iEq x2 0)) (lF x1) (some default)).bind fun (x11:ByteArray)=>(cond (((iNe x2 0)&&(sEq x4.1 ByteArray.empty))||((iEq x2 0)&&(sEq x4.1 x11))) (eU) (some default)).bind fun (x12:Bool)=>some ((((iNe x2 0)&&(sEq x4.1 ByteArray.empty))||((iEq x2 0)&&(sEq x4.1 x11)))&&x12)))
def oV (a0:aA) (a1:Int):Option aA:=
  cond (iEq a0.Err 0) (some (⟨a0.S,(a0.S.size:Int),a1⟩:aA)) (some a0)
def kf (a0:aA):Option (Int×aA):=
  cond (iLe (a0.S.size:Int) a0.At) ((oV a0 3).bind fun (x2:aA)=>some (0,x2)) (need (nIn a0.At (a0.S.size:Int)) (some (IntKind.i64.wrap (bg a0.S a0.At.toNat),(⟨a0.S,IntKind.i64.wrap (a0.At+1),a0.Err⟩:aA))))
def lH:Nat→(Int×Int×Int×ByteArray×Int×Int)→Option (Int×aA)
  | 0,_=>none
  | k2+1,s1=>cond (iLt s1.2.2.1 10) ((kf (⟨s1.2.2.2.1,s1.2.2.2.2.1,s1.2.2.2.2.2⟩:aA)).bind fun (x4:Int×aA)=>cond (iNe x4.2.Err 0) (some (0,x4.2)) (cond (((iEq s1.2.2.1 9)&&(iLt 1 x4.1))||((iLt 0 s1.2.2.1)&&(iEq x4.1 0))) ((oV x4.2 2).bind fun (x7:aA)=>some (0,x7)) (cond (iLt x4.1 128) (some (IntKind.u64.wrap (s1.1+(IntKind.u64.wrap ((IntKind.u64.wrap (Int.tmod x4.1 128))*s1.2.1))),x4.2)) (lH k2 (IntKind.u64.wrap (s1.1+(IntKind.u64.wrap ((IntKind.u64.wrap (Int.tmod x4.1 128))*s1.2.1))),IntKind.u64.wrap (s1.2.1*128),IntKind.i64.wrap (s1.2.2.1+1),x4.2.S,x4.2.At,x4.2.Err))))) (some (s1.1,(⟨s1.2.2.2.1,s1.2.2.2.2.1,s1.2.2.2.2.2⟩:aA)))
def cB (a0:aA):Option (Int×aA):=
  lH fuel (0,1,0,a0.S,a0.At,a0.Err)
def n5 (a0:aA):Option (Int×aA):=
  (cB a0).bind fun (x1:Int×aA)=>some (IntKind.i64.wrap (iMin x1.1 (2147483648:Int)),x1.2)
def wQ (a0:aA):Option (ByteArray×aA):=
  (cB a0).bind fun (x1:Int×aA)=>cond (iLt (IntKind.u64.wrap (IntKind.i64.wrap ((x1.2.S.size:Int) - x1.2.At))) x1.1) ((oV x1.2 3).bind fun (x3:aA)=>some (ByteArray.empty,x3)) (need (nSl x1.2.At (IntKind.i64.wrap (x1.2.At+(IntKind.i64.wrap x1.1))) (x1.2.S.size:Int)) (some (x1.2.S.extract x1.2.At.toNat (IntKind.i64.wrap (x1.2.At+(IntKind.i64.wrap x1.1))).toNat,(⟨x1.2.S,IntKind.i64.wrap (x1.2.At+(IntKind.i64.wrap x1.1)),x1.2.Err⟩:aA))))
def kg (a0:aA):Option (Int×aA):=
  (cB a0).bind fun (x1:Int×aA)=>some (IntKind.i64.wrap (iMin x1.1 (2147483648:Int)),x1.2)
def iK (a0:aA):Option (Int×aA):=
  (cB a0).bind fun (x1:Int×aA)=>cond (iEq (Int.tmod x1.1 2) 0) (some (IntKind.i64.wrap (IntKind.u64.wrap (Int.tdiv x1.1 2)),x1.2)) (some (IntKind.i64.wrap ((IntKind.i64.wrap (0 - (IntKind.i64.wrap (IntKind.u64.wrap (Int.tdiv x1.1 2))))) - 1),x1.2))
def n6 (x1:Int×aA):Nat→(Int×ByteArray×Int×Int×(List ai))→Option ((List ai)×aA×Int)
  | 0,_=>none
  | k5+1,s4=>cond (iLt s4.1 x1.1) (gJ (fun s8:ByteArray×Int×Int×(List ai)=>n6 x1 k5 (IntKind.i64.wrap (s4.1+1),s8.1,s8.2.1,s8.2.2.1,s8.2.2.2)) fun K7=>(kf (⟨s4.2.1,s4.2.2.1,s4.2.2.2.1⟩:aA)).bind fun (x9:Int×aA)=>cond ((iEq x9.2.Err 0)&&((iLt x9.1 1)||(iLt 7 x9.1))) (some ([],x9.2,6)) (cond ((iEq x9.1 3)||(iEq x9.1 6)) ((kg x9.2).bind fun (x12:Int×aA)=>cond (iEq x9.1 7) ((iK x12.2).bind fun (x14:Int×aA)=>cond ((iEq x9.1 3)||(iEq x9.1 7)) ((kg x14.2).bind fun (x16:Int×aA)=>cond (iNe x16.2.Err 0) (some ([],x16.2,x16.2.Err)) (need (nCap ((s4.2.2.2.2.length+([(⟨x9.1,x14.1,x16.1⟩:ai)]:List ai).length)*24)) (K7 (x16.2.S,x16.2.At,x16.2.Err,s4.2.2.2.2++([(⟨x9.1,x14.1,x16.1⟩:ai)]:List ai))))) (cond (iNe x14.2.Err 0) (some ([],x14.2,x14.2.Err)) (need (nCap ((s4.2.2.2.2.length+([(⟨x9.1,x14.1,0⟩:ai)]:List ai).length)*24)) (K7 (x14.2.S,x14.2.At,x14.2.Err,s4.2.2.2.2++([(⟨x9.1,x14.1,0⟩:ai)]:List ai)))))) (cond ((iEq x9.1 3)||(iEq x9.1 7)) ((kg x12.2).bind fun (x22:Int×aA)=>cond (iNe x22.2.Err 0) (some ([],x22.2,x22.2.Err)) (need (nCap ((s4.2.2.2.2.length+([(⟨x9.1,x12.1,x22.1⟩:ai)]:List ai).length)*24)) (K7 (x22.2.S,x22.2.At,x22.2.Err,s4.2.2.2.2++([(⟨x9.1,x12.1,x22.1⟩:ai)]:List ai))))) (cond (iNe x12.2.Err 0) (some ([],x12.2,x12.2.Err)) (need (nCap ((s4.2.2.2.2.length+([(⟨x9.1,x12.1,0⟩:ai)]:List ai).length)*24)) (K7 (x12.2.S,x12.2.At,x12.2.Err,s4.2.2.2.2++([(⟨x9.1,x12.1,0⟩:ai)]:List ai))))))) (cond (iEq x9.1 7) ((iK x9.2).bind fun (x28:Int×aA)=>cond ((iEq x9.1 3)||(iEq x9.1 7)) ((kg x28.2).bind fun (x30:Int×aA)=>cond (iNe x30.2.Err 0) (some ([],x30.2,x30.2.Err)) (need (nCap ((s4.2.2.2.2.length+([(⟨x9.1,x28.1,x30.1⟩:ai)]:List ai).length)*24)) (K7 (x30.2.S,x30.2.At,x30.2.Err,s4.2.2.2.2++([(⟨x9.1,x28.1,x30.1⟩:ai)]:List ai))))) (cond (iNe x28.2.Err 0) (some ([],x28.2,x28.2.Err)) (need (nCap ((s4.2.2.2.2.length+([(⟨x9.1,x28.1,0⟩:ai)]:List ai).length)*24)) (K7 (x28.2.S,x28.2.At,x28.2.Err,s4.2.2.2.2++([(⟨x9.1,x28.1,0⟩:ai)]:List ai)))))) (cond ((iEq x9.1 3)||(iEq x9.1 7)) ((kg x9.2).bind fun (x36:Int×aA)=>cond (iNe x36.2.Err 0) (some ([],x36.2,x36.2.Err)) (need (nCap ((s4.2.2.2.2.length+([(⟨x9.1,0,x36.1⟩:ai)]:List ai).length)*24)) (K7 (x36.2.S,x36.2.At,x36.2.Err,s4.2.2.2.2++([(⟨x9.1,0,x36.1⟩:ai)]:List ai))))) (cond (iNe x9.2.Err 0) (some ([],x9.2,x9.2.Err)) (need (nCap ((s4.2.2.2.2.length+([(⟨x9.1,0,0⟩:ai)]:List ai).length)*24)) (K7 (x9.2.S,x9.2.At,x9.2.Err,s4.2.2.2.2++([(⟨x9.1,0,0⟩:ai)]:List ai))))))))) ((fy s4.2.2.2.2).bind fun (x41:Int×Int)=>cond (iNe x41.2 0) (some ([],(⟨s4.2.1,s4.2.2.1,s4.2.2.2.1⟩:aA),x41.2)) (some (s4.2.2.2.2,(⟨s4.2.1,s4.2.2.1,s4.2.2.2.1⟩:aA),0)))
def zt (a0:aA):Option ((List ai)×aA×Int):=
  (kg a0).bind fun (x1:Int×aA)=>cond (iNe x1.2.Err 0) (some ([],x1.2,x1.2.Err)) (cond (iLt 32 x1.1) (some ([],x1.2,4)) (n6 x1 fuel (0,x1.2.S,x1.2.At,x1.2.Err,([]:List ai))))
def oW (a0:aA) (a1:Int):Option (Int×aA×Int):=
  (cB a0).bind fun (x1:Int×aA)=>cond (iLt a1 x1.1) (some (0,x1.2,4)) (some (IntKind.i64.wrap x1.1,x1.2,x1.2.Err))
def jY (s3:Int×ByteArray×Int×Int×(List (List ah))) (K6:(ByteArray×Int×Int×(List (List ah)))→Option ((List (List ah))×aA×Int)) (x8:Int×aA):Nat→(Int×ByteArray×Int×Int×(List ah))→Option ((List (List ah))×aA×Int)
  | 0,_=>none
  | k11+1,s10=>cond ((iLt s10.1 (IntKind.i64.wrap x8.1))&&(iEq s10.2.2.2.1 0)) ((kf (⟨s10.2.1,s10.2.2.1,s10.2.2.2.1⟩:aA)).bind fun (x13:Int×aA)=>cond ((iEq x13.2.Err 0)&&((iLt x13.1 1)||(iLt 5 x13.1))) (some ([],x13.2,6)) ((cB x13.2).bind fun (x15:Int×aA)=>cond (iLt 3 x13.1) ((cB x15.2).bind fun (x17:Int×aA)=>need (nCap ((s10.2.2.2.2.length+([(⟨x13.1,IntKind.i64.wrap (iMin x15.1 (2147483648:Int)),IntKind.i64.wrap (iMin x17.1 (2147483648:Int))⟩:ah)]:List ah).length)*24)) (jY s3 K6 x8 k11 (IntKind.i64.wrap (s10.1+1),x17.2.S,x17.2.At,x17.2.Err,s10.2.2.2.2++([(⟨x13.1,IntKind.i64.wrap (iMin x15.1 (2147483648:Int)),IntKind.i64.wrap (iMin x17.1 (2147483648:Int))⟩:ah)]:List ah)))) (need (nCap ((s10.2.2.2.2.length+([(⟨x13.1,IntKind.i64.wrap (iMin x15.1 (2147483648:Int)),0⟩:ah)]:List ah).length)*24)) (jY s3 K6 x8 k11 (IntKind.i64.wrap (s10.1+1),x15.2.S,x15.2.At,x15.2.Err,s10.2.2.2.2++([(⟨x13.1,IntKind.i64.wrap (iMin x15.1 (2147483648:Int)),0⟩:ah)]:List ah)))))) (need (nCap ((s3.2.2.2.2.length+([s10.2.2.2.2]:List (List ah)).length)*24)) (K6 (s10.2.1,s10.2.2.1,s10.2.2.2.1,s3.2.2.2.2++([s10.2.2.2.2]:List (List ah)))))
def n7 (a0:List ai) (x1:Int×aA):Nat→(Int×ByteArray×Int×Int×(List (List ah)))→Option ((List (List ah))×aA×Int)
  | 0,_=>none
  | k4+1,s3=>cond ((iLt s3.1 (IntKind.i64.wrap x1.1))&&(iEq s3.2.2.2.1 0)) (gJ (fun s7:ByteArray×Int×Int×(List (List ah))=>n7 a0 x1 k4 (IntKind.i64.wrap (s3.1+1),s7.1,s7.2.1,s7.2.2.1,s7.2.2.2)) fun K6=>(cB (⟨s3.2.1,s3.2.2.1,s3.2.2.2.1⟩:aA)).bind fun (x8:Int×aA)=>cond (iLt 4 x8.1) (some ([],x8.2,4)) (jY s3 K6 x8 fuel (0,x8.2.S,x8.2.At,x8.2.Err,([]:List ah)))) (cond (iNe s3.2.2.2.1 0) (some ([],(⟨s3.2.1,s3.2.2.1,s3.2.2.2.1⟩:aA),s3.2.2.2.1)) ((fz a0 s3.2.2.2.2).bind fun (x22:Int)=>cond (iNe x22 0) (some ([],(⟨s3.2.1,s3.2.2.1,s3.2.2.2.1⟩:aA),x22)) (some (s3.2.2.2.2,(⟨s3.2.1,s3.2.2.1,s3.2.2.2.1⟩:aA),0))))
def zu (a0:List ai) (a1:aA):Option ((List (List ah))×aA×Int):=
  (cB a1).bind fun (x1:Int×aA)=>cond (iLt 4 x1.1) (some ([],x1.2,4)) (n7 a0 x1 fuel (0,x1.2.S,x1.2.At,x1.2.Err,([]:List (List ah))))
def kI (x1:Int×aA) (x5:ByteArray):Nat→(Int×ByteArray×Int×Int×(List Int))→Option (ar×aA×Int)
  | 0,_=>none
  | k7+1,s6=>cond (iLt s6.1 (x5.size:Int)) (need (nIn s6.1 (x5.size:Int)) (cond (iEq (bg x5 s6.1.toNat) 110) ((iK (⟨s6.2.1,s6.2.2.1,s6.2.2.2.1⟩:aA)).bind fun (x11:Int×aA)=>need (nIn s6.1 (s6.2.2.2.2.length:Int)) (cond (iNe x11.2.Err 0) (some ((⟨0,0,0⟩:ar),x11.2,x11.2.Err)) (kI x1 x5 k7 (IntKind.i64.wrap (s6.1+1),x11.2.S,x11.2.At,x11.2.Err,s6.2.2.2.2.set s6.1.toNat x11.1)))) ((cB (⟨s6.2.1,s6.2.2.1,s6.2.2.2.1⟩:aA)).bind fun (x14:Int×aA)=>need (nIn s6.1 (s6.2.2.2.2.length:Int)) (cond (iNe x14.2.Err 0) (some ((⟨0,0,0⟩:ar),x14.2,x14.2.Err)) (kI x1 x5 k7 (IntKind.i64.wrap (s6.1+1),x14.2.S,x14.2.At,x14.2.Err,s6.2.2.2.2.set s6.1.toNat (IntKind.i64.wrap (iMin x14.1 (2147483648:Int))))))))) (need (nIn (0:Int) (s6.2.2.2.2.length:Int)) (need (nIn (1:Int) (s6.2.2.2.2.length:Int)) ((gd (⟨x1.1,(s6.2.2.2.2.getD (0:Int).toNat default),(s6.2.2.2.2.getD (1:Int).toNat default)⟩:ar)).bind fun (x17:Int)=>cond (iNe x17 0) (some ((⟨0,0,0⟩:ar),(⟨s6.2.1,s6.2.2.1,s6.2.2.2.1⟩:aA),x17)) (some ((⟨x1.1,(s6.2.2.2.2.getD (0:Int).toNat default),(s6.2.2.2.2.getD (1:Int).toNat default)⟩:ar),(⟨s6.2.1,s6.2.2.1,s6.2.2.2.1⟩:aA),0)))))
def zw (a0:aA):Option (ar×aA×Int):=
  (kf a0).bind fun (x1:Int×aA)=>cond (iNe x1.2.Err 0) (some ((⟨0,0,0⟩:ar),x1.2,x1.2.Err)) ((dD x1.1).bind fun (x3:Bool)=>cond (!x3) (some ((⟨0,0,0⟩:ar),x1.2,6)) ((gu x1.1).bind fun (x5:ByteArray)=>kI x1 x5 fuel (0,x1.2.S,x1.2.At,x1.2.Err,([0,0]:List Int))))
def jO (x1:Int×aA) (x2:Int×aA) (x3:Int×aA×Int):Nat→(Int×ByteArray×Int×Int×(List ar))→Option (ax×aA×Int)
  | 0,_=>none
  | k8+1,s7=>cond (iLt s7.1 x3.1) ((zw (⟨s7.2.1,s7.2.2.1,s7.2.2.2.1⟩:aA)).bind fun (x10:ar×aA×Int)=>cond (iNe x10.2.2 0) (some ((⟨IntKind.i64.wrap (iMin x1.1 (2147483648:Int)),IntKind.i64.wrap (iMin x2.1 (2147483648:Int)),s7.2.2.2.2⟩:ax),x10.2.1,x10.2.2)) (need (nCap ((s7.2.2.2.2.length+([x10.1]:List ar).length)*24)) (jO x1 x2 x3 k8 (IntKind.i64.wrap (s7.1+1),x10.2.1.S,x10.2.1.At,x10.2.1.Err,s7.2.2.2.2++([x10.1]:List ar))))) (some ((⟨IntKind.i64.wrap (iMin x1.1 (2147483648:Int)),IntKind.i64.wrap (iMin x2.1 (2147483648:Int)),s7.2.2.2.2⟩:ax),(⟨s7.2.1,s7.2.2.1,s7.2.2.2.1⟩:aA),0))
def qW (a0:aA):Option (ax×aA×Int):=
  (cB a0).bind fun (x1:Int×aA)=>(cB x1.2).bind fun (x2:Int×aA)=>(oW x2.2 200).bind fun (x3:Int×aA×Int)=>cond (iNe x2.2.Err 0) (some ((⟨IntKind.i64.wrap (iMin x1.1 (2147483648:Int)),IntKind.i64.wrap (iMin x2.1 (2147483648:Int)),([]:List ar)⟩:ax),x2.2,x2.2.Err)) (cond (iNe x3.2.2 0) (some ((⟨IntKind.i64.wrap (iMin x1.1 (2147483648:Int)),IntKind.i64.wrap (iMin x2.1 (2147483648:Int)),([]:List ar)⟩:ax),x3.2.1,x3.2.2)) (jO x1 x2 x3 fuel (0,x3.2.1.S,x3.2.1.At,x3.2.1.Err,([]:List ar))))
def n8 (a0:ByteArray) (x3:(List ai)×aA×Int) (s8:Int×ByteArray×Int×Int×(List (List (List ah)))) (x13:Int×aA×Int):Nat→(Int×ByteArray×Int×Int×(List ax))→Option (aa×Int)
  | 0,_=>none
  | k17+1,s16=>cond (iLt s16.1 x13.1) ((qW (⟨s16.2.1,s16.2.2.1,s16.2.2.2.1⟩:aA)).bind fun (x19:ax×aA×Int)=>cond (iNe x19.2.2 0) (some ((⟨([]:List ai),([]:List (List (List ah))),([]:List ax)⟩:aa),x19.2.2)) (need (nCap ((s16.2.2.2.2.length+([x19.1]:List ax).length)*40)) (n8 a0 x3 s8 x13 k17 (IntKind.i64.wrap (s16.1+1),x19.2.1.S,x19.2.1.At,x19.2.1.Err,s16.2.2.2.2++([x19.1]:List ax))))) (cond (iLt s16.2.2.1 (a0.size:Int)) (some ((⟨([]:List ai),([]:List (List (List ah))),([]:List ax)⟩:aa),2)) ((fA (⟨x3.1,s8.2.2.2.2,s16.2.2.2.2⟩:aa)).bind fun (x22:Int)=>cond (iNe x22 0) (some ((⟨([]:List ai),([]:List (List (List ah))),([]:List ax)⟩:aa),x22)) (some ((⟨x3.1,s8.2.2.2.2,s16.2.2.2.2⟩:aa),0))))
def pq (a0:ByteArray) (x3:(List ai)×aA×Int) (x5:Int×aA×Int):Nat→(Int×ByteArray×Int×Int×(List (List (List ah))))→Option (aa×Int)
  | 0,_=>none
  | k9+1,s8=>cond (iLt s8.1 x5.1) ((zu x3.1 (⟨s8.2.1,s8.2.2.1,s8.2.2.2.1⟩:aA)).bind fun (x11:(List (List ah))×aA×Int)=>cond (iNe x11.2.2 0) (some ((⟨([]:List ai),([]:List (List (List ah))),([]:List ax)⟩:aa),x11.2.2)) (need (nCap ((s8.2.2.2.2.length+([x11.1]:List (List (List ah))).length)*24)) (pq a0 x3 x5 k9 (IntKind.i64.wrap (s8.1+1),x11.2.1.S,x11.2.1.At,x11.2.1.Err,s8.2.2.2.2++([x11.1]:List (List (List ah))))))) ((oW (⟨s8.2.1,s8.2.2.1,s8.2.2.2.1⟩:aA) 16).bind fun (x13:Int×aA×Int)=>cond (iNe x13.2.2 0) (some ((⟨([]:List ai),([]:List (List (List ah))),([]:List ax)⟩:aa),x13.2.2)) (n8 a0 x3 s8 x13 fuel (0,x13.2.1.S,x13.2.1.At,x13.2.1.Err,([]:List ax))))
def Bh (a0:ByteArray):Option (aa×Int):=
  need (!(!(iLt (a0.size:Int) 3))||nTo (3:Int) (a0.size:Int)) (cond ((iLt (a0.size:Int) 3)||(!sEq (a0.extract 0 (3:Int).toNat) (⟨#[76,74,1]⟩:ByteArray))) (some ((⟨([]:List ai),([]:List (List (List ah))),([]:List ax)⟩:aa),2)) ((zt (⟨a0,3,0⟩:aA)).bind fun (x3:(List ai)×aA×Int)=>cond (iNe x3.2.2 0) (some ((⟨([]:List ai),([]:List (List (List ah))),([]:List ax)⟩:aa),x3.2.2)) ((oW x3.2.1 32).bind fun (x5:Int×aA×Int)=>cond (iNe x5.2.2 0) (some ((⟨([]:List ai),([]:List (List (List ah))),([]:List ax)⟩:aa),x5.2.2)) (pq a0 x3 x5 fuel (0,x5.2.1.S,x5.2.1.At,x5.2.1.Err,([]:List (List (List ah))))))))
def kJ (a0:ByteArray) (x3:Int×aA) (x4:Int×aA) (x5:Int×aA) (x6:Int×aA) (x9:aa×Int) (x11:Int×aA):Nat→(Int×ByteArray×Int×Int×(List ay))→Option (aq×Int)
  | 0,_=>none
  | k16+1,s15=>cond (iLt s15.1 (IntKind.i64.wrap x11.1)) ((kf (⟨s15.2.1,s15.2.2.1,s15.2.2.2.1⟩:aA)).bind fun (x18:Int×aA)=>cond (iNe x18.2.Err 0) (some ((⟨(⟨0,0,0,0⟩:aO),(⟨([]:List ai),([]:List (List (List ah))),([]:List ax)⟩:aa),([]:List ay)⟩:aq),x18.2.Err)) (cond ((iNe x18.1 1)&&(iNe x18.1 2)) (some ((⟨(⟨0,0,0,0⟩:aO),(⟨([]:List ai),([]:List (List (List ah))),([]:List ax)⟩:aa),([]:List ay)⟩:aq),6)) ((iK x18.2).bind fun (x21:Int×aA)=>cond (iEq x18.1 1) ((iK x21.2).bind fun (x23:Int×aA)=>cond (iNe x23.2.Err 0) (some ((⟨(⟨0,0,0,0⟩:aO),(⟨([]:List ai),([]:List (List (List ah))),([]:List ax)⟩:aa),([]:List ay)⟩:aq),x23.2.Err)) (need (nCap ((s15.2.2.2.2.length+([(⟨x18.1,x21.1,x23.1⟩:ay)]:List ay).length)*24)) (kJ a0 x3 x4 x5 x6 x9 x11 k16 (IntKind.i64.wrap (s15.1+1),x23.2.S,x23.2.At,x23.2.Err,s15.2.2.2.2++([(⟨x18.1,x21.1,x23.1⟩:ay)]:List ay))))) (cond (iNe x21.2.Err 0) (some ((⟨(⟨0,0,0,0⟩:aO),(⟨([]:List ai),([]:List (List (List ah))),([]:List ax)⟩:aa),([]:List ay)⟩:aq),x21.2.Err)) (need (nCap ((s15.2.2.2.2.length+([(⟨x18.1,x21.1,0⟩:ay)]:List ay).length)*24)) (kJ a0 x3 x4 x5 x6 x9 x11 k16 (IntKind.i64.wrap (s15.1+1),x21.2.S,x21.2.At,x21.2.Err,s15.2.2.2.2++([(⟨x18.1,x21.1,0⟩:ay)]:List ay)))))))) (cond (iLt s15.2.2.1 (a0.size:Int)) (some ((⟨(⟨0,0,0,0⟩:aO),(⟨([]:List ai),([]:List (List (List ah))),([]:List ax)⟩:aa),([]:List ay)⟩:aq),2)) ((gf (⟨(⟨x3.1,x4.1,x5.1,x6.1⟩:aO),x9.1,s15.2.2.2.2⟩:aq)).bind fun (x27:Int)=>cond (iNe x27 0) (some ((⟨(⟨0,0,0,0⟩:aO),(⟨([]:List ai),([]:List (List (List ah))),([]:List ax)⟩:aa),([]:List ay)⟩:aq),x27)) (some ((⟨(⟨x3.1,x4.1,x5.1,x6.1⟩:aO),x9.1,s15.2.2.2.2⟩:aq),0))))
def Bi (a0:ByteArray):Option (aq×Int):=
  need (!(!(iLt (a0.size:Int) 3))||nTo (3:Int) (a0.size:Int)) (cond ((iLt (a0.size:Int) 3)||(!sEq (a0.extract 0 (3:Int).toNat) (⟨#[76,83,1]⟩:ByteArray))) (some ((⟨(⟨0,0,0,0⟩:aO),(⟨([]:List ai),([]:List (List (List ah))),([]:List ax)⟩:aa),([]:List ay)⟩:aq),2)) ((n5 (⟨a0,3,0⟩:aA)).bind fun (x3:Int×aA)=>(n5 x3.2).bind fun (x4:Int×aA)=>(n5 x4.2).bind fun (x5:Int×aA)=>(n5 x5.2).bind fun (x6:Int×aA)=>(wQ x6.2).bind fun (x7:ByteArray×aA)=>cond (iNe x7.2.Err 0) (some ((⟨(⟨0,0,0,0⟩:aO),(⟨([]:List ai),([]:List (List (List ah))),([]:List ax)⟩:aa),([]:List ay)⟩:aq),x7.2.Err)) ((Bh x7.1).bind fun (x9:aa×Int)=>cond (iNe x9.2 0) (some ((⟨(⟨0,0,0,0⟩:aO),(⟨([]:List ai),([]:List (List (List ah))),([]:List ax)⟩:aa),([]:List ay)⟩:aq),x9.2)) ((cB x7.2).bind fun (x11:Int×aA)=>cond (iNe x11.2.Err 0) (some ((⟨(⟨0,0,0,0⟩:aO),(⟨([]:List ai),([]:List (List (List ah))),([]:List ax)⟩:aa),([]:List ay)⟩:aq),x11.2.Err)) (cond (iLt 4000 x11.1) (some ((⟨(⟨0,0,0,0⟩:aO),(⟨([]:List ai),([]:List (List (List ah))),([]:List ax)⟩:aa),([]:List ay)⟩:aq),4)) (kJ a0 x3 x4 x5 x6 x9 x11 fuel (0,x11.2.S,x11.2.At,x11.2.Err,([]:List ay))))))))
def Ah (a0:ByteArray):Option Bool:=
  (fi a0).bind fun (x1:aq×Int)=>(Bi a0).bind fun (x2:aq×Int)=>(fP x1.1 x2.1).bind fun (x3:Bool)=>(cond (x3&&(iEq x1.2 x2.2)) (eU) (some default)).bind fun (x4:Bool)=>some ((x3&&(iEq x1.2 x2.2))&&x4)
def kh (a0:aa):Option Bool:=
  (eI a0).bind fun (x1:Int×Int×Int)=>some (iEq x1.2.2 0)
def fQ (a0:ByteArray):Option Bool:=
  (fi a0).bind fun (x1:aq×Int)=>cond (iNe x1.2 0) ((fP x1.1 (⟨(⟨0,0,0,0⟩:aO),(⟨[],[],[]⟩:aa),[]⟩:aq)).bind fun (x3:Bool)=>(cond x3 (eU) (some default)).bind fun (x4:Bool)=>some (x3&&x4)) ((fx x1.1).bind fun (x5:aq)=>(ff x5).bind fun (x6:ByteArray×Int)=>(kh x1.1.Program).bind fun (x7:Bool)=>(cond x7 (fx x1.1) (some default)).bind fun (x8:aq)=>(cond x7 (dU x8) (some default)).bind fun (x9:Int)=>(cond (((x7&&(iEq x9 0))&&(iEq x6.2 0))&&(sEq x6.1 a0)) (eU) (some default)).bind fun (x10:Bool)=>some ((((x7&&(iEq x9 0))&&(iEq x6.2 0))&&(sEq x6.1 a0))&&x10))
def Ai (a0:aq) (a1:ByteArray):Option Bool:=
  (fx a0).bind fun (x1:aq)=>(gf x1).bind fun (x2:Int)=>cond (iNe x2 0) ((eU).bind fun (x4:Bool)=>some x4) ((fx x1).bind fun (x5:aq)=>(ff x5).bind fun (x6:ByteArray×Int)=>cond ((iNe x6.2 0)||(sEq x6.1 ByteArray.empty)) (some false) ((fi x6.1).bind fun (x8:aq×Int)=>need (nStr (x6.1.size+a1.size)) ((fi (x6.1++a1)).bind fun (x10:aq×Int)=>need (nTo (IntKind.i64.wrap ((x6.1.size:Int) - 1)) (x6.1.size:Int)) ((fi (x6.1.extract 0 (IntKind.i64.wrap ((x6.1.size:Int) - 1)).toNat)).bind fun (x12:aq×Int)=>(cond (iEq x8.2 0) (fP x8.1 x1) (some default)).bind fun (x13:Bool)=>(cond ((((iEq x8.2 0)&&x13)&&((iEq x10.2 0)==(sEq a1 ByteArray.empty)))&&(iNe x12.2 0)) (eU) (some default)).bind fun (x14:Bool)=>some (((((iEq x8.2 0)&&x13)&&((iEq x10.2 0)==(sEq a1 ByteArray.empty)))&&(iNe x12.2 0))&&x14)))))
end LJ
