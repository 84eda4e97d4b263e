/- Plain functions that compute what the Go functions of this seat compute. -/
import Derived.Test.YtdebndfaknfefaaGreatDoorXEq
import Derived.Test.YtdebndfaknfefaaGreatDoorXSub
import Derived.Test.YtdebndfaknfefaaGreatDoorXShelf
import Derived.Test.YtdebndfaknfefaaGreatDoorXPan
import Derived.Test.YtdebndfaknfefaaGreatDoorXDef
import Derived.Test.YtdebndfaknfefaaGreatDoorXByt
namespace LJ
open Go
set_option linter.unusedVariables false
structure af where
  Kind:Int
  Obj:Int
  N:Int
  deriving Inhabited,DecidableEq
def bE (x:af):List DV:=[.int .i64 x.Kind, .int .i64 x.Obj, .int .i64 x.N]
def aG (x:List af):List DV:=[slT bE x]
structure ab where
  Kind:Int
  A:Int
  B:Int
  deriving Inhabited,DecidableEq
structure ar where
  Op:Int
  A:Int
  B:Int
  deriving Inhabited,DecidableEq
structure aq where
  Args:Int
  Locals:Int
  Code:List ar
  deriving Inhabited,DecidableEq
structure ah where
  Decls:List ab
  Waits:List (List (List af))
  Funcs:List aq
  deriving Inhabited,DecidableEq
def ai (x:ab):List DV:=[.int .i64 x.Kind, .int .i64 x.A, .int .i64 x.B]
def aa (x:List (List af)):List DV:=[slT aG x]
def aE (x:ar):List DV:=[.int .i64 x.Op, .int .i64 x.A, .int .i64 x.B]
def ak (x:aq):List DV:=[.int .i64 x.Args, .int .i64 x.Locals,slT aE x.Code]
structure aM where
  Mode:Int
  Workers:Int
  Quantum:Int
  Policy:Int
  deriving Inhabited,DecidableEq
structure av where
  Kind:Int
  A:Int
  B:Int
  deriving Inhabited,DecidableEq
structure aw where
  Config:aM
  Program:ah
  Events:List av
  deriving Inhabited,DecidableEq
def aC (x:av):List DV:=[.int .i64 x.Kind, .int .i64 x.A, .int .i64 x.B]
def aA (x:Int):List DV:=[.int .i64 x]
def rV (x:List Int):List DV:=[slT aA x]
def fH (x:ByteArray):List DV:=[.str x]
def bw (x:Bool):List DV:=[.bool x]
structure ed where
  Lo:Int
  Hi:Int
  Stride:Int
  deriving Inhabited,DecidableEq
def vG (x:ed):List DV:=[.int .u16 x.Lo, .int .u16 x.Hi, .int .u16 x.Stride]
structure ee where
  Lo:Int
  Hi:Int
  Stride:Int
  deriving Inhabited,DecidableEq
def vH (x:ee):List DV:=[.int .u32 x.Lo, .int .u32 x.Hi, .int .u32 x.Stride]
structure l7 where
  R16:List ed
  R32:List ee
  LatinOffset:Int
  deriving Inhabited,DecidableEq
structure aH where
  p:ah
  code:List ar
  depth:List Int
  next:List Bool
  at_:Int
  err:Int
  deriving Inhabited,DecidableEq
def Cc (x:Int):List DV:=[.int .u8 x]
structure cT where
  Fn:Int
  Pc:Int
  deriving Inhabited,DecidableEq
structure aD where
  b:ByteArray
  deriving Inhabited,DecidableEq
structure aK where
  addr:Bool
  buf:ByteArray
  deriving Inhabited,DecidableEq
structure ao where
  s:ByteArray
  at_:Int
  err:Int
  deriving Inhabited,DecidableEq
structure ax where
  s:ByteArray
  deriving Inhabited,DecidableEq
structure au where
  S:ByteArray
  At:Int
  Err:Int
  deriving Inhabited,DecidableEq
def lh (a0:List (List af)):Nat→(Int×(List (List af)))→Option (List (List af))
  | 0,_=>none
  | k2+1,s1=>cond ((iLt s1.1 (a0.length:Int))&&(iLt s1.1 6)) (need (nIn s1.1 (a0.length:Int)) (cond (iLt 6 ((a0.getD s1.1.toNat default).length:Int)) (need (nSl (0:Int) (6:Int) ((a0.getD s1.1.toNat default).length:Int)) (need (nCap ((([]:List af).length+(((a0.getD s1.1.toNat default).take (6:Int).toNat).drop (0:Int).toNat).length)*24)) (need (nCap ((s1.2.length+([([]:List af)++(((a0.getD s1.1.toNat default).take (6:Int).toNat).drop (0:Int).toNat)]:List (List af)).length)*24)) (lh a0 k2 (IntKind.i64.wrap (s1.1+1),s1.2++([([]:List af)++(((a0.getD s1.1.toNat default).take (6:Int).toNat).drop (0:Int).toNat)]:List (List af))))))) (need (nCap ((([]:List af).length+(a0.getD s1.1.toNat default).length)*24)) (need (nCap ((s1.2.length+([([]:List af)++(a0.getD s1.1.toNat default)]:List (List af)).length)*24)) (lh a0 k2 (IntKind.i64.wrap (s1.1+1),s1.2++([([]:List af)++(a0.getD s1.1.toNat default)]:List (List af)))))))) (some s1.2)
def z6 (a0:List (List af)):Option (List (List af)):=
  lh a0 fuel (0,([]:List (List af)))
def na (a0:ah) (s10:Int×(List aq)) (K13:(List aq)→Option ah):Nat→(Int×(List ar))→Option ah
  | 0,_=>none
  | k19+1,s18=>need (nIn s10.1 (a0.Funcs.length:Int)) (cond ((iLt s18.1 (((a0.Funcs.getD s10.1.toNat default).Code).length:Int))&&(iLt s18.1 250)) (need (nIn s10.1 (a0.Funcs.length:Int)) (need (nIn s18.1 (((a0.Funcs.getD s10.1.toNat default).Code).length:Int)) (need (nCap ((s18.2.length+([(((a0.Funcs.getD s10.1.toNat default).Code).getD s18.1.toNat default)]:List ar).length)*24)) (na a0 s10 K13 k19 (IntKind.i64.wrap (s18.1+1),s18.2++([(((a0.Funcs.getD s10.1.toNat default).Code).getD s18.1.toNat default)]:List ar)))))) (need (nCap ((s10.2.length+([(⟨(a0.Funcs.getD s10.1.toNat default).Args,(a0.Funcs.getD s10.1.toNat default).Locals,s18.2⟩:aq)]:List aq).length)*40)) (K13 (s10.2++([(⟨(a0.Funcs.getD s10.1.toNat default).Args,(a0.Funcs.getD s10.1.toNat default).Locals,s18.2⟩:aq)]:List aq)))))
def nb (a0:ah) (s2:Int×(List ab)) (s6:Int×(List (List (List af)))):Nat→(Int×(List aq))→Option ah
  | 0,_=>none
  | k11+1,s10=>cond ((iLt s10.1 (a0.Funcs.length:Int))&&(iLt s10.1 20)) (gR (fun s14:List aq=>nb a0 s2 s6 k11 (IntKind.i64.wrap (s10.1+1),s14)) fun K13=>need (nIn s10.1 (a0.Funcs.length:Int)) (need (nIn s10.1 (a0.Funcs.length:Int)) (na a0 s10 K13 fuel (0,([]:List ar))))) (some (⟨s2.2,s6.2,s10.2⟩:ah))
def oG (a0:ah) (s2:Int×(List ab)):Nat→(Int×(List (List (List af))))→Option ah
  | 0,_=>none
  | k7+1,s6=>cond ((iLt s6.1 (a0.Waits.length:Int))&&(iLt s6.1 40)) (need (nIn s6.1 (a0.Waits.length:Int)) ((z6 (a0.Waits.getD s6.1.toNat default)).bind fun (x9_7_1:List (List af))=>need (nCap ((s6.2.length+([x9_7_1]:List (List (List af))).length)*24)) (oG a0 s2 k7 (IntKind.i64.wrap (s6.1+1),s6.2++([x9_7_1]:List (List (List af))))))) (nb a0 s2 s6 fuel (0,([]:List aq)))
def oH (a0:ah):Nat→(Int×(List ab))→Option ah
  | 0,_=>none
  | k3+1,s2=>cond ((iLt s2.1 (a0.Decls.length:Int))&&(iLt s2.1 40)) (need (nIn s2.1 (a0.Decls.length:Int)) (need (nCap ((s2.2.length+([(a0.Decls.getD s2.1.toNat default)]:List ab).length)*24)) (oH a0 k3 (IntKind.i64.wrap (s2.1+1),s2.2++([(a0.Decls.getD s2.1.toNat default)]:List ab))))) (oG a0 s2 fuel (0,([]:List (List (List af)))))
def uq (a0:ah):Option ah:=
  oH a0 fuel (0,([]:List ab))
def ji (a0:aw):Option aw:=
  cond (iLt 4100 (a0.Events.length:Int)) (need (nSl (0:Int) (4100:Int) (a0.Events.length:Int)) ((uq a0.Program).bind fun (x4_4_1:ah)=>need (nCap ((([]:List av).length+((a0.Events.take (4100:Int).toNat).drop (0:Int).toNat).length)*24)) (some (⟨a0.Config,x4_4_1,([]:List av)++((a0.Events.take (4100:Int).toNat).drop (0:Int).toNat)⟩:aw)))) ((uq a0.Program).bind fun (x4_4_1:ah)=>need (nCap ((([]:List av).length+a0.Events.length)*24)) (some (⟨a0.Config,x4_4_1,([]:List av)++a0.Events⟩:aw)))
def gk (a0:aM):Option Int:=
  cond ((((((((iLt a0.Mode 0)||(iLt 2 a0.Mode))||(iLt a0.Workers 1))||(iLt 8 a0.Workers))||(iLt a0.Quantum 1))||(iLt 100 a0.Quantum))||(iLt a0.Policy 0))||(iLt 3 a0.Policy)) (some 1) (some 0)
def jb (a0:Int):Option Bool:=
  some ((iLe (-2147483648) a0)&&(iLt a0 2147483648))
def dr (a0:Int):Nat→Int→Option (List Int)
  | 0,_=>none
  | k2+1,s1=>cond (iLt s1 ((⟨#[117,115,112,99,109,98,118,113]⟩:ByteArray).size:Int)) (need (nIn s1 ((⟨#[117,115,112,99,109,98,118,113]⟩:ByteArray).size:Int)) (cond (iEq (bf (⟨#[117,115,112,99,109,98,118,113]⟩:ByteArray) s1.toNat) a0) (need (nIn s1 (([([1,2]:List Int),([3]:List Int),([6]:List Int),([4]:List Int),([1]:List Int),([5]:List Int),([7]:List Int),([1,6]:List Int)]:List (List Int)).length:Int)) (some (([([1,2]:List Int),([3]:List Int),([6]:List Int),([4]:List Int),([1]:List Int),([5]:List Int),([7]:List Int),([1,6]:List Int)]:List (List Int)).getD s1.toNat default))) (dr a0 k2 (IntKind.i64.wrap (s1+1))))) (some [])
def hH (a0:Int):Option (List Int):=
  dr a0 fuel 0
def cB (a0:List ab) (a2:Int) (x1:List Int):Nat→Int→Option Bool
  | 0,_=>none
  | k3+1,s2=>cond (((iLt s2 (x1.length:Int))&&(iLe 0 a2))&&(iLt a2 (a0.length:Int))) (need (nIn a2 (a0.length:Int)) (need (nIn s2 (x1.length:Int)) (cond (iEq ((a0.getD a2.toNat default).Kind) (x1.getD s2.toNat default)) (some true) (cB a0 a2 x1 k3 (IntKind.i64.wrap (s2+1)))))) (some false)
def gl (a0:List ab) (a1:Int) (a2:Int):Option Bool:=
  (hH a1).bind fun (x1:List Int)=>cB a0 a2 x1 fuel 0
def jj (a0:List ab) (a1:ab):Option Int:=
  cond ((iLt a1.Kind 1)||(iLt 7 a1.Kind)) (some 6) (cond ((iEq a1.Kind 3)&&((((iLt a1.B 1)||(iLt 1000 a1.B))||(iLt a1.A 0))||(iLt a1.B a1.A))) (some 1) (cond ((iEq a1.Kind 6)&&((iLt a1.A 1)||(iLt 1000 a1.A))) (some 1) ((cond (iEq a1.Kind 7) (jb a1.A) (some default)).bind fun (x4:Bool)=>(cond ((iEq a1.Kind 7)&& !(!x4)) (gl a0 117 a1.B) (some default)).bind fun (x5:Bool)=>cond ((iEq a1.Kind 7)&&((!x4)||(!x5))) (some 1) (cond ((((iNe a1.Kind 3)&&(iNe a1.Kind 7))&&(iNe a1.B 0))||((((iNe a1.Kind 3)&&(iNe a1.Kind 6))&&(iNe a1.Kind 7))&&(iNe a1.A 0))) (some 2) (some 0)))))
def cz (a0:List ab):Nat→Int→Option (Int×Int)
  | 0,_=>none
  | k3+1,s2=>cond (iLt s2 (a0.length:Int)) (need (nIn s2 (a0.length:Int)) ((jj a0 (a0.getD s2.toNat default)).bind fun (x6:Int)=>cond (iNe x6 0) (some (s2,x6)) (cz a0 k3 (IntKind.i64.wrap (s2+1))))) (some (0,0))
def ff (a0:List ab):Option (Int×Int):=
  cond (iLt 32 (a0.length:Int)) (some (0,4)) (cz a0 fuel 0)
def jk (a0:List ab) (a1:af):Option Int:=
  cond ((iLt a1.Kind 1)||(iLt 5 a1.Kind)) (some 6) (need (!(!((iLt a1.Obj 0)||(iLe (a0.length:Int) a1.Obj)))||nIn a1.Obj (a0.length:Int)) (need (!(!((iLt a1.Obj 0)||(iLe (a0.length:Int) a1.Obj)))||nIn a1.Kind (([0,1,2,2,3,6]:List Int).length:Int)) (cond (((iLt a1.Obj 0)||(iLe (a0.length:Int) a1.Obj))||(iNe ((a0.getD a1.Obj.toNat default).Kind) (([0,1,2,2,3,6]:List Int).getD a1.Kind.toNat default))) (some 1) (cond (iEq a1.Kind 4) (need (nIn a1.Obj (a0.length:Int)) (cond (iEq a1.Kind 5) (need (nIn a1.Obj (a0.length:Int)) (cond ((iLt a1.N 1)||(iLt ((a0.getD a1.Obj.toNat default).A) a1.N)) (some 1) (some 0))) (cond ((iLt a1.N 1)||(iLt ((a0.getD a1.Obj.toNat default).B) a1.N)) (some 1) (some 0)))) (cond (iEq a1.Kind 5) (need (nIn a1.Obj (a0.length:Int)) (cond ((iLt a1.N 1)||(iLt ((a0.getD a1.Obj.toNat default).A) a1.N)) (some 1) (some 0))) (cond ((iLt a1.N 0)||(iLt 0 a1.N)) (some 1) (some 0)))))))
def cj (a1:List (List af)) (s3:Int) (s17:Int) (K20:Unit→Option Int):Nat→Int→Option Int
  | 0,_=>none
  | k23+1,s22=>cond (iLt s22 s17) (need (nIn s22 ((a1.getD s3.toNat default).length:Int)) (need (nIn s17 ((a1.getD s3.toNat default).length:Int)) (need (!(!(iEq (((a1.getD s3.toNat default).getD s22.toNat default).Obj) (((a1.getD s3.toNat default).getD s17.toNat default).Obj)))||nIn s22 ((a1.getD s3.toNat default).length:Int)) (need (!(!((iEq (((a1.getD s3.toNat default).getD s22.toNat default).Obj) (((a1.getD s3.toNat default).getD s17.toNat default).Obj))||(iEq (((a1.getD s3.toNat default).getD s22.toNat default).Kind) 4)))||nIn s17 ((a1.getD s3.toNat default).length:Int)) (cond (((iEq (((a1.getD s3.toNat default).getD s22.toNat default).Obj) (((a1.getD s3.toNat default).getD s17.toNat default).Obj))||(iEq (((a1.getD s3.toNat default).getD s22.toNat default).Kind) 4))||(iEq (((a1.getD s3.toNat default).getD s17.toNat default).Kind) 4)) (some 2) (cj a1 s3 s17 K20 k23 (IntKind.i64.wrap (s22+1)))))))) (K20 Unit.unit)
def bR (a1:List (List af)) (s3:Int) (K6:Unit→Option Int):Nat→Int→Option Int
  | 0,_=>none
  | k18+1,s17=>cond (iLt s17 ((a1.getD s3.toNat default).length:Int)) (gR (fun s21:Unit=>bR a1 s3 K6 k18 (IntKind.i64.wrap (s17+1))) fun K20=>cj a1 s3 s17 K20 fuel 0) (K6 Unit.unit)
def ck (a0:List ab) (a1:List (List af)) (s3:Int) (K6:Unit→Option Int):Nat→Int→Option Int
  | 0,_=>none
  | k12+1,s11=>cond (iLt s11 ((a1.getD s3.toNat default).length:Int)) (need (nIn s11 ((a1.getD s3.toNat default).length:Int)) ((jk a0 ((a1.getD s3.toNat default).getD s11.toNat default)).bind fun (x15:Int)=>cond (iNe x15 0) (some x15) (ck a0 a1 s3 K6 k12 (IntKind.i64.wrap (s11+1))))) (bR a1 s3 K6 fuel 0)
def cb (a0:List ab) (a1:List (List af)):Nat→Int→Option Int
  | 0,_=>none
  | k4+1,s3=>cond (iLt s3 (a1.length:Int)) (gR (fun s7:Unit=>cb a0 a1 k4 (IntKind.i64.wrap (s3+1))) fun K6=>need (nIn s3 (a1.length:Int)) (cond (iEq ((a1.getD s3.toNat default).length:Int) 0) (some 2) (cond (iLt 4 ((a1.getD s3.toNat default).length:Int)) (some 4) (ck a0 a1 s3 K6 fuel 0)))) (some 0)
def fg (a0:List ab) (a1:List (List af)):Option Int:=
  cond (iEq (a1.length:Int) 0) (some 2) (cond (iLt 4 (a1.length:Int)) (some 4) (cb a0 a1 fuel 0))
def dA (a0:Int):Option Bool:=
  some ((iLe 0 a0)&&(iLe a0 51))
def kB:Option (List ByteArray):=
  some ([(⟨#[110]⟩:ByteArray),(⟨#[107]⟩:ByteArray),(⟨#[107]⟩:ByteArray),ByteArray.empty,ByteArray.empty,ByteArray.empty,ByteArray.empty,ByteArray.empty,ByteArray.empty,ByteArray.empty,ByteArray.empty,ByteArray.empty,ByteArray.empty,ByteArray.empty,ByteArray.empty,ByteArray.empty,ByteArray.empty,ByteArray.empty,(⟨#[116]⟩:ByteArray),(⟨#[116]⟩:ByteArray),(⟨#[102]⟩:ByteArray),ByteArray.empty,ByteArray.empty,ByteArray.empty,ByteArray.empty,ByteArray.empty,(⟨#[119]⟩:ByteArray),(⟨#[119]⟩:ByteArray),ByteArray.empty,(⟨#[117]⟩:ByteArray),(⟨#[115]⟩:ByteArray),(⟨#[112]⟩:ByteArray),(⟨#[99,109]⟩:ByteArray),(⟨#[99,109]⟩:ByteArray),(⟨#[99]⟩:ByteArray),(⟨#[99]⟩:ByteArray),(⟨#[98]⟩:ByteArray),(⟨#[98]⟩:ByteArray),(⟨#[98]⟩:ByteArray),(⟨#[98]⟩:ByteArray),(⟨#[102]⟩:ByteArray),(⟨#[106,106]⟩:ByteArray),(⟨#[106,106]⟩:ByteArray),ByteArray.empty,ByteArray.empty,(⟨#[118]⟩:ByteArray),(⟨#[118]⟩:ByteArray),ByteArray.empty,ByteArray.empty,(⟨#[113]⟩:ByteArray),(⟨#[109]⟩:ByteArray),(⟨#[109]⟩:ByteArray)]:List ByteArray)
def gm (a0:Int):Option ByteArray:=
  (dA a0).bind fun (x1:Bool)=>cond (!x1) (some ByteArray.empty) ((kB).bind fun (x3:List ByteArray)=>need (nIn a0 (x3.length:Int)) (some (x3.getD a0.toNat default)))
def hJ (a0:Int):Option Int:=
  cond (iEq a0 106) (some 1) (some 0)
def jc (a0:Int):Option Int:=
  cond (iEq a0 107) (some 7) (cond (iEq a0 116) (some 199) (cond (iEq a0 102) (some 15) (cond (iEq a0 106) (some 4) (some 31))))
def cm (a0:ar):Nat→Int→Option Int
  | 0,_=>none
  | k33+1,s32=>cond (iLt s32 2) (need (nIn s32 (([a0.A,a0.B]:List Int).length:Int)) (cond (iNe (([a0.A,a0.B]:List Int).getD s32.toNat default) 0) (some 2) (cm a0 k33 (IntKind.i64.wrap (s32+1))))) (some 0)
def bV (a0:ar) (x3_2_1:ByteArray):Nat→Int→Option Int
  | 0,_=>none
  | k4+1,s3=>cond (iLt s3 (x3_2_1.size:Int)) (need (nIn s3 (x3_2_1.size:Int)) (cond (iEq (bf x3_2_1 s3.toNat) 110) (need (nIn s3 (([a0.A,a0.B]:List Int).length:Int)) ((jb (([a0.A,a0.B]:List Int).getD s3.toNat default)).bind fun (x9:Bool)=>cond (!x9) (some 1) (need (nIn s3 (x3_2_1.size:Int)) (cond (iNe (bf x3_2_1 s3.toNat) 110) (need (nIn s3 (([a0.A,a0.B]:List Int).length:Int)) (need (nIn s3 (x3_2_1.size:Int)) ((hJ (bf x3_2_1 s3.toNat)).bind fun (x15:Int)=>cond (iLt (([a0.A,a0.B]:List Int).getD s3.toNat default) x15) (some 1) (need (nIn s3 (([a0.A,a0.B]:List Int).length:Int)) (need (nIn s3 (x3_2_1.size:Int)) ((jc (bf x3_2_1 s3.toNat)).bind fun (x19:Int)=>cond (iLt x19 (([a0.A,a0.B]:List Int).getD s3.toNat default)) (some 1) (bV a0 x3_2_1 k4 (IntKind.i64.wrap (s3+1))))))))) (bV a0 x3_2_1 k4 (IntKind.i64.wrap (s3+1))))))) (need (nIn s3 (x3_2_1.size:Int)) (cond (iNe (bf x3_2_1 s3.toNat) 110) (need (nIn s3 (([a0.A,a0.B]:List Int).length:Int)) (need (nIn s3 (x3_2_1.size:Int)) ((hJ (bf x3_2_1 s3.toNat)).bind fun (x25:Int)=>cond (iLt (([a0.A,a0.B]:List Int).getD s3.toNat default) x25) (some 1) (need (nIn s3 (([a0.A,a0.B]:List Int).length:Int)) (need (nIn s3 (x3_2_1.size:Int)) ((jc (bf x3_2_1 s3.toNat)).bind fun (x29:Int)=>cond (iLt x29 (([a0.A,a0.B]:List Int).getD s3.toNat default)) (some 1) (bV a0 x3_2_1 k4 (IntKind.i64.wrap (s3+1))))))))) (bV a0 x3_2_1 k4 (IntKind.i64.wrap (s3+1))))))) (cond ((sEq x3_2_1 (⟨#[106,106]⟩:ByteArray))&&(iLt a0.B a0.A)) (some 1) (cm a0 fuel (x3_2_1.size:Int)))
def fY (a0:ar):Option Int:=
  (dA a0.Op).bind fun (x1:Bool)=>cond (!x1) (some 6) ((gm a0.Op).bind fun (x3_2_1:ByteArray)=>bV a0 x3_2_1 fuel 0)
def bH (a0:aq):Nat→Int→Option Int
  | 0,_=>none
  | k5+1,s4=>cond (iLt s4 (a0.Code.length:Int)) (need (nIn s4 (a0.Code.length:Int)) ((fY (a0.Code.getD s4.toNat default)).bind fun (x8:Int)=>cond (iNe x8 0) (some x8) (bH a0 k5 (IntKind.i64.wrap (s4+1))))) (some 0)
def dT (a0:aq):Option Int:=
  cond (((iLt a0.Args 0)||(iLt a0.Locals a0.Args))||(iLt 8 a0.Locals)) (some 1) (cond (iEq (a0.Code.length:Int) 0) (some 2) (cond (iLt 200 (a0.Code.length:Int)) (some 4) (bH a0 fuel 0)))
def cn (a0:ah):Nat→Int→Option Int
  | 0,_=>none
  | k13+1,s12=>cond (iLt s12 (a0.Funcs.length:Int)) (need (nIn s12 (a0.Funcs.length:Int)) ((dT (a0.Funcs.getD s12.toNat default)).bind fun (x16:Int)=>cond (iNe x16 0) (some x16) (cn a0 k13 (IntKind.i64.wrap (s12+1))))) (some 0)
def cA (a0:ah):Nat→Int→Option Int
  | 0,_=>none
  | k5+1,s4=>cond (iLt s4 (a0.Waits.length:Int)) (need (nIn s4 (a0.Waits.length:Int)) ((fg a0.Decls (a0.Waits.getD s4.toNat default)).bind fun (x8:Int)=>cond (iNe x8 0) (some x8) (cA a0 k5 (IntKind.i64.wrap (s4+1))))) (cond (iEq (a0.Funcs.length:Int) 0) (some 2) (cond (iLt 16 (a0.Funcs.length:Int)) (some 4) (cn a0 fuel 0)))
def fh (a0:ah):Option Int:=
  (ff a0.Decls).bind fun (x1:Int×Int)=>cond (iNe x1.2 0) (some x1.2) (cond (iLt 32 (a0.Waits.length:Int)) (some 4) (cA a0 fuel 0))
def jH (a0:Int):Option Bool:=
  some ((((((iNe a0 110)&&(iNe a0 107))&&(iNe a0 116))&&(iNe a0 102))&&(iNe a0 119))&&(iNe a0 106))
def gy (a0:ah) (a1:aq) (a2:ar) (a3:Int) (a4:Int):Option Int:=
  cond ((((iEq a3 107)&&(iLe a1.Locals a4))||((iEq a3 116)&&(iLe (a1.Code.length:Int) a4)))||((iEq a3 119)&&(iLe (a0.Waits.length:Int) a4))) (some 1) (need (!(((iEq a3 102)&& !(iLe (a0.Funcs.length:Int) a4))&&(iEq a2.Op 40))||nIn a4 (a0.Funcs.length:Int)) (cond ((iEq a3 102)&&((iLe (a0.Funcs.length:Int) a4)||((iEq a2.Op 40)&&(iNe ((a0.Funcs.getD a4.toNat default).Args) 1)))) (some 1) ((jH a3).bind fun (x4:Bool)=>(cond x4 (gl a0.Decls a3 a4) (some default)).bind fun (x5:Bool)=>cond (x4&&(!x5)) (some 6) (some 0))))
def jl:Option (List Int):=
  some ([0,0,1,2,2,2,2,2,1,2,2,2,2,2,2,2,1,1,0,1,0,1,0,0,1,0,0,1,1,0,1,1,0,1,0,0,0,0,0,1,2,0,1,2,1,0,1,0,0,1,0,0]:List Int)
def dy (a0:ar) (a1:Int):Option Int:=
  (dA a0.Op).bind fun (x1:Bool)=>cond (!x1) (some 0) (cond (iEq a0.Op 20) (some a1) (cond ((iEq a0.Op 41)||(iEq a0.Op 42)) ((jl).bind fun (x5:List Int)=>need (nIn a0.Op (x5.length:Int)) (some (IntKind.i64.wrap ((x5.getD a0.Op.toNat default)+a0.B)))) ((jl).bind fun (x7:List Int)=>need (nIn a0.Op (x7.length:Int)) (some (x7.getD a0.Op.toNat default)))))
def lS:Option (List Int):=
  some ([1,1,0,1,1,1,1,1,1,1,1,1,1,1,1,1,2,0,0,0,1,0,1,1,1,0,1,1,1,1,1,1,1,1,1,1,1,1,1,1,1,1,1,1,1,2,1,1,1,1,1,1]:List Int)
def dt (a0:Int):Option Int:=
  (dA a0).bind fun (x1:Bool)=>cond (!x1) (some 0) ((lS).bind fun (x3:List Int)=>need (nIn a0 (x3.length:Int)) (some (x3.getD a0.toNat default)))
def iC (a0:ah) (a1:ar) (a2:Int):Option Int:=
  cond ((iEq a1.Op 20)&&(iLt a1.A (a0.Funcs.length:Int))) (need (nIn a1.A (a0.Funcs.length:Int)) ((dy a1 ((a0.Funcs.getD a1.A.toNat default).Args)).bind fun (x3:Int)=>cond (iLt (IntKind.i64.wrap (a2 - x3)) 0) (some (-1)) ((dt a1.Op).bind fun (x5:Int)=>some (IntKind.i64.wrap ((IntKind.i64.wrap (a2 - x3))+x5))))) ((dy a1 0).bind fun (x6:Int)=>cond (iLt (IntKind.i64.wrap (a2 - x6)) 0) (some (-1)) ((dt a1.Op).bind fun (x8:Int)=>some (IntKind.i64.wrap ((IntKind.i64.wrap (a2 - x6))+x8))))
def j6 (a0:ar) (a1:Int):Option (List Int):=
  cond ((iNe a0.Op 18)&&(iNe a0.Op 21)) (need (nCap ((([]:List Int).length+([IntKind.i64.wrap (a1+1)]:List Int).length)*8)) (cond ((iEq a0.Op 18)||(iEq a0.Op 19)) (need (nCap (((([]:List Int)++([IntKind.i64.wrap (a1+1)]:List Int)).length+([a0.A]:List Int).length)*8)) (some ((([]:List Int)++([IntKind.i64.wrap (a1+1)]:List Int))++([a0.A]:List Int)))) (some (([]:List Int)++([IntKind.i64.wrap (a1+1)]:List Int))))) (cond ((iEq a0.Op 18)||(iEq a0.Op 19)) (need (nCap ((([]:List Int).length+([a0.A]:List Int).length)*8)) (some (([]:List Int)++([a0.A]:List Int)))) (some ([]:List Int)))
def cK (a1:List ar) (x3:Int) (x7:List Int):Nat→(Int×(List Int))→Option (Int×(List Int))
  | 0,_=>none
  | k9+1,s8=>cond (iLt s8.1 (x7.length:Int)) (need (nIn s8.1 (x7.length:Int)) (cond (iLe (a1.length:Int) (x7.getD s8.1.toNat default)) (some (3,s8.2)) (need (nIn s8.1 (x7.length:Int)) (need (nIn (x7.getD s8.1.toNat default) (s8.2.length:Int)) (cond (iLe 0 (s8.2.getD (x7.getD s8.1.toNat default).toNat default)) (need (nIn s8.1 (x7.length:Int)) (need (nIn (x7.getD s8.1.toNat default) (s8.2.length:Int)) (cond (iNe (s8.2.getD (x7.getD s8.1.toNat default).toNat default) x3) (some (2,s8.2)) (need (nIn s8.1 (x7.length:Int)) (need (nIn (x7.getD s8.1.toNat default) (s8.2.length:Int)) (cK a1 x3 x7 k9 (IntKind.i64.wrap (s8.1+1),s8.2.set (x7.getD s8.1.toNat default).toNat x3))))))) (need (nIn s8.1 (x7.length:Int)) (need (nIn (x7.getD s8.1.toNat default) (s8.2.length:Int)) (cK a1 x3 x7 k9 (IntKind.i64.wrap (s8.1+1),s8.2.set (x7.getD s8.1.toNat default).toNat x3))))))))) (some (0,s8.2))
def iE (a0:ah) (a1:List ar) (a2:List Int) (a3:Int):Option (Int×(List Int)):=
  need (nIn a3 (a1.length:Int)) (need (nIn a3 (a2.length:Int)) ((iC a0 (a1.getD a3.toNat default) (a2.getD a3.toNat default)).bind fun (x3:Int)=>cond (iLt x3 0) (some (2,a2)) (cond (iLt 16 x3) (some (4,a2)) (need (nIn a3 (a1.length:Int)) ((j6 (a1.getD a3.toNat default) a3).bind fun (x7:List Int)=>cK a1 x3 x7 fuel (0,a2))))))
def cx (a0:ah) (a1:Int) (s10:Int×Int×(List Int)×(List Bool)) (K12:Int→Option ((List Int)×Int×Int)):Nat→Int→Option ((List Int)×Int×Int)
  | 0,_=>none
  | k15+1,s14=>cond (iLt s14 (((a0.Funcs.getD a1.toNat default).Code).length:Int)) (need (nIn s14 (s10.2.2.2.length:Int)) (cond (s10.2.2.2.getD s14.toNat default) (cx a0 a1 s10 K12 k15 (IntKind.i64.wrap (s14+1))) (need (nIn s14 (s10.2.2.1.length:Int)) (cond (iLt (s10.2.2.1.getD s14.toNat default) 0) (cx a0 a1 s10 K12 k15 (IntKind.i64.wrap (s14+1))) (K12 s14))))) (K12 s14)
def du (a0:ah) (a1:Int) (K8:(Int×Int×(List Int))→Option ((List Int)×Int×Int)):Nat→(Int×Int×(List Int)×(List Bool))→Option ((List Int)×Int×Int)
  | 0,_=>none
  | k11+1,s10=>gR (fun s13:Int=>cond (iEq s13 (((a0.Funcs.getD a1.toNat default).Code).length:Int)) (K8 (s10.1,s10.2.1,s10.2.2.1)) ((iE a0 ((a0.Funcs.getD a1.toNat default).Code) s10.2.2.1 s13).bind fun (x22:Int×(List Int))=>need (nIn s13 (s10.2.2.2.length:Int)) (cond ((iNe x22.1 0)&&(iLt s13 s10.1)) (du a0 a1 K8 k11 (s13,x22.1,x22.2,s10.2.2.2.set s13.toNat true)) (du a0 a1 K8 k11 (s10.1,s10.2.1,x22.2,s10.2.2.2.set s13.toNat true))))) fun K12=>cx a0 a1 s10 K12 fuel 0
def eu (a0:ah) (a1:Int):Nat→(Int×(List Int))→Option ((List Int)×Int×Int)
  | 0,_=>none
  | k5+1,s4=>cond (iLt s4.1 (((a0.Funcs.getD a1.toNat default).Code).length:Int)) (need (nIn s4.1 (s4.2.length:Int)) (eu a0 a1 k5 (IntKind.i64.wrap (s4.1+1),s4.2.set s4.1.toNat (-1)))) (gR (fun s9:Int×Int×(List Int)=>cond (iNe s9.2.1 0) (some ([],s9.1,s9.2.1)) (some (s9.2.2,0,0))) fun K8=>du a0 a1 K8 fuel ((((a0.Funcs.getD a1.toNat default).Code).length:Int),0,s4.2,List.replicate (((a0.Funcs.getD a1.toNat default).Code).length:Int).toNat (false:Bool)))
def jI (a0:ah) (a1:Int):Option ((List Int)×Int×Int):=
  cond ((iLt a1 0)||(iLe (a0.Funcs.length:Int) a1)) (some ([],0,19)) (need (nIn a1 (a0.Funcs.length:Int)) (cond (iEq (((a0.Funcs.getD a1.toNat default).Code).length:Int) 0) (some ([],0,3)) (need (nMk (((a0.Funcs.getD a1.toNat default).Code).length:Int) 8) (need (nMk (((a0.Funcs.getD a1.toNat default).Code).length:Int) 1) (eu a0 a1 fuel (1,List.replicate (((a0.Funcs.getD a1.toNat default).Code).length:Int).toNat (0:Int)))))))
def cQ (a0:ah) (s5:Int) (s11:Int) (x14_2_1:ByteArray) (K14:Unit→Option (Int×Int×Int)):Nat→Int→Option (Int×Int×Int)
  | 0,_=>none
  | k18+1,s17=>cond (iLt s17 (x14_2_1.size:Int)) (need (nIn s17 (x14_2_1.size:Int)) (need (nIn s17 (([(((a0.Funcs.getD s5.toNat default).Code).getD s11.toNat default).A,(((a0.Funcs.getD s5.toNat default).Code).getD s11.toNat default).B]:List Int).length:Int)) ((gy a0 (a0.Funcs.getD s5.toNat default) (((a0.Funcs.getD s5.toNat default).Code).getD s11.toNat default) (bf x14_2_1 s17.toNat) (([(((a0.Funcs.getD s5.toNat default).Code).getD s11.toNat default).A,(((a0.Funcs.getD s5.toNat default).Code).getD s11.toNat default).B]:List Int).getD s17.toNat default)).bind fun (x22:Int)=>cond (iNe x22 0) (some (s5,s11,x22)) (cQ a0 s5 s11 x14_2_1 K14 k18 (IntKind.i64.wrap (s17+1)))))) (K14 Unit.unit)
def cR (a0:ah) (s5:Int) (K8:Unit→Option (Int×Int×Int)):Nat→Int→Option (Int×Int×Int)
  | 0,_=>none
  | k12+1,s11=>cond (iLt s11 (((a0.Funcs.getD s5.toNat default).Code).length:Int)) (gR (fun s15:Unit=>cR a0 s5 K8 k12 (IntKind.i64.wrap (s11+1))) fun K14=>need (nIn s11 (((a0.Funcs.getD s5.toNat default).Code).length:Int)) ((gm ((((a0.Funcs.getD s5.toNat default).Code).getD s11.toNat default).Op)).bind fun (x14_2_1:ByteArray)=>cQ a0 s5 s11 x14_2_1 K14 fuel 0)) ((jI a0 s5).bind fun (x24:(List Int)×Int×Int)=>cond (iNe x24.2.2 0) (some (s5,x24.2.1,x24.2.2)) (K8 Unit.unit))
def cL (a0:ah):Nat→Int→Option (Int×Int×Int)
  | 0,_=>none
  | k6+1,s5=>cond (iLt s5 (a0.Funcs.length:Int)) (gR (fun s9:Unit=>cL a0 k6 (IntKind.i64.wrap (s5+1))) fun K8=>need (nIn s5 (a0.Funcs.length:Int)) (cR a0 s5 K8 fuel 0)) (some (0,0,0))
def ew (a0:ah):Option (Int×Int×Int):=
  (fh a0).bind fun (x1:Int)=>cond (iNe x1 0) (some (0,0,x1)) (need (nIn (0:Int) (a0.Funcs.length:Int)) (cond (iNe ((a0.Funcs.getD (0:Int).toNat default).Args) 0) (some (0,0,1)) (cL a0 fuel 0)))
def dU (a0:aw):Nat→Int→Option Int
  | 0,_=>none
  | k7+1,s6=>cond (iLt s6 (a0.Events.length:Int)) (need (nIn s6 (a0.Events.length:Int)) (cond ((iNe ((a0.Events.getD s6.toNat default).Kind) 1)&&(iNe ((a0.Events.getD s6.toNat default).Kind) 2)) (some 6) (cond ((iEq ((a0.Events.getD s6.toNat default).Kind) 2)&&(iNe ((a0.Events.getD s6.toNat default).B) 0)) (some 2) (dU a0 k7 (IntKind.i64.wrap (s6+1)))))) (some 0)
def fZ (a0:aw):Option Int:=
  (gk a0.Config).bind fun (x1:Int)=>cond (iNe x1 0) (some 1) ((ew a0.Program).bind fun (x3:Int×Int×Int)=>cond (iNe x3.2.2 0) (some x3.2.2) (cond (iLt 4000 (a0.Events.length:Int)) (some 4) (dU a0 fuel 0)))
def jm (a0:Int) (a1:Int) (a2:Int):Option Bool:=
  some ((iLe a1 a0)&&(iLe a0 a2))
def fv (a0:aM):Option Int:=
  (jm a0.Mode 0 2).bind fun (x1:Bool)=>(cond x1 (jm a0.Workers 1 8) (some default)).bind fun (x2:Bool)=>(cond (x1&&x2) (jm a0.Quantum 1 100) (some default)).bind fun (x3:Bool)=>(cond ((x1&&x2)&&x3) (jm a0.Policy 0 3) (some default)).bind fun (x4:Bool)=>cond (((x1&&x2)&&x3)&&x4) (some 0) (some 1)
def j7 (a0:Int) (a1:Int):Option Bool:=
  some ((iLe a1 a0)&&(iLe a0 1000))
def j8 (a0:Int):Option Bool:=
  some (iEq (IntKind.i64.wrap (IntKind.i32.wrap a0)) a0)
def fi (a0:List ab) (a1:Int) (a2:Int):Option Bool:=
  cond ((iLt a2 0)||(iLe (a0.length:Int) a2)) (some false) (need (nIn a2 (a0.length:Int)) (cond (iEq a1 117) (some ((iEq ((a0.getD a2.toNat default).Kind) 1)||(iEq ((a0.getD a2.toNat default).Kind) 2))) (cond (iEq a1 115) (some (iEq ((a0.getD a2.toNat default).Kind) 3)) (cond (iEq a1 112) (some (iEq ((a0.getD a2.toNat default).Kind) 6)) (cond (iEq a1 99) (some (iEq ((a0.getD a2.toNat default).Kind) 4)) (cond (iEq a1 109) (some (iEq ((a0.getD a2.toNat default).Kind) 1)) (cond (iEq a1 98) (some (iEq ((a0.getD a2.toNat default).Kind) 5)) (cond (iEq a1 118) (some (iEq ((a0.getD a2.toNat default).Kind) 7)) (cond (iEq a1 113) (some ((iEq ((a0.getD a2.toNat default).Kind) 1)||(iEq ((a0.getD a2.toNat default).Kind) 6))) (some false))))))))))
def nc (a0:List ab) (a1:ab):Option Int:=
  cond (iEq a1.Kind 3) ((j7 a1.B 1).bind fun (x2:Bool)=>cond (!((x2&&(iLe 0 a1.A))&&(iLe a1.A a1.B))) (some 1) (some 0)) (cond (iEq a1.Kind 6) ((j7 a1.A 1).bind fun (x5:Bool)=>cond (!x5) (some 1) (cond (!(iEq a1.B 0)) (some 2) (some 0))) (cond (iEq a1.Kind 7) ((j8 a1.A).bind fun (x9:Bool)=>(cond x9 (fi a0 117 a1.B) (some default)).bind fun (x10:Bool)=>cond (!(x9&&x10)) (some 1) (some 0)) (cond (iEq a1.Kind 1) (cond (!((iEq a1.A 0)&&(iEq a1.B 0))) (some 2) (some 0)) (cond (iEq a1.Kind 2) (cond (!((iEq a1.A 0)&&(iEq a1.B 0))) (some 2) (some 0)) (cond (iEq a1.Kind 4) (cond (!((iEq a1.A 0)&&(iEq a1.B 0))) (some 2) (some 0)) (cond (iEq a1.Kind 5) (cond (!((iEq a1.A 0)&&(iEq a1.B 0))) (some 2) (some 0)) (some 6)))))))
def ey (a0:List ab):Nat→Int→Option (Int×Int)
  | 0,_=>none
  | k3+1,s2=>cond (iLt s2 (a0.length:Int)) (need (nIn s2 (a0.length:Int)) ((nc a0 (a0.getD s2.toNat default)).bind fun (x6:Int)=>cond (iNe x6 0) (some (s2,x6)) (ey a0 k3 (IntKind.i64.wrap (s2+1))))) (some (0,0))
def hX (a0:List ab):Option (Int×Int):=
  cond (iLt 32 (a0.length:Int)) (some (0,4)) (ey a0 fuel 0)
def bo (a0:Int):Option Bool:=
  some ((iEq a0 4)||(iEq a0 5))
def nf (a0:List ab) (a1:af):Option Int:=
  cond (iEq a1.Kind 1) ((fi a0 109 a1.Obj).bind fun (x2:Bool)=>need (!((!(!x2))&&false)||nIn a1.Obj (a0.length:Int)) (cond ((!x2)||(false&&(iNe ((a0.getD a1.Obj.toNat default).Kind) 2))) (some 1) (cond (iEq a1.Kind 4) (need (nIn a1.Obj (a0.length:Int)) ((bo a1.Kind).bind fun (x7:Bool)=>cond (((x7&&(iLt a1.N 1))||(iLt a1.N 0))||(iLt ((a0.getD a1.Obj.toNat default).B) a1.N)) (some 1) (some 0))) (cond (iEq a1.Kind 5) (need (nIn a1.Obj (a0.length:Int)) ((bo a1.Kind).bind fun (x11:Bool)=>cond (((x11&&(iLt a1.N 1))||(iLt a1.N 0))||(iLt ((a0.getD a1.Obj.toNat default).A) a1.N)) (some 1) (some 0))) ((bo a1.Kind).bind fun (x13:Bool)=>cond (((x13&&(iLt a1.N 1))||(iLt a1.N 0))||(iLt 0 a1.N)) (some 1) (some 0)))))) (cond (iEq a1.Kind 2) ((fi a0 117 a1.Obj).bind fun (x16:Bool)=>need (!((!(!x16))&&true)||nIn a1.Obj (a0.length:Int)) (cond ((!x16)||(true&&(iNe ((a0.getD a1.Obj.toNat default).Kind) 2))) (some 1) (cond (iEq a1.Kind 4) (need (nIn a1.Obj (a0.length:Int)) ((bo a1.Kind).bind fun (x21:Bool)=>cond (((x21&&(iLt a1.N 1))||(iLt a1.N 0))||(iLt ((a0.getD a1.Obj.toNat default).B) a1.N)) (some 1) (some 0))) (cond (iEq a1.Kind 5) (need (nIn a1.Obj (a0.length:Int)) ((bo a1.Kind).bind fun (x25:Bool)=>cond (((x25&&(iLt a1.N 1))||(iLt a1.N 0))||(iLt ((a0.getD a1.Obj.toNat default).A) a1.N)) (some 1) (some 0))) ((bo a1.Kind).bind fun (x27:Bool)=>cond (((x27&&(iLt a1.N 1))||(iLt a1.N 0))||(iLt 0 a1.N)) (some 1) (some 0)))))) (cond (iEq a1.Kind 3) ((fi a0 117 a1.Obj).bind fun (x30:Bool)=>need (!((!(!x30))&&true)||nIn a1.Obj (a0.length:Int)) (cond ((!x30)||(true&&(iNe ((a0.getD a1.Obj.toNat default).Kind) 2))) (some 1) (cond (iEq a1.Kind 4) (need (nIn a1.Obj (a0.length:Int)) ((bo a1.Kind).bind fun (x35:Bool)=>cond (((x35&&(iLt a1.N 1))||(iLt a1.N 0))||(iLt ((a0.getD a1.Obj.toNat default).B) a1.N)) (some 1) (some 0))) (cond (iEq a1.Kind 5) (need (nIn a1.Obj (a0.length:Int)) ((bo a1.Kind).bind fun (x39:Bool)=>cond (((x39&&(iLt a1.N 1))||(iLt a1.N 0))||(iLt ((a0.getD a1.Obj.toNat default).A) a1.N)) (some 1) (some 0))) ((bo a1.Kind).bind fun (x41:Bool)=>cond (((x41&&(iLt a1.N 1))||(iLt a1.N 0))||(iLt 0 a1.N)) (some 1) (some 0)))))) (cond (iEq a1.Kind 4) ((fi a0 115 a1.Obj).bind fun (x44:Bool)=>need (!((!(!x44))&&false)||nIn a1.Obj (a0.length:Int)) (cond ((!x44)||(false&&(iNe ((a0.getD a1.Obj.toNat default).Kind) 2))) (some 1) (cond (iEq a1.Kind 4) (need (nIn a1.Obj (a0.length:Int)) ((bo a1.Kind).bind fun (x49:Bool)=>cond (((x49&&(iLt a1.N 1))||(iLt a1.N 0))||(iLt ((a0.getD a1.Obj.toNat default).B) a1.N)) (some 1) (some 0))) (cond (iEq a1.Kind 5) (need (nIn a1.Obj (a0.length:Int)) ((bo a1.Kind).bind fun (x53:Bool)=>cond (((x53&&(iLt a1.N 1))||(iLt a1.N 0))||(iLt ((a0.getD a1.Obj.toNat default).A) a1.N)) (some 1) (some 0))) ((bo a1.Kind).bind fun (x55:Bool)=>cond (((x55&&(iLt a1.N 1))||(iLt a1.N 0))||(iLt 0 a1.N)) (some 1) (some 0)))))) (cond (iEq a1.Kind 5) ((fi a0 112 a1.Obj).bind fun (x58:Bool)=>need (!((!(!x58))&&false)||nIn a1.Obj (a0.length:Int)) (cond ((!x58)||(false&&(iNe ((a0.getD a1.Obj.toNat default).Kind) 2))) (some 1) (cond (iEq a1.Kind 4) (need (nIn a1.Obj (a0.length:Int)) ((bo a1.Kind).bind fun (x63:Bool)=>cond (((x63&&(iLt a1.N 1))||(iLt a1.N 0))||(iLt ((a0.getD a1.Obj.toNat default).B) a1.N)) (some 1) (some 0))) (cond (iEq a1.Kind 5) (need (nIn a1.Obj (a0.length:Int)) ((bo a1.Kind).bind fun (x67:Bool)=>cond (((x67&&(iLt a1.N 1))||(iLt a1.N 0))||(iLt ((a0.getD a1.Obj.toNat default).A) a1.N)) (some 1) (some 0))) ((bo a1.Kind).bind fun (x69:Bool)=>cond (((x69&&(iLt a1.N 1))||(iLt a1.N 0))||(iLt 0 a1.N)) (some 1) (some 0)))))) (some 6)))))
def pK (a0:Int):Option Int:=
  cond ((iLt a0 0)||(iLt 63 a0)) (some 0) (need (nNn a0) (some (IntKind.u64.wrap ((1:Int)*2 ^min (a0:Int).toNat IntKind.u64.bits))))
def gz (a0:Int) (a1:Int):Option Int:=
  (pK a1).bind fun (x1:Int)=>some (Go.bits .or .u64 a0 x1)
def eK (a0:Int):Option Int:=
  some (Go.bits .and .i64 (IntKind.i64.wrap (IntKind.u64.wrap ((IntKind.u64.wrap ((IntKind.u64.wrap ((Go.bits .and .u64 (IntKind.u64.wrap (((IntKind.u64.wrap ((Go.bits .and .u64 ((IntKind.u64.wrap ((Go.bits .and .u64 (a0 /2 ^min (1:Int).toNat IntKind.u64.bits) 6148914691236517205)+(Go.bits .and .u64 a0 6148914691236517205))) /2 ^min (2:Int).toNat IntKind.u64.bits) 3689348814741910323)+(Go.bits .and .u64 (IntKind.u64.wrap ((Go.bits .and .u64 (a0 /2 ^min (1:Int).toNat IntKind.u64.bits) 6148914691236517205)+(Go.bits .and .u64 a0 6148914691236517205))) 3689348814741910323))) /2 ^min (4:Int).toNat IntKind.u64.bits)+(IntKind.u64.wrap ((Go.bits .and .u64 ((IntKind.u64.wrap ((Go.bits .and .u64 (a0 /2 ^min (1:Int).toNat IntKind.u64.bits) 6148914691236517205)+(Go.bits .and .u64 a0 6148914691236517205))) /2 ^min (2:Int).toNat IntKind.u64.bits) 3689348814741910323)+(Go.bits .and .u64 (IntKind.u64.wrap ((Go.bits .and .u64 (a0 /2 ^min (1:Int).toNat IntKind.u64.bits) 6148914691236517205)+(Go.bits .and .u64 a0 6148914691236517205))) 3689348814741910323))))) 1085102592571150095)+((Go.bits .and .u64 (IntKind.u64.wrap (((IntKind.u64.wrap ((Go.bits .and .u64 ((IntKind.u64.wrap ((Go.bits .and .u64 (a0 /2 ^min (1:Int).toNat IntKind.u64.bits) 6148914691236517205)+(Go.bits .and .u64 a0 6148914691236517205))) /2 ^min (2:Int).toNat IntKind.u64.bits) 3689348814741910323)+(Go.bits .and .u64 (IntKind.u64.wrap ((Go.bits .and .u64 (a0 /2 ^min (1:Int).toNat IntKind.u64.bits) 6148914691236517205)+(Go.bits .and .u64 a0 6148914691236517205))) 3689348814741910323))) /2 ^min (4:Int).toNat IntKind.u64.bits)+(IntKind.u64.wrap ((Go.bits .and .u64 ((IntKind.u64.wrap ((Go.bits .and .u64 (a0 /2 ^min (1:Int).toNat IntKind.u64.bits) 6148914691236517205)+(Go.bits .and .u64 a0 6148914691236517205))) /2 ^min (2:Int).toNat IntKind.u64.bits) 3689348814741910323)+(Go.bits .and .u64 (IntKind.u64.wrap ((Go.bits .and .u64 (a0 /2 ^min (1:Int).toNat IntKind.u64.bits) 6148914691236517205)+(Go.bits .and .u64 a0 6148914691236517205))) 3689348814741910323))))) 1085102592571150095) /2 ^min (8:Int).toNat IntKind.u64.bits)))+((IntKind.u64.wrap ((Go.bits .and .u64 (IntKind.u64.wrap (((IntKind.u64.wrap ((Go.bits .and .u64 ((IntKind.u64.wrap ((Go.bits .and .u64 (a0 /2 ^min (1:Int).toNat IntKind.u64.bits) 6148914691236517205)+(Go.bits .and .u64 a0 6148914691236517205))) /2 ^min (2:Int).toNat IntKind.u64.bits) 3689348814741910323)+(Go.bits .and .u64 (IntKind.u64.wrap ((Go.bits .and .u64 (a0 /2 ^min (1:Int).toNat IntKind.u64.bits) 6148914691236517205)+(Go.bits .and .u64 a0 6148914691236517205))) 3689348814741910323))) /2 ^min (4:Int).toNat IntKind.u64.bits)+(IntKind.u64.wrap ((Go.bits .and .u64 ((IntKind.u64.wrap ((Go.bits .and .u64 (a0 /2 ^min (1:Int).toNat IntKind.u64.bits) 6148914691236517205)+(Go.bits .and .u64 a0 6148914691236517205))) /2 ^min (2:Int).toNat IntKind.u64.bits) 3689348814741910323)+(Go.bits .and .u64 (IntKind.u64.wrap ((Go.bits .and .u64 (a0 /2 ^min (1:Int).toNat IntKind.u64.bits) 6148914691236517205)+(Go.bits .and .u64 a0 6148914691236517205))) 3689348814741910323))))) 1085102592571150095)+((Go.bits .and .u64 (IntKind.u64.wrap (((IntKind.u64.wrap ((Go.bits .and .u64 ((IntKind.u64.wrap ((Go.bits .and .u64 (a0 /2 ^min (1:Int).toNat IntKind.u64.bits) 6148914691236517205)+(Go.bits .and .u64 a0 6148914691236517205))) /2 ^min (2:Int).toNat IntKind.u64.bits) 3689348814741910323)+(Go.bits .and .u64 (IntKind.u64.wrap ((Go.bits .and .u64 (a0 /2 ^min (1:Int).toNat IntKind.u64.bits) 6148914691236517205)+(Go.bits .and .u64 a0 6148914691236517205))) 3689348814741910323))) /2 ^min (4:Int).toNat IntKind.u64.bits)+(IntKind.u64.wrap ((Go.bits .and .u64 ((IntKind.u64.wrap ((Go.bits .and .u64 (a0 /2 ^min (1:Int).toNat IntKind.u64.bits) 6148914691236517205)+(Go.bits .and .u64 a0 6148914691236517205))) /2 ^min (2:Int).toNat IntKind.u64.bits) 3689348814741910323)+(Go.bits .and .u64 (IntKind.u64.wrap ((Go.bits .and .u64 (a0 /2 ^min (1:Int).toNat IntKind.u64.bits) 6148914691236517205)+(Go.bits .and .u64 a0 6148914691236517205))) 3689348814741910323))))) 1085102592571150095) /2 ^min (8:Int).toNat IntKind.u64.bits))) /2 ^min (16:Int).toNat IntKind.u64.bits)))+((IntKind.u64.wrap ((IntKind.u64.wrap ((Go.bits .and .u64 (IntKind.u64.wrap (((IntKind.u64.wrap ((Go.bits .and .u64 ((IntKind.u64.wrap ((Go.bits .and .u64 (a0 /2 ^min (1:Int).toNat IntKind.u64.bits) 6148914691236517205)+(Go.bits .and .u64 a0 6148914691236517205))) /2 ^min (2:Int).toNat IntKind.u64.bits) 3689348814741910323)+(Go.bits .and .u64 (IntKind.u64.wrap ((Go.bits .and .u64 (a0 /2 ^min (1:Int).toNat IntKind.u64.bits) 6148914691236517205)+(Go.bits .and .u64 a0 6148914691236517205))) 3689348814741910323))) /2 ^min (4:Int).toNat IntKind.u64.bits)+(IntKind.u64.wrap ((Go.bits .and .u64 ((IntKind.u64.wrap ((Go.bits .and .u64 (a0 /2 ^min (1:Int).toNat IntKind.u64.bits) 6148914691236517205)+(Go.bits .and .u64 a0 6148914691236517205))) /2 ^min (2:Int).toNat IntKind.u64.bits) 3689348814741910323)+(Go.bits .and .u64 (IntKind.u64.wrap ((Go.bits .and .u64 (a0 /2 ^min (1:Int).toNat IntKind.u64.bits) 6148914691236517205)+(Go.bits .and .u64 a0 6148914691236517205))) 3689348814741910323))))) 1085102592571150095)+((Go.bits .and .u64 (IntKind.u64.wrap (((IntKind.u64.wrap ((Go.bits .and .u64 ((IntKind.u64.wrap ((Go.bits .and .u64 (a0 /2 ^min (1:Int).toNat IntKind.u64.bits) 6148914691236517205)+(Go.bits .and .u64 a0 6148914691236517205))) /2 ^min (2:Int).toNat IntKind.u64.bits) 3689348814741910323)+(Go.bits .and .u64 (IntKind.u64.wrap ((Go.bits .and .u64 (a0 /2 ^min (1:Int).toNat IntKind.u64.bits) 6148914691236517205)+(Go.bits .and .u64 a0 6148914691236517205))) 3689348814741910323))) /2 ^min (4:Int).toNat IntKind.u64.bits)+(IntKind.u64.wrap ((Go.bits .and .u64 ((IntKind.u64.wrap ((Go.bits .and .u64 (a0 /2 ^min (1:Int).toNat IntKind.u64.bits) 6148914691236517205)+(Go.bits .and .u64 a0 6148914691236517205))) /2 ^min (2:Int).toNat IntKind.u64.bits) 3689348814741910323)+(Go.bits .and .u64 (IntKind.u64.wrap ((Go.bits .and .u64 (a0 /2 ^min (1:Int).toNat IntKind.u64.bits) 6148914691236517205)+(Go.bits .and .u64 a0 6148914691236517205))) 3689348814741910323))))) 1085102592571150095) /2 ^min (8:Int).toNat IntKind.u64.bits)))+((IntKind.u64.wrap ((Go.bits .and .u64 (IntKind.u64.wrap (((IntKind.u64.wrap ((Go.bits .and .u64 ((IntKind.u64.wrap ((Go.bits .and .u64 (a0 /2 ^min (1:Int).toNat IntKind.u64.bits) 6148914691236517205)+(Go.bits .and .u64 a0 6148914691236517205))) /2 ^min (2:Int).toNat IntKind.u64.bits) 3689348814741910323)+(Go.bits .and .u64 (IntKind.u64.wrap ((Go.bits .and .u64 (a0 /2 ^min (1:Int).toNat IntKind.u64.bits) 6148914691236517205)+(Go.bits .and .u64 a0 6148914691236517205))) 3689348814741910323))) /2 ^min (4:Int).toNat IntKind.u64.bits)+(IntKind.u64.wrap ((Go.bits .and .u64 ((IntKind.u64.wrap ((Go.bits .and .u64 (a0 /2 ^min (1:Int).toNat IntKind.u64.bits) 6148914691236517205)+(Go.bits .and .u64 a0 6148914691236517205))) /2 ^min (2:Int).toNat IntKind.u64.bits) 3689348814741910323)+(Go.bits .and .u64 (IntKind.u64.wrap ((Go.bits .and .u64 (a0 /2 ^min (1:Int).toNat IntKind.u64.bits) 6148914691236517205)+(Go.bits .and .u64 a0 6148914691236517205))) 3689348814741910323))))) 1085102592571150095)+((Go.bits .and .u64 (IntKind.u64.wrap (((IntKind.u64.wrap ((Go.bits .and .u64 ((IntKind.u64.wrap ((Go.bits .and .u64 (a0 /2 ^min (1:Int).toNat IntKind.u64.bits) 6148914691236517205)+(Go.bits .and .u64 a0 6148914691236517205))) /2 ^min (2:Int).toNat IntKind.u64.bits) 3689348814741910323)+(Go.bits .and .u64 (IntKind.u64.wrap ((Go.bits .and .u64 (a0 /2 ^min (1:Int).toNat IntKind.u64.bits) 6148914691236517205)+(Go.bits .and .u64 a0 6148914691236517205))) 3689348814741910323))) /2 ^min (4:Int).toNat IntKind.u64.bits)+(IntKind.u64.wrap ((Go.bits .and .u64 ((IntKind.u64.wrap ((Go.bits .and .u64 (a0 /2 ^min (1:Int).toNat IntKind.u64.bits) 6148914691236517205)+(Go.bits .and .u64 a0 6148914691236517205))) /2 ^min (2:Int).toNat IntKind.u64.bits) 3689348814741910323)+(Go.bits .and .u64 (IntKind.u64.wrap ((Go.bits .and .u64 (a0 /2 ^min (1:Int).toNat IntKind.u64.bits) 6148914691236517205)+(Go.bits .and .u64 a0 6148914691236517205))) 3689348814741910323))))) 1085102592571150095) /2 ^min (8:Int).toNat IntKind.u64.bits))) /2 ^min (16:Int).toNat IntKind.u64.bits))) /2 ^min (32:Int).toNat IntKind.u64.bits)))) 127)
def im (a0:Int):Option Int:=
  (eK a0).bind fun (x1:Int)=>some x1
def ga (a0:List ab) (a1:List af):Nat→(Int×Bool×Int)→Option Int
  | 0,_=>none
  | k4+1,s3=>cond (iLt s3.2.2 (a1.length:Int)) (need (nIn s3.2.2 (a1.length:Int)) ((nf a0 (a1.getD s3.2.2.toNat default)).bind fun (x7:Int)=>cond (iNe x7 0) (some x7) ((gz s3.1 ((a1.getD s3.2.2.toNat default).Obj)).bind fun (x9:Int)=>ga a0 a1 k4 (x9,(s3.2.1||(iEq ((a1.getD s3.2.2.toNat default).Kind) 4)),IntKind.i64.wrap (s3.2.2+1))))) ((im s3.1).bind fun (x10:Int)=>cond ((iLt x10 (a1.length:Int))||(s3.2.1&&(iLt 1 (a1.length:Int)))) (some 2) (some 0))
def ng (a0:List ab) (a1:List af):Option Int:=
  cond (iEq (a1.length:Int) 0) (some 2) (cond (iLt 4 (a1.length:Int)) (some 4) (ga a0 a1 fuel (0,false,0)))
def ez (a0:List ab) (a1:List (List af)):Nat→Int→Option Int
  | 0,_=>none
  | k4+1,s3=>cond (iLt s3 (a1.length:Int)) (need (nIn s3 (a1.length:Int)) ((ng a0 (a1.getD s3.toNat default)).bind fun (x7:Int)=>cond (iNe x7 0) (some x7) (ez a0 a1 k4 (IntKind.i64.wrap (s3+1))))) (some 0)
def hZ (a0:List ab) (a1:List (List af)):Option Int:=
  cond (iEq (a1.length:Int) 0) (some 2) (cond (iLt 4 (a1.length:Int)) (some 4) (ez a0 a1 fuel 0))
def kC (a0:Int):Option Bool:=
  some ((iLe 0 a0)&&(iLt a0 52))
def lj (a0:List ed) (a1:Int):Nat→Int→Option Bool
  | 0,_=>none
  | k3+1,s2=>cond (iLt s2 (a0.length:Int)) (need (nIn s2 (a0.length:Int)) (cond (iLt a1 ((a0.getD s2.toNat default).Lo)) (some false) (cond (iLe a1 ((a0.getD s2.toNat default).Hi)) (need (!(!(iEq ((a0.getD s2.toNat default).Stride) 1))||nNz ((a0.getD s2.toNat default).Stride)) (some ((iEq ((a0.getD s2.toNat default).Stride) 1)||(iEq (Int.tmod (IntKind.u16.wrap (a1 - ((a0.getD s2.toNat default).Lo))) ((a0.getD s2.toNat default).Stride)) 0)))) (lj a0 a1 k3 (IntKind.i64.wrap (s2+1)))))) (some false)
def iW (a0:List ed) (a1:Int):Nat→(Int×Int)→Option Bool
  | 0,_=>none
  | k10+1,s9=>cond (iLt s9.1 s9.2) (need (nIn (IntKind.i64.wrap ((IntKind.u64.wrap (IntKind.i64.wrap (s9.1+s9.2))) /2 ^min (1:Int).toNat IntKind.u64.bits)) (a0.length:Int)) (cond ((iLe ((a0.getD (IntKind.i64.wrap ((IntKind.u64.wrap (IntKind.i64.wrap (s9.1+s9.2))) /2 ^min (1:Int).toNat IntKind.u64.bits)).toNat default).Lo) a1)&&(iLe a1 ((a0.getD (IntKind.i64.wrap ((IntKind.u64.wrap (IntKind.i64.wrap (s9.1+s9.2))) /2 ^min (1:Int).toNat IntKind.u64.bits)).toNat default).Hi))) (need (!(!(iEq ((a0.getD (IntKind.i64.wrap ((IntKind.u64.wrap (IntKind.i64.wrap (s9.1+s9.2))) /2 ^min (1:Int).toNat IntKind.u64.bits)).toNat default).Stride) 1))||nNz ((a0.getD (IntKind.i64.wrap ((IntKind.u64.wrap (IntKind.i64.wrap (s9.1+s9.2))) /2 ^min (1:Int).toNat IntKind.u64.bits)).toNat default).Stride)) (some ((iEq ((a0.getD (IntKind.i64.wrap ((IntKind.u64.wrap (IntKind.i64.wrap (s9.1+s9.2))) /2 ^min (1:Int).toNat IntKind.u64.bits)).toNat default).Stride) 1)||(iEq (Int.tmod (IntKind.u16.wrap (a1 - ((a0.getD (IntKind.i64.wrap ((IntKind.u64.wrap (IntKind.i64.wrap (s9.1+s9.2))) /2 ^min (1:Int).toNat IntKind.u64.bits)).toNat default).Lo))) ((a0.getD (IntKind.i64.wrap ((IntKind.u64.wrap (IntKind.i64.wrap (s9.1+s9.2))) /2 ^min (1:Int).toNat IntKind.u64.bits)).toNat default).Stride)) 0)))) (cond (iLt a1 ((a0.getD (IntKind.i64.wrap ((IntKind.u64.wrap (IntKind.i64.wrap (s9.1+s9.2))) /2 ^min (1:Int).toNat IntKind.u64.bits)).toNat default).Lo)) (iW a0 a1 k10 (s9.1,IntKind.i64.wrap ((IntKind.u64.wrap (IntKind.i64.wrap (s9.1+s9.2))) /2 ^min (1:Int).toNat IntKind.u64.bits))) (iW a0 a1 k10 (IntKind.i64.wrap ((IntKind.i64.wrap ((IntKind.u64.wrap (IntKind.i64.wrap (s9.1+s9.2))) /2 ^min (1:Int).toNat IntKind.u64.bits))+1),s9.2))))) (some false)
def ur (a0:List ed) (a1:Int):Option Bool:=
  cond ((iLe (a0.length:Int) 18)||(iLe a1 255)) (lj a0 a1 fuel 0) (iW a0 a1 fuel (0,(a0.length:Int)))
def lk (a0:List ee) (a1:Int):Nat→Int→Option Bool
  | 0,_=>none
  | k3+1,s2=>cond (iLt s2 (a0.length:Int)) (need (nIn s2 (a0.length:Int)) (cond (iLt a1 ((a0.getD s2.toNat default).Lo)) (some false) (cond (iLe a1 ((a0.getD s2.toNat default).Hi)) (need (!(!(iEq ((a0.getD s2.toNat default).Stride) 1))||nNz ((a0.getD s2.toNat default).Stride)) (some ((iEq ((a0.getD s2.toNat default).Stride) 1)||(iEq (Int.tmod (IntKind.u32.wrap (a1 - ((a0.getD s2.toNat default).Lo))) ((a0.getD s2.toNat default).Stride)) 0)))) (lk a0 a1 k3 (IntKind.i64.wrap (s2+1)))))) (some false)
def iX (a0:List ee) (a1:Int):Nat→(Int×Int)→Option Bool
  | 0,_=>none
  | k10+1,s9=>cond (iLt s9.1 s9.2) (need (nIn (IntKind.i64.wrap ((IntKind.u64.wrap (IntKind.i64.wrap (s9.1+s9.2))) /2 ^min (1:Int).toNat IntKind.u64.bits)) (a0.length:Int)) (cond ((iLe ((a0.getD (IntKind.i64.wrap ((IntKind.u64.wrap (IntKind.i64.wrap (s9.1+s9.2))) /2 ^min (1:Int).toNat IntKind.u64.bits)).toNat default).Lo) a1)&&(iLe a1 ((a0.getD (IntKind.i64.wrap ((IntKind.u64.wrap (IntKind.i64.wrap (s9.1+s9.2))) /2 ^min (1:Int).toNat IntKind.u64.bits)).toNat default).Hi))) (need (!(!(iEq ((a0.getD (IntKind.i64.wrap ((IntKind.u64.wrap (IntKind.i64.wrap (s9.1+s9.2))) /2 ^min (1:Int).toNat IntKind.u64.bits)).toNat default).Stride) 1))||nNz ((a0.getD (IntKind.i64.wrap ((IntKind.u64.wrap (IntKind.i64.wrap (s9.1+s9.2))) /2 ^min (1:Int).toNat IntKind.u64.bits)).toNat default).Stride)) (some ((iEq ((a0.getD (IntKind.i64.wrap ((IntKind.u64.wrap (IntKind.i64.wrap (s9.1+s9.2))) /2 ^min (1:Int).toNat IntKind.u64.bits)).toNat default).Stride) 1)||(iEq (Int.tmod (IntKind.u32.wrap (a1 - ((a0.getD (IntKind.i64.wrap ((IntKind.u64.wrap (IntKind.i64.wrap (s9.1+s9.2))) /2 ^min (1:Int).toNat IntKind.u64.bits)).toNat default).Lo))) ((a0.getD (IntKind.i64.wrap ((IntKind.u64.wrap (IntKind.i64.wrap (s9.1+s9.2))) /2 ^min (1:Int).toNat IntKind.u64.bits)).toNat default).Stride)) 0)))) (cond (iLt a1 ((a0.getD (IntKind.i64.wrap ((IntKind.u64.wrap (IntKind.i64.wrap (s9.1+s9.2))) /2 ^min (1:Int).toNat IntKind.u64.bits)).toNat default).Lo)) (iX a0 a1 k10 (s9.1,IntKind.i64.wrap ((IntKind.u64.wrap (IntKind.i64.wrap (s9.1+s9.2))) /2 ^min (1:Int).toNat IntKind.u64.bits))) (iX a0 a1 k10 (IntKind.i64.wrap ((IntKind.i64.wrap ((IntKind.u64.wrap (IntKind.i64.wrap (s9.1+s9.2))) /2 ^min (1:Int).toNat IntKind.u64.bits))+1),s9.2))))) (some false)
def uu (a0:List ee) (a1:Int):Option Bool:=
  cond (iLe (a0.length:Int) 18) (lk a0 a1 fuel 0) (iX a0 a1 fuel (0,(a0.length:Int)))
def rX (a0:l7) (a1:Int):Option Bool:=
  need (!(iLt a0.LatinOffset (a0.R16.length:Int))||nIn (IntKind.i64.wrap ((a0.R16.length:Int) - 1)) (a0.R16.length:Int)) (cond ((iLt a0.LatinOffset (a0.R16.length:Int))&&(iLe (IntKind.u32.wrap a1) (IntKind.u32.wrap ((a0.R16.getD (IntKind.i64.wrap ((a0.R16.length:Int) - 1)).toNat default).Hi)))) (need (nSl a0.LatinOffset (a0.R16.length:Int) (a0.R16.length:Int)) ((ur ((a0.R16.take (a0.R16.length:Int).toNat).drop a0.LatinOffset.toNat) (IntKind.u16.wrap a1)).bind fun (x4:Bool)=>some x4)) (need (!(iLt 0 (a0.R32.length:Int))||nIn (0:Int) (a0.R32.length:Int)) (cond ((iLt 0 (a0.R32.length:Int))&&(iLe (IntKind.i32.wrap ((a0.R32.getD (0:Int).toNat default).Lo)) a1)) ((uu a0.R32 (IntKind.u32.wrap a1)).bind fun (x7:Bool)=>some x7) (some false))))
def fc (a0:ByteArray) (K8:Int→Option (List ByteArray)):Nat→Int→Option (List ByteArray)
  | 0,_=>none
  | k11+1,s10=>cond (iLt s10 (a0.size:Int)) (need (nIn s10 (a0.size:Int)) (need (nIn (bf a0 s10.toNat) ((256:Nat):Int)) (cond (iNe (aZ.getD (bf a0 s10.toNat).toNat default) 0) (fc a0 K8 k11 (IntKind.i64.wrap (s10+1))) (K8 s10)))) (K8 s10)
def fe (a0:ByteArray) (K26:Int→Option (List ByteArray)):Nat→Int→Option (List ByteArray)
  | 0,_=>none
  | k29+1,s28=>cond (iLt s28 (a0.size:Int)) (need (nIn s28 (a0.size:Int)) (need (nIn (bf a0 s28.toNat) ((256:Nat):Int)) (cond (iNe (aZ.getD (bf a0 s28.toNat).toNat default) 0) (fe a0 K26 k29 (IntKind.i64.wrap (s28+1))) (K26 s28)))) (K26 s28)
def dM (a0:ByteArray) (K16:(Int×Int×(List ByteArray))→Option (List ByteArray)):Nat→(Int×Int×Int×(List ByteArray))→Option (List ByteArray)
  | 0,_=>none
  | k19+1,s18=>cond (iLt s18.2.2.1 (a0.size:Int)) (need (nIn s18.2.2.1 (a0.size:Int)) (need (nIn (bf a0 s18.2.2.1.toNat) ((256:Nat):Int)) (cond (iEq (aZ.getD (bf a0 s18.2.2.1.toNat).toNat default) 0) (dM a0 K16 k19 (s18.1,s18.2.1,IntKind.i64.wrap (s18.2.2.1+1),s18.2.2.2)) (need (nSl s18.2.1 s18.2.2.1 (a0.size:Int)) (need (nIn s18.1 (s18.2.2.2.length:Int)) (gR (fun s27:Int=>dM a0 K16 k19 (IntKind.i64.wrap (s18.1+1),s27,s27,s18.2.2.2.set s18.1.toNat (a0.extract s18.2.1.toNat s18.2.2.1.toNat))) fun K26=>fe a0 K26 fuel (IntKind.i64.wrap (s18.2.2.1+1)))))))) (K16 (s18.1,s18.2.1,s18.2.2.2))
def fw (a0:ByteArray):Nat→(Int×Int×Int×Int)→Option (List ByteArray)
  | 0,_=>none
  | k2+1,s1=>cond (iLt s1.2.2.2 (a0.size:Int)) (need (nIn s1.2.2.2 (a0.size:Int)) (need (nIn (bf a0 s1.2.2.2.toNat) ((256:Nat):Int)) (fw a0 k2 (IntKind.i64.wrap (s1.1+(Go.bits .and .i64 s1.2.1 (Go.bits .xor .i64 (cond IntKind.i64.signed (-1) IntKind.i64.max) (IntKind.i64.wrap (aZ.getD (bf a0 s1.2.2.2.toNat).toNat default))))),IntKind.i64.wrap (aZ.getD (bf a0 s1.2.2.2.toNat).toNat default),Go.bits .or .u8 s1.2.2.1 (bf a0 s1.2.2.2.toNat),IntKind.i64.wrap (s1.2.2.2+1))))) (cond (iLe 128 s1.2.2.1) (none) (need (nMk s1.1 16) (gR (fun s9:Int=>gR (fun s17:Int×Int×(List ByteArray)=>cond (iLt s17.2.1 (a0.size:Int)) (need (nTo s17.2.1 (a0.size:Int)) (need (nIn s17.1 (s17.2.2.length:Int)) (some (s17.2.2.set s17.1.toNat (a0.extract s17.2.1.toNat a0.size))))) (some s17.2.2)) fun K16=>dM a0 K16 fuel (0,s9,s9,List.replicate s1.1.toNat (ByteArray.empty:ByteArray))) fun K8=>fc a0 K8 fuel 0)))
def eT (a0:ByteArray):Option (List ByteArray):=
  fw a0 fuel (0,1,0,0)
def mm (a0:Int):Option ByteArray:=
  (kC a0).bind fun (x1:Bool)=>cond (!x1) (some ByteArray.empty) ((eT (⟨#[112,117,115,104,32,108,111,97,100,32,115,116,111,114,101,32,97,100,100,32,115,117,98,32,109,117,108,32,100,105,118,32,109,111,100,32,110,101,103,32,108,116,32,101,113,32,97,110,100,32,111,114,32,120,111,114,32,115,104,108,32,115,104,114,32,100,117,112,32,100,114,111,112,32,106,117,109,112,32,122,101,114,111,32,99,97,108,108,32,114,101,116,32,115,101,108,102,32,110,111,119,32,111,117,116,32,121,105,101,108,100,32,119,97,105,116,32,119,97,105,116,102,111,114,32,115,108,101,101,112,32,117,110,108,111,99,107,32,112,111,115,116,32,103,105,118,101,32,99,119,97,105,116,32,99,119,97,105,116,102,111,114,32,115,105,103,110,97,108,32,98,114,111,97,100,99,97,115,116,32,101,110,114,111,108,32,108,101,97,118,101,32,97,114,114,105,118,101,32,97,114,114,105,118,101,102,111,114,32,115,112,97,119,110,32,106,111,105,110,32,106,111,105,110,102,111,114,32,103,114,97,110,116,32,119,97,105,118,101,32,114,101,97,100,32,119,114,105,116,101,32,98,101,103,105,110,32,99,111,109,109,105,116,32,99,108,97,105,109,32,100,101,97,100,32,109,101,110,100]⟩:ByteArray)).bind fun (x3:List ByteArray)=>need (nIn a0 (x3.length:Int)) (some (x3.getD a0.toNat default)))
def kD (a0:Int):Option ByteArray:=
  (kC a0).bind fun (x1:Bool)=>cond (!x1) (some ByteArray.empty) ((eT (⟨#[110,32,107,32,107,32,46,32,46,32,46,32,46,32,46,32,46,32,46,32,46,32,46,32,46,32,46,32,46,32,46,32,46,32,46,32,116,32,116,32,102,32,46,32,46,32,46,32,46,32,46,32,119,32,119,32,46,32,117,32,115,32,112,32,99,109,32,99,109,32,99,32,99,32,98,32,98,32,98,32,98,32,102,32,106,106,32,106,106,32,46,32,46,32,118,32,118,32,46,32,46,32,113,32,109,32,109]⟩:ByteArray)).bind fun (x3:List ByteArray)=>need (nIn a0 (x3.length:Int)) (cond (sEq (x3.getD a0.toNat default) (⟨#[46]⟩:ByteArray)) (some ByteArray.empty) (some (x3.getD a0.toNat default))))
def uv (a0:Int) (a1:Int):Option Bool:=
  cond (iEq a0 110) ((j8 a1).bind fun (x2:Bool)=>some x2) (cond (iEq a0 107) (some ((iLe 0 a1)&&(iLt a1 8))) (cond (iEq a0 116) (some ((iLe 0 a1)&&(iLt a1 200))) (cond (iEq a0 102) (some ((iLe 0 a1)&&(iLt a1 16))) (cond (iEq a0 119) (some ((iLe 0 a1)&&(iLt a1 32))) (cond (iEq a0 106) (some ((iLe 1 a1)&&(iLe a1 4))) (some ((iLe 0 a1)&&(iLt a1 32))))))))
def cU (a0:ar) (x3_2_1:ByteArray):Nat→Int→Option Int
  | 0,_=>none
  | k13+1,s12=>cond (iLt s12 ((((2:Nat):Int) - (x3_2_1.size:Int)).toNat:Int)) (need (nNn (x3_2_1.size:Int)) (need (nIn s12 ((((2:Nat):Int) - (x3_2_1.size:Int)).toNat:Int)) (need (nIn ((x3_2_1.size:Int)+s12) ((2:Nat):Int)) (cond (iNe (([a0.A,a0.B]:List Int).getD ((x3_2_1.size:Int)+s12).toNat default) 0) (some 2) (cU a0 x3_2_1 k13 (IntKind.i64.wrap (s12+1))))))) (some 0)
def dv (a0:ar) (x3_2_1:ByteArray):Nat→Int→Option Int
  | 0,_=>none
  | k4+1,s3=>cond (iLt s3 (x3_2_1.size:Int)) (need (nIn s3 (x3_2_1.size:Int)) (need (nIn s3 ((2:Nat):Int)) ((uv (bf x3_2_1 s3.toNat) (([a0.A,a0.B]:List Int).getD s3.toNat default)).bind fun (x8:Bool)=>cond (!x8) (some 1) (dv a0 x3_2_1 k4 (IntKind.i64.wrap (s3+1)))))) (cond ((sEq x3_2_1 (⟨#[106,106]⟩:ByteArray))&&(iLt a0.B a0.A)) (some 1) (need (nSl (x3_2_1.size:Int) ((2:Nat):Int) ((2:Nat):Int)) (cU a0 x3_2_1 fuel 0)))
def jn (a0:ar):Option Int:=
  (mm a0.Op).bind fun (x1:ByteArray)=>cond (sEq x1 ByteArray.empty) (some 6) ((kD a0.Op).bind fun (x3_2_1:ByteArray)=>dv a0 x3_2_1 fuel 0)
def cM (a0:aq):Nat→Int→Option Int
  | 0,_=>none
  | k5+1,s4=>cond (iLt s4 (a0.Code.length:Int)) (need (nIn s4 (a0.Code.length:Int)) ((jn (a0.Code.getD s4.toNat default)).bind fun (x8:Int)=>cond (iNe x8 0) (some x8) (cM a0 k5 (IntKind.i64.wrap (s4+1))))) (some 0)
def gA (a0:aq):Option Int:=
  cond (((iLt a0.Args 0)||(iLt a0.Locals a0.Args))||(iLt 8 a0.Locals)) (some 1) (cond (iEq (a0.Code.length:Int) 0) (some 2) (cond (iLt 200 (a0.Code.length:Int)) (some 4) (cM a0 fuel 0)))
def dV (a0:ah):Nat→Int→Option Int
  | 0,_=>none
  | k13+1,s12=>cond (iLt s12 (a0.Funcs.length:Int)) (need (nIn s12 (a0.Funcs.length:Int)) ((gA (a0.Funcs.getD s12.toNat default)).bind fun (x16:Int)=>cond (iNe x16 0) (some x16) (dV a0 k13 (IntKind.i64.wrap (s12+1))))) (some 0)
def eA (a0:ah):Nat→Int→Option Int
  | 0,_=>none
  | k5+1,s4=>cond (iLt s4 (a0.Waits.length:Int)) (need (nIn s4 (a0.Waits.length:Int)) ((hZ a0.Decls (a0.Waits.getD s4.toNat default)).bind fun (x8:Int)=>cond (iNe x8 0) (some x8) (eA a0 k5 (IntKind.i64.wrap (s4+1))))) (cond (iEq (a0.Funcs.length:Int) 0) (some 2) (cond (iLt 16 (a0.Funcs.length:Int)) (some 4) (dV a0 fuel 0)))
def ia (a0:ah):Option Int:=
  (hX a0.Decls).bind fun (x1:Int×Int)=>cond (iNe x1.2 0) (some x1.2) (cond (iLt 32 (a0.Waits.length:Int)) (some 4) (eA a0 fuel 0))
def fJ (a0:ah) (a1:aq) (a2:ar) (a3:Int) (a4:Int):Option Int:=
  cond (iEq a3 110) (some 0) (cond (iEq a3 106) (some 0) (cond (iEq a3 107) (cond (!(iLt a4 a1.Locals)) (some 1) (some 0)) (cond (iEq a3 116) (cond (!(iLt a4 (a1.Code.length:Int))) (some 1) (some 0)) (cond (iEq a3 102) (need (!((iLt a4 (a0.Funcs.length:Int))&& !(iNe a2.Op 40))||nIn a4 (a0.Funcs.length:Int)) (cond (!((iLt a4 (a0.Funcs.length:Int))&&((iNe a2.Op 40)||(iEq ((a0.Funcs.getD a4.toNat default).Args) 1)))) (some 1) (some 0))) (cond (iEq a3 119) (cond (!(iLt a4 (a0.Waits.length:Int))) (some 1) (some 0)) ((fi a0.Decls a3 a4).bind fun (x12:Bool)=>cond (!x12) (some 6) (some 0)))))))
def bc (a0:aH) (a1:Int) (a2:Int):Option aH:=
  cond ((iEq a0.err 0)||(iLt a1 a0.at_)) (some (⟨a0.p,a0.code,a0.depth,a0.next,a1,a2⟩:aH)) (some a0)
def aV (a0:aH) (a1:Int) (a2:Int) (a3:Int):Option (Bool×aH):=
  cond (iLe (a0.code.length:Int) a2) ((bc a0 a1 3).bind fun (x2:aH)=>some (false,x2)) (need (nIn a2 (a0.depth.length:Int)) (cond (iLt (a0.depth.getD a2.toNat default) 0) (need (nIn a2 (a0.depth.length:Int)) (need (nIn a2 (a0.next.length:Int)) (some (true,(⟨a0.p,a0.code,a0.depth.set a2.toNat a3,a0.next.set a2.toNat true,a0.at_,a0.err⟩:aH))))) (need (nIn a2 (a0.depth.length:Int)) (cond (iNe (a0.depth.getD a2.toNat default) a3) ((bc a0 a1 2).bind fun (x9:aH)=>some (false,x9)) (some (true,a0))))))
def aW (a0:List Bool) (a1:Bool):Nat→Int→Option Int
  | 0,_=>none
  | k2+1,s1=>cond (iLt s1 (a0.length:Int)) (need (nIn s1 (a0.length:Int)) (cond (a1==(a0.getD s1.toNat default)) (some s1) (aW a0 a1 k2 (IntKind.i64.wrap (s1+1))))) (some (-1))
def cq (a0:List Bool) (a1:Bool):Option Int:=
  aW a0 a1 fuel 0
def bS (a0:aH):Option Int:=
  (cq a0.next true).bind fun (x1:Int)=>some x1
def jJ (a0:Int):Option Int:=
  cond (iEq a0 2) (some 2) (cond (iEq a0 17) (some 2) (cond (iEq a0 19) (some 2) (cond (iEq a0 21) (some 2) (cond (iEq a0 18) (some 0) (cond (iEq a0 25) (some 0) (cond (iEq a0 16) (some 5) (cond (iEq a0 45) (some 6) (cond (iEq a0 40) (some 4) (cond (iEq a0 43) (some 4) (cond (iEq a0 8) (some 3) (cond (iEq a0 24) (some 3) (cond (iEq a0 27) (some 3) (cond (iEq a0 28) (some 3) (cond (iEq a0 30) (some 3) (cond (iEq a0 31) (some 3) (cond (iEq a0 33) (some 3) (cond (iEq a0 39) (some 3) (cond (iEq a0 44) (some 3) (cond (iEq a0 46) (some 3) (cond (iEq a0 49) (some 3) (cond ((iLe 3 a0)&&(iLe a0 15)) (some 4) ((kC a0).bind fun (x23:Bool)=>cond x23 (some 1) (some 0)))))))))))))))))))))))
def gb (a0:ar) (a1:Int):Option Int:=
  gR (fun s2:Int=>some (IntKind.i64.wrap (s2+a0.B))) fun K1=>cond (iEq a0.Op 20) (some a1) (cond (iEq a0.Op 42) (K1 (IntKind.i64.wrap ((0:Int)+1))) (cond (iEq a0.Op 41) (K1 0) ((jJ a0.Op).bind fun (x6:Int)=>gR (fun s8:Int=>some (IntKind.i64.wrap (s8+1))) fun K7=>cond (iEq x6 4) (K7 (IntKind.i64.wrap ((0:Int)+1))) (cond (iEq x6 2) (K7 0) (cond (iEq x6 3) (K7 0) (cond (iEq x6 5) (K7 0) (some 0)))))))
def cY (a0:Int):Option Int:=
  (jJ a0).bind fun (x1:Int)=>cond (iEq x1 5) (some 2) (cond (iEq x1 6) (some 2) (cond (iEq x1 1) (some 1) (cond (iEq x1 3) (some 1) (cond (iEq x1 4) (some 1) (some 0)))))
def ll (a0:Int):Option Bool:=
  (kC a0).bind fun (x1:Bool)=>some ((x1&&(iNe a0 18))&&(iNe a0 21))
def cC (a0:aH) (a1:Int):Option aH:=
  need (nIn a1 (a0.code.length:Int)) (cond ((iEq ((a0.code.getD a1.toNat default).Op) 20)&&(iLt ((a0.code.getD a1.toNat default).A) (a0.p.Funcs.length:Int))) (need (nIn ((a0.code.getD a1.toNat default).A) (a0.p.Funcs.length:Int)) (need (nIn a1 (a0.depth.length:Int)) ((gb (a0.code.getD a1.toNat default) ((a0.p.Funcs.getD ((a0.code.getD a1.toNat default).A).toNat default).Args)).bind fun (x3_9_1:Int)=>cond (iLt (IntKind.i64.wrap ((a0.depth.getD a1.toNat default) - x3_9_1)) 0) ((bc a0 a1 2).bind fun (x5:aH)=>some x5) ((cY ((a0.code.getD a1.toNat default).Op)).bind fun (x6:Int)=>cond (iLt 16 (IntKind.i64.wrap ((IntKind.i64.wrap ((a0.depth.getD a1.toNat default) - x3_9_1))+x6))) ((bc a0 a1 4).bind fun (x8:aH)=>some x8) ((ll ((a0.code.getD a1.toNat default).Op)).bind fun (x9:Bool)=>cond x9 ((aV a0 a1 (IntKind.i64.wrap (a1+1)) (IntKind.i64.wrap ((IntKind.i64.wrap ((a0.depth.getD a1.toNat default) - x3_9_1))+x6))).bind fun (x11:Bool×aH)=>cond (!x11.1) (some x11.2) (cond ((iEq ((a0.code.getD a1.toNat default).Op) 18)||(iEq ((a0.code.getD a1.toNat default).Op) 19)) ((aV x11.2 a1 ((a0.code.getD a1.toNat default).A) (IntKind.i64.wrap ((IntKind.i64.wrap ((a0.depth.getD a1.toNat default) - x3_9_1))+x6))).bind fun (x14:Bool×aH)=>some x14.2) (some x11.2))) (cond ((iEq ((a0.code.getD a1.toNat default).Op) 18)||(iEq ((a0.code.getD a1.toNat default).Op) 19)) ((aV a0 a1 ((a0.code.getD a1.toNat default).A) (IntKind.i64.wrap ((IntKind.i64.wrap ((a0.depth.getD a1.toNat default) - x3_9_1))+x6))).bind fun (x16:Bool×aH)=>some x16.2) (some a0))))))) (need (nIn a1 (a0.depth.length:Int)) ((gb (a0.code.getD a1.toNat default) 0).bind fun (x3_9_1:Int)=>cond (iLt (IntKind.i64.wrap ((a0.depth.getD a1.toNat default) - x3_9_1)) 0) ((bc a0 a1 2).bind fun (x18:aH)=>some x18) ((cY ((a0.code.getD a1.toNat default).Op)).bind fun (x19:Int)=>cond (iLt 16 (IntKind.i64.wrap ((IntKind.i64.wrap ((a0.depth.getD a1.toNat default) - x3_9_1))+x19))) ((bc a0 a1 4).bind fun (x21:aH)=>some x21) ((ll ((a0.code.getD a1.toNat default).Op)).bind fun (x22:Bool)=>cond x22 ((aV a0 a1 (IntKind.i64.wrap (a1+1)) (IntKind.i64.wrap ((IntKind.i64.wrap ((a0.depth.getD a1.toNat default) - x3_9_1))+x19))).bind fun (x24:Bool×aH)=>cond (!x24.1) (some x24.2) (cond ((iEq ((a0.code.getD a1.toNat default).Op) 18)||(iEq ((a0.code.getD a1.toNat default).Op) 19)) ((aV x24.2 a1 ((a0.code.getD a1.toNat default).A) (IntKind.i64.wrap ((IntKind.i64.wrap ((a0.depth.getD a1.toNat default) - x3_9_1))+x19))).bind fun (x27:Bool×aH)=>some x27.2) (some x24.2))) (cond ((iEq ((a0.code.getD a1.toNat default).Op) 18)||(iEq ((a0.code.getD a1.toNat default).Op) 19)) ((aV a0 a1 ((a0.code.getD a1.toNat default).A) (IntKind.i64.wrap ((IntKind.i64.wrap ((a0.depth.getD a1.toNat default) - x3_9_1))+x19))).bind fun (x29:Bool×aH)=>some x29.2) (some a0)))))))
def eh:Nat→(Int×(List ab)×(List (List (List af)))×(List aq)×(List ar)×Int×Int×(List Int)×(List Bool))→Option ((List Int)×Int×Int)
  | 0,_=>none
  | k13+1,s12=>cond (iLe 0 s12.1) (need (nIn s12.1 (s12.2.2.2.2.2.2.2.2.length:Int)) ((cC (⟨(⟨s12.2.1,s12.2.2.1,s12.2.2.2.1⟩:ah),s12.2.2.2.2.1,s12.2.2.2.2.2.2.2.1,s12.2.2.2.2.2.2.2.2.set s12.1.toNat false,s12.2.2.2.2.2.1,s12.2.2.2.2.2.2.1⟩:aH) s12.1).bind fun (x16:aH)=>(bS x16).bind fun (x17:Int)=>eh k13 (x17,x16.p.Decls,x16.p.Waits,x16.p.Funcs,x16.code,x16.at_,x16.err,x16.depth,x16.next))) (cond (iNe s12.2.2.2.2.2.2.1 0) (some ([],s12.2.2.2.2.2.1,s12.2.2.2.2.2.2.1)) (some (s12.2.2.2.2.2.2.2.1,0,0)))
def gd (a0:ah) (a1:Int):Nat→(Int×(List Int))→Option ((List Int)×Int×Int)
  | 0,_=>none
  | k5+1,s4=>cond (iLt s4.1 (((List.replicate (((a0.Funcs.getD a1.toNat default).Code).length:Int).toNat (0:Int)).map aA).length:Int)) (need (nIn s4.1 (s4.2.length:Int)) (gd a0 a1 k5 (IntKind.i64.wrap (s4.1+1),s4.2.set s4.1.toNat (-1)))) (cond (iEq (((a0.Funcs.getD a1.toNat default).Code).length:Int) 0) (some ([],0,3)) (need (nMk (((a0.Funcs.getD a1.toNat default).Code).length:Int) 1) ((aV (⟨a0,(a0.Funcs.getD a1.toNat default).Code,s4.2,List.replicate (((a0.Funcs.getD a1.toNat default).Code).length:Int).toNat (false:Bool),0,0⟩:aH) 0 0 0).bind fun (x10:Bool×aH)=>(bS x10.2).bind fun (x11:Int)=>eh fuel (x11,x10.2.p.Decls,x10.2.p.Waits,x10.2.p.Funcs,x10.2.code,x10.2.at_,x10.2.err,x10.2.depth,x10.2.next))))
def nh (a0:ah) (a1:Int):Option ((List Int)×Int×Int):=
  cond ((iLt a1 0)||(iLe (a0.Funcs.length:Int) a1)) (some ([],0,19)) (need (nIn a1 (a0.Funcs.length:Int)) (need (nMk (((a0.Funcs.getD a1.toNat default).Code).length:Int) 8) (gd a0 a1 fuel (0,List.replicate (((a0.Funcs.getD a1.toNat default).Code).length:Int).toNat (0:Int)))))
def cw (a0:ah) (a1:Int) (s2:Int) (K5:Unit→Option (Int×Int)) (x8:ByteArray):Nat→Int→Option (Int×Int)
  | 0,_=>none
  | k10+1,s9=>cond (iLt s9 ((jG x8).length:Int)) (need (nIn s9 ((jG x8).length:Int)) (need (nIn s9 ((2:Nat):Int)) ((fJ a0 (a0.Funcs.getD a1.toNat default) (((a0.Funcs.getD a1.toNat default).Code).getD s2.toNat default) ((jG x8).getD s9.toNat default) (([(((a0.Funcs.getD a1.toNat default).Code).getD s2.toNat default).A,(((a0.Funcs.getD a1.toNat default).Code).getD s2.toNat default).B]:List Int).getD s9.toNat default)).bind fun (x14:Int)=>cond (iNe x14 0) (some (s2,x14)) (cw a0 a1 s2 K5 x8 k10 (IntKind.i64.wrap (s9+1)))))) (K5 Unit.unit)
def cD (a0:ah) (a1:Int):Nat→Int→Option (Int×Int)
  | 0,_=>none
  | k3+1,s2=>cond (iLt s2 (((a0.Funcs.getD a1.toNat default).Code).length:Int)) (gR (fun s6:Unit=>cD a0 a1 k3 (IntKind.i64.wrap (s2+1))) fun K5=>need (nIn s2 (((a0.Funcs.getD a1.toNat default).Code).length:Int)) ((kD ((((a0.Funcs.getD a1.toNat default).Code).getD s2.toNat default).Op)).bind fun (x8:ByteArray)=>cw a0 a1 s2 K5 x8 fuel 0)) ((nh a0 a1).bind fun (x16:(List Int)×Int×Int)=>some (x16.2.1,x16.2.2))
def gB (a0:ah) (a1:Int):Option (Int×Int):=
  need (nIn a1 (a0.Funcs.length:Int)) (cD a0 a1 fuel 0)
def cS (a0:ah):Nat→Int→Option (cT×Int)
  | 0,_=>none
  | k6+1,s5=>cond (iLt s5 (a0.Funcs.length:Int)) ((gB a0 s5).bind fun (x8:Int×Int)=>cond (iNe x8.2 0) (some ((⟨s5,x8.1⟩:cT),x8.2)) (cS a0 k6 (IntKind.i64.wrap (s5+1)))) (some ((⟨0,0⟩:cT),0))
def dW (a0:ah):Option (cT×Int):=
  (ia a0).bind fun (x1:Int)=>cond (iNe x1 0) (some ((⟨0,0⟩:cT),x1)) (need (nIn (0:Int) (a0.Funcs.length:Int)) (cond (iLt 0 ((a0.Funcs.getD (0:Int).toNat default).Args)) (some ((⟨0,0⟩:cT),1)) (cS a0 fuel 0)))
def dB (a0:aw):Nat→Int→Option Int
  | 0,_=>none
  | k7+1,s6=>cond (iLt s6 (a0.Events.length:Int)) (need (nIn s6 (a0.Events.length:Int)) (cond ((iNe ((a0.Events.getD s6.toNat default).Kind) 1)&&(iNe ((a0.Events.getD s6.toNat default).Kind) 2)) (some 6) (cond ((iEq ((a0.Events.getD s6.toNat default).Kind) 2)&&(iNe ((a0.Events.getD s6.toNat default).B) 0)) (some 2) (dB a0 k7 (IntKind.i64.wrap (s6+1)))))) (some 0)
def dN (a0:aw):Option Int:=
  (fv a0.Config).bind fun (x1:Int)=>cond (iNe x1 0) (some x1) ((dW a0.Program).bind fun (x3:cT×Int)=>cond (iNe x3.2 0) (some x3.2) (cond (iLt 4000 (a0.Events.length:Int)) (some 4) (dB a0 fuel 0)))
def fS (K1:(Int×ByteArray)→Option aD):Nat→(Int×ByteArray)→Option aD
  | 0,_=>none
  | k4+1,s3=>cond (iLt 127 s3.1) (need (nCap (s3.2.size+1)) (need (nIn (Go.bits .or .u8 (IntKind.u8.wrap s3.1) 128) 256) (fS K1 k4 (s3.1 /2 ^min (7:Int).toNat IntKind.u64.bits,s3.2.push (UInt8.ofNat (Go.bits .or .u8 (IntKind.u8.wrap s3.1) 128).toNat))))) (K1 (s3.1,s3.2))
def bC (a0:aD) (a1:Int):Option aD:=
  gR (fun s2:Int×ByteArray=>need (nCap (s2.2.size+1)) (need (nIn (IntKind.u8.wrap s2.1) 256) (some (⟨s2.2.push (UInt8.ofNat (IntKind.u8.wrap s2.1).toNat)⟩:aD)))) fun K1=>fS K1 fuel (a1,a0.b)
def dX (a0:aD) (a1:Int):Option aD:=
  need (nCap (a0.b.size+1)) (need (nIn (IntKind.u8.wrap a1) 256) (some (⟨a0.b.push (UInt8.ofNat (IntKind.u8.wrap a1).toNat)⟩:aD)))
def eB (a0:aD) (a1:Int):Option aD:=
  (bC a0 (Go.bits .xor .u64 (IntKind.u64.wrap ((IntKind.u64.wrap a1)*2 ^min (1:Int).toNat IntKind.u64.bits)) (IntKind.u64.wrap (a1 /2 ^min (63:Int).toNat IntKind.i64.bits)))).bind fun (x1:aD)=>some x1
def dw (a0:aD):Option ByteArray:=
  some a0.b
def gf (a0:List ab):Nat→(Int×ByteArray)→Option (ByteArray×Int)
  | 0,_=>none
  | k5+1,s4=>cond (iLt s4.1 (a0.length:Int)) (need (nIn s4.1 (a0.length:Int)) ((dX (⟨s4.2⟩:aD) ((a0.getD s4.1.toNat default).Kind)).bind fun (x8:aD)=>cond (iEq ((a0.getD s4.1.toNat default).Kind) 3) ((bC x8 (IntKind.u64.wrap ((a0.getD s4.1.toNat default).A))).bind fun (x10:aD)=>(bC x10 (IntKind.u64.wrap ((a0.getD s4.1.toNat default).B))).bind fun (x11:aD)=>gf a0 k5 (IntKind.i64.wrap (s4.1+1),x11.b)) (cond (iEq ((a0.getD s4.1.toNat default).Kind) 6) ((bC x8 (IntKind.u64.wrap ((a0.getD s4.1.toNat default).A))).bind fun (x13:aD)=>gf a0 k5 (IntKind.i64.wrap (s4.1+1),x13.b)) (cond (iEq ((a0.getD s4.1.toNat default).Kind) 7) ((eB x8 ((a0.getD s4.1.toNat default).A)).bind fun (x15:aD)=>(bC x15 (IntKind.u64.wrap ((a0.getD s4.1.toNat default).B))).bind fun (x16:aD)=>gf a0 k5 (IntKind.i64.wrap (s4.1+1),x16.b)) (gf a0 k5 (IntKind.i64.wrap (s4.1+1),x8.b)))))) ((dw (⟨s4.2⟩:aD)).bind fun (x17:ByteArray)=>some (x17,0))
def sH (a0:List ab):Option (ByteArray×Int):=
  (hX a0).bind fun (x1:Int×Int)=>cond (iNe x1.2 0) (some (ByteArray.empty,x1.2)) ((bC (⟨ByteArray.empty⟩:aD) (IntKind.u64.wrap (a0.length:Int))).bind fun (x3:aD)=>gf a0 fuel (0,x3.b))
def kE (a0:Int):Option ByteArray:=
  (bC (⟨ByteArray.empty⟩:aD) (IntKind.u64.wrap a0)).bind fun (x1:aD)=>(dw x1).bind fun (x2:ByteArray)=>some x2
def cV (a0:aK):Option aK:=
  cond (!a0.addr) (some (⟨true,a0.buf⟩:aK)) (cond (!a0.addr) (none) (some a0))
def bg (a0:aK) (a1:ByteArray):Option (Int×Unit×aK):=
  (cV a0).bind fun (x1:aK)=>need (nCap (x1.buf.size+a1.size)) (some ((a1.size:Int),(),(⟨x1.addr,x1.buf++a1⟩:aK)))
def iG (a1:List (List af)) (s4:Int×ByteArray) (K7:ByteArray→Option (ByteArray×Int)):Nat→(Int×ByteArray)→Option (ByteArray×Int)
  | 0,_=>none
  | k12+1,s11=>cond (iLt s11.1 ((a1.getD s4.1.toNat default).length:Int)) (need (nIn s11.1 ((a1.getD s4.1.toNat default).length:Int)) ((dX (⟨s11.2⟩:aD) (((a1.getD s4.1.toNat default).getD s11.1.toNat default).Kind)).bind fun (x15:aD)=>(bC x15 (IntKind.u64.wrap (((a1.getD s4.1.toNat default).getD s11.1.toNat default).Obj))).bind fun (x16:aD)=>(bo (((a1.getD s4.1.toNat default).getD s11.1.toNat default).Kind)).bind fun (x17:Bool)=>cond x17 ((bC x16 (IntKind.u64.wrap (((a1.getD s4.1.toNat default).getD s11.1.toNat default).N))).bind fun (x19:aD)=>iG a1 s4 K7 k12 (IntKind.i64.wrap (s11.1+1),x19.b)) (iG a1 s4 K7 k12 (IntKind.i64.wrap (s11.1+1),x16.b)))) (K7 s11.2)
def kF (a1:List (List af)):Nat→(Int×ByteArray)→Option (ByteArray×Int)
  | 0,_=>none
  | k5+1,s4=>cond (iLt s4.1 (a1.length:Int)) (gR (fun s8:ByteArray=>kF a1 k5 (IntKind.i64.wrap (s4.1+1),s8)) fun K7=>need (nIn s4.1 (a1.length:Int)) ((bC (⟨s4.2⟩:aD) (IntKind.u64.wrap ((a1.getD s4.1.toNat default).length:Int))).bind fun (x10:aD)=>iG a1 s4 K7 fuel (0,x10.b))) ((dw (⟨s4.2⟩:aD)).bind fun (x20:ByteArray)=>some (x20,0))
def sI (a0:List ab) (a1:List (List af)):Option (ByteArray×Int):=
  (hZ a0 a1).bind fun (x1:Int)=>cond (iNe x1 0) (some (ByteArray.empty,x1)) ((bC (⟨ByteArray.empty⟩:aD) (IntKind.u64.wrap (a1.length:Int))).bind fun (x3:aD)=>kF a1 fuel (0,x3.b))
def j9 (a0:ar) (x4_4_1:ByteArray):Nat→(Int×ByteArray)→Option (ByteArray×Int)
  | 0,_=>none
  | k5+1,s4=>cond (iLt s4.1 (x4_4_1.size:Int)) (need (nIn s4.1 (x4_4_1.size:Int)) (cond (iEq (bf x4_4_1 s4.1.toNat) 110) (need (nIn s4.1 ((2:Nat):Int)) ((eB (⟨s4.2⟩:aD) (([a0.A,a0.B]:List Int).getD s4.1.toNat default)).bind fun (x10:aD)=>j9 a0 x4_4_1 k5 (IntKind.i64.wrap (s4.1+1),x10.b))) (need (nIn s4.1 ((2:Nat):Int)) ((bC (⟨s4.2⟩:aD) (IntKind.u64.wrap (([a0.A,a0.B]:List Int).getD s4.1.toNat default))).bind fun (x12:aD)=>j9 a0 x4_4_1 k5 (IntKind.i64.wrap (s4.1+1),x12.b))))) ((dw (⟨s4.2⟩:aD)).bind fun (x13:ByteArray)=>some (x13,0))
def vI (a0:ar):Option (ByteArray×Int):=
  (jn a0).bind fun (x1:Int)=>cond (iNe x1 0) (some (ByteArray.empty,x1)) ((kD a0.Op).bind fun (x4_4_1:ByteArray)=>(dX (⟨ByteArray.empty⟩:aD) a0.Op).bind fun (x3:aD)=>j9 a0 x4_4_1 fuel (0,x3.b))
def dE (a0:aK):Option ByteArray:=
  some a0.buf
def jK (a0:ah) (s16:Int×Bool×ByteArray) (K19:(Bool×ByteArray)→Option (ByteArray×Int)):Nat→(Int×Bool×ByteArray)→Option (ByteArray×Int)
  | 0,_=>none
  | k29+1,s28=>cond (iLt s28.1 (((a0.Funcs.getD s16.1.toNat default).Code).length:Int)) (need (nIn s28.1 (((a0.Funcs.getD s16.1.toNat default).Code).length:Int)) ((vI (((a0.Funcs.getD s16.1.toNat default).Code).getD s28.1.toNat default)).bind fun (x32:ByteArray×Int)=>(bg (⟨s28.2.1,s28.2.2⟩:aK) x32.1).bind fun (x33:Int×Unit×aK)=>jK a0 s16 K19 k29 (IntKind.i64.wrap (s28.1+1),x33.2.2.addr,x33.2.2.buf))) (K19 (s28.2.1,s28.2.2))
def jL (a0:ah):Nat→(Int×Bool×ByteArray)→Option (ByteArray×Int)
  | 0,_=>none
  | k17+1,s16=>cond (iLt s16.1 (a0.Funcs.length:Int)) (gR (fun s20:Bool×ByteArray=>jL a0 k17 (IntKind.i64.wrap (s16.1+1),s20.1,s20.2)) fun K19=>need (nIn s16.1 (a0.Funcs.length:Int)) ((kE ((a0.Funcs.getD s16.1.toNat default).Args)).bind fun (x22:ByteArray)=>(kE ((a0.Funcs.getD s16.1.toNat default).Locals)).bind fun (x23:ByteArray)=>need (nStr (x22.size+x23.size)) ((kE (((a0.Funcs.getD s16.1.toNat default).Code).length:Int)).bind fun (x25:ByteArray)=>need (nStr ((x22++x23).size+x25.size)) ((bg (⟨s16.2.1,s16.2.2⟩:aK) ((x22++x23)++x25)).bind fun (x27:Int×Unit×aK)=>jK a0 s16 K19 fuel (0,x27.2.2.addr,x27.2.2.buf))))) ((dE (⟨s16.2.1,s16.2.2⟩:aK)).bind fun (x34:ByteArray)=>some (x34,0))
def kG (a0:ah):Nat→(Int×Bool×ByteArray)→Option (ByteArray×Int)
  | 0,_=>none
  | k9+1,s8=>cond (iLt s8.1 (a0.Waits.length:Int)) (need (nIn s8.1 (a0.Waits.length:Int)) ((sI a0.Decls (a0.Waits.getD s8.1.toNat default)).bind fun (x12:ByteArray×Int)=>(bg (⟨s8.2.1,s8.2.2⟩:aK) x12.1).bind fun (x13:Int×Unit×aK)=>kG a0 k9 (IntKind.i64.wrap (s8.1+1),x13.2.2.addr,x13.2.2.buf))) ((kE (a0.Funcs.length:Int)).bind fun (x14:ByteArray)=>(bg (⟨s8.2.1,s8.2.2⟩:aK) x14).bind fun (x15:Int×Unit×aK)=>jL a0 fuel (0,x15.2.2.addr,x15.2.2.buf))
def sJ (a0:ah):Option (ByteArray×Int):=
  (ia a0).bind fun (x1:Int)=>cond (iNe x1 0) (some (ByteArray.empty,x1)) ((sH a0.Decls).bind fun (x3:ByteArray×Int)=>need (nStr ((⟨#[76,74,1]⟩:ByteArray).size+x3.1.size)) ((kE (a0.Waits.length:Int)).bind fun (x5:ByteArray)=>need (nStr (((⟨#[76,74,1]⟩:ByteArray)++x3.1).size+x5.size)) ((bg (⟨false,ByteArray.empty⟩:aK) (((⟨#[76,74,1]⟩:ByteArray)++x3.1)++x5)).bind fun (x7:Int×Unit×aK)=>kG a0 fuel (0,x7.2.2.addr,x7.2.2.buf))))
def iq (a0:aD) (a1:ByteArray):Option aD:=
  (bC a0 (IntKind.u64.wrap (a1.size:Int))).bind fun (x1:aD)=>need (nCap (x1.b.size+a1.size)) (some (⟨x1.b++a1⟩:aD))
def fK (a0:aw):Nat→(Int×ByteArray)→Option (ByteArray×Int)
  | 0,_=>none
  | k14+1,s13=>cond (iLt s13.1 (a0.Events.length:Int)) (need (nIn s13.1 (a0.Events.length:Int)) ((dX (⟨s13.2⟩:aD) ((a0.Events.getD s13.1.toNat default).Kind)).bind fun (x17:aD)=>(eB x17 ((a0.Events.getD s13.1.toNat default).A)).bind fun (x18:aD)=>cond (iEq ((a0.Events.getD s13.1.toNat default).Kind) 1) ((eB x18 ((a0.Events.getD s13.1.toNat default).B)).bind fun (x20:aD)=>fK a0 k14 (IntKind.i64.wrap (s13.1+1),x20.b)) (fK a0 k14 (IntKind.i64.wrap (s13.1+1),x18.b)))) ((dw (⟨s13.2⟩:aD)).bind fun (x21:ByteArray)=>need (nStr ((⟨#[76,83,1]⟩:ByteArray).size+x21.size)) (some ((⟨#[76,83,1]⟩:ByteArray)++x21,0)))
def i7 (a0:aw):Nat→(Int×ByteArray)→Option (ByteArray×Int)
  | 0,_=>none
  | k5+1,s4=>cond (iLt s4.1 (([a0.Config.Mode,a0.Config.Workers,a0.Config.Quantum,a0.Config.Policy]:List Int).length:Int)) (need (nIn s4.1 (([a0.Config.Mode,a0.Config.Workers,a0.Config.Quantum,a0.Config.Policy]:List Int).length:Int)) ((bC (⟨s4.2⟩:aD) (IntKind.u64.wrap (([a0.Config.Mode,a0.Config.Workers,a0.Config.Quantum,a0.Config.Policy]:List Int).getD s4.1.toNat default))).bind fun (x8:aD)=>i7 a0 k5 (IntKind.i64.wrap (s4.1+1),x8.b))) ((sJ a0.Program).bind fun (x9:ByteArray×Int)=>cond (iNe x9.2 0) (some (ByteArray.empty,x9.2)) ((iq (⟨s4.2⟩:aD) x9.1).bind fun (x11:aD)=>(bC x11 (IntKind.u64.wrap (a0.Events.length:Int))).bind fun (x12:aD)=>fK a0 fuel (0,x12.b)))
def jd (a0:aw):Option (ByteArray×Int):=
  (dN a0).bind fun (x1:Int)=>cond (iNe x1 0) (some (ByteArray.empty,x1)) (i7 a0 fuel (0,ByteArray.empty))
def oI:Nat→(Int×ByteArray)→Option ByteArray
  | 0,_=>none
  | k2+1,s1=>cond (iLe 128 s1.1) (need (nIn (IntKind.u8.wrap (IntKind.u64.wrap ((Int.tmod s1.1 128)+128))) 256) (need (nStr (s1.2.size+(ByteArray.empty.push (UInt8.ofNat (IntKind.u8.wrap (IntKind.u64.wrap ((Int.tmod s1.1 128)+128))).toNat)).size)) (oI k2 (IntKind.u64.wrap (Int.tdiv s1.1 128),s1.2++(ByteArray.empty.push (UInt8.ofNat (IntKind.u8.wrap (IntKind.u64.wrap ((Int.tmod s1.1 128)+128))).toNat)))))) (need (nIn (IntKind.u8.wrap s1.1) 256) (need (nStr (s1.2.size+(ByteArray.empty.push (UInt8.ofNat (IntKind.u8.wrap s1.1).toNat)).size)) (some (s1.2++(ByteArray.empty.push (UInt8.ofNat (IntKind.u8.wrap s1.1).toNat))))))
def b9 (a0:Int):Option ByteArray:=
  oI fuel (a0,ByteArray.empty)
def lr (a0:Int):Option ByteArray:=
  cond (iLe 0 a0) ((b9 (IntKind.u64.wrap ((2:Int)*(IntKind.u64.wrap a0)))).bind fun (x2:ByteArray)=>some x2) ((b9 (IntKind.u64.wrap ((IntKind.u64.wrap ((2:Int)*(IntKind.u64.wrap (IntKind.i64.wrap (0 - (IntKind.i64.wrap (a0+1)))))))+1))).bind fun (x3:ByteArray)=>some x3)
def oJ (a0:List ab):Nat→(ByteArray×Int)→Option ByteArray
  | 0,_=>none
  | k3+1,s2=>cond (iLt s2.2 (a0.length:Int)) (gR (fun s6:ByteArray=>oJ a0 k3 (s6,IntKind.i64.wrap (s2.2+1))) fun K5=>need (nIn s2.2 (a0.length:Int)) (need (nIn (IntKind.u8.wrap ((a0.getD s2.2.toNat default).Kind)) 256) (need (nStr (s2.1.size+(ByteArray.empty.push (UInt8.ofNat (IntKind.u8.wrap ((a0.getD s2.2.toNat default).Kind)).toNat)).size)) (cond ((iEq ((a0.getD s2.2.toNat default).Kind) 3)||(iEq ((a0.getD s2.2.toNat default).Kind) 6)) ((b9 (IntKind.u64.wrap ((a0.getD s2.2.toNat default).A))).bind fun (x11:ByteArray)=>need (nStr ((s2.1++(ByteArray.empty.push (UInt8.ofNat (IntKind.u8.wrap ((a0.getD s2.2.toNat default).Kind)).toNat))).size+x11.size)) (cond (iEq ((a0.getD s2.2.toNat default).Kind) 7) ((lr ((a0.getD s2.2.toNat default).A)).bind fun (x14:ByteArray)=>need (nStr (((s2.1++(ByteArray.empty.push (UInt8.ofNat (IntKind.u8.wrap ((a0.getD s2.2.toNat default).Kind)).toNat)))++x11).size+x14.size)) (cond ((iEq ((a0.getD s2.2.toNat default).Kind) 3)||(iEq ((a0.getD s2.2.toNat default).Kind) 7)) ((b9 (IntKind.u64.wrap ((a0.getD s2.2.toNat default).B))).bind fun (x17:ByteArray)=>need (nStr ((((s2.1++(ByteArray.empty.push (UInt8.ofNat (IntKind.u8.wrap ((a0.getD s2.2.toNat default).Kind)).toNat)))++x11)++x14).size+x17.size)) (K5 ((((s2.1++(ByteArray.empty.push (UInt8.ofNat (IntKind.u8.wrap ((a0.getD s2.2.toNat default).Kind)).toNat)))++x11)++x14)++x17))) (K5 (((s2.1++(ByteArray.empty.push (UInt8.ofNat (IntKind.u8.wrap ((a0.getD s2.2.toNat default).Kind)).toNat)))++x11)++x14)))) (cond ((iEq ((a0.getD s2.2.toNat default).Kind) 3)||(iEq ((a0.getD s2.2.toNat default).Kind) 7)) ((b9 (IntKind.u64.wrap ((a0.getD s2.2.toNat default).B))).bind fun (x20:ByteArray)=>need (nStr (((s2.1++(ByteArray.empty.push (UInt8.ofNat (IntKind.u8.wrap ((a0.getD s2.2.toNat default).Kind)).toNat)))++x11).size+x20.size)) (K5 (((s2.1++(ByteArray.empty.push (UInt8.ofNat (IntKind.u8.wrap ((a0.getD s2.2.toNat default).Kind)).toNat)))++x11)++x20))) (K5 ((s2.1++(ByteArray.empty.push (UInt8.ofNat (IntKind.u8.wrap ((a0.getD s2.2.toNat default).Kind)).toNat)))++x11))))) (cond (iEq ((a0.getD s2.2.toNat default).Kind) 7) ((lr ((a0.getD s2.2.toNat default).A)).bind fun (x23:ByteArray)=>need (nStr ((s2.1++(ByteArray.empty.push (UInt8.ofNat (IntKind.u8.wrap ((a0.getD s2.2.toNat default).Kind)).toNat))).size+x23.size)) (cond ((iEq ((a0.getD s2.2.toNat default).Kind) 3)||(iEq ((a0.getD s2.2.toNat default).Kind) 7)) ((b9 (IntKind.u64.wrap ((a0.getD s2.2.toNat default).B))).bind fun (x26:ByteArray)=>need (nStr (((s2.1++(ByteArray.empty.push (UInt8.ofNat (IntKind.u8.wrap ((a0.getD s2.2.toNat default).Kind)).toNat)))++x23).size+x26.size)) (K5 (((s2.1++(ByteArray.empty.push (UInt8.ofNat (IntKind.u8.wrap ((a0.getD s2.2.toNat default).Kind)).toNat)))++x23)++x26))) (K5 ((s2.1++(ByteArray.empty.push (UInt8.ofNat (IntKind.u8.wrap ((a0.getD s2.2.toNat default).Kind)).toNat)))++x23)))) (cond ((iEq ((a0.getD s2.2.toNat default).Kind) 3)||(iEq ((a0.getD s2.2.toNat default).Kind) 7)) ((b9 (IntKind.u64.wrap ((a0.getD s2.2.toNat default).B))).bind fun (x29:ByteArray)=>need (nStr ((s2.1++(ByteArray.empty.push (UInt8.ofNat (IntKind.u8.wrap ((a0.getD s2.2.toNat default).Kind)).toNat))).size+x29.size)) (K5 ((s2.1++(ByteArray.empty.push (UInt8.ofNat (IntKind.u8.wrap ((a0.getD s2.2.toNat default).Kind)).toNat)))++x29))) (K5 (s2.1++(ByteArray.empty.push (UInt8.ofNat (IntKind.u8.wrap ((a0.getD s2.2.toNat default).Kind)).toNat)))))))))) (some s2.1)
def z7 (a0:List ab):Option ByteArray:=
  (b9 (IntKind.u64.wrap (a0.length:Int))).bind fun (x1:ByteArray)=>oJ a0 fuel (x1,0)
def kH (a0:List (List af)) (s2:ByteArray×Int) (K5:ByteArray→Option ByteArray):Nat→(ByteArray×Int)→Option ByteArray
  | 0,_=>none
  | k11+1,s10=>need (nIn s2.2 (a0.length:Int)) (cond (iLt s10.2 ((a0.getD s2.2.toNat default).length:Int)) (need (nIn s2.2 (a0.length:Int)) (need (nIn s10.2 ((a0.getD s2.2.toNat default).length:Int)) (need (nIn (IntKind.u8.wrap (((a0.getD s2.2.toNat default).getD s10.2.toNat default).Kind)) 256) (need (nStr (s10.1.size+(ByteArray.empty.push (UInt8.ofNat (IntKind.u8.wrap (((a0.getD s2.2.toNat default).getD s10.2.toNat default).Kind)).toNat)).size)) ((b9 (IntKind.u64.wrap (((a0.getD s2.2.toNat default).getD s10.2.toNat default).Obj))).bind fun (x10_10_1:ByteArray)=>need (nStr ((s10.1++(ByteArray.empty.push (UInt8.ofNat (IntKind.u8.wrap (((a0.getD s2.2.toNat default).getD s10.2.toNat default).Kind)).toNat))).size+x10_10_1.size)) (cond (iLt 3 (((a0.getD s2.2.toNat default).getD s10.2.toNat default).Kind)) ((b9 (IntKind.u64.wrap (((a0.getD s2.2.toNat default).getD s10.2.toNat default).N))).bind fun (x17:ByteArray)=>need (nStr (((s10.1++(ByteArray.empty.push (UInt8.ofNat (IntKind.u8.wrap (((a0.getD s2.2.toNat default).getD s10.2.toNat default).Kind)).toNat)))++x10_10_1).size+x17.size)) (kH a0 s2 K5 k11 (((s10.1++(ByteArray.empty.push (UInt8.ofNat (IntKind.u8.wrap (((a0.getD s2.2.toNat default).getD s10.2.toNat default).Kind)).toNat)))++x10_10_1)++x17,IntKind.i64.wrap (s10.2+1)))) (kH a0 s2 K5 k11 ((s10.1++(ByteArray.empty.push (UInt8.ofNat (IntKind.u8.wrap (((a0.getD s2.2.toNat default).getD s10.2.toNat default).Kind)).toNat)))++x10_10_1,IntKind.i64.wrap (s10.2+1))))))))) (K5 s10.1))
def oK (a0:List (List af)):Nat→(ByteArray×Int)→Option ByteArray
  | 0,_=>none
  | k3+1,s2=>cond (iLt s2.2 (a0.length:Int)) (gR (fun s6:ByteArray=>oK a0 k3 (s6,IntKind.i64.wrap (s2.2+1))) fun K5=>need (nIn s2.2 (a0.length:Int)) ((b9 (IntKind.u64.wrap ((a0.getD s2.2.toNat default).length:Int))).bind fun (x8:ByteArray)=>need (nStr (s2.1.size+x8.size)) (kH a0 s2 K5 fuel (s2.1++x8,0)))) (some s2.1)
def z8 (a0:List (List af)):Option ByteArray:=
  (b9 (IntKind.u64.wrap (a0.length:Int))).bind fun (x1:ByteArray)=>oK a0 fuel (x1,0)
def lu (a0:ar) (x1_2_1:ByteArray):Nat→(ByteArray×Int)→Option ByteArray
  | 0,_=>none
  | k3+1,s2=>cond (iLt s2.2 (x1_2_1.size:Int)) (need (nIn s2.2 (x1_2_1.size:Int)) (cond (iEq (bf x1_2_1 s2.2.toNat) 110) (need (nIn s2.2 (([a0.A,a0.B]:List Int).length:Int)) ((lr (([a0.A,a0.B]:List Int).getD s2.2.toNat default)).bind fun (x8:ByteArray)=>need (nStr (s2.1.size+x8.size)) (lu a0 x1_2_1 k3 (s2.1++x8,IntKind.i64.wrap (s2.2+1))))) (need (nIn s2.2 (([a0.A,a0.B]:List Int).length:Int)) ((b9 (IntKind.u64.wrap (([a0.A,a0.B]:List Int).getD s2.2.toNat default))).bind fun (x11:ByteArray)=>need (nStr (s2.1.size+x11.size)) (lu a0 x1_2_1 k3 (s2.1++x11,IntKind.i64.wrap (s2.2+1))))))) (some s2.1)
def Aa (a0:ar):Option ByteArray:=
  (gm a0.Op).bind fun (x1_2_1:ByteArray)=>need (nIn (IntKind.u8.wrap a0.Op) 256) (lu a0 x1_2_1 fuel (ByteArray.empty.push (UInt8.ofNat (IntKind.u8.wrap a0.Op).toNat),0))
def ni (a0:ah) (s13:ByteArray×Int) (K16:ByteArray→Option ByteArray):Nat→(ByteArray×Int)→Option ByteArray
  | 0,_=>none
  | k26+1,s25=>cond (iLt s25.2 (((a0.Funcs.getD s13.2.toNat default).Code).length:Int)) (need (nIn s25.2 (((a0.Funcs.getD s13.2.toNat default).Code).length:Int)) ((Aa (((a0.Funcs.getD s13.2.toNat default).Code).getD s25.2.toNat default)).bind fun (x29:ByteArray)=>need (nStr (s25.1.size+x29.size)) (ni a0 s13 K16 k26 (s25.1++x29,IntKind.i64.wrap (s25.2+1))))) (K16 s25.1)
def nj (a0:ah):Nat→(ByteArray×Int)→Option ByteArray
  | 0,_=>none
  | k14+1,s13=>cond (iLt s13.2 (a0.Funcs.length:Int)) (gR (fun s17:ByteArray=>nj a0 k14 (s17,IntKind.i64.wrap (s13.2+1))) fun K16=>need (nIn s13.2 (a0.Funcs.length:Int)) ((b9 (IntKind.u64.wrap ((a0.Funcs.getD s13.2.toNat default).Args))).bind fun (x19:ByteArray)=>need (nStr (s13.1.size+x19.size)) ((b9 (IntKind.u64.wrap ((a0.Funcs.getD s13.2.toNat default).Locals))).bind fun (x21:ByteArray)=>need (nStr ((s13.1++x19).size+x21.size)) ((b9 (IntKind.u64.wrap (((a0.Funcs.getD s13.2.toNat default).Code).length:Int))).bind fun (x23:ByteArray)=>need (nStr (((s13.1++x19)++x21).size+x23.size)) (ni a0 s13 K16 fuel (((s13.1++x19)++x21)++x23,0)))))) (some s13.1)
def oL (a0:ah):Nat→(ByteArray×Int)→Option ByteArray
  | 0,_=>none
  | k6+1,s5=>cond (iLt s5.2 (a0.Waits.length:Int)) (need (nIn s5.2 (a0.Waits.length:Int)) ((z8 (a0.Waits.getD s5.2.toNat default)).bind fun (x9:ByteArray)=>need (nStr (s5.1.size+x9.size)) (oL a0 k6 (s5.1++x9,IntKind.i64.wrap (s5.2+1))))) ((b9 (IntKind.u64.wrap (a0.Funcs.length:Int))).bind fun (x11:ByteArray)=>need (nStr (s5.1.size+x11.size)) (nj a0 fuel (s5.1++x11,0)))
def Ab (a0:ah):Option ByteArray:=
  (z7 a0.Decls).bind fun (x1:ByteArray)=>need (nStr ((⟨#[76,74,1]⟩:ByteArray).size+x1.size)) ((b9 (IntKind.u64.wrap (a0.Waits.length:Int))).bind fun (x3:ByteArray)=>need (nStr (((⟨#[76,74,1]⟩:ByteArray)++x1).size+x3.size)) (oL a0 fuel (((⟨#[76,74,1]⟩:ByteArray)++x1)++x3,0)))
def yl (a0:ByteArray):Option ByteArray:=
  (b9 (IntKind.u64.wrap (a0.size:Int))).bind fun (x1:ByteArray)=>need (nStr (x1.size+a0.size)) (some (x1++a0))
def kI (a0:aw):Nat→(ByteArray×Int)→Option ByteArray
  | 0,_=>none
  | k15+1,s14=>cond (iLt s14.2 (a0.Events.length:Int)) (need (nIn s14.2 (a0.Events.length:Int)) (need (nIn (IntKind.u8.wrap ((a0.Events.getD s14.2.toNat default).Kind)) 256) (need (nStr (s14.1.size+(ByteArray.empty.push (UInt8.ofNat (IntKind.u8.wrap ((a0.Events.getD s14.2.toNat default).Kind)).toNat)).size)) ((lr ((a0.Events.getD s14.2.toNat default).A)).bind fun (x8_9_1:ByteArray)=>need (nStr ((s14.1++(ByteArray.empty.push (UInt8.ofNat (IntKind.u8.wrap ((a0.Events.getD s14.2.toNat default).Kind)).toNat))).size+x8_9_1.size)) (cond (iEq ((a0.Events.getD s14.2.toNat default).Kind) 1) ((lr ((a0.Events.getD s14.2.toNat default).B)).bind fun (x19:ByteArray)=>need (nStr (((s14.1++(ByteArray.empty.push (UInt8.ofNat (IntKind.u8.wrap ((a0.Events.getD s14.2.toNat default).Kind)).toNat)))++x8_9_1).size+x19.size)) (kI a0 k15 (((s14.1++(ByteArray.empty.push (UInt8.ofNat (IntKind.u8.wrap ((a0.Events.getD s14.2.toNat default).Kind)).toNat)))++x8_9_1)++x19,IntKind.i64.wrap (s14.2+1)))) (kI a0 k15 ((s14.1++(ByteArray.empty.push (UInt8.ofNat (IntKind.u8.wrap ((a0.Events.getD s14.2.toNat default).Kind)).toNat)))++x8_9_1,IntKind.i64.wrap (s14.2+1)))))))) (some s14.1)
def Ac (a0:aw):Option ByteArray:=
  (b9 (IntKind.u64.wrap a0.Config.Mode)).bind fun (x1:ByteArray)=>need (nStr ((⟨#[76,83,1]⟩:ByteArray).size+x1.size)) ((b9 (IntKind.u64.wrap a0.Config.Workers)).bind fun (x3:ByteArray)=>need (nStr (((⟨#[76,83,1]⟩:ByteArray)++x1).size+x3.size)) ((b9 (IntKind.u64.wrap a0.Config.Quantum)).bind fun (x5:ByteArray)=>need (nStr ((((⟨#[76,83,1]⟩:ByteArray)++x1)++x3).size+x5.size)) ((b9 (IntKind.u64.wrap a0.Config.Policy)).bind fun (x7:ByteArray)=>need (nStr (((((⟨#[76,83,1]⟩:ByteArray)++x1)++x3)++x5).size+x7.size)) ((Ab a0.Program).bind fun (x9:ByteArray)=>(yl x9).bind fun (x10:ByteArray)=>need (nStr ((((((⟨#[76,83,1]⟩:ByteArray)++x1)++x3)++x5)++x7).size+x10.size)) ((b9 (IntKind.u64.wrap (a0.Events.length:Int))).bind fun (x12:ByteArray)=>need (nStr (((((((⟨#[76,83,1]⟩:ByteArray)++x1)++x3)++x5)++x7)++x10).size+x12.size)) (kI a0 fuel (((((((⟨#[76,83,1]⟩:ByteArray)++x1)++x3)++x5)++x7)++x10)++x12,0)))))))
def kJ:Option aw:=
  some (⟨(⟨0,1,2,0⟩:aM),(⟨[],[],([(⟨0,0,([(⟨22,0,0⟩:ar),(⟨21,0,0⟩:ar)]:List ar)⟩:aq)]:List aq)⟩:ah),([(⟨1,0,1⟩:av),(⟨2,5,0⟩:av)]:List av)⟩:aw)
def cg (a0:ByteArray) (a1:ByteArray):Option Bool:=
  need (!(iLe (a1.size:Int) (a0.size:Int))||nTo (a1.size:Int) (a0.size:Int)) (some ((iLe (a1.size:Int) (a0.size:Int))&&(sEq (a0.extract 0 (a1.size:Int).toNat) a1)))
def dF (a0:ByteArray) (a1:ByteArray):Option (ByteArray×Bool):=
  (cg a0 a1).bind fun (x1:Bool)=>cond (!x1) (some (a0,false)) (need (nTo (a1.size:Int) (a0.size:Int)) (some (a0.extract (a1.size:Int).toNat a0.size,true)))
def fx (a0:ByteArray) (a1:ByteArray):Option (ByteArray×Bool):=
  (dF a0 a1).bind fun (x1:ByteArray×Bool)=>some (x1.1,x1.2)
def eU (a0:ByteArray):Option ao:=
  some (⟨a0,0,0⟩:ao)
def dk (a0:ao) (a1:Int):Option ao:=
  cond (iEq a0.err 0) (some (⟨a0.s,(a0.s.size:Int),a1⟩:ao)) (some a0)
def cf (a0:ao):Option (Int×ao):=
  cond (iLe (a0.s.size:Int) a0.at_) ((dk a0 3).bind fun (x2:ao)=>some (0,x2)) (need (nIn (IntKind.i64.wrap ((IntKind.i64.wrap (a0.at_+1)) - 1)) (a0.s.size:Int)) (some (IntKind.i64.wrap (bf a0.s (IntKind.i64.wrap ((IntKind.i64.wrap (a0.at_+1)) - 1)).toNat),(⟨a0.s,IntKind.i64.wrap (a0.at_+1),a0.err⟩:ao))))
def cZ:Nat→(Int×Int×ByteArray×Int×Int)→Option (Int×ao)
  | 0,_=>none
  | k2+1,s1=>cond (iLt s1.2.1 10) ((cf (⟨s1.2.2.1,s1.2.2.2.1,s1.2.2.2.2⟩:ao)).bind fun (x4:Int×ao)=>cond (iNe x4.2.err 0) (some (0,x4.2)) (cond (((iEq s1.2.1 9)&&(iLt 1 x4.1))||((iLt 0 s1.2.1)&&(iEq x4.1 0))) ((dk x4.2 2).bind fun (x7:ao)=>some (0,x7)) (need (nNn (IntKind.i64.wrap ((7:Int)*s1.2.1))) (cond (iLt x4.1 128) (some (Go.bits .or .u64 s1.1 (IntKind.u64.wrap ((IntKind.u64.wrap (Go.bits .and .i64 x4.1 127))*2 ^min (IntKind.i64.wrap ((7:Int)*s1.2.1):Int).toNat IntKind.u64.bits)),x4.2)) (cZ k2 (Go.bits .or .u64 s1.1 (IntKind.u64.wrap ((IntKind.u64.wrap (Go.bits .and .i64 x4.1 127))*2 ^min (IntKind.i64.wrap ((7:Int)*s1.2.1):Int).toNat IntKind.u64.bits)),IntKind.i64.wrap (s1.2.1+1),x4.2.s,x4.2.at_,x4.2.err)))))) (some (s1.1,(⟨s1.2.2.1,s1.2.2.2.1,s1.2.2.2.2⟩:ao)))
def bF (a0:ao):Option (Int×ao):=
  cZ fuel (0,0,a0.s,a0.at_,a0.err)
def fy (a0:ao):Option (Int×ao):=
  (bF a0).bind fun (x1:Int×ao)=>some (IntKind.i64.wrap (iMin x1.1 (2147483648:Int)),x1.2)
def fz (a0:ao):Option (ByteArray×ao):=
  (bF a0).bind fun (x1:Int×ao)=>cond (iLt (IntKind.u64.wrap (IntKind.i64.wrap ((x1.2.s.size:Int) - x1.2.at_))) x1.1) ((dk x1.2 3).bind fun (x3:ao)=>some (ByteArray.empty,x3)) (need (nSl (IntKind.i64.wrap ((IntKind.i64.wrap (x1.2.at_+(IntKind.i64.wrap x1.1))) - (IntKind.i64.wrap x1.1))) (IntKind.i64.wrap (x1.2.at_+(IntKind.i64.wrap x1.1))) (x1.2.s.size:Int)) (some (x1.2.s.extract (IntKind.i64.wrap ((IntKind.i64.wrap (x1.2.at_+(IntKind.i64.wrap x1.1))) - (IntKind.i64.wrap x1.1))).toNat (IntKind.i64.wrap (x1.2.at_+(IntKind.i64.wrap x1.1))).toNat,(⟨x1.2.s,IntKind.i64.wrap (x1.2.at_+(IntKind.i64.wrap x1.1)),x1.2.err⟩:ao))))
def bh (a0:ao):Option Int:=
  some a0.err
def fA (a0:ByteArray) (a1:ByteArray):Option Bool:=
  (cg a0 a1).bind fun (x1:Bool)=>some x1
def lv (a0:Int):Option ByteArray:=
  cond (iEq a0 1) (some (⟨#[109,117,116,101,120]⟩:ByteArray)) (cond (iEq a0 2) (some (⟨#[114,119]⟩:ByteArray)) (cond (iEq a0 3) (some (⟨#[115,101,109]⟩:ByteArray)) (cond (iEq a0 4) (some (⟨#[99,111,110,100]⟩:ByteArray)) (cond (iEq a0 5) (some (⟨#[98,97,114]⟩:ByteArray)) (cond (iEq a0 6) (some (⟨#[112,111,111,108]⟩:ByteArray)) (cond (iEq a0 7) (some (⟨#[99,101,108,108]⟩:ByteArray)) (some ByteArray.empty)))))))
def i9 (a0:ao):Option (Int×ao):=
  (bF a0).bind fun (x1:Int×ao)=>some (IntKind.i64.wrap (iMin x1.1 (2147483648:Int)),x1.2)
def cN (a0:ao):Option (Int×ao):=
  (bF a0).bind fun (x1:Int×ao)=>some (Go.bits .xor .i64 (IntKind.i64.wrap (x1.1 /2 ^min (1:Int).toNat IntKind.u64.bits)) (IntKind.i64.wrap (0 - (IntKind.i64.wrap (Go.bits .and .u64 x1.1 1)))),x1.2)
def ka (a0:ao):Option (ab×Int×ao):=
  (cf a0).bind fun (x1:Int×ao)=>(bh x1.2).bind fun (x2:Int)=>(cond (iEq x2 0) (lv x1.1) (some default)).bind fun (x3:ByteArray)=>cond ((iEq x2 0)&&(sEq x3 ByteArray.empty)) (some ((⟨x1.1,0,0⟩:ab),6,x1.2)) (cond (iEq x1.1 3) ((i9 x1.2).bind fun (x6:Int×ao)=>(i9 x6.2).bind fun (x7:Int×ao)=>(bh x7.2).bind fun (x8:Int)=>some ((⟨x1.1,x6.1,x7.1⟩:ab),x8,x7.2)) (cond (iEq x1.1 6) ((i9 x1.2).bind fun (x10:Int×ao)=>(bh x10.2).bind fun (x11:Int)=>some ((⟨x1.1,x10.1,0⟩:ab),x11,x10.2)) (cond (iEq x1.1 7) ((cN x1.2).bind fun (x13:Int×ao)=>(i9 x13.2).bind fun (x14:Int×ao)=>(bh x14.2).bind fun (x15:Int)=>some ((⟨x1.1,x13.1,x14.1⟩:ab),x15,x14.2)) ((bh x1.2).bind fun (x16:Int)=>some ((⟨x1.1,0,0⟩:ab),x16,x1.2)))))
def cE (a0:ao):Option Int:=
  some (IntKind.i64.wrap ((a0.s.size:Int) - a0.at_))
def gg (a0:ByteArray) (x2:Int×ao):Nat→(Int×(List ab)×ByteArray×Int×Int)→Option ((List ab)×Int×Int)
  | 0,_=>none
  | k8+1,s7=>cond (iLt s7.1 x2.1) ((ka (⟨s7.2.2.1,s7.2.2.2.1,s7.2.2.2.2⟩:ao)).bind fun (x10:ab×Int×ao)=>cond (iNe x10.2.1 0) (some ([],0,x10.2.1)) (need (nCap ((s7.2.1.length+([x10.1]:List ab).length)*24)) (gg a0 x2 k8 (IntKind.u64.wrap (s7.1+1),s7.2.1++([x10.1]:List ab),x10.2.2.s,x10.2.2.at_,x10.2.2.err)))) ((hX s7.2.1).bind fun (x13:Int×Int)=>cond (iNe x13.2 0) (some ([],0,x13.2)) ((cE (⟨s7.2.2.1,s7.2.2.2.1,s7.2.2.2.2⟩:ao)).bind fun (x15:Int)=>some (s7.2.1,IntKind.i64.wrap ((a0.size:Int) - x15),0)))
def nk (a0:ByteArray):Option ((List ab)×Int×Int):=
  (eU a0).bind fun (x1:ao)=>(bF x1).bind fun (x2:Int×ao)=>(bh x2.2).bind fun (x3:Int)=>cond (iNe x3 0) (some ([],0,x3)) (cond (iLt 32 x2.1) (some ([],0,4)) (gg a0 x2 fuel (0,([]:List ab),x2.2.s,x2.2.at_,x2.2.err)))
def bD (a0:ax) (a1:Int) (a2:Int):Option (Int ⊕ ax):=
  cond (iNe a2 0) (some (.inl a2)) (need (nTo a1 (a0.s.size:Int)) (some (.inr (⟨a0.s.extract a1.toNat a0.s.size⟩:ax))))
def cr (a0:ax):Option (Int ⊕ (Int×ax)):=
  (eU a0.s).bind fun (x1:ao)=>(bF x1).bind fun (x2:Int×ao)=>(cE x2.2).bind fun (x3_7_1:Int)=>(bh x2.2).bind fun (x3_10_1:Int)=>(bD a0 (IntKind.i64.wrap ((a0.s.size:Int) - x3_7_1)) x3_10_1).bind fun (x3_11_1:Int ⊕ ax)=>l6 x3_11_1 fun (x3_11_1r:ax)=>some (.inr (IntKind.i64.wrap (iMin x2.1 (2147483648:Int)),x3_11_1r))
def cd (a0:ax) (a1:Int):Option (Int ⊕ (Int×ax)):=
  (cr a0).bind fun (x1:Int ⊕ (Int×ax))=>l6 x1 fun (x1r:Int×ax)=>cond (iLt a1 x1r.1) (some (.inl 4)) (some (.inr (x1r.1,x1r.2)))
def jo (a0:ao) (a1:Int):Option (Int×Int×ao):=
  (bF a0).bind fun (x1:Int×ao)=>cond (iLt a1 x1.1) (some (0,4,x1.2)) ((bh x1.2).bind fun (x3:Int)=>some (IntKind.i64.wrap x1.1,x3,x1.2))
def kb (a0:ao):Option (af×Int×ao):=
  (cf a0).bind fun (x1:Int×ao)=>(bh x1.2).bind fun (x2:Int)=>cond (iNe x2 0) (some ((⟨x1.1,0,0⟩:af),x2,x1.2)) (cond ((iLt x1.1 1)||(iLt 5 x1.1)) (some ((⟨x1.1,0,0⟩:af),6,x1.2)) ((bF x1.2).bind fun (x5:Int×ao)=>(bo x1.1).bind fun (x6:Bool)=>cond x6 ((bF x5.2).bind fun (x8:Int×ao)=>(bh x8.2).bind fun (x9:Int)=>some ((⟨x1.1,IntKind.i64.wrap (iMin x5.1 (2147483648:Int)),IntKind.i64.wrap (iMin x8.1 (2147483648:Int))⟩:af),x9,x8.2)) ((bh x5.2).bind fun (x10:Int)=>some ((⟨x1.1,IntKind.i64.wrap (iMin x5.1 (2147483648:Int)),0⟩:af),x10,x5.2))))
def fj (s5:Int×(List (List af))×ByteArray×Int×Int) (K8:((List (List af))×ByteArray×Int×Int)→Option ((List (List af))×Int×Int)) (x10:Int×Int×ao):Nat→(Int×(List af)×ByteArray×Int×Int)→Option ((List (List af))×Int×Int)
  | 0,_=>none
  | k14+1,s13=>cond (iLt s13.1 x10.1) ((kb (⟨s13.2.2.1,s13.2.2.2.1,s13.2.2.2.2⟩:ao)).bind fun (x16:af×Int×ao)=>cond (iNe x16.2.1 0) (some ([],0,x16.2.1)) (need (nCap ((s13.2.1.length+([x16.1]:List af).length)*24)) (fj s5 K8 x10 k14 (IntKind.i64.wrap (s13.1+1),s13.2.1++([x16.1]:List af),x16.2.2.s,x16.2.2.at_,x16.2.2.err)))) (need (nCap ((s5.2.1.length+([s13.2.1]:List (List af)).length)*24)) (K8 (s5.2.1++([s13.2.1]:List (List af)),s13.2.2.1,s13.2.2.2.1,s13.2.2.2.2)))
def fl (a0:List ab) (a1:ByteArray) (x2:Int×Int×ao):Nat→(Int×(List (List af))×ByteArray×Int×Int)→Option ((List (List af))×Int×Int)
  | 0,_=>none
  | k6+1,s5=>cond (iLt s5.1 x2.1) (gR (fun s9:(List (List af))×ByteArray×Int×Int=>fl a0 a1 x2 k6 (IntKind.i64.wrap (s5.1+1),s9.1,s9.2.1,s9.2.2.1,s9.2.2.2)) fun K8=>(jo (⟨s5.2.2.1,s5.2.2.2.1,s5.2.2.2.2⟩:ao) 4).bind fun (x10:Int×Int×ao)=>cond (iNe x10.2.1 0) (some ([],0,x10.2.1)) (fj s5 K8 x10 fuel (0,([]:List af),x10.2.2.s,x10.2.2.at_,x10.2.2.err))) ((hZ a0 s5.2.1).bind fun (x20:Int)=>cond (iNe x20 0) (some ([],0,x20)) ((cE (⟨s5.2.2.1,s5.2.2.2.1,s5.2.2.2.2⟩:ao)).bind fun (x22:Int)=>some (s5.2.1,IntKind.i64.wrap ((a1.size:Int) - x22),0)))
def nm (a0:List ab) (a1:ByteArray):Option ((List (List af))×Int×Int):=
  (eU a1).bind fun (x1:ao)=>(jo x1 4).bind fun (x2:Int×Int×ao)=>cond (iNe x2.2.1 0) (some ([],0,x2.2.1)) (fl a0 a1 x2 fuel (0,([]:List (List af)),x2.2.2.s,x2.2.2.at_,x2.2.2.err))
def eV (a0:ByteArray) (x2:Int×ao) (x7:ByteArray):Nat→(Int×(List Int)×ByteArray×Int×Int)→Option (ar×Int×Int)
  | 0,_=>none
  | k9+1,s8=>cond (iLt s8.1 (x7.size:Int)) (need (nIn s8.1 (x7.size:Int)) (cond (iEq (bf x7 s8.1.toNat) 110) ((cN (⟨s8.2.2.1,s8.2.2.2.1,s8.2.2.2.2⟩:ao)).bind fun (x13:Int×ao)=>need (nIn s8.1 ((2:Nat):Int)) ((bh x13.2).bind fun (x15:Int)=>cond (iNe x15 0) (some ((⟨0,0,0⟩:ar),0,x15)) (eV a0 x2 x7 k9 (IntKind.i64.wrap (s8.1+1),(aset 2 s8.2.1 s8.1.toNat x13.1),x13.2.s,x13.2.at_,x13.2.err)))) ((bF (⟨s8.2.2.1,s8.2.2.2.1,s8.2.2.2.2⟩:ao)).bind fun (x17:Int×ao)=>need (nIn s8.1 ((2:Nat):Int)) ((bh x17.2).bind fun (x19:Int)=>cond (iNe x19 0) (some ((⟨0,0,0⟩:ar),0,x19)) (eV a0 x2 x7 k9 (IntKind.i64.wrap (s8.1+1),(aset 2 s8.2.1 s8.1.toNat (IntKind.i64.wrap (iMin x17.1 (2147483648:Int)))),x17.2.s,x17.2.at_,x17.2.err)))))) (need (nIn (0:Int) ((2:Nat):Int)) (need (nIn (1:Int) ((2:Nat):Int)) ((jn (⟨x2.1,(s8.2.1.getD (0:Int).toNat default),(s8.2.1.getD (1:Int).toNat default)⟩:ar)).bind fun (x23:Int)=>cond (iNe x23 0) (some ((⟨0,0,0⟩:ar),0,x23)) ((cE (⟨s8.2.2.1,s8.2.2.2.1,s8.2.2.2.2⟩:ao)).bind fun (x25:Int)=>some ((⟨x2.1,(s8.2.1.getD (0:Int).toNat default),(s8.2.1.getD (1:Int).toNat default)⟩:ar),IntKind.i64.wrap ((a0.size:Int) - x25),0)))))
def qo (a0:ByteArray):Option (ar×Int×Int):=
  (eU a0).bind fun (x1:ao)=>(cf x1).bind fun (x2:Int×ao)=>(bh x2.2).bind fun (x3:Int)=>cond (iNe x3 0) (some ((⟨0,0,0⟩:ar),0,x3)) ((mm x2.1).bind fun (x5:ByteArray)=>cond (sEq x5 ByteArray.empty) (some ((⟨0,0,0⟩:ar),0,6)) ((kD x2.1).bind fun (x7:ByteArray)=>eV a0 x2 x7 fuel (0,([0,0]:List Int),x2.2.s,x2.2.at_,x2.2.err)))
def bN (x1r:Int×ax) (x2r:Int×ax) (x3r:Int×ax):Nat→(Int×ByteArray×(List ar))→Option (Int ⊕ (aq×ax))
  | 0,_=>none
  | k6+1,s5=>cond (iLt s5.1 x3r.1) ((qo s5.2.1).bind fun (x8:ar×Int×Int)=>(bD (⟨s5.2.1⟩:ax) x8.2.1 x8.2.2).bind fun (x9:Int ⊕ ax)=>l6 x9 fun (x9r:ax)=>need (nCap ((s5.2.2.length+([x8.1]:List ar).length)*24)) (bN x1r x2r x3r k6 (IntKind.i64.wrap (s5.1+1),x9r.s,s5.2.2++([x8.1]:List ar)))) (some (.inr ((⟨x1r.1,x2r.1,s5.2.2⟩:aq),(⟨s5.2.1⟩:ax))))
def bZ (a0:ax):Option (Int ⊕ (aq×ax)):=
  (cr a0).bind fun (x1:Int ⊕ (Int×ax))=>l6 x1 fun (x1r:Int×ax)=>(cr x1r.2).bind fun (x2:Int ⊕ (Int×ax))=>l6 x2 fun (x2r:Int×ax)=>(cd x2r.2 200).bind fun (x3:Int ⊕ (Int×ax))=>l6 x3 fun (x3r:Int×ax)=>bN x1r x2r x3r fuel (0,x3r.2.s,([]:List ar))
def bO (x1:(List ab)×Int×Int) (s5:Int×ByteArray×(List (List (List af)))) (x10r:Int×ax):Nat→(Int×ByteArray×(List aq))→Option (Int ⊕ (ah×ax))
  | 0,_=>none
  | k13+1,s12=>cond (iLt s12.1 x10r.1) ((bZ (⟨s12.2.1⟩:ax)).bind fun (x12_3_1:Int ⊕ (aq×ax))=>l6 x12_3_1 fun (x12_3_1r:aq×ax)=>need (nCap ((s12.2.2.length+([x12_3_1r.1]:List aq).length)*40)) (bO x1 s5 x10r k13 (IntKind.i64.wrap (s12.1+1),x12_3_1r.2.s,s12.2.2++([x12_3_1r.1]:List aq)))) (cond (!sEq s12.2.1 ByteArray.empty) (some (.inl 2)) (some (.inr ((⟨x1.1,s5.2.2,s12.2.2⟩:ah),(⟨s12.2.1⟩:ax)))))
def b8 (x1:(List ab)×Int×Int) (x3r:Int×ax):Nat→(Int×ByteArray×(List (List (List af))))→Option (Int ⊕ (ah×ax))
  | 0,_=>none
  | k6+1,s5=>cond (iLt s5.1 x3r.1) ((nm x1.1 s5.2.1).bind fun (x6_6_1:(List (List af))×Int×Int)=>(bD (⟨s5.2.1⟩:ax) x6_6_1.2.1 x6_6_1.2.2).bind fun (x8:Int ⊕ ax)=>l6 x8 fun (x8r:ax)=>need (nCap ((s5.2.2.length+([x6_6_1.1]:List (List (List af))).length)*24)) (b8 x1 x3r k6 (IntKind.i64.wrap (s5.1+1),x8r.s,s5.2.2++([x6_6_1.1]:List (List (List af)))))) ((cd (⟨s5.2.1⟩:ax) 16).bind fun (x10:Int ⊕ (Int×ax))=>l6 x10 fun (x10r:Int×ax)=>bO x1 s5 x10r fuel (0,x10r.2.s,([]:List aq)))
def ca (a0:ax):Option (Int ⊕ (ah×ax)):=
  (nk a0.s).bind fun (x1:(List ab)×Int×Int)=>(bD a0 x1.2.1 x1.2.2).bind fun (x2:Int ⊕ ax)=>l6 x2 fun (x2r:ax)=>(cd x2r 32).bind fun (x3:Int ⊕ (Int×ax))=>l6 x3 fun (x3r:Int×ax)=>b8 x1 x3r fuel (0,x3r.2.s,([]:List (List (List af))))
def lU (a0:ByteArray):Option (Int ⊕ (ah×Int)):=
  (fA a0 (⟨#[76,74,1]⟩:ByteArray)).bind fun (x1:Bool)=>cond (!x1) (some (.inr ((⟨([]:List ab),([]:List (List (List af))),([]:List aq)⟩:ah),2))) (need (nTo (3:Int) (a0.size:Int)) ((ca (⟨a0.extract (3:Int).toNat a0.size⟩:ax)).bind fun (x4:Int ⊕ (ah×ax))=>l6 x4 fun (x4r:ah×ax)=>(ia x4r.1).bind fun (x5:Int)=>cond (iNe x5 0) (some (.inr ((⟨([]:List ab),([]:List (List (List af))),([]:List aq)⟩:ah),x5))) (some (.inr (x4r.1,0)))))
def nn (a0:ByteArray):Option (ah×Int):=
  (lU a0).bind fun z=>some (pget (fun e=>((⟨[],[],[]⟩:ah),e)) z)
def ei (a0:ao):Option (av×Int×ao):=
  (cf a0).bind fun (x1:Int×ao)=>(bh x1.2).bind fun (x2:Int)=>cond (iNe x2 0) (some ((⟨x1.1,0,0⟩:av),x2,x1.2)) (cond ((iNe x1.1 1)&&(iNe x1.1 2)) (some ((⟨x1.1,0,0⟩:av),6,x1.2)) ((cN x1.2).bind fun (x5:Int×ao)=>cond (iEq x1.1 1) ((cN x5.2).bind fun (x7:Int×ao)=>(bh x7.2).bind fun (x8:Int)=>some ((⟨x1.1,x5.1,x7.1⟩:av),x8,x7.2)) ((bh x5.2).bind fun (x9:Int)=>some ((⟨x1.1,x5.1,0⟩:av),x9,x5.2))))
def dC (x1:Int×ao) (x2:Int×ao) (x3:Int×ao) (x4:Int×ao) (x8:ah×Int) (x10:Int×ao):Nat→(Int×ByteArray×Int×Int×(List av))→Option (aw×Int×ao)
  | 0,_=>none
  | k16+1,s15=>cond (iLt s15.1 x10.1) ((ei (⟨s15.2.1,s15.2.2.1,s15.2.2.2.1⟩:ao)).bind fun (x18:av×Int×ao)=>cond (iNe x18.2.1 0) (some ((⟨(⟨x1.1,x2.1,x3.1,x4.1⟩:aM),x8.1,s15.2.2.2.2⟩:aw),x18.2.1,x18.2.2)) (need (nCap ((s15.2.2.2.2.length+([x18.1]:List av).length)*24)) (dC x1 x2 x3 x4 x8 x10 k16 (IntKind.u64.wrap (s15.1+1),x18.2.2.s,x18.2.2.at_,x18.2.2.err,s15.2.2.2.2++([x18.1]:List av))))) ((cE (⟨s15.2.1,s15.2.2.1,s15.2.2.2.1⟩:ao)).bind fun (x21:Int)=>cond (iLt 0 x21) (some ((⟨(⟨x1.1,x2.1,x3.1,x4.1⟩:aM),x8.1,s15.2.2.2.2⟩:aw),2,(⟨s15.2.1,s15.2.2.1,s15.2.2.2.1⟩:ao))) ((dN (⟨(⟨x1.1,x2.1,x3.1,x4.1⟩:aM),x8.1,s15.2.2.2.2⟩:aw)).bind fun (x28_2_1:Int)=>some ((⟨(⟨x1.1,x2.1,x3.1,x4.1⟩:aM),x8.1,s15.2.2.2.2⟩:aw),x28_2_1,(⟨s15.2.1,s15.2.2.1,s15.2.2.2.1⟩:ao))))
def ib (a0:ao):Option (aw×Int×ao):=
  (fy a0).bind fun (x1:Int×ao)=>(fy x1.2).bind fun (x2:Int×ao)=>(fy x2.2).bind fun (x3:Int×ao)=>(fy x3.2).bind fun (x4:Int×ao)=>(fz x4.2).bind fun (x5:ByteArray×ao)=>(bh x5.2).bind fun (x6:Int)=>cond (iNe x6 0) (some ((⟨(⟨x1.1,x2.1,x3.1,x4.1⟩:aM),(⟨([]:List ab),([]:List (List (List af))),([]:List aq)⟩:ah),([]:List av)⟩:aw),x6,x5.2)) ((nn x5.1).bind fun (x8:ah×Int)=>cond (iNe x8.2 0) (some ((⟨(⟨x1.1,x2.1,x3.1,x4.1⟩:aM),x8.1,([]:List av)⟩:aw),x8.2,x5.2)) ((bF x5.2).bind fun (x10:Int×ao)=>(bh x10.2).bind fun (x11:Int)=>cond (iNe x11 0) (some ((⟨(⟨x1.1,x2.1,x3.1,x4.1⟩:aM),x8.1,([]:List av)⟩:aw),x11,x10.2)) (cond (iLt 4000 x10.1) (some ((⟨(⟨x1.1,x2.1,x3.1,x4.1⟩:aM),x8.1,([]:List av)⟩:aw),4,x10.2)) (dC x1 x2 x3 x4 x8 x10 fuel (0,x10.2.s,x10.2.at_,x10.2.err,([]:List av))))))
def eW (a0:ByteArray):Option (aw×Int):=
  (fx a0 (⟨#[76,83,1]⟩:ByteArray)).bind fun (x1:ByteArray×Bool)=>cond (!x1.2) (some ((⟨(⟨0,0,0,0⟩:aM),(⟨([]:List ab),([]:List (List (List af))),([]:List aq)⟩:ah),([]:List av)⟩:aw),2)) ((eU x1.1).bind fun (x3:ao)=>(ib x3).bind fun (x4:aw×Int×ao)=>cond (iNe x4.2.1 0) (some ((⟨(⟨0,0,0,0⟩:aM),(⟨([]:List ab),([]:List (List (List af))),([]:List aq)⟩:ah),([]:List av)⟩:aw),x4.2.1)) (some (x4.1,0)))
def dY (a0:List (List af)) (a1:List (List af)) (s2:Int) (K5:Unit→Option Bool):Nat→Int→Option Bool
  | 0,_=>none
  | k11+1,s10=>need (nIn s2 (a0.length:Int)) (cond (iLt s10 ((a0.getD s2.toNat default).length:Int)) (need (nIn s2 (a0.length:Int)) (need (nIn s10 ((a0.getD s2.toNat default).length:Int)) (need (nIn s2 (a1.length:Int)) (need (nIn s10 ((a1.getD s2.toNat default).length:Int)) (cond (!((iEq (((a0.getD s2.toNat default).getD s10.toNat default).Kind) (((a1.getD s2.toNat default).getD s10.toNat default).Kind))&&((iEq (((a0.getD s2.toNat default).getD s10.toNat default).Obj) (((a1.getD s2.toNat default).getD s10.toNat default).Obj))&&((iEq (((a0.getD s2.toNat default).getD s10.toNat default).N) (((a1.getD s2.toNat default).getD s10.toNat default).N))&&true)))) (some false) (dY a0 a1 s2 K5 k11 (IntKind.i64.wrap (s10+1)))))))) (K5 Unit.unit))
def dP (a0:List (List af)) (a1:List (List af)):Nat→Int→Option Bool
  | 0,_=>none
  | k3+1,s2=>cond (iLt s2 (a0.length:Int)) (gR (fun s6:Unit=>dP a0 a1 k3 (IntKind.i64.wrap (s2+1))) fun K5=>need (nIn s2 (a0.length:Int)) (need (nIn s2 (a1.length:Int)) (cond (iNe ((a0.getD s2.toNat default).length:Int) ((a1.getD s2.toNat default).length:Int)) (some false) (dY a0 a1 s2 K5 fuel 0)))) (some true)
def fB (a0:List (List af)) (a1:List (List af)):Option Bool:=
  cond (iNe (a0.length:Int) (a1.length:Int)) (some false) (dP a0 a1 fuel 0)
def dZ (a0:ah) (a1:ah) (s15:Int) (K18:Unit→Option Bool):Nat→Int→Option Bool
  | 0,_=>none
  | k22+1,s21=>cond (iLt s21 (((a0.Funcs.getD s15.toNat default).Code).length:Int)) (need (nIn s21 (((a0.Funcs.getD s15.toNat default).Code).length:Int)) (need (nIn s21 (((a1.Funcs.getD s15.toNat default).Code).length:Int)) (cond (!((iEq ((((a0.Funcs.getD s15.toNat default).Code).getD s21.toNat default).Op) ((((a1.Funcs.getD s15.toNat default).Code).getD s21.toNat default).Op))&&((iEq ((((a0.Funcs.getD s15.toNat default).Code).getD s21.toNat default).A) ((((a1.Funcs.getD s15.toNat default).Code).getD s21.toNat default).A))&&((iEq ((((a0.Funcs.getD s15.toNat default).Code).getD s21.toNat default).B) ((((a1.Funcs.getD s15.toNat default).Code).getD s21.toNat default).B))&&true)))) (some false) (dZ a0 a1 s15 K18 k22 (IntKind.i64.wrap (s21+1)))))) (K18 Unit.unit)
def dx (a0:ah) (a1:ah):Nat→Int→Option Bool
  | 0,_=>none
  | k16+1,s15=>cond (iLt s15 (a0.Funcs.length:Int)) (gR (fun s19:Unit=>dx a0 a1 k16 (IntKind.i64.wrap (s15+1))) fun K18=>need (nIn s15 (a0.Funcs.length:Int)) (need (nIn s15 (a1.Funcs.length:Int)) (cond (((iNe ((a0.Funcs.getD s15.toNat default).Args) ((a1.Funcs.getD s15.toNat default).Args))||(iNe ((a0.Funcs.getD s15.toNat default).Locals) ((a1.Funcs.getD s15.toNat default).Locals)))||(iNe (((a0.Funcs.getD s15.toNat default).Code).length:Int) (((a1.Funcs.getD s15.toNat default).Code).length:Int))) (some false) (dZ a0 a1 s15 K18 fuel 0)))) (some true)
def eC (a0:ah) (a1:ah):Nat→Int→Option Bool
  | 0,_=>none
  | k9+1,s8=>cond (iLt s8 (a0.Waits.length:Int)) (need (nIn s8 (a0.Waits.length:Int)) (need (nIn s8 (a1.Waits.length:Int)) ((fB (a0.Waits.getD s8.toNat default) (a1.Waits.getD s8.toNat default)).bind fun (x13:Bool)=>cond (!x13) (some false) (eC a0 a1 k9 (IntKind.i64.wrap (s8+1)))))) (dx a0 a1 fuel 0)
def eD (a0:ah) (a1:ah):Nat→Int→Option Bool
  | 0,_=>none
  | k3+1,s2=>cond (iLt s2 (a0.Decls.length:Int)) (need (nIn s2 (a0.Decls.length:Int)) (need (nIn s2 (a1.Decls.length:Int)) (cond (!((iEq ((a0.Decls.getD s2.toNat default).Kind) ((a1.Decls.getD s2.toNat default).Kind))&&((iEq ((a0.Decls.getD s2.toNat default).A) ((a1.Decls.getD s2.toNat default).A))&&((iEq ((a0.Decls.getD s2.toNat default).B) ((a1.Decls.getD s2.toNat default).B))&&true)))) (some false) (eD a0 a1 k3 (IntKind.i64.wrap (s2+1)))))) (eC a0 a1 fuel 0)
def gn (a0:ah) (a1:ah):Option Bool:=
  cond (((iNe (a0.Decls.length:Int) (a1.Decls.length:Int))||(iNe (a0.Waits.length:Int) (a1.Waits.length:Int)))||(iNe (a0.Funcs.length:Int) (a1.Funcs.length:Int))) (some false) (eD a0 a1 fuel 0)
def eF (a0:aw) (a1:aw):Nat→Int→Option Bool
  | 0,_=>none
  | k4+1,s3=>cond (iLt s3 (a0.Events.length:Int)) (need (nIn s3 (a0.Events.length:Int)) (need (nIn s3 (a1.Events.length:Int)) (cond (!((iEq ((a0.Events.getD s3.toNat default).Kind) ((a1.Events.getD s3.toNat default).Kind))&&((iEq ((a0.Events.getD s3.toNat default).A) ((a1.Events.getD s3.toNat default).A))&&((iEq ((a0.Events.getD s3.toNat default).B) ((a1.Events.getD s3.toNat default).B))&&true)))) (some false) (eF a0 a1 k4 (IntKind.i64.wrap (s3+1)))))) (some true)
def ef (a0:aw) (a1:aw):Option Bool:=
  (cond (!(!((iEq a0.Config.Mode a1.Config.Mode)&&((iEq a0.Config.Workers a1.Config.Workers)&&((iEq a0.Config.Quantum a1.Config.Quantum)&&((iEq a0.Config.Policy a1.Config.Policy)&&true)))))) (gn a0.Program a1.Program) (some default)).bind fun (x1:Bool)=>cond (((!((iEq a0.Config.Mode a1.Config.Mode)&&((iEq a0.Config.Workers a1.Config.Workers)&&((iEq a0.Config.Quantum a1.Config.Quantum)&&((iEq a0.Config.Policy a1.Config.Policy)&&true)))))||(!x1))||(iNe (a0.Events.length:Int) (a1.Events.length:Int))) (some false) (eF a0 a1 fuel 0)
def eG:Option Bool:=
  (kJ).bind fun (x1:aw)=>(jd x1).bind fun (x2:ByteArray×Int)=>(eW x2.1).bind fun (x3:aw×Int)=>cond (((sEq x2.1 (⟨#[76,83,1,0,1,2,0,11,76,74,1,0,0,1,0,0,2,22,21,2,1,0,2,2,10]⟩:ByteArray))&&(iEq x2.2 0))&&(iEq x3.2 0)) ((kJ).bind fun (x5:aw)=>(ef x3.1 x5).bind fun (x6:Bool)=>cond x6 ((dN (⟨(⟨0,0,0,0⟩:aM),(⟨[],[],[]⟩:ah),[]⟩:aw)).bind fun (x8:Int)=>some (iEq x8 1)) (some false)) (some false)
def xr (a0:aw):Option Bool:=
  (ji a0).bind fun (x1:aw)=>(fZ x1).bind fun (x2:Int)=>(ji x1).bind fun (x3:aw)=>(jd x3).bind fun (x4:ByteArray×Int)=>(ji x1).bind fun (x5:aw)=>(dN x5).bind fun (x6:Int)=>cond ((iNe x6 x2)||(iNe x4.2 x2)) (some false) ((fv x1.Config).bind fun (x8:Int)=>(gk x1.Config).bind fun (x9:Int)=>cond (iNe x8 x9) (some false) ((cond ((!((iNe x2 0)&&(sEq x4.1 ByteArray.empty)))&&(iEq x2 0)) (Ac x1) (some default)).bind fun (x11:ByteArray)=>(cond (((iNe x2 0)&&(sEq x4.1 ByteArray.empty))||((iEq x2 0)&&(sEq x4.1 x11))) (eG) (some default)).bind fun (x12:Bool)=>some ((((iNe x2 0)&&(sEq x4.1 ByteArray.empty))||((iEq x2 0)&&(sEq x4.1 x11)))&&x12)))
def gp (a0:au) (a1:Int):Option au:=
  cond (iEq a0.Err 0) (some (⟨a0.S,(a0.S.size:Int),a1⟩:au)) (some a0)
def dL (a0:au):Option (Int×au):=
  cond (iLe (a0.S.size:Int) a0.At) ((gp a0 3).bind fun (x2:au)=>some (0,x2)) (need (nIn a0.At (a0.S.size:Int)) (some (IntKind.i64.wrap (bf a0.S a0.At.toNat),(⟨a0.S,IntKind.i64.wrap (a0.At+1),a0.Err⟩:au))))
def c8:Nat→(Int×Int×Int×ByteArray×Int×Int)→Option (Int×au)
  | 0,_=>none
  | k2+1,s1=>cond (iLt s1.2.2.1 10) ((dL (⟨s1.2.2.2.1,s1.2.2.2.2.1,s1.2.2.2.2.2⟩:au)).bind fun (x4:Int×au)=>cond (iNe x4.2.Err 0) (some (0,x4.2)) (cond (((iEq s1.2.2.1 9)&&(iLt 1 x4.1))||((iLt 0 s1.2.2.1)&&(iEq x4.1 0))) ((gp x4.2 2).bind fun (x7:au)=>some (0,x7)) (cond (iLt x4.1 128) (some (IntKind.u64.wrap (s1.1+(IntKind.u64.wrap ((IntKind.u64.wrap (Int.tmod x4.1 128))*s1.2.1))),x4.2)) (c8 k2 (IntKind.u64.wrap (s1.1+(IntKind.u64.wrap ((IntKind.u64.wrap (Int.tmod x4.1 128))*s1.2.1))),IntKind.u64.wrap (s1.2.1*128),IntKind.i64.wrap (s1.2.2.1+1),x4.2.S,x4.2.At,x4.2.Err))))) (some (s1.1,(⟨s1.2.2.2.1,s1.2.2.2.2.1,s1.2.2.2.2.2⟩:au)))
def bj (a0:au):Option (Int×au):=
  c8 fuel (0,1,0,a0.S,a0.At,a0.Err)
def iH (a0:au):Option (Int×au):=
  (bj a0).bind fun (x1:Int×au)=>some (IntKind.i64.wrap (iMin x1.1 (2147483648:Int)),x1.2)
def jq (a0:au):Option (ByteArray×au):=
  (bj a0).bind fun (x1:Int×au)=>cond (iLt (IntKind.u64.wrap (IntKind.i64.wrap ((x1.2.S.size:Int) - x1.2.At))) x1.1) ((gp x1.2 3).bind fun (x3:au)=>some (ByteArray.empty,x3)) (need (nSl x1.2.At (IntKind.i64.wrap (x1.2.At+(IntKind.i64.wrap x1.1))) (x1.2.S.size:Int)) (some (x1.2.S.extract x1.2.At.toNat (IntKind.i64.wrap (x1.2.At+(IntKind.i64.wrap x1.1))).toNat,(⟨x1.2.S,IntKind.i64.wrap (x1.2.At+(IntKind.i64.wrap x1.1)),x1.2.Err⟩:au))))
def fL (a0:au):Option (Int×au):=
  (bj a0).bind fun (x1:Int×au)=>some (IntKind.i64.wrap (iMin x1.1 (2147483648:Int)),x1.2)
def cO (a0:au):Option (Int×au):=
  (bj a0).bind fun (x1:Int×au)=>cond (iEq (Int.tmod x1.1 2) 0) (some (IntKind.i64.wrap (IntKind.u64.wrap (Int.tdiv x1.1 2)),x1.2)) (some (IntKind.i64.wrap ((IntKind.i64.wrap (0 - (IntKind.i64.wrap (IntKind.u64.wrap (Int.tdiv x1.1 2))))) - 1),x1.2))
def dQ (x1:Int×au):Nat→(Int×ByteArray×Int×Int×(List ab))→Option ((List ab)×au×Int)
  | 0,_=>none
  | k5+1,s4=>cond (iLt s4.1 x1.1) (gR (fun s8:ByteArray×Int×Int×(List ab)=>dQ x1 k5 (IntKind.i64.wrap (s4.1+1),s8.1,s8.2.1,s8.2.2.1,s8.2.2.2)) fun K7=>(dL (⟨s4.2.1,s4.2.2.1,s4.2.2.2.1⟩:au)).bind fun (x9:Int×au)=>cond ((iEq x9.2.Err 0)&&((iLt x9.1 1)||(iLt 7 x9.1))) (some ([],x9.2,6)) (cond ((iEq x9.1 3)||(iEq x9.1 6)) ((fL x9.2).bind fun (x12:Int×au)=>cond (iEq x9.1 7) ((cO x12.2).bind fun (x14:Int×au)=>cond ((iEq x9.1 3)||(iEq x9.1 7)) ((fL x14.2).bind fun (x16:Int×au)=>cond (iNe x16.2.Err 0) (some ([],x16.2,x16.2.Err)) (need (nCap ((s4.2.2.2.2.length+([(⟨x9.1,x14.1,x16.1⟩:ab)]:List ab).length)*24)) (K7 (x16.2.S,x16.2.At,x16.2.Err,s4.2.2.2.2++([(⟨x9.1,x14.1,x16.1⟩:ab)]:List ab))))) (cond (iNe x14.2.Err 0) (some ([],x14.2,x14.2.Err)) (need (nCap ((s4.2.2.2.2.length+([(⟨x9.1,x14.1,0⟩:ab)]:List ab).length)*24)) (K7 (x14.2.S,x14.2.At,x14.2.Err,s4.2.2.2.2++([(⟨x9.1,x14.1,0⟩:ab)]:List ab)))))) (cond ((iEq x9.1 3)||(iEq x9.1 7)) ((fL x12.2).bind fun (x22:Int×au)=>cond (iNe x22.2.Err 0) (some ([],x22.2,x22.2.Err)) (need (nCap ((s4.2.2.2.2.length+([(⟨x9.1,x12.1,x22.1⟩:ab)]:List ab).length)*24)) (K7 (x22.2.S,x22.2.At,x22.2.Err,s4.2.2.2.2++([(⟨x9.1,x12.1,x22.1⟩:ab)]:List ab))))) (cond (iNe x12.2.Err 0) (some ([],x12.2,x12.2.Err)) (need (nCap ((s4.2.2.2.2.length+([(⟨x9.1,x12.1,0⟩:ab)]:List ab).length)*24)) (K7 (x12.2.S,x12.2.At,x12.2.Err,s4.2.2.2.2++([(⟨x9.1,x12.1,0⟩:ab)]:List ab))))))) (cond (iEq x9.1 7) ((cO x9.2).bind fun (x28:Int×au)=>cond ((iEq x9.1 3)||(iEq x9.1 7)) ((fL x28.2).bind fun (x30:Int×au)=>cond (iNe x30.2.Err 0) (some ([],x30.2,x30.2.Err)) (need (nCap ((s4.2.2.2.2.length+([(⟨x9.1,x28.1,x30.1⟩:ab)]:List ab).length)*24)) (K7 (x30.2.S,x30.2.At,x30.2.Err,s4.2.2.2.2++([(⟨x9.1,x28.1,x30.1⟩:ab)]:List ab))))) (cond (iNe x28.2.Err 0) (some ([],x28.2,x28.2.Err)) (need (nCap ((s4.2.2.2.2.length+([(⟨x9.1,x28.1,0⟩:ab)]:List ab).length)*24)) (K7 (x28.2.S,x28.2.At,x28.2.Err,s4.2.2.2.2++([(⟨x9.1,x28.1,0⟩:ab)]:List ab)))))) (cond ((iEq x9.1 3)||(iEq x9.1 7)) ((fL x9.2).bind fun (x36:Int×au)=>cond (iNe x36.2.Err 0) (some ([],x36.2,x36.2.Err)) (need (nCap ((s4.2.2.2.2.length+([(⟨x9.1,0,x36.1⟩:ab)]:List ab).length)*24)) (K7 (x36.2.S,x36.2.At,x36.2.Err,s4.2.2.2.2++([(⟨x9.1,0,x36.1⟩:ab)]:List ab))))) (cond (iNe x9.2.Err 0) (some ([],x9.2,x9.2.Err)) (need (nCap ((s4.2.2.2.2.length+([(⟨x9.1,0,0⟩:ab)]:List ab).length)*24)) (K7 (x9.2.S,x9.2.At,x9.2.Err,s4.2.2.2.2++([(⟨x9.1,0,0⟩:ab)]:List ab))))))))) ((ff s4.2.2.2.2).bind fun (x41:Int×Int)=>cond (iNe x41.2 0) (some ([],(⟨s4.2.1,s4.2.2.1,s4.2.2.2.1⟩:au),x41.2)) (some (s4.2.2.2.2,(⟨s4.2.1,s4.2.2.1,s4.2.2.2.1⟩:au),0)))
def je (a0:au):Option ((List ab)×au×Int):=
  (fL a0).bind fun (x1:Int×au)=>cond (iNe x1.2.Err 0) (some ([],x1.2,x1.2.Err)) (cond (iLt 32 x1.1) (some ([],x1.2,4)) (dQ x1 fuel (0,x1.2.S,x1.2.At,x1.2.Err,([]:List ab))))
def fC (a0:au) (a1:Int):Option (Int×au×Int):=
  (bj a0).bind fun (x1:Int×au)=>cond (iLt a1 x1.1) (some (0,x1.2,4)) (some (IntKind.i64.wrap x1.1,x1.2,x1.2.Err))
def bJ (s3:Int×ByteArray×Int×Int×(List (List af))) (K6:(ByteArray×Int×Int×(List (List af)))→Option ((List (List af))×au×Int)) (x8:Int×au):Nat→(Int×ByteArray×Int×Int×(List af))→Option ((List (List af))×au×Int)
  | 0,_=>none
  | k11+1,s10=>cond ((iLt s10.1 (IntKind.i64.wrap x8.1))&&(iEq s10.2.2.2.1 0)) ((dL (⟨s10.2.1,s10.2.2.1,s10.2.2.2.1⟩:au)).bind fun (x13:Int×au)=>cond ((iEq x13.2.Err 0)&&((iLt x13.1 1)||(iLt 5 x13.1))) (some ([],x13.2,6)) ((bj x13.2).bind fun (x15:Int×au)=>cond (iLt 3 x13.1) ((bj x15.2).bind fun (x17:Int×au)=>need (nCap ((s10.2.2.2.2.length+([(⟨x13.1,IntKind.i64.wrap (iMin x15.1 (2147483648:Int)),IntKind.i64.wrap (iMin x17.1 (2147483648:Int))⟩:af)]:List af).length)*24)) (bJ s3 K6 x8 k11 (IntKind.i64.wrap (s10.1+1),x17.2.S,x17.2.At,x17.2.Err,s10.2.2.2.2++([(⟨x13.1,IntKind.i64.wrap (iMin x15.1 (2147483648:Int)),IntKind.i64.wrap (iMin x17.1 (2147483648:Int))⟩:af)]:List af)))) (need (nCap ((s10.2.2.2.2.length+([(⟨x13.1,IntKind.i64.wrap (iMin x15.1 (2147483648:Int)),0⟩:af)]:List af).length)*24)) (bJ s3 K6 x8 k11 (IntKind.i64.wrap (s10.1+1),x15.2.S,x15.2.At,x15.2.Err,s10.2.2.2.2++([(⟨x13.1,IntKind.i64.wrap (iMin x15.1 (2147483648:Int)),0⟩:af)]:List af)))))) (need (nCap ((s3.2.2.2.2.length+([s10.2.2.2.2]:List (List af)).length)*24)) (K6 (s10.2.1,s10.2.2.1,s10.2.2.2.1,s3.2.2.2.2++([s10.2.2.2.2]:List (List af)))))
def bP (a0:List ab) (x1:Int×au):Nat→(Int×ByteArray×Int×Int×(List (List af)))→Option ((List (List af))×au×Int)
  | 0,_=>none
  | k4+1,s3=>cond ((iLt s3.1 (IntKind.i64.wrap x1.1))&&(iEq s3.2.2.2.1 0)) (gR (fun s7:ByteArray×Int×Int×(List (List af))=>bP a0 x1 k4 (IntKind.i64.wrap (s3.1+1),s7.1,s7.2.1,s7.2.2.1,s7.2.2.2)) fun K6=>(bj (⟨s3.2.1,s3.2.2.1,s3.2.2.2.1⟩:au)).bind fun (x8:Int×au)=>cond (iLt 4 x8.1) (some ([],x8.2,4)) (bJ s3 K6 x8 fuel (0,x8.2.S,x8.2.At,x8.2.Err,([]:List af)))) (cond (iNe s3.2.2.2.1 0) (some ([],(⟨s3.2.1,s3.2.2.1,s3.2.2.2.1⟩:au),s3.2.2.2.1)) ((fg a0 s3.2.2.2.2).bind fun (x22:Int)=>cond (iNe x22 0) (some ([],(⟨s3.2.1,s3.2.2.1,s3.2.2.2.1⟩:au),x22)) (some (s3.2.2.2.2,(⟨s3.2.1,s3.2.2.1,s3.2.2.2.1⟩:au),0))))
def kc (a0:List ab) (a1:au):Option ((List (List af))×au×Int):=
  (bj a1).bind fun (x1:Int×au)=>cond (iLt 4 x1.1) (some ([],x1.2,4)) (bP a0 x1 fuel (0,x1.2.S,x1.2.At,x1.2.Err,([]:List (List af))))
def cW (x1:Int×au) (x5:ByteArray):Nat→(Int×ByteArray×Int×Int×(List Int))→Option (ar×au×Int)
  | 0,_=>none
  | k7+1,s6=>cond (iLt s6.1 (x5.size:Int)) (need (nIn s6.1 (x5.size:Int)) (cond (iEq (bf x5 s6.1.toNat) 110) ((cO (⟨s6.2.1,s6.2.2.1,s6.2.2.2.1⟩:au)).bind fun (x11:Int×au)=>need (nIn s6.1 (s6.2.2.2.2.length:Int)) (cond (iNe x11.2.Err 0) (some ((⟨0,0,0⟩:ar),x11.2,x11.2.Err)) (cW x1 x5 k7 (IntKind.i64.wrap (s6.1+1),x11.2.S,x11.2.At,x11.2.Err,s6.2.2.2.2.set s6.1.toNat x11.1)))) ((bj (⟨s6.2.1,s6.2.2.1,s6.2.2.2.1⟩:au)).bind fun (x14:Int×au)=>need (nIn s6.1 (s6.2.2.2.2.length:Int)) (cond (iNe x14.2.Err 0) (some ((⟨0,0,0⟩:ar),x14.2,x14.2.Err)) (cW x1 x5 k7 (IntKind.i64.wrap (s6.1+1),x14.2.S,x14.2.At,x14.2.Err,s6.2.2.2.2.set s6.1.toNat (IntKind.i64.wrap (iMin x14.1 (2147483648:Int))))))))) (need (nIn (0:Int) (s6.2.2.2.2.length:Int)) (need (nIn (1:Int) (s6.2.2.2.2.length:Int)) ((fY (⟨x1.1,(s6.2.2.2.2.getD (0:Int).toNat default),(s6.2.2.2.2.getD (1:Int).toNat default)⟩:ar)).bind fun (x17:Int)=>cond (iNe x17 0) (some ((⟨0,0,0⟩:ar),(⟨s6.2.1,s6.2.2.1,s6.2.2.2.1⟩:au),x17)) (some ((⟨x1.1,(s6.2.2.2.2.getD (0:Int).toNat default),(s6.2.2.2.2.getD (1:Int).toNat default)⟩:ar),(⟨s6.2.1,s6.2.2.1,s6.2.2.2.1⟩:au),0)))))
def jf (a0:au):Option (ar×au×Int):=
  (dL a0).bind fun (x1:Int×au)=>cond (iNe x1.2.Err 0) (some ((⟨0,0,0⟩:ar),x1.2,x1.2.Err)) ((dA x1.1).bind fun (x3:Bool)=>cond (!x3) (some ((⟨0,0,0⟩:ar),x1.2,6)) ((gm x1.1).bind fun (x5:ByteArray)=>cW x1 x5 fuel (0,x1.2.S,x1.2.At,x1.2.Err,([0,0]:List Int))))
def cF (x1:Int×au) (x2:Int×au) (x3:Int×au×Int):Nat→(Int×ByteArray×Int×Int×(List ar))→Option (aq×au×Int)
  | 0,_=>none
  | k8+1,s7=>cond (iLt s7.1 x3.1) ((jf (⟨s7.2.1,s7.2.2.1,s7.2.2.2.1⟩:au)).bind fun (x10:ar×au×Int)=>cond (iNe x10.2.2 0) (some ((⟨IntKind.i64.wrap (iMin x1.1 (2147483648:Int)),IntKind.i64.wrap (iMin x2.1 (2147483648:Int)),s7.2.2.2.2⟩:aq),x10.2.1,x10.2.2)) (need (nCap ((s7.2.2.2.2.length+([x10.1]:List ar).length)*24)) (cF x1 x2 x3 k8 (IntKind.i64.wrap (s7.1+1),x10.2.1.S,x10.2.1.At,x10.2.1.Err,s7.2.2.2.2++([x10.1]:List ar))))) (some ((⟨IntKind.i64.wrap (iMin x1.1 (2147483648:Int)),IntKind.i64.wrap (iMin x2.1 (2147483648:Int)),s7.2.2.2.2⟩:aq),(⟨s7.2.1,s7.2.2.1,s7.2.2.2.1⟩:au),0))
def fm (a0:au):Option (aq×au×Int):=
  (bj a0).bind fun (x1:Int×au)=>(bj x1.2).bind fun (x2:Int×au)=>(fC x2.2 200).bind fun (x3:Int×au×Int)=>cond (iNe x2.2.Err 0) (some ((⟨IntKind.i64.wrap (iMin x1.1 (2147483648:Int)),IntKind.i64.wrap (iMin x2.1 (2147483648:Int)),([]:List ar)⟩:aq),x2.2,x2.2.Err)) (cond (iNe x3.2.2 0) (some ((⟨IntKind.i64.wrap (iMin x1.1 (2147483648:Int)),IntKind.i64.wrap (iMin x2.1 (2147483648:Int)),([]:List ar)⟩:aq),x3.2.1,x3.2.2)) (cF x1 x2 x3 fuel (0,x3.2.1.S,x3.2.1.At,x3.2.1.Err,([]:List ar))))
def eH (a0:ByteArray) (x3:(List ab)×au×Int) (s8:Int×ByteArray×Int×Int×(List (List (List af)))) (x13:Int×au×Int):Nat→(Int×ByteArray×Int×Int×(List aq))→Option (ah×Int)
  | 0,_=>none
  | k17+1,s16=>cond (iLt s16.1 x13.1) ((fm (⟨s16.2.1,s16.2.2.1,s16.2.2.2.1⟩:au)).bind fun (x19:aq×au×Int)=>cond (iNe x19.2.2 0) (some ((⟨([]:List ab),([]:List (List (List af))),([]:List aq)⟩:ah),x19.2.2)) (need (nCap ((s16.2.2.2.2.length+([x19.1]:List aq).length)*40)) (eH a0 x3 s8 x13 k17 (IntKind.i64.wrap (s16.1+1),x19.2.1.S,x19.2.1.At,x19.2.1.Err,s16.2.2.2.2++([x19.1]:List aq))))) (cond (iLt s16.2.2.1 (a0.size:Int)) (some ((⟨([]:List ab),([]:List (List (List af))),([]:List aq)⟩:ah),2)) ((fh (⟨x3.1,s8.2.2.2.2,s16.2.2.2.2⟩:ah)).bind fun (x22:Int)=>cond (iNe x22 0) (some ((⟨([]:List ab),([]:List (List (List af))),([]:List aq)⟩:ah),x22)) (some ((⟨x3.1,s8.2.2.2.2,s16.2.2.2.2⟩:ah),0))))
def fp (a0:ByteArray) (x3:(List ab)×au×Int) (x5:Int×au×Int):Nat→(Int×ByteArray×Int×Int×(List (List (List af))))→Option (ah×Int)
  | 0,_=>none
  | k9+1,s8=>cond (iLt s8.1 x5.1) ((kc x3.1 (⟨s8.2.1,s8.2.2.1,s8.2.2.2.1⟩:au)).bind fun (x11:(List (List af))×au×Int)=>cond (iNe x11.2.2 0) (some ((⟨([]:List ab),([]:List (List (List af))),([]:List aq)⟩:ah),x11.2.2)) (need (nCap ((s8.2.2.2.2.length+([x11.1]:List (List (List af))).length)*24)) (fp a0 x3 x5 k9 (IntKind.i64.wrap (s8.1+1),x11.2.1.S,x11.2.1.At,x11.2.1.Err,s8.2.2.2.2++([x11.1]:List (List (List af))))))) ((fC (⟨s8.2.1,s8.2.2.1,s8.2.2.2.1⟩:au) 16).bind fun (x13:Int×au×Int)=>cond (iNe x13.2.2 0) (some ((⟨([]:List ab),([]:List (List (List af))),([]:List aq)⟩:ah),x13.2.2)) (eH a0 x3 s8 x13 fuel (0,x13.2.1.S,x13.2.1.At,x13.2.1.Err,([]:List aq))))
def lx (a0:ByteArray):Option (ah×Int):=
  need (!(!(iLt (a0.size:Int) 3))||nTo (3:Int) (a0.size:Int)) (cond ((iLt (a0.size:Int) 3)||(!sEq (a0.extract 0 (3:Int).toNat) (⟨#[76,74,1]⟩:ByteArray))) (some ((⟨([]:List ab),([]:List (List (List af))),([]:List aq)⟩:ah),2)) ((je (⟨a0,3,0⟩:au)).bind fun (x3:(List ab)×au×Int)=>cond (iNe x3.2.2 0) (some ((⟨([]:List ab),([]:List (List (List af))),([]:List aq)⟩:ah),x3.2.2)) ((fC x3.2.1 32).bind fun (x5:Int×au×Int)=>cond (iNe x5.2.2 0) (some ((⟨([]:List ab),([]:List (List (List af))),([]:List aq)⟩:ah),x5.2.2)) (fp a0 x3 x5 fuel (0,x5.2.1.S,x5.2.1.At,x5.2.1.Err,([]:List (List (List af))))))))
def dm (a0:ByteArray) (x3:Int×au) (x4:Int×au) (x5:Int×au) (x6:Int×au) (x9:ah×Int) (x11:Int×au):Nat→(Int×ByteArray×Int×Int×(List av))→Option (aw×Int)
  | 0,_=>none
  | k16+1,s15=>cond (iLt s15.1 (IntKind.i64.wrap x11.1)) ((dL (⟨s15.2.1,s15.2.2.1,s15.2.2.2.1⟩:au)).bind fun (x18:Int×au)=>cond (iNe x18.2.Err 0) (some ((⟨(⟨0,0,0,0⟩:aM),(⟨([]:List ab),([]:List (List (List af))),([]:List aq)⟩:ah),([]:List av)⟩:aw),x18.2.Err)) (cond ((iNe x18.1 1)&&(iNe x18.1 2)) (some ((⟨(⟨0,0,0,0⟩:aM),(⟨([]:List ab),([]:List (List (List af))),([]:List aq)⟩:ah),([]:List av)⟩:aw),6)) ((cO x18.2).bind fun (x21:Int×au)=>cond (iEq x18.1 1) ((cO x21.2).bind fun (x23:Int×au)=>cond (iNe x23.2.Err 0) (some ((⟨(⟨0,0,0,0⟩:aM),(⟨([]:List ab),([]:List (List (List af))),([]:List aq)⟩:ah),([]:List av)⟩:aw),x23.2.Err)) (need (nCap ((s15.2.2.2.2.length+([(⟨x18.1,x21.1,x23.1⟩:av)]:List av).length)*24)) (dm a0 x3 x4 x5 x6 x9 x11 k16 (IntKind.i64.wrap (s15.1+1),x23.2.S,x23.2.At,x23.2.Err,s15.2.2.2.2++([(⟨x18.1,x21.1,x23.1⟩:av)]:List av))))) (cond (iNe x21.2.Err 0) (some ((⟨(⟨0,0,0,0⟩:aM),(⟨([]:List ab),([]:List (List (List af))),([]:List aq)⟩:ah),([]:List av)⟩:aw),x21.2.Err)) (need (nCap ((s15.2.2.2.2.length+([(⟨x18.1,x21.1,0⟩:av)]:List av).length)*24)) (dm a0 x3 x4 x5 x6 x9 x11 k16 (IntKind.i64.wrap (s15.1+1),x21.2.S,x21.2.At,x21.2.Err,s15.2.2.2.2++([(⟨x18.1,x21.1,0⟩:av)]:List av)))))))) (cond (iLt s15.2.2.1 (a0.size:Int)) (some ((⟨(⟨0,0,0,0⟩:aM),(⟨([]:List ab),([]:List (List (List af))),([]:List aq)⟩:ah),([]:List av)⟩:aw),2)) ((fZ (⟨(⟨x3.1,x4.1,x5.1,x6.1⟩:aM),x9.1,s15.2.2.2.2⟩:aw)).bind fun (x27:Int)=>cond (iNe x27 0) (some ((⟨(⟨0,0,0,0⟩:aM),(⟨([]:List ab),([]:List (List (List af))),([]:List aq)⟩:ah),([]:List av)⟩:aw),x27)) (some ((⟨(⟨x3.1,x4.1,x5.1,x6.1⟩:aM),x9.1,s15.2.2.2.2⟩:aw),0))))
def ly (a0:ByteArray):Option (aw×Int):=
  need (!(!(iLt (a0.size:Int) 3))||nTo (3:Int) (a0.size:Int)) (cond ((iLt (a0.size:Int) 3)||(!sEq (a0.extract 0 (3:Int).toNat) (⟨#[76,83,1]⟩:ByteArray))) (some ((⟨(⟨0,0,0,0⟩:aM),(⟨([]:List ab),([]:List (List (List af))),([]:List aq)⟩:ah),([]:List av)⟩:aw),2)) ((iH (⟨a0,3,0⟩:au)).bind fun (x3:Int×au)=>(iH x3.2).bind fun (x4:Int×au)=>(iH x4.2).bind fun (x5:Int×au)=>(iH x5.2).bind fun (x6:Int×au)=>(jq x6.2).bind fun (x7:ByteArray×au)=>cond (iNe x7.2.Err 0) (some ((⟨(⟨0,0,0,0⟩:aM),(⟨([]:List ab),([]:List (List (List af))),([]:List aq)⟩:ah),([]:List av)⟩:aw),x7.2.Err)) ((lx x7.1).bind fun (x9:ah×Int)=>cond (iNe x9.2 0) (some ((⟨(⟨0,0,0,0⟩:aM),(⟨([]:List ab),([]:List (List (List af))),([]:List aq)⟩:ah),([]:List av)⟩:aw),x9.2)) ((bj x7.2).bind fun (x11:Int×au)=>cond (iNe x11.2.Err 0) (some ((⟨(⟨0,0,0,0⟩:aM),(⟨([]:List ab),([]:List (List (List af))),([]:List aq)⟩:ah),([]:List av)⟩:aw),x11.2.Err)) (cond (iLt 4000 x11.1) (some ((⟨(⟨0,0,0,0⟩:aM),(⟨([]:List ab),([]:List (List (List af))),([]:List aq)⟩:ah),([]:List av)⟩:aw),4)) (dm a0 x3 x4 x5 x6 x9 x11 fuel (0,x11.2.S,x11.2.At,x11.2.Err,([]:List av))))))))
def fT (a0:ByteArray):Option Bool:=
  (eW a0).bind fun (x1:aw×Int)=>(ly a0).bind fun (x2:aw×Int)=>(ef x1.1 x2.1).bind fun (x3:Bool)=>(cond (x3&&(iEq x1.2 x2.2)) (eG) (some default)).bind fun (x4:Bool)=>some ((x3&&(iEq x1.2 x2.2))&&x4)
def ym (a0:ah):Option Bool:=
  (ew a0).bind fun (x1:Int×Int×Int)=>some (iEq x1.2.2 0)
def yn (a0:ByteArray):Option Bool:=
  (eW a0).bind fun (x1:aw×Int)=>cond (iNe x1.2 0) ((ef x1.1 (⟨(⟨0,0,0,0⟩:aM),(⟨[],[],[]⟩:ah),[]⟩:aw)).bind fun (x3:Bool)=>(cond x3 (eG) (some default)).bind fun (x4:Bool)=>some (x3&&x4)) ((ji x1.1).bind fun (x5:aw)=>(jd x5).bind fun (x6:ByteArray×Int)=>(ym x1.1.Program).bind fun (x7:Bool)=>(cond x7 (ji x1.1) (some default)).bind fun (x8:aw)=>(cond x7 (dN x8) (some default)).bind fun (x9:Int)=>(cond (((x7&&(iEq x9 0))&&(iEq x6.2 0))&&(sEq x6.1 a0)) (eG) (some default)).bind fun (x10:Bool)=>some ((((x7&&(iEq x9 0))&&(iEq x6.2 0))&&(sEq x6.1 a0))&&x10))
def zd (a0:aw) (a1:ByteArray):Option Bool:=
  (ji a0).bind fun (x1:aw)=>(fZ x1).bind fun (x2:Int)=>cond (iNe x2 0) ((eG).bind fun (x4:Bool)=>some x4) ((ji x1).bind fun (x5:aw)=>(jd x5).bind fun (x6:ByteArray×Int)=>cond ((iNe x6.2 0)||(sEq x6.1 ByteArray.empty)) (some false) ((eW x6.1).bind fun (x8:aw×Int)=>need (nStr (x6.1.size+a1.size)) ((eW (x6.1++a1)).bind fun (x10:aw×Int)=>need (nTo (IntKind.i64.wrap ((x6.1.size:Int) - 1)) (x6.1.size:Int)) ((eW (x6.1.extract 0 (IntKind.i64.wrap ((x6.1.size:Int) - 1)).toNat)).bind fun (x12:aw×Int)=>(cond (iEq x8.2 0) (ef x8.1 x1) (some default)).bind fun (x13:Bool)=>(cond ((((iEq x8.2 0)&&x13)&&((iEq x10.2 0)==(sEq a1 ByteArray.empty)))&&(iNe x12.2 0)) (eG) (some default)).bind fun (x14:Bool)=>some (((((iEq x8.2 0)&&x13)&&((iEq x10.2 0)==(sEq a1 ByteArray.empty)))&&(iNe x12.2 0))&&x14)))))
end LJ
