/- What the arguments of the laws say. -/
import Derived.Test.YtpnnkehkjfciiaaGreatDoorXBulk
import Derived.Test.YtpnnkehkjfciiaaGreatDoorPF
namespace LJ
open Go Go.RowKit
set_option linter.unusedVariables false
def iz (x:af):Prop:=(jI x.Kind)∧(jI x.A)∧(jI x.B)
theorem nT (ds:List DV) (g0:i7 [.int .i64, .int .i64, .int .i64] ds):∃ x:af,iz x∧LeL ds [.int .i64 x.Kind, .int .i64 x.A, .int .i64 x.B]:=by
  obtain ⟨d0,r0,rfl,h0,g1⟩:=g0.cons
  obtain ⟨x0,rfl,w0⟩:=dK h0
  obtain ⟨d1,r1,rfl,h1,g2⟩:=g1.cons
  obtain ⟨x1,rfl,w1⟩:=dK h1
  obtain ⟨d2,r2,rfl,h2,g3⟩:=g2.cons
  obtain ⟨x2,rfl,w2⟩:=dK h2
  obtain rfl:=g3.nil
  exact ⟨⟨x0,x1,x2⟩,⟨w0,w1,w2⟩,(.cons .rfl' (.cons .rfl' (.cons .rfl' .nil)))⟩
def fb (x:aa):Prop:=(jI x.Kind)∧(jI x.Obj)∧(jI x.N)
theorem nU (ds:List DV) (g0:i7 [.int .i64, .int .i64, .int .i64] ds):∃ x:aa,fb x∧LeL ds [.int .i64 x.Kind, .int .i64 x.Obj, .int .i64 x.N]:=by
  obtain ⟨d0,r0,rfl,h0,g1⟩:=g0.cons
  obtain ⟨x0,rfl,w0⟩:=dK h0
  obtain ⟨d1,r1,rfl,h1,g2⟩:=g1.cons
  obtain ⟨x1,rfl,w1⟩:=dK h1
  obtain ⟨d2,r2,rfl,h2,g3⟩:=g2.cons
  obtain ⟨x2,rfl,w2⟩:=dK h2
  obtain rfl:=g3.nil
  exact ⟨⟨x0,x1,x2⟩,⟨w0,w1,w2⟩,(.cons .rfl' (.cons .rfl' (.cons .rfl' .nil)))⟩
def jL (x:ao):Prop:=(jI x.Op)∧(jI x.A)∧(jI x.B)
theorem o6 (ds:List DV) (g0:i7 [.int .i64, .int .i64, .int .i64] ds):∃ x:ao,jL x∧LeL ds [.int .i64 x.Op, .int .i64 x.A, .int .i64 x.B]:=by
  obtain ⟨d0,r0,rfl,h0,g1⟩:=g0.cons
  obtain ⟨x0,rfl,w0⟩:=dK h0
  obtain ⟨d1,r1,rfl,h1,g2⟩:=g1.cons
  obtain ⟨x1,rfl,w1⟩:=dK h1
  obtain ⟨d2,r2,rfl,h2,g3⟩:=g2.cons
  obtain ⟨x2,rfl,w2⟩:=dK h2
  obtain rfl:=g3.nil
  exact ⟨⟨x0,x1,x2⟩,⟨w0,w1,w2⟩,(.cons .rfl' (.cons .rfl' (.cons .rfl' .nil)))⟩
def iA (x:al):Prop:=(jI x.Args)∧(jI x.Locals)∧(x.Code.length≤maxLen∧∀ y∈x.Code,jL y)
theorem nV (ds:List DV) (g0:i7 [.int .i64, .int .i64, .slice [.int .i64, .int .i64, .int .i64]] ds):∃ x:al,iA x∧LeL ds [.int .i64 x.Args, .int .i64 x.Locals,slT ay x.Code]:=by
  obtain ⟨d0,r0,rfl,h0,g1⟩:=g0.cons
  obtain ⟨x0,rfl,w0⟩:=dK h0
  obtain ⟨d1,r1,rfl,h1,g2⟩:=g1.cons
  obtain ⟨x1,rfl,w1⟩:=dK h1
  obtain ⟨d2,r2,rfl,h2,g3⟩:=g2.cons
  obtain ⟨x2,y2,w2,l2⟩:=fu ay jL o6 h2
  obtain rfl:=g3.nil
  exact ⟨⟨x0,x1,x2⟩,⟨w0,w1,⟨y2,w2⟩⟩,(.cons .rfl' (.cons .rfl' (.cons l2 .nil)))⟩
def mi (x:ab):Prop:=(x.Decls.length≤maxLen∧∀ y∈x.Decls,iz y)∧(x.Waits.length≤maxLen∧∀ y∈x.Waits,(fun l:List (List aa)=>l.length≤maxLen∧∀ y∈l,(fun l:List aa=>l.length≤maxLen∧∀ y∈l,fb y) y) y)∧(x.Funcs.length≤maxLen∧∀ y∈x.Funcs,iA y)
theorem kv (ds:List DV) (g0:i7 [.slice [.int .i64, .int .i64, .int .i64], .slice [.slice [.slice [.int .i64, .int .i64, .int .i64]]], .slice [.int .i64, .int .i64, .slice [.int .i64, .int .i64, .int .i64]]] ds):∃ x:ab,mi x∧LeL ds [slT ai x.Decls,slT ae x.Waits,slT ak x.Funcs]:=by
  obtain ⟨d0,r0,rfl,h0,g1⟩:=g0.cons
  obtain ⟨x0,y0,w0,l0⟩:=fu ai iz nT h0
  obtain ⟨d1,r1,rfl,h1,g2⟩:=g1.cons
  obtain ⟨x1,y1,w1,l1⟩:=fu ae (fun l:List (List aa)=>l.length≤maxLen∧∀ y∈l,(fun l:List aa=>l.length≤maxLen∧∀ y∈l,fb y) y) (tc aw (fun l:List aa=>l.length≤maxLen∧∀ y∈l,fb y) (tc aN fb nU)) h1
  obtain ⟨d2,r2,rfl,h2,g3⟩:=g2.cons
  obtain ⟨x2,y2,w2,l2⟩:=fu ak iA nV h2
  obtain rfl:=g3.nil
  exact ⟨⟨x0,x1,x2⟩,⟨⟨y0,w0⟩,⟨y1,w1⟩,⟨y2,w2⟩⟩,(.cons l0 (.cons l1 (.cons l2 .nil)))⟩
end LJ
