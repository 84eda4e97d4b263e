/- What the arguments of the laws say. -/
import Derived.Test.YtpnnkehkjfciiaaGreatDoorXBulk
import Derived.Test.YtpnnkehkjfciiaaGreatDoorPF
namespace LJ
open Go Go.RowKit
set_option linter.unusedVariables false
def ic (x:ab):Prop:=(hZ x.Kind)∧(hZ x.A)∧(hZ x.B)
theorem nk (ds:List DV) (g0:iO [.int .i64, .int .i64, .int .i64] ds):∃ x:ab,ic x∧LeL ds [.int .i64 x.Kind, .int .i64 x.A, .int .i64 x.B]:=by
  obtain ⟨d0,r0,rfl,h0,g1⟩:=g0.cons
  obtain ⟨x0,rfl,w0⟩:=dp h0
  obtain ⟨d1,r1,rfl,h1,g2⟩:=g1.cons
  obtain ⟨x1,rfl,w1⟩:=dp h1
  obtain ⟨d2,r2,rfl,h2,g3⟩:=g2.cons
  obtain ⟨x2,rfl,w2⟩:=dp h2
  obtain rfl:=g3.nil
  exact ⟨⟨x0,x1,x2⟩,⟨w0,w1,w2⟩,(.cons .rfl' (.cons .rfl' (.cons .rfl' .nil)))⟩
def eH (x:aa):Prop:=(hZ x.Kind)∧(hZ x.Obj)∧(hZ x.N)
theorem nn (ds:List DV) (g0:iO [.int .i64, .int .i64, .int .i64] ds):∃ x:aa,eH x∧LeL ds [.int .i64 x.Kind, .int .i64 x.Obj, .int .i64 x.N]:=by
  obtain ⟨d0,r0,rfl,h0,g1⟩:=g0.cons
  obtain ⟨x0,rfl,w0⟩:=dp h0
  obtain ⟨d1,r1,rfl,h1,g2⟩:=g1.cons
  obtain ⟨x1,rfl,w1⟩:=dp h1
  obtain ⟨d2,r2,rfl,h2,g3⟩:=g2.cons
  obtain ⟨x2,rfl,w2⟩:=dp h2
  obtain rfl:=g3.nil
  exact ⟨⟨x0,x1,x2⟩,⟨w0,w1,w2⟩,(.cons .rfl' (.cons .rfl' (.cons .rfl' .nil)))⟩
def ju (x:aq):Prop:=(hZ x.Op)∧(hZ x.A)∧(hZ x.B)
theorem jO (ds:List DV) (g0:iO [.int .i64, .int .i64, .int .i64] ds):∃ x:aq,ju x∧LeL ds [.int .i64 x.Op, .int .i64 x.A, .int .i64 x.B]:=by
  obtain ⟨d0,r0,rfl,h0,g1⟩:=g0.cons
  obtain ⟨x0,rfl,w0⟩:=dp h0
  obtain ⟨d1,r1,rfl,h1,g2⟩:=g1.cons
  obtain ⟨x1,rfl,w1⟩:=dp h1
  obtain ⟨d2,r2,rfl,h2,g3⟩:=g2.cons
  obtain ⟨x2,rfl,w2⟩:=dp h2
  obtain rfl:=g3.nil
  exact ⟨⟨x0,x1,x2⟩,⟨w0,w1,w2⟩,(.cons .rfl' (.cons .rfl' (.cons .rfl' .nil)))⟩
def ie (x:au):Prop:=(hZ x.Args)∧(hZ x.Locals)∧(x.Code.length≤maxLen∧∀ y∈x.Code,ju y)
theorem np (ds:List DV) (g0:iO [.int .i64, .int .i64, .slice [.int .i64, .int .i64, .int .i64]] ds):∃ x:au,ie x∧LeL ds [.int .i64 x.Args, .int .i64 x.Locals,slT aB x.Code]:=by
  obtain ⟨d0,r0,rfl,h0,g1⟩:=g0.cons
  obtain ⟨x0,rfl,w0⟩:=dp h0
  obtain ⟨d1,r1,rfl,h1,g2⟩:=g1.cons
  obtain ⟨x1,rfl,w1⟩:=dp h1
  obtain ⟨d2,r2,rfl,h2,g3⟩:=g2.cons
  obtain ⟨x2,y2,w2,l2⟩:=fa aB ju jO h2
  obtain rfl:=g3.nil
  exact ⟨⟨x0,x1,x2⟩,⟨w0,w1,⟨y2,w2⟩⟩,(.cons .rfl' (.cons .rfl' (.cons l2 .nil)))⟩
def lH (x:af):Prop:=(x.Decls.length≤maxLen∧∀ y∈x.Decls,ic y)∧(x.Waits.length≤maxLen∧∀ y∈x.Waits,(fun l:List (List aa)=>l.length≤maxLen∧∀ y∈l,(fun l:List aa=>l.length≤maxLen∧∀ y∈l,eH y) y) y)∧(x.Funcs.length≤maxLen∧∀ y∈x.Funcs,ie y)
theorem j4 (ds:List DV) (g0:iO [.slice [.int .i64, .int .i64, .int .i64], .slice [.slice [.slice [.int .i64, .int .i64, .int .i64]]], .slice [.int .i64, .int .i64, .slice [.int .i64, .int .i64, .int .i64]]] ds):∃ x:af,lH x∧LeL ds [slT ai x.Decls,slT ae x.Waits,slT ak x.Funcs]:=by
  obtain ⟨d0,r0,rfl,h0,g1⟩:=g0.cons
  obtain ⟨x0,y0,w0,l0⟩:=fa ai ic nk h0
  obtain ⟨d1,r1,rfl,h1,g2⟩:=g1.cons
  obtain ⟨x1,y1,w1,l1⟩:=fa ae (fun l:List (List aa)=>l.length≤maxLen∧∀ y∈l,(fun l:List aa=>l.length≤maxLen∧∀ y∈l,eH y) y) (rU ax (fun l:List aa=>l.length≤maxLen∧∀ y∈l,eH y) (rU aO eH nn)) h1
  obtain ⟨d2,r2,rfl,h2,g3⟩:=g2.cons
  obtain ⟨x2,y2,w2,l2⟩:=fa ak ie np h2
  obtain rfl:=g3.nil
  exact ⟨⟨x0,x1,x2⟩,⟨⟨y0,w0⟩,⟨y1,w1⟩,⟨y2,w2⟩⟩,(.cons l0 (.cons l1 (.cons l2 .nil)))⟩
end LJ
