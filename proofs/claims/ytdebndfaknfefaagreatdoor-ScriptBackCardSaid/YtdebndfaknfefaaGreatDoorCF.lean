/- What the arguments of the laws say. -/
import Derived.Test.YtdebndfaknfefaaGreatDoorXBulk
import Derived.Test.YtdebndfaknfefaaGreatDoorPF
namespace LJ
open Go Go.RowKit
set_option linter.unusedVariables false
def sU (x:ba):Prop:=(jA x.Mode)∧(jA x.Workers)∧(jA x.Quantum)∧(jA x.Policy)
def lZ (x:ai):Prop:=(jA x.Kind)∧(jA x.A)∧(jA x.B)
theorem sV (ds:List DV) (g0:lK [.int .i64, .int .i64, .int .i64] ds):∃ x:ai,lZ x∧LeL ds [.int .i64 x.Kind, .int .i64 x.A, .int .i64 x.B]:=by
  obtain ⟨d0,r0,rfl,h0,g1⟩:=g0.cons
  obtain ⟨x0,rfl,w0⟩:=dw h0
  obtain ⟨d1,r1,rfl,h1,g2⟩:=g1.cons
  obtain ⟨x1,rfl,w1⟩:=dw h1
  obtain ⟨d2,r2,rfl,h2,g3⟩:=g2.cons
  obtain ⟨x2,rfl,w2⟩:=dw h2
  obtain rfl:=g3.nil
  exact ⟨⟨x0,x1,x2⟩,⟨w0,w1,w2⟩,(.cons .rfl' (.cons .rfl' (.cons .rfl' .nil)))⟩
def iY (x:af):Prop:=(jA x.Kind)∧(jA x.Obj)∧(jA x.N)
theorem sW (ds:List DV) (g0:lK [.int .i64, .int .i64, .int .i64] ds):∃ x:af,iY x∧LeL ds [.int .i64 x.Kind, .int .i64 x.Obj, .int .i64 x.N]:=by
  obtain ⟨d0,r0,rfl,h0,g1⟩:=g0.cons
  obtain ⟨x0,rfl,w0⟩:=dw h0
  obtain ⟨d1,r1,rfl,h1,g2⟩:=g1.cons
  obtain ⟨x1,rfl,w1⟩:=dw h1
  obtain ⟨d2,r2,rfl,h2,g3⟩:=g2.cons
  obtain ⟨x2,rfl,w2⟩:=dw h2
  obtain rfl:=g3.nil
  exact ⟨⟨x0,x1,x2⟩,⟨w0,w1,w2⟩,(.cons .rfl' (.cons .rfl' (.cons .rfl' .nil)))⟩
def nR (x:aq):Prop:=(jA x.Op)∧(jA x.A)∧(jA x.B)
theorem uS (ds:List DV) (g0:lK [.int .i64, .int .i64, .int .i64] ds):∃ x:aq,nR x∧LeL ds [.int .i64 x.Op, .int .i64 x.A, .int .i64 x.B]:=by
  obtain ⟨d0,r0,rfl,h0,g1⟩:=g0.cons
  obtain ⟨x0,rfl,w0⟩:=dw h0
  obtain ⟨d1,r1,rfl,h1,g2⟩:=g1.cons
  obtain ⟨x1,rfl,w1⟩:=dw h1
  obtain ⟨d2,r2,rfl,h2,g3⟩:=g2.cons
  obtain ⟨x2,rfl,w2⟩:=dw h2
  obtain rfl:=g3.nil
  exact ⟨⟨x0,x1,x2⟩,⟨w0,w1,w2⟩,(.cons .rfl' (.cons .rfl' (.cons .rfl' .nil)))⟩
def l0 (x:aw):Prop:=(jA x.Args)∧(jA x.Locals)∧(x.Code.length≤maxLen∧∀ y∈x.Code,nR y)
theorem sX (ds:List DV) (g0:lK [.int .i64, .int .i64, .slice [.int .i64, .int .i64, .int .i64]] ds):∃ x:aw,l0 x∧LeL ds [.int .i64 x.Args, .int .i64 x.Locals,slT aB x.Code]:=by
  obtain ⟨d0,r0,rfl,h0,g1⟩:=g0.cons
  obtain ⟨x0,rfl,w0⟩:=dw h0
  obtain ⟨d1,r1,rfl,h1,g2⟩:=g1.cons
  obtain ⟨x1,rfl,w1⟩:=dw h1
  obtain ⟨d2,r2,rfl,h2,g3⟩:=g2.cons
  obtain ⟨x2,y2,w2,l2⟩:=iy aB nR uS h2
  obtain rfl:=g3.nil
  exact ⟨⟨x0,x1,x2⟩,⟨w0,w1,⟨y2,w2⟩⟩,(.cons .rfl' (.cons .rfl' (.cons l2 .nil)))⟩
def qY (x:aa):Prop:=(x.Decls.length≤maxLen∧∀ y∈x.Decls,lZ y)∧(x.Waits.length≤maxLen∧∀ y∈x.Waits,(fun l:List (List af)=>l.length≤maxLen∧∀ y∈l,(fun l:List af=>l.length≤maxLen∧∀ y∈l,iY y) y) y)∧(x.Funcs.length≤maxLen∧∀ y∈x.Funcs,l0 y)
def kH (x:ax):Prop:=(jA x.Kind)∧(jA x.A)∧(jA x.B)
theorem qZ (ds:List DV) (g0:lK [.int .i64, .int .i64, .int .i64] ds):∃ x:ax,kH x∧LeL ds [.int .i64 x.Kind, .int .i64 x.A, .int .i64 x.B]:=by
  obtain ⟨d0,r0,rfl,h0,g1⟩:=g0.cons
  obtain ⟨x0,rfl,w0⟩:=dw h0
  obtain ⟨d1,r1,rfl,h1,g2⟩:=g1.cons
  obtain ⟨x1,rfl,w1⟩:=dw h1
  obtain ⟨d2,r2,rfl,h2,g3⟩:=g2.cons
  obtain ⟨x2,rfl,w2⟩:=dw h2
  obtain rfl:=g3.nil
  exact ⟨⟨x0,x1,x2⟩,⟨w0,w1,w2⟩,(.cons .rfl' (.cons .rfl' (.cons .rfl' .nil)))⟩
def ng (x:ar):Prop:=(sU x.Config)∧(qY x.Program)∧(x.Events.length≤maxLen∧∀ y∈x.Events,kH y)
theorem qi (ds:List DV) (g0:lK [.int .i64, .int .i64, .int .i64, .int .i64, .slice [.int .i64, .int .i64, .int .i64], .slice [.slice [.slice [.int .i64, .int .i64, .int .i64]]], .slice [.int .i64, .int .i64, .slice [.int .i64, .int .i64, .int .i64]], .slice [.int .i64, .int .i64, .int .i64]] ds):∃ x:ar,ng x∧LeL ds [.int .i64 x.Config.Mode, .int .i64 x.Config.Workers, .int .i64 x.Config.Quantum, .int .i64 x.Config.Policy,slT ah x.Program.Decls,slT ab x.Program.Waits,slT aj x.Program.Funcs,slT aA x.Events]:=by
  obtain ⟨d0,r0,rfl,h0,g1⟩:=g0.cons
  obtain ⟨x0,rfl,w0⟩:=dw h0
  obtain ⟨d1,r1,rfl,h1,g2⟩:=g1.cons
  obtain ⟨x1,rfl,w1⟩:=dw h1
  obtain ⟨d2,r2,rfl,h2,g3⟩:=g2.cons
  obtain ⟨x2,rfl,w2⟩:=dw h2
  obtain ⟨d3,r3,rfl,h3,g4⟩:=g3.cons
  obtain ⟨x3,rfl,w3⟩:=dw h3
  obtain ⟨d4,r4,rfl,h4,g5⟩:=g4.cons
  obtain ⟨x4,y4,w4,l4⟩:=iy ah lZ sV h4
  obtain ⟨d5,r5,rfl,h5,g6⟩:=g5.cons
  obtain ⟨x5,y5,w5,l5⟩:=iy ab (fun l:List (List af)=>l.length≤maxLen∧∀ y∈l,(fun l:List af=>l.length≤maxLen∧∀ y∈l,iY y) y) (zX aC (fun l:List af=>l.length≤maxLen∧∀ y∈l,iY y) (zX bn iY sW)) h5
  obtain ⟨d6,r6,rfl,h6,g7⟩:=g6.cons
  obtain ⟨x6,y6,w6,l6⟩:=iy aj l0 sX h6
  obtain ⟨d7,r7,rfl,h7,g8⟩:=g7.cons
  obtain ⟨x7,y7,w7,l7⟩:=iy aA kH qZ h7
  obtain rfl:=g8.nil
  exact ⟨⟨⟨x0,x1,x2,x3⟩,⟨x4,x5,x6⟩,x7⟩,⟨⟨w0,w1,w2,w3⟩,⟨⟨y4,w4⟩,⟨y5,w5⟩,⟨y6,w6⟩⟩,⟨y7,w7⟩⟩,(.cons .rfl' (.cons .rfl' (.cons .rfl' (.cons .rfl' (.cons l4 (.cons l5 (.cons l6 (.cons l7 .nil))))))))⟩
end LJ
