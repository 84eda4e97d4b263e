/- What the arguments of the laws say. -/
import Derived.Test.YtdebndfaknfefaaGreatDoorXBulk
import Derived.Test.YtdebndfaknfefaaGreatDoorPF
namespace LJ
open Go Go.RowKit
set_option linter.unusedVariables false
def uh (x:aO):Prop:=(j6 x.Mode)∧(j6 x.Workers)∧(j6 x.Quantum)∧(j6 x.Policy)
def m8 (x:ai):Prop:=(j6 x.Kind)∧(j6 x.A)∧(j6 x.B)
theorem ui (ds:List DV) (g0:mW [.int .i64, .int .i64, .int .i64] ds):∃ x:ai,m8 x∧LeL ds [.int .i64 x.Kind, .int .i64 x.A, .int .i64 x.B]:=by
  obtain ⟨d0,r0,rfl,h0,g1⟩:=g0.cons
  obtain ⟨x0,rfl,w0⟩:=dJ h0
  obtain ⟨d1,r1,rfl,h1,g2⟩:=g1.cons
  obtain ⟨x1,rfl,w1⟩:=dJ h1
  obtain ⟨d2,r2,rfl,h2,g3⟩:=g2.cons
  obtain ⟨x2,rfl,w2⟩:=dJ h2
  obtain rfl:=g3.nil
  exact ⟨⟨x0,x1,x2⟩,⟨w0,w1,w2⟩,(.cons .rfl' (.cons .rfl' (.cons .rfl' .nil)))⟩
def jw (x:ah):Prop:=(j6 x.Kind)∧(j6 x.Obj)∧(j6 x.N)
theorem uj (ds:List DV) (g0:mW [.int .i64, .int .i64, .int .i64] ds):∃ x:ah,jw x∧LeL ds [.int .i64 x.Kind, .int .i64 x.Obj, .int .i64 x.N]:=by
  obtain ⟨d0,r0,rfl,h0,g1⟩:=g0.cons
  obtain ⟨x0,rfl,w0⟩:=dJ h0
  obtain ⟨d1,r1,rfl,h1,g2⟩:=g1.cons
  obtain ⟨x1,rfl,w1⟩:=dJ h1
  obtain ⟨d2,r2,rfl,h2,g3⟩:=g2.cons
  obtain ⟨x2,rfl,w2⟩:=dJ h2
  obtain rfl:=g3.nil
  exact ⟨⟨x0,x1,x2⟩,⟨w0,w1,w2⟩,(.cons .rfl' (.cons .rfl' (.cons .rfl' .nil)))⟩
def o5 (x:ar):Prop:=(j6 x.Op)∧(j6 x.A)∧(j6 x.B)
theorem vT (ds:List DV) (g0:mW [.int .i64, .int .i64, .int .i64] ds):∃ x:ar,o5 x∧LeL ds [.int .i64 x.Op, .int .i64 x.A, .int .i64 x.B]:=by
  obtain ⟨d0,r0,rfl,h0,g1⟩:=g0.cons
  obtain ⟨x0,rfl,w0⟩:=dJ h0
  obtain ⟨d1,r1,rfl,h1,g2⟩:=g1.cons
  obtain ⟨x1,rfl,w1⟩:=dJ h1
  obtain ⟨d2,r2,rfl,h2,g3⟩:=g2.cons
  obtain ⟨x2,rfl,w2⟩:=dJ h2
  obtain rfl:=g3.nil
  exact ⟨⟨x0,x1,x2⟩,⟨w0,w1,w2⟩,(.cons .rfl' (.cons .rfl' (.cons .rfl' .nil)))⟩
def m9 (x:ax):Prop:=(j6 x.Args)∧(j6 x.Locals)∧(x.Code.length≤maxLen∧∀ y∈x.Code,o5 y)
theorem uk (ds:List DV) (g0:mW [.int .i64, .int .i64, .slice [.int .i64, .int .i64, .int .i64]] ds):∃ x:ax,m9 x∧LeL ds [.int .i64 x.Args, .int .i64 x.Locals,slT aF x.Code]:=by
  obtain ⟨d0,r0,rfl,h0,g1⟩:=g0.cons
  obtain ⟨x0,rfl,w0⟩:=dJ h0
  obtain ⟨d1,r1,rfl,h1,g2⟩:=g1.cons
  obtain ⟨x1,rfl,w1⟩:=dJ h1
  obtain ⟨d2,r2,rfl,h2,g3⟩:=g2.cons
  obtain ⟨x2,y2,w2,l2⟩:=jf aF o5 vT h2
  obtain rfl:=g3.nil
  exact ⟨⟨x0,x1,x2⟩,⟨w0,w1,⟨y2,w2⟩⟩,(.cons .rfl' (.cons .rfl' (.cons l2 .nil)))⟩
def sn (x:aa):Prop:=(x.Decls.length≤maxLen∧∀ y∈x.Decls,m8 y)∧(x.Waits.length≤maxLen∧∀ y∈x.Waits,(fun l:List (List ah)=>l.length≤maxLen∧∀ y∈l,(fun l:List ah=>l.length≤maxLen∧∀ y∈l,jw y) y) y)∧(x.Funcs.length≤maxLen∧∀ y∈x.Funcs,m9 y)
def lO (x:ay):Prop:=(j6 x.Kind)∧(j6 x.A)∧(j6 x.B)
theorem so (ds:List DV) (g0:mW [.int .i64, .int .i64, .int .i64] ds):∃ x:ay,lO x∧LeL ds [.int .i64 x.Kind, .int .i64 x.A, .int .i64 x.B]:=by
  obtain ⟨d0,r0,rfl,h0,g1⟩:=g0.cons
  obtain ⟨x0,rfl,w0⟩:=dJ h0
  obtain ⟨d1,r1,rfl,h1,g2⟩:=g1.cons
  obtain ⟨x1,rfl,w1⟩:=dJ h1
  obtain ⟨d2,r2,rfl,h2,g3⟩:=g2.cons
  obtain ⟨x2,rfl,w2⟩:=dJ h2
  obtain rfl:=g3.nil
  exact ⟨⟨x0,x1,x2⟩,⟨w0,w1,w2⟩,(.cons .rfl' (.cons .rfl' (.cons .rfl' .nil)))⟩
def oz (x:aq):Prop:=(uh x.Config)∧(sn x.Program)∧(x.Events.length≤maxLen∧∀ y∈x.Events,lO y)
theorem rB (ds:List DV) (g0:mW [.int .i64, .int .i64, .int .i64, .int .i64, .slice [.int .i64, .int .i64, .int .i64], .slice [.slice [.slice [.int .i64, .int .i64, .int .i64]]], .slice [.int .i64, .int .i64, .slice [.int .i64, .int .i64, .int .i64]], .slice [.int .i64, .int .i64, .int .i64]] ds):∃ x:aq,oz x∧LeL ds [.int .i64 x.Config.Mode, .int .i64 x.Config.Workers, .int .i64 x.Config.Quantum, .int .i64 x.Config.Policy,slT aj x.Program.Decls,slT ab x.Program.Waits,slT ak x.Program.Funcs,slT aB x.Events]:=by
  obtain ⟨d0,r0,rfl,h0,g1⟩:=g0.cons
  obtain ⟨x0,rfl,w0⟩:=dJ h0
  obtain ⟨d1,r1,rfl,h1,g2⟩:=g1.cons
  obtain ⟨x1,rfl,w1⟩:=dJ h1
  obtain ⟨d2,r2,rfl,h2,g3⟩:=g2.cons
  obtain ⟨x2,rfl,w2⟩:=dJ h2
  obtain ⟨d3,r3,rfl,h3,g4⟩:=g3.cons
  obtain ⟨x3,rfl,w3⟩:=dJ h3
  obtain ⟨d4,r4,rfl,h4,g5⟩:=g4.cons
  obtain ⟨x4,y4,w4,l4⟩:=jf aj m8 ui h4
  obtain ⟨d5,r5,rfl,h5,g6⟩:=g5.cons
  obtain ⟨x5,y5,w5,l5⟩:=jf ab (fun l:List (List ah)=>l.length≤maxLen∧∀ y∈l,(fun l:List ah=>l.length≤maxLen∧∀ y∈l,jw y) y) (Ba aC (fun l:List ah=>l.length≤maxLen∧∀ y∈l,jw y) (Ba bw jw uj)) h5
  obtain ⟨d6,r6,rfl,h6,g7⟩:=g6.cons
  obtain ⟨x6,y6,w6,l6⟩:=jf ak m9 uk h6
  obtain ⟨d7,r7,rfl,h7,g8⟩:=g7.cons
  obtain ⟨x7,y7,w7,l7⟩:=jf aB lO so h7
  obtain rfl:=g8.nil
  exact ⟨⟨⟨x0,x1,x2,x3⟩,⟨x4,x5,x6⟩,x7⟩,⟨⟨w0,w1,w2,w3⟩,⟨⟨y4,w4⟩,⟨y5,w5⟩,⟨y6,w6⟩⟩,⟨y7,w7⟩⟩,(.cons .rfl' (.cons .rfl' (.cons .rfl' (.cons .rfl' (.cons l4 (.cons l5 (.cons l6 (.cons l7 .nil))))))))⟩
end LJ
