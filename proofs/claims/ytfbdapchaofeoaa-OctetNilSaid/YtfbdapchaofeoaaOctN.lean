import Derived.Test.YtfbdapchaofeoaaOctQ
import Derived.Test.YtfbdapchaofeoaaXSkip
import Derived.Test.YtfbdapchaofeoaaProg
namespace Go.Proofs.Ytfbdapchaofeoaa.Oct
open Go Go.RowKit LJ
set_option linter.unusedVariables false
set_option linter.unusedSimpArgs false
set_option maxRecDepth 10000

def zg0 : List (PSig Try.prog) := []

/-! ### (*logjam/octet.Out).Byte -/
theorem zoByte (x : Int) : LJ.Spec Try.prog 26 [.d .nilp, .d (.int .i64 x)] [] (.tup []) [] := by
  refine LJ.Spec.pure Try.func26 rfl 17 rfl rfl fun w0 F0 S0 B0 => ?_
  refine WC.seq ?_
  refine WC.region ?_
  refine WL.run 2 tt_ok zg0 rfl rfl trivial ?_
  refine WL.nil ?_
  refine QT.n ?_
  refine WC.cond rfl (fun h1 => absurd h1 (by decide)) (fun h1 => ?_)
  refine WC.skip ?_
  refine Ends.auton rfl rfl ?_ trivial
  rfl

def zoByte_sig : PSig Try.prog := ⟨26, fun ag m => match ag with | [.d .nilp, .d (.int .i64 x)] => some (none, .tup []) | _ => none, ⟨_, Try.func26, rfl, by kernel_rfl⟩, by
  intro args m ψ out h hψ
  split at h
  · injection h with h; injection h with h1 h2; subst h2
    exact ⟨Reads.of_spec (zoByte _) rfl, rfl⟩
  · cases h⟩

/-! ### (*logjam/octet.Out).Num -/
theorem zoNum (x : Int) : LJ.Spec Try.prog 12 [.d .nilp, .d (.int .u64 x)] [] (.tup []) [] := by
  refine LJ.Spec.pure Try.func12 rfl 33 rfl rfl fun w0 F0 S0 B0 => ?_
  refine WC.seq ?_
  refine WC.seq ?_
  refine WC.region ?_
  refine WL.run 2 tt_ok zg0 rfl rfl trivial ?_
  refine WL.nil ?_
  refine QT.n ?_
  refine WC.cond rfl (fun h1 => ?_) (fun h1 => absurd h1 (by decide))
  refine WC.ret ?_
  refine QT.r ?_
  refine Ends.auto rfl rfl ?_ trivial
  rfl

def zoNum_sig : PSig Try.prog := ⟨12, fun ag m => match ag with | [.d .nilp, .d (.int .u64 x)] => some (none, .tup []) | _ => none, ⟨_, Try.func12, rfl, by kernel_rfl⟩, by
  intro args m ψ out h hψ
  split at h
  · injection h with h; injection h with h1 h2; subst h2
    exact ⟨Reads.of_spec (zoNum _) rfl, rfl⟩
  · cases h⟩

def zg1 : List (PSig Try.prog) := [zoNum_sig]

/-! ### (*logjam/octet.Out).Int -/
theorem zoInt (x : Int) : LJ.Spec Try.prog 10 [.d .nilp, .d (.int .i64 x)] [] (.tup []) [] := by
  refine LJ.Spec.pure Try.func10 rfl 13 rfl rfl fun w0 F0 S0 B0 => ?_
  refine WC.region ?_
  refine WL.run 9 tt_ok zg1 rfl rfl trivial ?_
  refine WL.nil ?_
  refine Ends.auton rfl rfl ?_ trivial
  rfl

def zoInt_sig : PSig Try.prog := ⟨10, fun ag m => match ag with | [.d .nilp, .d (.int .i64 x)] => some (none, .tup []) | _ => none, ⟨_, Try.func10, rfl, by kernel_rfl⟩, by
  intro args m ψ out h hψ
  split at h
  · injection h with h; injection h with h1 h2; subst h2
    exact ⟨Reads.of_spec (zoInt _) rfl, rfl⟩
  · cases h⟩

/-! ### (*logjam/octet.Out).Text -/
theorem zoText (x : ByteArray) : LJ.Spec Try.prog 27 [.d .nilp, .d (.str x)] [] (.tup []) [] := by
  refine LJ.Spec.pure Try.func27 rfl 20 rfl rfl fun w0 F0 S0 B0 => ?_
  refine WC.seq ?_
  refine WC.seq ?_
  refine WC.region ?_
  refine WL.run 2 tt_ok zg0 rfl rfl trivial ?_
  refine WL.nil ?_
  refine QT.n ?_
  refine WC.cond rfl (fun h1 => ?_) (fun h1 => absurd h1 (by decide))
  refine WC.ret ?_
  refine QT.r ?_
  refine Ends.auto rfl rfl ?_ trivial
  rfl

def zoText_sig : PSig Try.prog := ⟨27, fun ag m => match ag with | [.d .nilp, .d (.str x)] => some (none, .tup []) | _ => none, ⟨_, Try.func27, rfl, by kernel_rfl⟩, by
  intro args m ψ out h hψ
  split at h
  · injection h with h; injection h with h1 h2; subst h2
    exact ⟨Reads.of_spec (zoText _) rfl, rfl⟩
  · cases h⟩

/-! ### (*logjam/octet.Out).Done -/
theorem zoDone  : LJ.Spec Try.prog 17 [.d .nilp] [] (.d (.str .empty)) [] := by
  refine LJ.Spec.pure Try.func17 rfl 10 rfl rfl fun w0 F0 S0 B0 => ?_
  refine WC.seq ?_
  refine WC.region ?_
  refine WL.run 1 tt_ok zg0 rfl rfl trivial ?_
  refine WL.nil ?_
  refine QT.n ?_
  refine WC.seq ?_
  refine WC.seq ?_
  refine WC.region ?_
  refine WL.run 2 tt_ok zg0 rfl rfl trivial ?_
  refine WL.nil ?_
  refine QT.n ?_
  refine WC.cond rfl (fun h1 => ?_) (fun h1 => absurd h1 (by decide))
  refine WC.seq ?_
  refine WC.region ?_
  refine WL.run 1 tt_ok zg0 rfl rfl trivial ?_
  refine WL.nil ?_
  refine QT.n ?_
  refine WC.ret ?_
  refine QT.r ?_
  refine Ends.auto rfl rfl ?_ trivial
  rfl

def zoDone_sig : PSig Try.prog := ⟨17, fun ag m => match ag with | [.d .nilp] => some (none, .d (.str .empty)) | _ => none, ⟨_, Try.func17, rfl, by kernel_rfl⟩, by
  intro args m ψ out h hψ
  split at h
  · injection h with h; injection h with h1 h2; subst h2
    exact ⟨Reads.of_spec (zoDone) rfl, rfl⟩
  · cases h⟩

/-! ### (*logjam/octet.In).Byte -/
theorem ziByte  : LJ.Spec Try.prog 21 [.d .nilp] [] (.d (.int .i64 0)) [] := by
  refine LJ.Spec.pure Try.func21 rfl 35 rfl rfl fun w0 F0 S0 B0 => ?_
  refine WC.seq ?_
  refine WC.region ?_
  refine WL.run 1 tt_ok zg0 rfl rfl trivial ?_
  refine WL.nil ?_
  refine QT.n ?_
  refine WC.seq ?_
  refine WC.seq ?_
  refine WC.region ?_
  refine WL.run 2 tt_ok zg0 rfl rfl trivial ?_
  refine WL.nil ?_
  refine QT.n ?_
  refine WC.cond rfl (fun h1 => ?_) (fun h1 => absurd h1 (by decide))
  refine WC.seq ?_
  refine WC.region ?_
  refine WL.run 1 tt_ok zg0 rfl rfl trivial ?_
  refine WL.nil ?_
  refine QT.n ?_
  refine WC.ret ?_
  refine QT.r ?_
  refine Ends.auto rfl rfl ?_ trivial
  rfl

def ziByte_sig : PSig Try.prog := ⟨21, fun ag m => match ag with | [.d .nilp] => some (none, .d (.int .i64 0)) | _ => none, ⟨_, Try.func21, rfl, by kernel_rfl⟩, by
  intro args m ψ out h hψ
  split at h
  · injection h with h; injection h with h1 h2; subst h2
    exact ⟨Reads.of_spec (ziByte) rfl, rfl⟩
  · cases h⟩

/-! ### (*logjam/octet.In).Left -/
theorem ziLeft  : LJ.Spec Try.prog 16 [.d .nilp] [] (.d (.int .i64 0)) [] := by
  refine LJ.Spec.pure Try.func16 rfl 15 rfl rfl fun w0 F0 S0 B0 => ?_
  refine WC.seq ?_
  refine WC.region ?_
  refine WL.run 1 tt_ok zg0 rfl rfl trivial ?_
  refine WL.nil ?_
  refine QT.n ?_
  refine WC.seq ?_
  refine WC.seq ?_
  refine WC.region ?_
  refine WL.run 2 tt_ok zg0 rfl rfl trivial ?_
  refine WL.nil ?_
  refine QT.n ?_
  refine WC.cond rfl (fun h1 => ?_) (fun h1 => absurd h1 (by decide))
  refine WC.seq ?_
  refine WC.region ?_
  refine WL.run 1 tt_ok zg0 rfl rfl trivial ?_
  refine WL.nil ?_
  refine QT.n ?_
  refine WC.ret ?_
  refine QT.r ?_
  refine Ends.auto rfl rfl ?_ trivial
  rfl

def ziLeft_sig : PSig Try.prog := ⟨16, fun ag m => match ag with | [.d .nilp] => some (none, .d (.int .i64 0)) | _ => none, ⟨_, Try.func16, rfl, by kernel_rfl⟩, by
  intro args m ψ out h hψ
  split at h
  · injection h with h; injection h with h1 h2; subst h2
    exact ⟨Reads.of_spec (ziLeft) rfl, rfl⟩
  · cases h⟩

/-! ### (*logjam/octet.In).Err -/
theorem ziErr  : LJ.Spec Try.prog 14 [.d .nilp] [] (.d (.int .i64 7)) [] := by
  refine LJ.Spec.pure Try.func14 rfl 9 rfl rfl fun w0 F0 S0 B0 => ?_
  refine WC.seq ?_
  refine WC.region ?_
  refine WL.run 1 tt_ok zg0 rfl rfl trivial ?_
  refine WL.nil ?_
  refine QT.n ?_
  refine WC.seq ?_
  refine WC.seq ?_
  refine WC.region ?_
  refine WL.run 2 tt_ok zg0 rfl rfl trivial ?_
  refine WL.nil ?_
  refine QT.n ?_
  refine WC.cond rfl (fun h1 => ?_) (fun h1 => absurd h1 (by decide))
  refine WC.seq ?_
  refine WC.region ?_
  refine WL.run 1 tt_ok zg0 rfl rfl trivial ?_
  refine WL.nil ?_
  refine QT.n ?_
  refine WC.ret ?_
  refine QT.r ?_
  refine Ends.auto rfl rfl ?_ trivial
  rfl

def ziErr_sig : PSig Try.prog := ⟨14, fun ag m => match ag with | [.d .nilp] => some (none, .d (.int .i64 7)) | _ => none, ⟨_, Try.func14, rfl, by kernel_rfl⟩, by
  intro args m ψ out h hψ
  split at h
  · injection h with h; injection h with h1 h2; subst h2
    exact ⟨Reads.of_spec (ziErr) rfl, rfl⟩
  · cases h⟩

def zg2 : List (PSig Try.prog) := [ziByte_sig]

/-! ### (*logjam/octet.In).Num -/
theorem ziNum  : LJ.Spec Try.prog 13 [.d .nilp] [] (.d (.int .u64 0)) [] := by
  refine LJ.Spec.pure Try.func13 rfl 49 rfl rfl fun w0 F0 S0 B0 => ?_
  refine WC.seq ?_
  refine WC.region ?_
  refine WL.run 1 tt_ok zg2 rfl rfl trivial ?_
  refine WL.nil ?_
  refine QT.n ?_
  refine WC.seq ?_
  refine WC.region ?_
  refine WL.run 1 tt_ok zg2 rfl rfl trivial ?_
  refine WL.nil ?_
  refine QT.n ?_
  refine WC.seq ?_
  refine WC.seq ?_
  refine WC.region ?_
  refine WL.run 1 tt_ok zg2 rfl rfl trivial ?_
  refine WL.nil ?_
  refine QT.n ?_
  refine WC.block ?_
  refine WC.loop (ι := Unit) (fun x => [(0, .d .nilp), (3, .d (.int .u64 0)), (6, .d (.int .i64 0))]) (fun x => []) (fun x => 0) () (Less.mk' ⟨rfl, rfl, rfl, trivial⟩ trivial) fun x => ?_
  refine WC.seq ?_
  refine WC.region ?_
  refine WL.run 1 tt_ok zg2 rfl rfl trivial ?_
  refine WL.nil ?_
  refine QT.n ?_
  refine WC.seq ?_
  refine WC.cond rfl (fun h1 => ?_) (fun h1 => absurd h1 (by decide))
  refine WC.skip ?_
  refine QT.n ?_
  refine WC.seq ?_
  refine WC.block ?_
  refine WC.seq ?_
  refine WC.region ?_
  refine WL.run 2 tt_ok zg2 rfl rfl trivial ?_
  refine WL.nil ?_
  refine QT.n ?_
  refine WC.seq ?_
  refine WC.region ?_
  refine WL.run 3 tt_ok zg2 rfl rfl trivial ?_
  refine WL.nil ?_
  refine QT.n ?_
  refine WC.seq ?_
  refine WC.seq ?_
  refine WC.region ?_
  refine WL.run 3 tt_ok zg2 rfl rfl trivial ?_
  refine WL.gskips 5 2 false 13 rfl rfl rfl rfl ?_
  refine WL.step (WO.val (Y.pick_t (.tmp rfl) .bool rfl) rfl rfl) rfl ?_
  refine WL.nil ?_
  refine QT.n ?_
  refine WC.cond rfl (fun h2 => ?_) (fun h2 => absurd h2 (by decide))
  refine WC.seq ?_
  refine WC.region ?_
  refine WL.run 1 tt_ok zg2 rfl rfl trivial ?_
  refine WL.nil ?_
  refine QT.n ?_
  refine WC.ret ?_
  refine QT.r ?_
  refine QB.r ?_
  refine QT.r ?_
  refine QT.r ?_
  refine QB.r ?_
  refine QT.r ?_
  refine Ends.auto rfl rfl ?_ trivial
  rfl

def ziNum_sig : PSig Try.prog := ⟨13, fun ag m => match ag with | [.d .nilp] => some (none, .d (.int .u64 0)) | _ => none, ⟨_, Try.func13, rfl, by kernel_rfl⟩, by
  intro args m ψ out h hψ
  split at h
  · injection h with h; injection h with h1 h2; subst h2
    exact ⟨Reads.of_spec (ziNum) rfl, rfl⟩
  · cases h⟩

def zg3 : List (PSig Try.prog) := [ziByte_sig, ziNum_sig]

/-! ### (*logjam/octet.In).Int -/
theorem ziInt  : LJ.Spec Try.prog 11 [.d .nilp] [] (.d (.int .i64 0)) [] := by
  refine LJ.Spec.pure Try.func11 rfl 14 rfl rfl fun w0 F0 S0 B0 => ?_
  refine WC.seq ?_
  refine WC.region ?_
  refine WL.run 1 tt_ok zg3 rfl rfl trivial ?_
  refine WL.nil ?_
  refine QT.n ?_
  refine WC.seq ?_
  refine WC.region ?_
  refine WL.run 3 tt_ok zg3 rfl rfl trivial ?_
  refine WL.nil ?_
  refine QT.n ?_
  refine WC.seq ?_
  refine WC.region ?_
  refine WL.run 9 tt_ok zg3 rfl rfl trivial ?_
  refine WL.nil ?_
  refine QT.n ?_
  refine WC.ret ?_
  refine Ends.auto rfl rfl ?_ trivial
  exact congrArg (fun i => AV.d (.int .i64 i)) (by decide +kernel)

def ziInt_sig : PSig Try.prog := ⟨11, fun ag m => match ag with | [.d .nilp] => some (none, .d (.int .i64 0)) | _ => none, ⟨_, Try.func11, rfl, by kernel_rfl⟩, by
  intro args m ψ out h hψ
  split at h
  · injection h with h; injection h with h1 h2; subst h2
    exact ⟨Reads.of_spec (ziInt) rfl, rfl⟩
  · cases h⟩

/-! ### (*logjam/octet.In).Text -/
theorem ziText  : LJ.Spec Try.prog 25 [.d .nilp] [] (.d (.str .empty)) [] := by
  refine LJ.Spec.pure Try.func25 rfl 48 rfl rfl fun w0 F0 S0 B0 => ?_
  refine WC.seq ?_
  refine WC.region ?_
  refine WL.run 1 tt_ok zg3 rfl rfl trivial ?_
  refine WL.nil ?_
  refine QT.n ?_
  refine WC.seq ?_
  refine WC.region ?_
  refine WL.run 3 tt_ok zg3 rfl rfl trivial ?_
  refine WL.nil ?_
  refine QT.n ?_
  refine WC.seq ?_
  refine WC.seq ?_
  refine WC.region ?_
  refine WL.run 2 tt_ok zg3 rfl rfl trivial ?_
  refine WL.nil ?_
  refine QT.n ?_
  refine WC.cond rfl (fun h1 => ?_) (fun h1 => absurd h1 (by decide))
  refine WC.seq ?_
  refine WC.region ?_
  refine WL.run 1 tt_ok zg3 rfl rfl trivial ?_
  refine WL.nil ?_
  refine QT.n ?_
  refine WC.ret ?_
  refine QT.r ?_
  refine Ends.auto rfl rfl ?_ trivial
  rfl

def ziText_sig : PSig Try.prog := ⟨25, fun ag m => match ag with | [.d .nilp] => some (none, .d (.str .empty)) | _ => none, ⟨_, Try.func25, rfl, by kernel_rfl⟩, by
  intro args m ψ out h hψ
  split at h
  · injection h with h; injection h with h1 h2; subst h2
    exact ⟨Reads.of_spec (ziText) rfl, rfl⟩
  · cases h⟩

def zg : List (PSig Try.prog) := [zoByte_sig, zoNum_sig, zoInt_sig, zoText_sig, zoDone_sig, ziByte_sig, ziLeft_sig, ziErr_sig, ziNum_sig, ziInt_sig, ziText_sig, lives_sig]

/-! ### logjam/logjamlaw01.OctetNil -/
theorem onil (n : Int) (s : ByteArray) : LJ.Spec Try.prog 8 [.d (.int .i64 n), .d (.str s)] [] (.d (.bool true)) [] := by
  refine LJ.Spec.pure Try.func8 rfl 56 rfl rfl fun w0 F0 S0 B0 => ?_
  refine WC.seq ?_
  refine WC.region ?_
  refine WL.run 1 tt_ok zg rfl rfl trivial ?_
  refine WL.nil ?_
  refine QT.n ?_
  refine WC.seq ?_
  refine WC.region ?_
  refine WL.run 1 tt_ok zg rfl rfl trivial ?_
  refine WL.nil ?_
  refine QT.n ?_
  refine WC.seq ?_
  refine WC.region ?_
  refine WL.run 1 tt_ok zg rfl rfl trivial ?_
  refine WL.nil ?_
  refine QT.n ?_
  refine WC.seq ?_
  refine WC.region ?_
  refine WL.run 3 tt_ok zg rfl rfl trivial ?_
  refine WL.nil ?_
  refine QT.n ?_
  refine WC.seq ?_
  refine WC.region ?_
  refine WL.run 4 tt_ok zg rfl rfl trivial ?_
  refine WL.nil ?_
  refine QT.n ?_
  refine WC.seq ?_
  refine WC.region ?_
  refine WL.run 3 tt_ok zg rfl rfl trivial ?_
  refine WL.nil ?_
  refine QT.n ?_
  refine WC.seq ?_
  refine WC.region ?_
  refine WL.run 3 tt_ok zg rfl rfl trivial ?_
  refine WL.nil ?_
  refine QT.n ?_
  refine WC.seq ?_
  refine WC.region ?_
  refine WL.run 4 tt_ok zg rfl rfl trivial ?_
  refine WL.sect 3 3 true tt_ok zg rfl rfl (fun _ => trivial) ?_
  refine WL.run 2 tt_ok zg rfl rfl ⟨id, trivial⟩ ?_
  refine WL.sect 3 8 true tt_ok zg rfl rfl (fun _ => trivial) ?_
  refine WL.run 2 tt_ok zg rfl rfl ⟨id, trivial⟩ ?_
  refine WL.sect 3 13 true tt_ok zg rfl rfl (fun _ => trivial) ?_
  refine WL.run 2 tt_ok zg rfl rfl ⟨id, trivial⟩ ?_
  refine WL.sect 3 18 true tt_ok zg rfl rfl (fun _ => trivial) ?_
  refine WL.run 2 tt_ok zg rfl rfl ⟨id, trivial⟩ ?_
  refine WL.sect 3 23 true tt_ok zg rfl rfl (fun _ => trivial) ?_
  refine WL.run 2 tt_ok zg rfl rfl ⟨id, trivial⟩ ?_
  refine WL.sect 3 28 true tt_ok zg rfl rfl (fun _ => trivial) ?_
  refine WL.run 2 tt_ok zg rfl rfl ⟨id, trivial⟩ ?_
  refine WL.sect 1 33 true tt_ok zg rfl rfl (fun _ => trivial) ?_
  refine WL.run 2 tt_ok zg rfl rfl ⟨id, trivial⟩ ?_
  refine WL.nil ?_
  refine QT.n ?_
  refine WC.ret ?_
  refine Ends.auto rfl rfl ?_ trivial
  exact congrArg (fun b => AV.d (.bool b)) (by decide +kernel)

end Go.Proofs.Ytfbdapchaofeoaa.Oct
