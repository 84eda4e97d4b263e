import Derived.Test.YthkmjhbiaolmkaaXEnd
import Derived.Test.YthkmjhbiaolmkaaProg
namespace Go.Proofs.Ythkmjhbiaolmkaa.Wide
open Go Go.RowKit LJ
set_option linter.unusedVariables false
set_option linter.unusedSimpArgs false
set_option maxRecDepth 10000

/-- The types that the walks meet. -/
def tt : List (Nat × TK) := [(2, .int .i64), (3, .int .i64), (4, .bool), (21, .int .i32), (32, .int .u32)]
theorem tt_ok : ttOK Try.prog tt = true := by kernel_rfl

def s32 (a : Int) : Int := IntKind.i64.wrap (IntKind.i32.wrap a)
def fitsF (a : Int) : Bool := decide (s32 a = a)
def lowF (a : Int) : Int := s32 (IntKind.u32.wrap a)
def exN (a : Int) : Int := cond (fitsF a) a 0
def exF (a : Int) : Int := cond (fitsF a) 0 1
def highF (a b : Int) : Int := s32 (IntKind.i64.wrap (IntKind.i64.wrap (IntKind.i32.wrap a) * IntKind.i64.wrap (IntKind.i32.wrap b)) / 2 ^ 32)
def rlowF (a : Int) : Int := cond (decide (2147483648 ≤ a.tmod 4294967296)) (IntKind.i64.wrap (a.tmod 4294967296 - 4294967296)) (cond (decide (a.tmod 4294967296 < -2147483648)) (IntKind.i64.wrap (a.tmod 4294967296 + 4294967296)) (a.tmod 4294967296))
def rhighF (a b : Int) : Int := cond (decide ((IntKind.i64.wrap (rlowF a * rlowF b)).tmod 4294967296 < 0)) (IntKind.i64.wrap (IntKind.i64.wrap ((IntKind.i64.wrap (rlowF a * rlowF b)).tdiv 4294967296) - 1)) (IntKind.i64.wrap ((IntKind.i64.wrap (rlowF a * rlowF b)).tdiv 4294967296))
def sg0 : List (PSig Try.prog) := []

/-! ### logjam/word.Fits -/
theorem fits (a : Int) : LJ.Spec Try.prog 13 [.d (.int .i64 a)] [] (.d (.bool (fitsF a))) [] := by
  refine LJ.Spec.pure Try.func13 rfl 8 rfl rfl fun w0 F0 S0 B0 => ?_
  refine WC.seq ?_
  refine WC.region ?_
  refine WL.run 1 tt_ok sg0 rfl rfl trivial ?_
  refine WL.nil ?_
  refine QT.n ?_
  refine WC.seq ?_
  refine WC.region ?_
  refine WL.run 6 tt_ok sg0 rfl rfl trivial ?_
  refine WL.nil ?_
  refine QT.n ?_
  refine WC.ret ?_
  refine Ends.auto rfl rfl ?_ trivial
  rfl

/-! ### logjam/word.Low -/
theorem low (a : Int) : LJ.Spec Try.prog 12 [.d (.int .i64 a)] [] (.d (.int .i64 (lowF a))) [] := by
  refine LJ.Spec.pure Try.func12 rfl 7 rfl rfl fun w0 F0 S0 B0 => ?_
  refine WC.seq ?_
  refine WC.region ?_
  refine WL.run 1 tt_ok sg0 rfl rfl trivial ?_
  refine WL.nil ?_
  refine QT.n ?_
  refine WC.seq ?_
  refine WC.region ?_
  refine WL.run 5 tt_ok sg0 rfl rfl trivial ?_
  refine WL.nil ?_
  refine QT.n ?_
  refine WC.ret ?_
  refine Ends.auto rfl rfl ?_ trivial
  rfl

/-! ### logjam/word.High -/
theorem high (a b : Int) : LJ.Spec Try.prog 15 [.d (.int .i64 a), .d (.int .i64 b)] [] (.d (.int .i64 (highF a b))) [] := by
  refine LJ.Spec.pure Try.func15 rfl 15 rfl rfl fun w0 F0 S0 B0 => ?_
  refine WC.seq ?_
  refine WC.region ?_
  refine WL.run 1 tt_ok sg0 rfl rfl trivial ?_
  refine WL.nil ?_
  refine QT.n ?_
  refine WC.seq ?_
  refine WC.region ?_
  refine WL.run 11 tt_ok sg0 rfl rfl trivial ?_
  refine WL.nil ?_
  refine QT.n ?_
  refine WC.ret ?_
  refine Ends.auto rfl rfl ?_ trivial
  rfl

/-! ### logjam/logjamref03.Low -/
theorem rlow (a : Int) : LJ.Spec Try.prog 14 [.d (.int .i64 a)] [] (.d (.int .i64 (rlowF a))) [] := by
  refine LJ.Spec.pure Try.func14 rfl 15 rfl rfl fun w0 F0 S0 B0 => ?_
  refine WC.seq ?_
  refine WC.region ?_
  refine WL.run 1 tt_ok sg0 rfl rfl trivial ?_
  refine WL.nil ?_
  refine QT.n ?_
  refine WC.seq ?_
  refine WC.region ?_
  refine WL.run 3 tt_ok sg0 rfl rfl trivial ?_
  refine WL.nil ?_
  refine QT.n ?_
  refine WC.seq ?_
  refine WC.seq ?_
  refine WC.region ?_
  refine WL.run 2 tt_ok sg0 rfl rfl trivial ?_
  refine WL.nil ?_
  refine QT.n ?_
  refine WC.cond rfl (fun h1 => ?_) (fun h1 => ?_)
  · refine WC.seq ?_
    refine WC.region ?_
    refine WL.run 3 tt_ok sg0 rfl rfl trivial ?_
    refine WL.nil ?_
    refine QT.n ?_
    refine WC.ret ?_
    refine QT.r ?_
    refine Ends.auto rfl rfl ?_ trivial
    simp only [tupled, rlowF, *, cond_true, cond_false]
  · refine WC.skip ?_
    refine QT.n ?_
    refine WC.seq ?_
    refine WC.seq ?_
    refine WC.region ?_
    refine WL.run 2 tt_ok sg0 rfl rfl trivial ?_
    refine WL.nil ?_
    refine QT.n ?_
    refine WC.cond rfl (fun h2 => ?_) (fun h2 => ?_)
    · refine WC.seq ?_
      refine WC.region ?_
      refine WL.run 3 tt_ok sg0 rfl rfl trivial ?_
      refine WL.nil ?_
      refine QT.n ?_
      refine WC.ret ?_
      refine QT.r ?_
      refine Ends.auto rfl rfl ?_ trivial
      simp only [tupled, rlowF, *, cond_true, cond_false]
    · refine WC.skip ?_
      refine QT.n ?_
      refine WC.seq ?_
      refine WC.region ?_
      refine WL.run 2 tt_ok sg0 rfl rfl trivial ?_
      refine WL.nil ?_
      refine QT.n ?_
      refine WC.ret ?_
      refine Ends.auto rfl rfl ?_ trivial
      simp only [tupled, rlowF, *, cond_true, cond_false]

def fits_sig : PSig Try.prog := ⟨13, fun | [.d (.int .i64 a)] => some (none, .d (.bool (fitsF a))) | _ => none, ⟨_, Try.func13, rfl, by kernel_rfl⟩, by
  intro args ψ out h hψ
  split at h
  · injection h with h; injection h with h1 h2; subst h2
    exact ⟨fits _, rfl⟩
  · cases h⟩

def low_sig : PSig Try.prog := ⟨12, fun | [.d (.int .i64 a)] => some (none, .d (.int .i64 (lowF a))) | _ => none, ⟨_, Try.func12, rfl, by kernel_rfl⟩, by
  intro args ψ out h hψ
  split at h
  · injection h with h; injection h with h1 h2; subst h2
    exact ⟨low _, rfl⟩
  · cases h⟩

def high_sig : PSig Try.prog := ⟨15, fun | [.d (.int .i64 a), .d (.int .i64 b)] => some (none, .d (.int .i64 (highF a b))) | _ => none, ⟨_, Try.func15, rfl, by kernel_rfl⟩, by
  intro args ψ out h hψ
  split at h
  · injection h with h; injection h with h1 h2; subst h2
    exact ⟨high _ _, rfl⟩
  · cases h⟩

def rlow_sig : PSig Try.prog := ⟨14, fun | [.d (.int .i64 a)] => some (none, .d (.int .i64 (rlowF a))) | _ => none, ⟨_, Try.func14, rfl, by kernel_rfl⟩, by
  intro args ψ out h hψ
  split at h
  · injection h with h; injection h with h1 h2; subst h2
    exact ⟨rlow _, rfl⟩
  · cases h⟩

def sg1 : List (PSig Try.prog) := [fits_sig, low_sig, high_sig, rlow_sig]

/-! ### logjam/logjamref03.High -/
theorem rhigh (a b : Int) : LJ.Spec Try.prog 16 [.d (.int .i64 a), .d (.int .i64 b)] [] (.d (.int .i64 (rhighF a b))) [] := by
  refine LJ.Spec.pure Try.func16 rfl 20 rfl rfl fun w0 F0 S0 B0 => ?_
  refine WC.seq ?_
  refine WC.region ?_
  refine WL.run 1 tt_ok sg1 rfl rfl trivial ?_
  refine WL.nil ?_
  refine QT.n ?_
  refine WC.seq ?_
  refine WC.region ?_
  refine WL.run 6 tt_ok sg1 rfl rfl trivial ?_
  refine WL.nil ?_
  refine QT.n ?_
  refine WC.seq ?_
  refine WC.region ?_
  refine WL.run 3 tt_ok sg1 rfl rfl trivial ?_
  refine WL.nil ?_
  refine QT.n ?_
  refine WC.seq ?_
  refine WC.seq ?_
  refine WC.region ?_
  refine WL.run 3 tt_ok sg1 rfl rfl trivial ?_
  refine WL.nil ?_
  refine QT.n ?_
  refine WC.cond rfl (fun h1 => ?_) (fun h1 => ?_)
  · refine WC.region ?_
    refine WL.run 3 tt_ok sg1 rfl rfl trivial ?_
    refine WL.nil ?_
    refine QT.n ?_
    refine WC.seq ?_
    refine WC.region ?_
    refine WL.run 2 tt_ok sg1 rfl rfl trivial ?_
    refine WL.nil ?_
    refine QT.n ?_
    refine WC.ret ?_
    refine Ends.auto rfl rfl ?_ trivial
    simp only [tupled, rhighF, *, cond_true, cond_false]
  · refine WC.skip ?_
    refine QT.n ?_
    refine WC.seq ?_
    refine WC.region ?_
    refine WL.run 2 tt_ok sg1 rfl rfl trivial ?_
    refine WL.nil ?_
    refine QT.n ?_
    refine WC.ret ?_
    refine Ends.auto rfl rfl ?_ trivial
    simp only [tupled, rhighF, *, cond_true, cond_false]

/-! ### logjam/word.exact -/
theorem exact1 (a : Int) : LJ.Spec Try.prog 17 [.d (.int .i64 a)] [] (.tup [.d (.int .i64 (exN a)), .d (.int .i64 (exF a))]) [] := by
  refine LJ.Spec.pure Try.func17 rfl 8 rfl rfl fun w0 F0 S0 B0 => ?_
  refine WC.seq ?_
  refine WC.region ?_
  refine WL.run 2 tt_ok sg1 rfl rfl trivial ?_
  refine WL.nil ?_
  refine QT.n ?_
  refine WC.seq ?_
  refine WC.seq ?_
  refine WC.region ?_
  refine WL.run 3 tt_ok sg1 rfl rfl trivial ?_
  refine WL.nil ?_
  refine QT.n ?_
  refine WC.cond rfl (fun h1 => ?_) (fun h1 => ?_)
  · refine WC.seq ?_
    refine WC.region ?_
    refine WL.run 2 tt_ok sg1 rfl rfl trivial ?_
    refine WL.nil ?_
    refine QT.n ?_
    refine WC.ret ?_
    refine QT.r ?_
    refine Ends.auto rfl rfl ?_ trivial
    simp_all [tupled, exN, exF]
  · refine WC.skip ?_
    refine QT.n ?_
    refine WC.seq ?_
    refine WC.region ?_
    refine WL.run 3 tt_ok sg1 rfl rfl trivial ?_
    refine WL.nil ?_
    refine QT.n ?_
    refine WC.ret ?_
    refine Ends.auto rfl rfl ?_ trivial
    simp_all [tupled, exN, exF]

def rhigh_sig : PSig Try.prog := ⟨16, fun | [.d (.int .i64 a), .d (.int .i64 b)] => some (none, .d (.int .i64 (rhighF a b))) | _ => none, ⟨_, Try.func16, rfl, by kernel_rfl⟩, by
  intro args ψ out h hψ
  split at h
  · injection h with h; injection h with h1 h2; subst h2
    exact ⟨rhigh _ _, rfl⟩
  · cases h⟩

def exact1_sig : PSig Try.prog := ⟨17, fun | [.d (.int .i64 a)] => some (none, .tup [.d (.int .i64 (exN a)), .d (.int .i64 (exF a))]) | _ => none, ⟨_, Try.func17, rfl, by kernel_rfl⟩, by
  intro args ψ out h hψ
  split at h
  · injection h with h; injection h with h1 h2; subst h2
    exact ⟨exact1 _, rfl⟩
  · cases h⟩

def sg2 : List (PSig Try.prog) := [fits_sig, low_sig, high_sig, rlow_sig, rhigh_sig, exact1_sig]

/-! ### logjam/word.Do -/
theorem mul (a b : Int) : LJ.Spec Try.prog 8 [.d (.int .i64 5), .d (.int .i64 a), .d (.int .i64 b)] [] (.tup [.d (.int .i64 (exN (IntKind.i64.wrap (s32 a * s32 b)))), .d (.int .i64 (exF (IntKind.i64.wrap (s32 a * s32 b))))]) [] := by
  refine LJ.Spec.pure Try.func8 rfl 112 rfl rfl fun w0 F0 S0 B0 => ?_
  refine WC.seq ?_
  refine WC.region ?_
  refine WL.run 2 tt_ok sg2 rfl rfl trivial ?_
  refine WL.nil ?_
  refine QT.n ?_
  refine WC.seq ?_
  refine WC.region ?_
  refine WL.run 6 tt_ok sg2 rfl rfl trivial ?_
  refine WL.nil ?_
  refine QT.n ?_
  refine WC.seq ?_
  refine WC.region ?_
  refine WL.run 6 tt_ok sg2 rfl rfl trivial ?_
  refine WL.nil ?_
  refine QT.n ?_
  refine WC.seq ?_
  refine WC.seq ?_
  refine WC.region ?_
  refine WL.run 1 tt_ok sg2 rfl rfl trivial ?_
  refine WL.nil ?_
  refine QT.n ?_
  refine WC.block ?_
  refine WC.seq ?_
  refine WC.region ?_
  refine WL.run 2 tt_ok sg2 rfl rfl trivial ?_
  refine WL.nil ?_
  refine QT.n ?_
  refine WC.cond rfl (fun h1 => absurd h1 (by decide)) (fun h1 => ?_)
  refine WC.seq ?_
  refine WC.region ?_
  refine WL.run 2 tt_ok sg2 rfl rfl trivial ?_
  refine WL.nil ?_
  refine QT.n ?_
  refine WC.cond rfl (fun h2 => absurd h2 (by decide)) (fun h2 => ?_)
  refine WC.seq ?_
  refine WC.region ?_
  refine WL.run 2 tt_ok sg2 rfl rfl trivial ?_
  refine WL.nil ?_
  refine QT.n ?_
  refine WC.cond rfl (fun h3 => ?_) (fun h3 => absurd h3 (by decide))
  refine WC.seq ?_
  refine WC.region ?_
  refine WL.run 8 tt_ok sg2 rfl rfl trivial ?_
  refine WL.nil ?_
  refine QT.n ?_
  refine WC.ret ?_
  refine QB.r ?_
  refine QT.r ?_
  refine Ends.auto rfl rfl ?_ trivial
  rfl

/-! ### logjam/word.Do -/
theorem add (a b : Int) : LJ.Spec Try.prog 8 [.d (.int .i64 3), .d (.int .i64 a), .d (.int .i64 b)] [] (.tup [.d (.int .i64 (exN (IntKind.i64.wrap (s32 a + s32 b)))), .d (.int .i64 (exF (IntKind.i64.wrap (s32 a + s32 b))))]) [] := by
  refine LJ.Spec.pure Try.func8 rfl 112 rfl rfl fun w0 F0 S0 B0 => ?_
  refine WC.seq ?_
  refine WC.region ?_
  refine WL.run 2 tt_ok sg2 rfl rfl trivial ?_
  refine WL.nil ?_
  refine QT.n ?_
  refine WC.seq ?_
  refine WC.region ?_
  refine WL.run 6 tt_ok sg2 rfl rfl trivial ?_
  refine WL.nil ?_
  refine QT.n ?_
  refine WC.seq ?_
  refine WC.region ?_
  refine WL.run 6 tt_ok sg2 rfl rfl trivial ?_
  refine WL.nil ?_
  refine QT.n ?_
  refine WC.seq ?_
  refine WC.seq ?_
  refine WC.region ?_
  refine WL.run 1 tt_ok sg2 rfl rfl trivial ?_
  refine WL.nil ?_
  refine QT.n ?_
  refine WC.block ?_
  refine WC.seq ?_
  refine WC.region ?_
  refine WL.run 2 tt_ok sg2 rfl rfl trivial ?_
  refine WL.nil ?_
  refine QT.n ?_
  refine WC.cond rfl (fun h1 => ?_) (fun h1 => absurd h1 (by decide))
  refine WC.seq ?_
  refine WC.region ?_
  refine WL.run 8 tt_ok sg2 rfl rfl trivial ?_
  refine WL.nil ?_
  refine QT.n ?_
  refine WC.ret ?_
  refine QB.r ?_
  refine QT.r ?_
  refine Ends.auto rfl rfl ?_ trivial
  rfl

def do_sig : PSig Try.prog := ⟨8, fun | [.d (.int .i64 (.ofNat 5)), .d (.int .i64 a), .d (.int .i64 b)] => some (none, .tup [.d (.int .i64 (exN (IntKind.i64.wrap (s32 a * s32 b)))), .d (.int .i64 (exF (IntKind.i64.wrap (s32 a * s32 b))))]) | [.d (.int .i64 (.ofNat 3)), .d (.int .i64 a), .d (.int .i64 b)] => some (none, .tup [.d (.int .i64 (exN (IntKind.i64.wrap (s32 a + s32 b)))), .d (.int .i64 (exF (IntKind.i64.wrap (s32 a + s32 b))))]) | _ => none, ⟨_, Try.func8, rfl, by kernel_rfl⟩, by
  intro args ψ out h hψ
  split at h
  · injection h with h; injection h with h1 h2; subst h2
    exact ⟨mul _ _, rfl⟩
  · injection h with h; injection h with h1 h2; subst h2
    exact ⟨add _ _, rfl⟩
  · cases h⟩
def sg3 : List (PSig Try.prog) := [fits_sig, low_sig, high_sig, rlow_sig, rhigh_sig, exact1_sig, do_sig]

/-! ### logjam/logjamlaw03.lives -/
theorem lives  : LJ.Spec Try.prog 11 [] [] (.d (.bool true)) [] := by
  refine LJ.Spec.pure Try.func11 rfl 31 rfl rfl fun w0 F0 S0 B0 => ?_
  refine WC.seq ?_
  refine WC.region ?_
  refine WL.run 1 tt_ok sg3 rfl rfl trivial ?_
  refine WL.nil ?_
  refine QT.n ?_
  refine WC.seq ?_
  refine WC.region ?_
  refine WL.run 6 tt_ok sg3 rfl rfl trivial ?_
  refine WL.nil ?_
  refine QT.n ?_
  refine WC.seq ?_
  refine WC.region ?_
  refine WL.run 6 tt_ok sg3 rfl rfl trivial ?_
  refine WL.nil ?_
  refine QT.n ?_
  refine WC.seq ?_
  refine WC.region ?_
  refine WL.run 3 tt_ok sg3 rfl rfl trivial ?_
  refine WL.sect 2 2 true tt_ok sg3 rfl rfl (fun _ => trivial) ?_
  refine WL.run 2 tt_ok sg3 rfl rfl ⟨id, trivial⟩ ?_
  refine WL.sect 2 6 true tt_ok sg3 rfl rfl (fun _ => trivial) ?_
  refine WL.run 2 tt_ok sg3 rfl rfl ⟨id, trivial⟩ ?_
  refine WL.sect 2 10 true tt_ok sg3 rfl rfl (fun _ => trivial) ?_
  refine WL.run 2 tt_ok sg3 rfl rfl ⟨id, trivial⟩ ?_
  refine WL.sect 2 14 true tt_ok sg3 rfl rfl (fun _ => trivial) ?_
  refine WL.run 2 tt_ok sg3 rfl rfl ⟨id, trivial⟩ ?_
  refine WL.nil ?_
  refine QT.n ?_
  refine WC.ret ?_
  refine Ends.auto rfl rfl ?_ trivial
  rfl

/-! ### logjam/logjamref03.Fits -/
theorem rfits (a : Int) : LJ.Spec Try.prog 10 [.d (.int .i64 a)] [] (.d (.bool (decide (-2147483648 ≤ a) && decide (a < 2147483648)))) [] := by
  refine LJ.Spec.pure Try.func10 rfl 9 rfl rfl fun w0 F0 S0 B0 => ?_
  refine WC.seq ?_
  refine WC.region ?_
  refine WL.run 1 tt_ok sg0 rfl rfl trivial ?_
  refine WL.nil ?_
  refine QT.n ?_
  refine WC.seq ?_
  refine WC.region ?_
  refine WL.run 3 tt_ok sg0 rfl rfl trivial ?_
  refine WL.sect 2 2 true tt_ok sg0 rfl rfl (fun _ => trivial) ?_
  refine WL.run 2 tt_ok sg0 rfl rfl ⟨id, trivial⟩ ?_
  refine WL.nil ?_
  refine QT.n ?_
  refine WC.ret ?_
  refine Ends.auto rfl rfl ?_ trivial
  rfl

def lives_sig : PSig Try.prog := ⟨11, fun | [] => some (none, .d (.bool true)) | _ => none, ⟨_, Try.func11, rfl, by kernel_rfl⟩, by
  intro args ψ out h hψ
  split at h
  · injection h with h; injection h with h1 h2; subst h2
    exact ⟨lives, rfl⟩
  · cases h⟩

def sg4 : List (PSig Try.prog) := [fits_sig, low_sig, high_sig, rlow_sig, rhigh_sig, exact1_sig, do_sig, lives_sig]


theorem s32_eq (a : Int) : s32 a = (a + 2147483648) % 4294967296 - 2147483648 := by
  unfold s32; rw [IntKind.wrap_i64, IntKind.wrap_i32]; omega
theorem lowF_eq (a : Int) : lowF a = s32 a := by
  unfold lowF; rw [s32_eq, s32_eq, IntKind.wrap_u32]; omega
theorem rlowF_eq (a : Int) : rlowF a = s32 a := by
  unfold rlowF; rw [s32_eq]
  have := Int.tmod_eq_emod (a := a) (b := 4294967296)
  simp only [Bool.cond_decide, IntKind.wrap_i64]
  split at this <;> split <;> (try split) <;> simp at * <;> omega
theorem s32_rng (a : Int) : -2147483648 ≤ s32 a ∧ s32 a ≤ 2147483647 := by rw [s32_eq]; omega
theorem mul_rng {x y : Int} (hx : -2147483648 ≤ x ∧ x ≤ 2147483647) (hy : -2147483648 ≤ y ∧ y ≤ 2147483647) : -4611686018427387904 ≤ x * y ∧ x * y ≤ 4611686018427387904 := by
  have h1 : (x * y).natAbs ≤ 2147483648 * 2147483648 := by
    rw [Int.natAbs_mul]
    exact Nat.mul_le_mul (by omega) (by omega)
  omega
theorem w64_id {a : Int} (h : -9223372036854775808 ≤ a ∧ a ≤ 9223372036854775807) : IntKind.i64.wrap a = a := by rw [IntKind.wrap_i64]; omega
theorem w64_s32 (a : Int) : IntKind.i64.wrap (IntKind.i32.wrap a) = s32 a := rfl
theorem high_eq (a b : Int) : highF a b = s32 a * s32 b / 4294967296 := by
  have hm := mul_rng (s32_rng a) (s32_rng b)
  unfold highF
  simp only [w64_s32]
  rw [w64_id (by omega), s32_eq, show ((2 : Int) ^ 32) = 4294967296 from rfl]
  omega
theorem rhigh_eq (a b : Int) : rhighF a b = s32 a * s32 b / 4294967296 := by
  have hm := mul_rng (s32_rng a) (s32_rng b)
  unfold rhighF
  simp only [rlowF_eq]
  rw [w64_id (a := s32 a * s32 b) (by omega)]
  generalize s32 a * s32 b = p at *
  have h1 := Int.tmod_eq_emod (a := p) (b := 4294967296)
  have h2 := Int.tdiv_eq_ediv (a := p) (b := 4294967296)
  rw [show Int.sign 4294967296 = 1 from rfl] at h2
  simp only [Bool.cond_decide, IntKind.wrap_i64]
  split at h1 <;> split at h2 <;> split <;> simp at * <;> omega
theorem fits_eq (a : Int) : fitsF a = decide (-2147483648 ≤ a ∧ a ≤ 2147483647) := by
  unfold fitsF; rw [s32_eq]; apply decide_eq_decide.mpr; omega
theorem pure_core (p h lo : Int) (hm : -4611686018427387904 ≤ p ∧ p ≤ 4611686018427387904) (hh : h = p / 4294967296) (hlo : lo = p % 4294967296) :
    IntKind.i64.wrap (IntKind.i64.wrap (h * 4294967296) + lo) = p := by
  rw [w64_id (a := h * 4294967296) (by omega), w64_id (by omega)]; omega
theorem ex_ok (p : Int) : ((decide (exF p = 0) == fitsF p) && (decide (exF p ≠ 0) || decide (exN p = p))) = true := by
  unfold exF exN; cases fitsF p <;> simp
theorem all_ok (a b lo : Int) (hlo : lo = s32 a * s32 b % 4294967296) :
    (decide (highF a b = rhighF a b) && (fitsF (highF a b) && (decide (IntKind.i64.wrap (IntKind.i64.wrap (highF a b * 4294967296) + lo) = IntKind.i64.wrap (lowF a * lowF b)) && ((decide (exF (IntKind.i64.wrap (s32 a * s32 b)) = 0) == fitsF (IntKind.i64.wrap (lowF a * lowF b))) && ((decide (exF (IntKind.i64.wrap (s32 a * s32 b)) ≠ 0) || decide (exN (IntKind.i64.wrap (s32 a * s32 b)) = IntKind.i64.wrap (lowF a * lowF b))) && true))))) = true := by
  have hm := mul_rng (s32_rng a) (s32_rng b)
  have e := ex_ok (s32 a * s32 b)
  simp only [lowF_eq, w64_id (a := s32 a * s32 b) (by omega), high_eq, rhigh_eq, pure_core _ _ _ hm rfl hlo, fits_eq (s32 a * s32 b / 4294967296)] at e ⊢
  simp only [Bool.and_eq_true] at e ⊢
  refine ⟨by simp, ?_, by simp, e.1, e.2, trivial⟩
  simp only [decide_eq_true_eq]; omega
theorem low_neg (p : Int) (hm : -4611686018427387904 ≤ p ∧ p ≤ 4611686018427387904) (h : decide (lowF (IntKind.i64.wrap p) < 0) = true) : IntKind.i64.wrap (lowF (IntKind.i64.wrap p) + 4294967296) = p % 4294967296 := by
  rw [w64_id (a := p) (by omega), lowF_eq, s32_eq] at *
  simp only [decide_eq_true_eq] at h
  rw [w64_id (by omega)]; omega
theorem low_pos (p : Int) (hm : -4611686018427387904 ≤ p ∧ p ≤ 4611686018427387904) (h : decide (lowF (IntKind.i64.wrap p) < 0) = false) : lowF (IntKind.i64.wrap p) = p % 4294967296 := by
  rw [w64_id (a := p) (by omega), lowF_eq, s32_eq] at *
  simp only [decide_eq_false_iff_not] at h
  omega

/-! ### logjam/logjamlaw03.WordWide -/
theorem wide (a b : Int) : LJ.Spec Try.prog 7 [.d (.int .i64 a), .d (.int .i64 b)] [] (.d (.bool true)) [] := by
  refine LJ.Spec.pure Try.func7 rfl 66 rfl rfl fun w0 F0 S0 B0 => ?_
  refine WC.seq ?_
  refine WC.region ?_
  refine WL.run 1 tt_ok sg4 rfl rfl trivial ?_
  refine WL.nil ?_
  refine QT.n ?_
  refine WC.seq ?_
  refine WC.region ?_
  refine WL.run 4 tt_ok sg4 rfl rfl trivial ?_
  refine WL.nil ?_
  refine QT.n ?_
  refine WC.seq ?_
  refine WC.region ?_
  refine WL.run 6 tt_ok sg4 rfl rfl trivial ?_
  refine WL.nil ?_
  refine QT.n ?_
  refine WC.seq ?_
  refine WC.region ?_
  refine WL.run 3 tt_ok sg4 rfl rfl trivial ?_
  refine WL.nil ?_
  refine QT.n ?_
  refine WC.seq ?_
  refine WC.seq ?_
  refine WC.region ?_
  refine WL.run 2 tt_ok sg4 rfl rfl trivial ?_
  refine WL.nil ?_
  refine QT.n ?_
  refine WC.cond rfl (fun h1 => ?_) (fun h1 => ?_)
  · refine WC.region ?_
    refine WL.run 3 tt_ok sg4 rfl rfl trivial ?_
    refine WL.nil ?_
    refine QT.n ?_
    refine WC.seq ?_
    refine WC.region ?_
    refine WL.run 8 tt_ok sg4 rfl rfl trivial ?_
    refine WL.nil ?_
    refine QT.n ?_
    refine WC.seq ?_
    refine WC.region ?_
    refine WL.run 6 tt_ok sg4 rfl rfl trivial ?_
    refine WL.sect 2 5 true tt_ok sg4 rfl rfl (fun _ => trivial) ?_
    refine WL.run 2 tt_ok sg4 rfl rfl ⟨id, trivial⟩ ?_
    refine WL.sect 6 9 true tt_ok sg4 rfl rfl (fun _ => trivial) ?_
    refine WL.run 2 tt_ok sg4 rfl rfl ⟨id, trivial⟩ ?_
    refine WL.sect 5 17 true tt_ok sg4 rfl rfl (fun _ => trivial) ?_
    refine WL.run 2 tt_ok sg4 rfl rfl ⟨id, trivial⟩ ?_
    refine WL.sect 3 24 true tt_ok sg4 rfl rfl (fun _ => trivial) ?_
    refine WL.sect 3 27 false tt_ok sg4 rfl rfl (fun _ => trivial) ?_
    refine WL.sect 1 24 true tt_ok sg4 rfl rfl (fun hb => ⟨by first | exact id | exact ⟨hb, fun h => by rw [hb, h]; rfl⟩ | exact ⟨hb, id⟩ | simp_all, trivial⟩) ?_
    refine WL.run 2 tt_ok sg4 rfl rfl ⟨id, trivial⟩ ?_
    refine WL.sect 1 33 true tt_ok sg4 rfl rfl (fun _ => trivial) ?_
    refine WL.run 2 tt_ok sg4 rfl rfl ⟨id, trivial⟩ ?_
    refine WL.nil ?_
    refine QT.n ?_
    refine WC.ret ?_
    refine Ends.auto rfl rfl ?_ trivial
    simp only [tupled]
    have hm := mul_rng (s32_rng a) (s32_rng b)
    have e1 := lowF_eq a
    have e2 := lowF_eq b
    have := all_ok a b _ (by first | exact low_neg (s32 a * s32 b) hm (by rw [e1, e2] at h1; exact h1) | exact low_pos (s32 a * s32 b) hm (by rw [e1, e2] at h1; exact h1))
    simp only [e1, e2, Bool.and_assoc] at this ⊢
    rw [this]
  · refine WC.skip ?_
    refine QT.n ?_
    refine WC.seq ?_
    refine WC.region ?_
    refine WL.run 8 tt_ok sg4 rfl rfl trivial ?_
    refine WL.nil ?_
    refine QT.n ?_
    refine WC.seq ?_
    refine WC.region ?_
    refine WL.run 6 tt_ok sg4 rfl rfl trivial ?_
    refine WL.sect 2 5 true tt_ok sg4 rfl rfl (fun _ => trivial) ?_
    refine WL.run 2 tt_ok sg4 rfl rfl ⟨id, trivial⟩ ?_
    refine WL.sect 6 9 true tt_ok sg4 rfl rfl (fun _ => trivial) ?_
    refine WL.run 2 tt_ok sg4 rfl rfl ⟨id, trivial⟩ ?_
    refine WL.sect 5 17 true tt_ok sg4 rfl rfl (fun _ => trivial) ?_
    refine WL.run 2 tt_ok sg4 rfl rfl ⟨id, trivial⟩ ?_
    refine WL.sect 3 24 true tt_ok sg4 rfl rfl (fun _ => trivial) ?_
    refine WL.sect 3 27 false tt_ok sg4 rfl rfl (fun _ => trivial) ?_
    refine WL.sect 1 24 true tt_ok sg4 rfl rfl (fun hb => ⟨by first | exact id | exact ⟨hb, fun h => by rw [hb, h]; rfl⟩ | exact ⟨hb, id⟩ | simp_all, trivial⟩) ?_
    refine WL.run 2 tt_ok sg4 rfl rfl ⟨id, trivial⟩ ?_
    refine WL.sect 1 33 true tt_ok sg4 rfl rfl (fun _ => trivial) ?_
    refine WL.run 2 tt_ok sg4 rfl rfl ⟨id, trivial⟩ ?_
    refine WL.nil ?_
    refine QT.n ?_
    refine WC.ret ?_
    refine Ends.auto rfl rfl ?_ trivial
    simp only [tupled]
    have hm := mul_rng (s32_rng a) (s32_rng b)
    have e1 := lowF_eq a
    have e2 := lowF_eq b
    have := all_ok a b _ (by first | exact low_neg (s32 a * s32 b) hm (by rw [e1, e2] at h1; exact h1) | exact low_pos (s32 a * s32 b) hm (by rw [e1, e2] at h1; exact h1))
    simp only [e1, e2, Bool.and_assoc] at this ⊢
    rw [this]

end Go.Proofs.Ythkmjhbiaolmkaa.Wide
