import Derived.Test.YtfbdapchaofeoaaOctA
import Derived.Test.YtfbdapchaofeoaaProg
namespace Go.Proofs.Ytfbdapchaofeoaa.Oct
open Go Go.RowKit LJ
set_option linter.unusedVariables false
set_option linter.unusedSimpArgs false
set_option maxRecDepth 10000

theorem numB300 : numB (Int.toNat 300) = ⟨#[172, 2]⟩ := by
  show numB 300 = _
  rw [numB_big (by omega), numB_small (by omega)]
  rfl
theorem zig1 : zig (-1) = 1 := by decide +kernel
theorem numB1 : numB (Int.toNat 1) = ⟨#[1]⟩ := by
  show numB 1 = _
  rw [numB_small (by omega)]
  rfl
theorem lvE : strOf (rowOf (strOf (rowOf (strOf [] ++ numB (Int.toNat 300))) ++ numB (Int.toNat (zig (-1))))) = ⟨#[172, 2, 1]⟩ := by
  simp only [strOf_rowOf]
  rw [zig1, numB300, numB1]
  rfl
theorem lv1 : nOut ⟨#[172, 2, 1]⟩ 10 0 0 0 0 = (300, 2, 0) := by decide +kernel
theorem lv2 : nOut ⟨#[172, 2, 1]⟩ 10 0 0 2 0 = (1, 3, 0) := by decide +kernel

/-! ### logjam/logjamlaw01.lives -/
theorem lives  : LJ.Spec Try.prog 15 [] [] (.d (.bool true)) [] := by
  refine LJ.Spec.pure Try.func15 rfl 47 rfl rfl fun w0 F0 S0 B0 => ?_
  refine WC.seq ?_
  refine WC.region ?_
  refine WL.run 1 tt_ok rg rfl rfl trivial ?_
  refine WL.nil ?_
  refine QT.n ?_
  refine WC.seq ?_
  refine WC.region ?_
  refine WL.run 1 tt_ok rg rfl rfl trivial ?_
  refine WL.eff 104 tt_ok et_ok eg rfl rfl rfl trivial ?_
  refine WL.run 1 tt_ok rg rfl rfl trivial ?_
  refine WL.nil ?_
  refine QT.n ?_
  refine WC.seq ?_
  refine WC.region ?_
  refine WL.nilF 104 0 204 5 1 rfl ?_
  refine WL.run 1 tt_ok rg rfl rfl trivial ?_
  refine WL.eff 106 tt_ok et_ok eg rfl rfl rfl ⟨rfl, by rw [numB300]; decide +kernel, by decide⟩ ?_
  refine WL.nil ?_
  refine QT.n ?_
  refine WC.seq ?_
  refine WC.region ?_
  refine WL.run 1 tt_ok rg rfl rfl trivial ?_
  refine WL.eff 108 tt_ok et_ok eg rfl rfl rfl ⟨by simp only [strOf_rowOf], by rw [strOf_rowOf, numB300, zig1, numB1]; decide +kernel, by decide +kernel⟩ ?_
  refine WL.nil ?_
  refine QT.n ?_
  refine WC.seq ?_
  refine WC.region ?_
  refine WL.run 2 tt_ok rg rfl rfl ⟨by simp only [strOf_rowOf], trivial⟩ ?_
  refine WL.eff 111 tt_ok et_ok eg rfl rfl rfl trivial ?_
  refine WL.run 1 tt_ok rg rfl rfl trivial ?_
  refine WL.nil ?_
  refine QT.n ?_
  refine WC.seq ?_
  refine WC.seq ?_
  refine WC.region ?_
  refine WL.run 2 tt_ok rg rfl rfl trivial ?_
  refine WL.nil ?_
  refine QT.n ?_
  refine WC.cond rfl (fun h1 => absurd h1 (by decide)) (fun h1 => ?_)
  refine WC.skip ?_
  refine QT.n ?_
  refine WC.seq ?_
  refine WC.region ?_
  refine WL.run 4 tt_ok rg rfl rfl ⟨by simp only [strOf_rowOf], trivial⟩ ?_
  refine WL.known true (g := 17) rfl (by simp only [lvE, lv1, lv2]; decide +kernel) ?_
  refine WL.grun 1 3 true 17 tt_ok rg rfl rfl rfl rfl trivial ?_
  refine WL.geff 119 3 true 17 tt_ok et_ok eg rfl rfl rfl rfl rfl rfl (show (_ ∧ _) from by simp only [lvE, lv1, lv2]; decide +kernel) ?_
  refine WL.grun 1 3 true 17 tt_ok rg rfl rfl rfl rfl trivial ?_
  refine WL.run 2 tt_ok rg rfl rfl trivial ?_
  refine WL.known true (g := 22) rfl (by simp only [lvE, lv1, lv2]; decide +kernel) ?_
  refine WL.grun 1 8 true 22 tt_ok rg rfl rfl rfl rfl trivial ?_
  refine WL.geff 124 8 true 22 tt_ok et_ok eg rfl rfl rfl rfl rfl rfl (show (_ ∧ _) from by simp only [lvE, lv1, lv2]; decide +kernel) ?_
  refine WL.grun 1 8 true 22 tt_ok rg rfl rfl rfl rfl trivial ?_
  refine WL.run 2 tt_ok rg rfl rfl trivial ?_
  refine WL.known true (g := 27) rfl (by simp only [lvE, lv1, lv2]; decide +kernel) ?_
  refine WL.grun 3 13 true 27 tt_ok rg rfl rfl rfl rfl trivial ?_
  refine WL.run 2 tt_ok rg rfl rfl trivial ?_
  refine WL.known true (g := 32) rfl (by simp only [lvE, lv1, lv2]; decide +kernel) ?_
  refine WL.grun 3 18 true 32 tt_ok rg rfl rfl rfl rfl trivial ?_
  refine WL.run 2 tt_ok rg rfl rfl trivial ?_
  refine WL.known true (g := 37) rfl (by simp only [lvE, lv1, lv2]; decide +kernel) ?_
  refine WL.grun 1 23 true 37 tt_ok rg rfl rfl rfl rfl trivial ?_
  refine WL.geff 139 23 true 37 tt_ok et_ok eg rfl rfl rfl rfl rfl rfl (show (_ ∧ _) from by simp only [lvE, lv1, lv2]; decide +kernel) ?_
  refine WL.grun 1 23 true 37 tt_ok rg rfl rfl rfl rfl trivial ?_
  refine WL.run 2 tt_ok rg rfl rfl trivial ?_
  refine WL.known true (g := 42) rfl (by simp only [lvE, lv1, lv2]; decide +kernel) ?_
  refine WL.grun 3 28 true 42 tt_ok rg rfl rfl rfl rfl trivial ?_
  refine WL.run 2 tt_ok rg rfl rfl trivial ?_
  refine WL.nil ?_
  refine QT.n ?_
  refine WC.ret ?_
  refine Ends.auto rfl rfl ?_ trivial
  exact congrArg (fun b => AV.d (.bool b)) (by simp only [lvE, lv1, lv2]; decide +kernel)

def lives_sig : PSig Try.prog := ⟨15, fun ag _ => match ag with
  | [] => some (none, .d (.bool true))
  | _ => none, ⟨_, Try.func15, rfl, by kernel_rfl⟩, by
  intro ag m ψ out h hψ
  split at h
  · injection h with h; injection h with h1 h2; subst h2
    exact ⟨Reads.of_spec lives rfl, rfl⟩
  · cases h⟩
def rgl : List (PSig Try.prog) := [err_sig, left_sig, done_sig, lives_sig]
theorem nil_app (s : ByteArray) : strOf [] ++ s = s := ByteArray.empty_append
theorem numB_le : ∀ (k n : Nat), n < 128 ^ (k + 1) → (numB n).size ≤ k + 1
  | 0, n, h => by rw [numB_small (by simpa using h)]; simp [ByteArray.size_push]
  | k + 1, n, h => by
    by_cases hn : n < 128
    · rw [numB_small hn]; simp [ByteArray.size_push]
    · rw [numB_big hn, ByteArray.size_append]
      have := numB_le k (n / 128) (by rw [Nat.pow_succ] at h; omega)
      simp [ByteArray.size_push]
      omega
theorem numB_10 {n : Nat} (h : n < 18446744073709551616) : (numB n).size ≤ 10 := numB_le 9 n (Nat.lt_trans h (by decide))
theorem numB_step {n : Nat} (h : ¬ n < 128) : (numB n).size = 1 + (numB (n / 128)).size := by
  rw [numB_big h, ByteArray.size_append]; simp [ByteArray.size_push]
theorem numB_mono : ∀ (a b : Nat), a ≤ b → (numB a).size ≤ (numB b).size := by
  intro a
  induction a using Nat.strongRecOn with
  | _ a ih =>
    intro b hab
    by_cases ha : a < 128
    · rw [numB_small ha]
      have := numB_pos b
      simp [ByteArray.size_push]
      omega
    · rw [numB_step ha, numB_step (n := b) (by omega)]
      have := ih (a / 128) (by omega) (b / 128) (by omega)
      omega
theorem app_ok {a : Nat} (h : a < 18446744073709551616) : (strOf [] ++ numB (Int.toNat (a : Int))).size ≤ 140737488355328 := by
  rw [nil_app, Int.toNat_natCast]
  have := numB_10 h
  omega
/-- A state of the loop that counts. -/
def OS (a : Nat) : Type := { p : Nat × Nat // p.1 + (numB p.2).size = 1 + (numB a).size ∧ p.1 ≤ 10 ∧ p.2 ≤ a }
theorem order_next {n k a : Nat} (hx : n + (numB k).size = 1 + (numB a).size ∧ n ≤ 10 ∧ k ≤ a) (ha : a < 18446744073709551616) (h : decide (127 < (k : Int)) = true) : ((n + 1) + (numB (k / 128)).size = 1 + (numB a).size ∧ n + 1 ≤ 10 ∧ k / 128 ≤ a) ∧ k / 128 < k := by
  have h' : ¬ k < 128 := by simp at h; omega
  have h1 := numB_step h'
  have h2 := numB_pos (k / 128)
  have h3 := numB_10 ha
  omega
theorem order_end {n k a : Nat} (hx : n + (numB k).size = 1 + (numB a).size) (h : decide (127 < (k : Int)) = false) : (numB a).size = n := by
  have h3 : k < 128 := by simp at h; omega
  have h4 : (numB k).size = 1 := by rw [numB_small h3]; rfl
  omega
theorem quo128 {k : Nat} (h : k < 18446744073709551616) : IntKind.u64.wrap ((k : Int).tdiv 128) = ((k / 128 : Nat) : Int) := by
  rw [Int.tdiv_eq_ediv_of_nonneg (by omega), show IntKind.u64.wrap ((k : Int) / 128) = ((k : Int) / 128) % 18446744073709551616 from IntKind.wrap_u64 _]
  omega

/-! ### logjam/logjamlaw01.OctetOrder -/
theorem order (a b : Nat) (ha : a < 18446744073709551616) (hb : b < 18446744073709551616) : LJ.Spec Try.prog 4 [.d (.int .u64 (a : Int)), .d (.int .u64 (b : Int))] [] (.d (.bool true)) [] := by
  refine LJ.Spec.pure Try.func4 rfl 53 rfl rfl fun w0 F0 S0 B0 => ?_
  refine WC.seq ?_
  refine WC.region ?_
  refine WL.run 1 tt_ok rgl rfl rfl trivial ?_
  refine WL.nil ?_
  refine QT.n ?_
  refine WC.seq ?_
  refine WC.seq ?_
  refine WC.region ?_
  refine WL.run 3 tt_ok rgl rfl rfl trivial ?_
  refine WL.nil ?_
  refine QT.n ?_
  refine WC.cond rfl (fun h1 => ?_) (fun h1 => ?_)
  · refine WC.seq ?_
    refine WC.region ?_
    refine WL.run 2 tt_ok rgl rfl rfl trivial ?_
    refine WL.nil ?_
    refine QT.n ?_
    refine WC.ret ?_
    refine QT.r ?_
    refine Ends.auto rfl rfl ?_ trivial
    first | rfl | exact congrArg (fun b => AV.d (.bool b)) (by simp only [strOf_rowOf, nil_app, Int.toNat_natCast]; simp)
  · refine WC.skip ?_
    refine QT.n ?_
    refine WC.seq ?_
    refine WC.region ?_
    refine WL.run 1 tt_ok rgl rfl rfl trivial ?_
    refine WL.eff 114 tt_ok et_ok eg rfl rfl rfl trivial ?_
    refine WL.run 1 tt_ok rgl rfl rfl trivial ?_
    refine WL.eff 116 tt_ok et_ok eg rfl rfl rfl trivial ?_
    refine WL.run 2 tt_ok rgl rfl rfl trivial ?_
    refine WL.nil ?_
    refine QT.n ?_
    refine WC.seq ?_
    refine WC.region ?_
    refine WL.nilF 114 0 214 5 1 rfl ?_
    refine WL.nilF 116 0 216 5 1 rfl ?_
    refine WL.run 2 tt_ok rgl rfl rfl trivial ?_
    refine WL.eff 119 tt_ok et_ok eg rfl rfl rfl ⟨rfl, app_ok ha, by omega⟩ ?_
    refine WL.nil ?_
    refine QT.n ?_
    refine WC.seq ?_
    refine WC.region ?_
    refine WL.run 2 tt_ok rgl rfl rfl trivial ?_
    refine WL.eff 122 tt_ok et_ok eg rfl rfl rfl ⟨rfl, app_ok hb, by omega⟩ ?_
    refine WL.nil ?_
    refine QT.n ?_
    refine WC.seq ?_
    refine WC.region ?_
    refine WL.run 1 tt_ok rgl rfl rfl trivial ?_
    refine WL.nil ?_
    refine QT.n ?_
    refine WC.seq ?_
    refine WC.seq ?_
    refine WC.region ?_
    refine WL.run 2 tt_ok rgl rfl rfl trivial ?_
    refine WL.nil ?_
    refine QT.n ?_
    refine WC.block ?_
    refine WC.loop (ι := OS a) (fun x => [(5, .ptr 114 0), (6, .ptr 116 0), (7, .d (.int .i64 (x.1.1 : Int))), (8, .d (.int .u64 (x.1.2 : Int)))]) (fun x => [(114, .box 27 [.own 214]), (214, .row 5 1 (rowOf (strOf [] ++ numB (Int.toNat (a : Int))))), (116, .box 27 [.own 216]), (216, .row 5 1 (rowOf (strOf [] ++ numB (Int.toNat (b : Int)))))]) (fun x => x.1.2) ⟨(1, a), rfl, (show 1 ≤ 10 from by decide), Nat.le_refl _⟩ (Less.mk' ⟨rfl, rfl, rfl, rfl, trivial⟩ ⟨rfl, rfl, rfl, rfl, trivial⟩) fun x => ?_
    obtain ⟨⟨n1, n2⟩, hx⟩ := x
    simp only [] at hx ⊢
    refine WC.seq ?_
    refine WC.seq ?_
    refine WC.region ?_
    refine WL.run 2 tt_ok rgl rfl rfl trivial ?_
    refine WL.nil ?_
    refine QT.n ?_
    refine WC.cond rfl (fun h2 => ?_) (fun h2 => ?_)
    · refine WC.skip ?_
      refine QT.n ?_
      refine WC.seq ?_
      refine WC.block ?_
      refine WC.region ?_
      refine WL.run 3 tt_ok rgl rfl rfl trivial ?_
      refine WL.nil ?_
      refine QB.n ?_
      refine QT.n ?_
      refine WC.region ?_
      refine WL.run 3 tt_ok rgl rfl rfl trivial ?_
      refine WL.nil ?_
      refine QT.n ?_
      obtain ⟨g1, g2⟩ := order_next hx ha h2
      exact ⟨⟨(n1 + 1, n2 / 128), g1⟩, g2, Less.mk' ⟨rfl, rfl, congrArg (fun i => AV.d (.int .i64 i)) (by rw [w64_id (by omega)]; simp), congrArg (fun i => AV.d (.int .u64 i)) (quo128 (by omega)), trivial⟩ ⟨rfl, rfl, rfl, rfl, trivial⟩⟩
    · refine WC.exit ?_
      refine QT.x ?_
      refine QT.x ?_
      refine QB.hit ?_
      refine QT.n ?_
      refine WC.seq ?_
      refine WC.region ?_
      have hn := order_end hx.1 h2
      have hab : a ≤ b := by simp at h1; omega
      have hm := numB_mono a b hab
      have h10 := numB_10 hb
      refine WL.run 6 tt_ok rgl rfl rfl ⟨by simp only [strOf_rowOf], trivial⟩ ?_
      refine WL.known true (g := 35) rfl (by simp only [strOf_rowOf, nil_app, Int.toNat_natCast]; exact decide_eq_true (by omega)) ?_
      refine WL.grun 7 5 true 35 tt_ok rgl rfl rfl rfl rfl ⟨by simp only [strOf_rowOf], by simp only [strOf_rowOf], trivial⟩ ?_
      refine WL.run 2 tt_ok rgl rfl rfl trivial ?_
      refine WL.known true (g := 44) rfl (by simp only [strOf_rowOf, nil_app, Int.toNat_natCast]; simpa using hm) ?_
      refine WL.grun 4 14 true 44 tt_ok rgl rfl rfl rfl rfl ⟨by simp only [strOf_rowOf], trivial⟩ ?_
      refine WL.run 2 tt_ok rgl rfl rfl trivial ?_
      refine WL.known true (g := 50) rfl (by simp only [strOf_rowOf, nil_app, Int.toNat_natCast]; simp; omega) ?_
      refine WL.grun 1 20 true 50 tt_ok rgl rfl rfl rfl rfl trivial ?_
      refine WL.run 2 tt_ok rgl rfl rfl trivial ?_
      refine WL.nil ?_
      refine QT.n ?_
      refine WC.ret ?_
      refine Ends.auto rfl rfl ?_ trivial
      first | rfl | exact congrArg (fun b => AV.d (.bool b)) (by simp only [strOf_rowOf, nil_app, Int.toNat_natCast]; simp)

theorem wf_u64 {a : Int} (h : (Lit.int .u64 a).wf = true) : 0 ≤ a ∧ a < 18446744073709551616 := by
  have : 0 ≤ a ∧ a ≤ 18446744073709551615 := by simpa [Lit.wf, IntKind.min, IntKind.max, IntKind.signed, IntKind.bits] using h
  omega
theorem order_row (a b : Int) (wa : (Lit.int .u64 a).wf = true) (wb : (Lit.int .u64 b).wf = true) : LJ.Spec Try.prog 4 [.d (.int .u64 a), .d (.int .u64 b)] [] (.d (.bool true)) [] := by
  obtain ⟨h1, h2⟩ := wf_u64 wa
  obtain ⟨h3, h4⟩ := wf_u64 wb
  have := order a.toNat b.toNat (by omega) (by omega)
  rwa [Int.toNat_of_nonneg h1, Int.toNat_of_nonneg h3] at this

end Go.Proofs.Ytfbdapchaofeoaa.Oct
