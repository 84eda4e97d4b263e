-- PRINTED BY print.sh 35421559b90ae4d0a3588c463048766b98c2df88dd9212a6774a882060cdf62d: not written by this session
import Derived.Test.YthkmjhbiaolmkaaPWordDoesx0
import Derived.Test.YthkmjhbiaolmkaaPWordDoesx1
namespace Go.Proofs.Ythkmjhbiaolmkaa.PWordDoes
open Go.RowKit Go.Proofs.YthkmjhbiaolmkaaW.PrintWords Go.Proofs.YthkmjhbiaolmkaaW.PrintLast Go.Proofs.YthkmjhbiaolmkaaW.PrintMore
attribute [local go_sem] max2_int min2_int max_two min_two max_three min_three max_four min_four   -- for this text's walks alone
set_option linter.unusedVariables false
set_option linter.unusedSimpArgs false

/-! ### logjamref03_bits: function 20 -/
def logjamref03_bits.l0 : Nat → Int → Int → Int → Int → Int → Int → Option (Int)
  | 0, _, _, _, _, _, _ => none
  | k + 1, x0, x1, x2, x7, x8, x9 => if x9 < 32 then ((logjamref03_bit.f k x1 x9).bind fun t116 => ((logjamref03_bit.f k x2 x9).bind fun t117 => (if x0 = 11 then (if (wrap64 (t116 + t117)) = 2 then (logjamref03_bits.l0 k x0 x1 x2 (wrap64 (x7 + x8)) (wrap64 (x8 * 2)) (wrap64 (x9 + 1))) else (if x0 = 12 then (if (wrap64 (t116 + t117)) > 0 then (logjamref03_bits.l0 k x0 x1 x2 (wrap64 (x7 + x8)) (wrap64 (x8 * 2)) (wrap64 (x9 + 1))) else (if x0 = 13 then (if (wrap64 (t116 + t117)) = 1 then (logjamref03_bits.l0 k x0 x1 x2 (wrap64 (x7 + x8)) (wrap64 (x8 * 2)) (wrap64 (x9 + 1))) else (logjamref03_bits.l0 k x0 x1 x2 x7 (wrap64 (x8 * 2)) (wrap64 (x9 + 1)))) else (logjamref03_bits.l0 k x0 x1 x2 x7 (wrap64 (x8 * 2)) (wrap64 (x9 + 1))))) else (if x0 = 13 then (if (wrap64 (t116 + t117)) = 1 then (logjamref03_bits.l0 k x0 x1 x2 (wrap64 (x7 + x8)) (wrap64 (x8 * 2)) (wrap64 (x9 + 1))) else (logjamref03_bits.l0 k x0 x1 x2 x7 (wrap64 (x8 * 2)) (wrap64 (x9 + 1)))) else (logjamref03_bits.l0 k x0 x1 x2 x7 (wrap64 (x8 * 2)) (wrap64 (x9 + 1)))))) else (if x0 = 12 then (if (wrap64 (t116 + t117)) > 0 then (logjamref03_bits.l0 k x0 x1 x2 (wrap64 (x7 + x8)) (wrap64 (x8 * 2)) (wrap64 (x9 + 1))) else (if x0 = 13 then (if (wrap64 (t116 + t117)) = 1 then (logjamref03_bits.l0 k x0 x1 x2 (wrap64 (x7 + x8)) (wrap64 (x8 * 2)) (wrap64 (x9 + 1))) else (logjamref03_bits.l0 k x0 x1 x2 x7 (wrap64 (x8 * 2)) (wrap64 (x9 + 1)))) else (logjamref03_bits.l0 k x0 x1 x2 x7 (wrap64 (x8 * 2)) (wrap64 (x9 + 1))))) else (if x0 = 13 then (if (wrap64 (t116 + t117)) = 1 then (logjamref03_bits.l0 k x0 x1 x2 (wrap64 (x7 + x8)) (wrap64 (x8 * 2)) (wrap64 (x9 + 1))) else (logjamref03_bits.l0 k x0 x1 x2 x7 (wrap64 (x8 * 2)) (wrap64 (x9 + 1)))) else (logjamref03_bits.l0 k x0 x1 x2 x7 (wrap64 (x8 * 2)) (wrap64 (x9 + 1)))))))) else ((logjamref03_Low.f x7).bind fun t115 => (some t115))
def logjamref03_bits.f (k : Nat) (a0 : Int) (a1 : Int) (a2 : Int) : Option (Int) := logjamref03_bits.l0 k a0 a1 a2 0 1 0
theorem logjamref03_bits.mono_l : ∀ k, (∀ y0 y1 y2 y3 y4 y5, LeO (logjamref03_bits.l0 k y0 y1 y2 y3 y4 y5) (logjamref03_bits.l0 (k + 1) y0 y1 y2 y3 y4 y5))
  | 0 => fun _ _ _ _ _ _ r h => by simp [logjamref03_bits.l0] at h
  | k + 1 => by
    have ih0 := logjamref03_bits.mono_l k
    · intro y0 y1 y2 y3 y4 y5
      unfold logjamref03_bits.l0
      repeat' first
      | (with_reducible exact ih0 _ _ _ _ _ _)
      | (with_reducible exact logjamref03_bit.mono _ _ _)
      | (with_reducible exact LeO.refl _)
      | (with_reducible exact LeO.none _)
      | (with_reducible refine LeO.ite ?_ ?_)
      | (with_reducible refine LeO.bind ?_ (fun _ => ?_))
      | exact ih0 _ _ _ _ _ _
      | exact logjamref03_bit.mono _ _ _
      | exact LeO.none _
      | refine LeO.ite ?_ ?_
      | refine LeO.bind ?_ (fun _ => ?_)
theorem logjamref03_bits.mono : ∀ a0 a1 a2 k, LeO (logjamref03_bits.f k a0 a1 a2) (logjamref03_bits.f (k + 1) a0 a1 a2) := by
  intro a0 a1 a2 k
  have ih0 := logjamref03_bits.mono_l k
  unfold logjamref03_bits.f
  repeat' first
      | (with_reducible exact ih0 _ _ _ _ _ _)
      | (with_reducible exact logjamref03_bit.mono _ _ _)
      | (with_reducible exact LeO.refl _)
      | (with_reducible exact LeO.none _)
      | (with_reducible refine LeO.ite ?_ ?_)
      | (with_reducible refine LeO.bind ?_ (fun _ => ?_))
      | exact ih0 _ _ _ _ _ _
      | exact logjamref03_bit.mono _ _ _
      | exact LeO.none _
      | refine LeO.ite ?_ ?_
      | refine LeO.bind ?_ (fun _ => ?_)
set_option maxHeartbeats 8000000 in
set_option maxRecDepth 100000 in
theorem logjamref03_bits.calls (k : Nat) (a0 : Int) (a1 : Int) (a2 : Int) (r : Int) (w : World) (h : logjamref03_bits.f k a0 a1 a2 = some r) :
    Calls Try.prog 20 #[.int .i64 a0, .int .i64 a1, .int .i64 a2] w fun e w' => e = .returned (.int .i64 r) ∧ Drawn0 w w' := by
  have H : (logjamref03_bits.l0 k a0 a1 a2 0 1 0) = some r := h
  clear h
  have H' := Aside0.mk H
  clear H
  go_enter Try.func20, Try.ntmps20
  go_wp2
  go_loopg [7, 8, 9] k (fun kq v7 v8 v9 w' => ∃ (x7_1 : Int) (x8_1 : Int) (x9_1 : Int), v7 = .int .i64 x7_1 ∧ v8 = .int .i64 x8_1 ∧ v9 = .int .i64 x9_1 ∧ Aside0 (logjamref03_bits.l0 kq a0 a1 a2 x7_1 x8_1 x9_1 = some r) ∧ Aside0 (kq ≤ k) ∧ Drawn0 w w')
  case atStart => exact ⟨(0), (1), (0), (by first | rfl | (simp; done) | (simp [*]; done)), (by first | rfl | (simp; done) | (simp [*]; done)), (by first | rfl | (simp; done) | (simp [*]; done)), H', ⟨Nat.le_refl _⟩, by repeat (first | exact Drawn0.refl _ | apply Drawn0.step)⟩
  case round =>
    clear H'
    try clear c2
    try clear p2
    obtain ⟨x7_1, x8_1, x9_1, rfl, rfl, rfl, HA, HK1, ⟨m1, rfl⟩⟩ := hrel
    cases gk with
    | zero => exact absurd HA.out (by simp [logjamref03_bits.l0])
    | succ k1 =>
      have H := HA.out
      clear HA
      simp only [logjamref03_bits.l0] at H
      by_cases c4 : x9_1 < 32
      · rw [if_pos c4] at H
        have c4b0 : decide (x9_1 < 32) = true := decide_eq_true c4
        clear c4
        replace H := Option.bind_eq_some_iff.mp H
        obtain ⟨t116, A50, H⟩ := H
        replace H : ((logjamref03_bit.f k1 a2 x9_1).bind fun t117 => (if a0 = 11 then (if (wrap64 (t116 + t117)) = 2 then (logjamref03_bits.l0 k1 a0 a1 a2 (wrap64 (x7_1 + x8_1)) (wrap64 (x8_1 * 2)) (wrap64 (x9_1 + 1))) else (if a0 = 12 then (if (wrap64 (t116 + t117)) > 0 then (logjamref03_bits.l0 k1 a0 a1 a2 (wrap64 (x7_1 + x8_1)) (wrap64 (x8_1 * 2)) (wrap64 (x9_1 + 1))) else (if a0 = 13 then (if (wrap64 (t116 + t117)) = 1 then (logjamref03_bits.l0 k1 a0 a1 a2 (wrap64 (x7_1 + x8_1)) (wrap64 (x8_1 * 2)) (wrap64 (x9_1 + 1))) else (logjamref03_bits.l0 k1 a0 a1 a2 x7_1 (wrap64 (x8_1 * 2)) (wrap64 (x9_1 + 1)))) else (logjamref03_bits.l0 k1 a0 a1 a2 x7_1 (wrap64 (x8_1 * 2)) (wrap64 (x9_1 + 1))))) else (if a0 = 13 then (if (wrap64 (t116 + t117)) = 1 then (logjamref03_bits.l0 k1 a0 a1 a2 (wrap64 (x7_1 + x8_1)) (wrap64 (x8_1 * 2)) (wrap64 (x9_1 + 1))) else (logjamref03_bits.l0 k1 a0 a1 a2 x7_1 (wrap64 (x8_1 * 2)) (wrap64 (x9_1 + 1)))) else (logjamref03_bits.l0 k1 a0 a1 a2 x7_1 (wrap64 (x8_1 * 2)) (wrap64 (x9_1 + 1)))))) else (if a0 = 12 then (if (wrap64 (t116 + t117)) > 0 then (logjamref03_bits.l0 k1 a0 a1 a2 (wrap64 (x7_1 + x8_1)) (wrap64 (x8_1 * 2)) (wrap64 (x9_1 + 1))) else (if a0 = 13 then (if (wrap64 (t116 + t117)) = 1 then (logjamref03_bits.l0 k1 a0 a1 a2 (wrap64 (x7_1 + x8_1)) (wrap64 (x8_1 * 2)) (wrap64 (x9_1 + 1))) else (logjamref03_bits.l0 k1 a0 a1 a2 x7_1 (wrap64 (x8_1 * 2)) (wrap64 (x9_1 + 1)))) else (logjamref03_bits.l0 k1 a0 a1 a2 x7_1 (wrap64 (x8_1 * 2)) (wrap64 (x9_1 + 1))))) else (if a0 = 13 then (if (wrap64 (t116 + t117)) = 1 then (logjamref03_bits.l0 k1 a0 a1 a2 (wrap64 (x7_1 + x8_1)) (wrap64 (x8_1 * 2)) (wrap64 (x9_1 + 1))) else (logjamref03_bits.l0 k1 a0 a1 a2 x7_1 (wrap64 (x8_1 * 2)) (wrap64 (x9_1 + 1)))) else (logjamref03_bits.l0 k1 a0 a1 a2 x7_1 (wrap64 (x8_1 * 2)) (wrap64 (x9_1 + 1))))))) = some r := H
        have A5 := Aside0.mk A50
        clear A50
        replace H := Option.bind_eq_some_iff.mp H
        obtain ⟨t117, A60, H⟩ := H
        replace H : (if a0 = 11 then (if (wrap64 (t116 + t117)) = 2 then (logjamref03_bits.l0 k1 a0 a1 a2 (wrap64 (x7_1 + x8_1)) (wrap64 (x8_1 * 2)) (wrap64 (x9_1 + 1))) else (if a0 = 12 then (if (wrap64 (t116 + t117)) > 0 then (logjamref03_bits.l0 k1 a0 a1 a2 (wrap64 (x7_1 + x8_1)) (wrap64 (x8_1 * 2)) (wrap64 (x9_1 + 1))) else (if a0 = 13 then (if (wrap64 (t116 + t117)) = 1 then (logjamref03_bits.l0 k1 a0 a1 a2 (wrap64 (x7_1 + x8_1)) (wrap64 (x8_1 * 2)) (wrap64 (x9_1 + 1))) else (logjamref03_bits.l0 k1 a0 a1 a2 x7_1 (wrap64 (x8_1 * 2)) (wrap64 (x9_1 + 1)))) else (logjamref03_bits.l0 k1 a0 a1 a2 x7_1 (wrap64 (x8_1 * 2)) (wrap64 (x9_1 + 1))))) else (if a0 = 13 then (if (wrap64 (t116 + t117)) = 1 then (logjamref03_bits.l0 k1 a0 a1 a2 (wrap64 (x7_1 + x8_1)) (wrap64 (x8_1 * 2)) (wrap64 (x9_1 + 1))) else (logjamref03_bits.l0 k1 a0 a1 a2 x7_1 (wrap64 (x8_1 * 2)) (wrap64 (x9_1 + 1)))) else (logjamref03_bits.l0 k1 a0 a1 a2 x7_1 (wrap64 (x8_1 * 2)) (wrap64 (x9_1 + 1)))))) else (if a0 = 12 then (if (wrap64 (t116 + t117)) > 0 then (logjamref03_bits.l0 k1 a0 a1 a2 (wrap64 (x7_1 + x8_1)) (wrap64 (x8_1 * 2)) (wrap64 (x9_1 + 1))) else (if a0 = 13 then (if (wrap64 (t116 + t117)) = 1 then (logjamref03_bits.l0 k1 a0 a1 a2 (wrap64 (x7_1 + x8_1)) (wrap64 (x8_1 * 2)) (wrap64 (x9_1 + 1))) else (logjamref03_bits.l0 k1 a0 a1 a2 x7_1 (wrap64 (x8_1 * 2)) (wrap64 (x9_1 + 1)))) else (logjamref03_bits.l0 k1 a0 a1 a2 x7_1 (wrap64 (x8_1 * 2)) (wrap64 (x9_1 + 1))))) else (if a0 = 13 then (if (wrap64 (t116 + t117)) = 1 then (logjamref03_bits.l0 k1 a0 a1 a2 (wrap64 (x7_1 + x8_1)) (wrap64 (x8_1 * 2)) (wrap64 (x9_1 + 1))) else (logjamref03_bits.l0 k1 a0 a1 a2 x7_1 (wrap64 (x8_1 * 2)) (wrap64 (x9_1 + 1)))) else (logjamref03_bits.l0 k1 a0 a1 a2 x7_1 (wrap64 (x8_1 * 2)) (wrap64 (x9_1 + 1)))))) = some r := H
        have A6 := Aside0.mk A60
        clear A60
        by_cases c7 : a0 = 11
        · rw [if_pos c7] at H
          have c7b0 : (a0 == 11) = true := beq_iff_eq.mpr c7
          have c7b1 : (a0 != 11) = false := bne_eq_false_iff_eq.mpr c7
          clear c7
          by_cases c8 : (wrap64 (t116 + t117)) = 2
          · rw [if_pos c8] at H
            have c8b0 : ((wrap64 (t116 + t117)) == 2) = true := beq_iff_eq.mpr c8
            have c8b1 : ((wrap64 (t116 + t117)) != 2) = false := bne_eq_false_iff_eq.mpr c8
            clear c8
            have H' := Aside0.mk H
            clear H
            go_wp2_with (first | ((with_reducible refine gate_callee (f := 22) rfl ?_); refine goesL_ (some 18) rfl rfl Try.func22 (by kernel_rfl) rfl #[.int .i64 a1, .int .i64 x9_1] rfl (by (try simp only [List.map_toArray, List.map_cons, List.map_nil]); first | done | rfl | (simp only [List.length_drop, List.length_take]; rfl)) ?_; (with_reducible refine (logjamref03_bit.calls k1 a1 x9_1 t116 _ A5.out).mono ?_); rintro e w' ⟨rfl, ⟨nd, rfl⟩⟩; refine ⟨_, rfl, ?_⟩) | ((with_reducible refine gate_callee (f := 22) rfl ?_); refine goesL_ (some 21) rfl rfl Try.func22 (by kernel_rfl) rfl #[.int .i64 a2, .int .i64 x9_1] rfl (by (try simp only [List.map_toArray, List.map_cons, List.map_nil]); first | done | rfl | (simp only [List.length_drop, List.length_take]; rfl)) ?_; (with_reducible refine (logjamref03_bit.calls k1 a2 x9_1 t117 _ A6.out).mono ?_); rintro e w' ⟨rfl, ⟨nd, rfl⟩⟩; refine ⟨_, rfl, ?_⟩))
            go_roundg k1
            case measure => have := HK1.out; omega
            case rel => exact ⟨(wrap64 (x7_1 + x8_1)), (wrap64 (x8_1 * 2)), (wrap64 (x9_1 + 1)), (by first | rfl | (simp; done) | (simp [*]; done)), (by first | rfl | (simp; done) | (simp [*]; done)), (by first | rfl | (simp; done) | (simp [*]; done)), H', ⟨by have := HK1.out; omega⟩, by repeat (first | exact Drawn0.refl _ | apply Drawn0.step)⟩
          · rw [if_neg c8] at H
            have c8b0 : ((wrap64 (t116 + t117)) == 2) = false := beq_eq_false_iff_ne.mpr c8
            have c8b1 : ((wrap64 (t116 + t117)) != 2) = true := bne_iff_ne.mpr c8
            by_cases c9 : a0 = 12
            · rw [if_pos c9] at H
              have c9b0 : (a0 == 12) = true := beq_iff_eq.mpr c9
              have c9b1 : (a0 != 12) = false := bne_eq_false_iff_eq.mpr c9
              clear c9
              by_cases c10 : (wrap64 (t116 + t117)) > 0
              · rw [if_pos c10] at H
                have c10b0 : decide (0 < (wrap64 (t116 + t117))) = true := decide_eq_true c10
                clear c10
                have H' := Aside0.mk H
                clear H
                go_wp2_with (first | ((with_reducible refine gate_callee (f := 22) rfl ?_); refine goesL_ (some 18) rfl rfl Try.func22 (by kernel_rfl) rfl #[.int .i64 a1, .int .i64 x9_1] rfl (by (try simp only [List.map_toArray, List.map_cons, List.map_nil]); first | done | rfl | (simp only [List.length_drop, List.length_take]; rfl)) ?_; (with_reducible refine (logjamref03_bit.calls k1 a1 x9_1 t116 _ A5.out).mono ?_); rintro e w' ⟨rfl, ⟨nd, rfl⟩⟩; refine ⟨_, rfl, ?_⟩) | ((with_reducible refine gate_callee (f := 22) rfl ?_); refine goesL_ (some 21) rfl rfl Try.func22 (by kernel_rfl) rfl #[.int .i64 a2, .int .i64 x9_1] rfl (by (try simp only [List.map_toArray, List.map_cons, List.map_nil]); first | done | rfl | (simp only [List.length_drop, List.length_take]; rfl)) ?_; (with_reducible refine (logjamref03_bit.calls k1 a2 x9_1 t117 _ A6.out).mono ?_); rintro e w' ⟨rfl, ⟨nd, rfl⟩⟩; refine ⟨_, rfl, ?_⟩))
                go_roundg k1
                case measure => have := HK1.out; omega
                case rel => exact ⟨(wrap64 (x7_1 + x8_1)), (wrap64 (x8_1 * 2)), (wrap64 (x9_1 + 1)), (by first | rfl | (simp; done) | (simp [*]; done)), (by first | rfl | (simp; done) | (simp [*]; done)), (by first | rfl | (simp; done) | (simp [*]; done)), H', ⟨by have := HK1.out; omega⟩, by repeat (first | exact Drawn0.refl _ | apply Drawn0.step)⟩
              · rw [if_neg c10] at H
                have c10b0 : decide (0 < (wrap64 (t116 + t117))) = false := decide_eq_false c10
                clear c10
                by_cases c11 : a0 = 13
                · rw [if_pos c11] at H
                  have c11b0 : (a0 == 13) = true := beq_iff_eq.mpr c11
                  have c11b1 : (a0 != 13) = false := bne_eq_false_iff_eq.mpr c11
                  clear c11
                  by_cases c12 : (wrap64 (t116 + t117)) = 1
                  · rw [if_pos c12] at H
                    have c12b0 : ((wrap64 (t116 + t117)) == 1) = true := beq_iff_eq.mpr c12
                    have c12b1 : ((wrap64 (t116 + t117)) != 1) = false := bne_eq_false_iff_eq.mpr c12
                    clear c12
                    have H' := Aside0.mk H
                    clear H
                    go_wp2_with (first | ((with_reducible refine gate_callee (f := 22) rfl ?_); refine goesL_ (some 18) rfl rfl Try.func22 (by kernel_rfl) rfl #[.int .i64 a1, .int .i64 x9_1] rfl (by (try simp only [List.map_toArray, List.map_cons, List.map_nil]); first | done | rfl | (simp only [List.length_drop, List.length_take]; rfl)) ?_; (with_reducible refine (logjamref03_bit.calls k1 a1 x9_1 t116 _ A5.out).mono ?_); rintro e w' ⟨rfl, ⟨nd, rfl⟩⟩; refine ⟨_, rfl, ?_⟩) | ((with_reducible refine gate_callee (f := 22) rfl ?_); refine goesL_ (some 21) rfl rfl Try.func22 (by kernel_rfl) rfl #[.int .i64 a2, .int .i64 x9_1] rfl (by (try simp only [List.map_toArray, List.map_cons, List.map_nil]); first | done | rfl | (simp only [List.length_drop, List.length_take]; rfl)) ?_; (with_reducible refine (logjamref03_bit.calls k1 a2 x9_1 t117 _ A6.out).mono ?_); rintro e w' ⟨rfl, ⟨nd, rfl⟩⟩; refine ⟨_, rfl, ?_⟩))
                    go_roundg k1
                    case measure => have := HK1.out; omega
                    case rel => exact ⟨(wrap64 (x7_1 + x8_1)), (wrap64 (x8_1 * 2)), (wrap64 (x9_1 + 1)), (by first | rfl | (simp; done) | (simp [*]; done)), (by first | rfl | (simp; done) | (simp [*]; done)), (by first | rfl | (simp; done) | (simp [*]; done)), H', ⟨by have := HK1.out; omega⟩, by repeat (first | exact Drawn0.refl _ | apply Drawn0.step)⟩
                  · rw [if_neg c12] at H
                    have c12b0 : ((wrap64 (t116 + t117)) == 1) = false := beq_eq_false_iff_ne.mpr c12
                    have c12b1 : ((wrap64 (t116 + t117)) != 1) = true := bne_iff_ne.mpr c12
                    have H' := Aside0.mk H
                    clear H
                    go_wp2_with (first | ((with_reducible refine gate_callee (f := 22) rfl ?_); refine goesL_ (some 18) rfl rfl Try.func22 (by kernel_rfl) rfl #[.int .i64 a1, .int .i64 x9_1] rfl (by (try simp only [List.map_toArray, List.map_cons, List.map_nil]); first | done | rfl | (simp only [List.length_drop, List.length_take]; rfl)) ?_; (with_reducible refine (logjamref03_bit.calls k1 a1 x9_1 t116 _ A5.out).mono ?_); rintro e w' ⟨rfl, ⟨nd, rfl⟩⟩; refine ⟨_, rfl, ?_⟩) | ((with_reducible refine gate_callee (f := 22) rfl ?_); refine goesL_ (some 21) rfl rfl Try.func22 (by kernel_rfl) rfl #[.int .i64 a2, .int .i64 x9_1] rfl (by (try simp only [List.map_toArray, List.map_cons, List.map_nil]); first | done | rfl | (simp only [List.length_drop, List.length_take]; rfl)) ?_; (with_reducible refine (logjamref03_bit.calls k1 a2 x9_1 t117 _ A6.out).mono ?_); rintro e w' ⟨rfl, ⟨nd, rfl⟩⟩; refine ⟨_, rfl, ?_⟩))
                    go_roundg k1
                    case measure => have := HK1.out; omega
                    case rel => exact ⟨(x7_1), (wrap64 (x8_1 * 2)), (wrap64 (x9_1 + 1)), (by first | rfl | (simp; done) | (simp [*]; done)), (by first | rfl | (simp; done) | (simp [*]; done)), (by first | rfl | (simp; done) | (simp [*]; done)), H', ⟨by have := HK1.out; omega⟩, by repeat (first | exact Drawn0.refl _ | apply Drawn0.step)⟩
                · rw [if_neg c11] at H
                  have c11b0 : (a0 == 13) = false := beq_eq_false_iff_ne.mpr c11
                  have c11b1 : (a0 != 13) = true := bne_iff_ne.mpr c11
                  have H' := Aside0.mk H
                  clear H
                  go_wp2_with (first | ((with_reducible refine gate_callee (f := 22) rfl ?_); refine goesL_ (some 18) rfl rfl Try.func22 (by kernel_rfl) rfl #[.int .i64 a1, .int .i64 x9_1] rfl (by (try simp only [List.map_toArray, List.map_cons, List.map_nil]); first | done | rfl | (simp only [List.length_drop, List.length_take]; rfl)) ?_; (with_reducible refine (logjamref03_bit.calls k1 a1 x9_1 t116 _ A5.out).mono ?_); rintro e w' ⟨rfl, ⟨nd, rfl⟩⟩; refine ⟨_, rfl, ?_⟩) | ((with_reducible refine gate_callee (f := 22) rfl ?_); refine goesL_ (some 21) rfl rfl Try.func22 (by kernel_rfl) rfl #[.int .i64 a2, .int .i64 x9_1] rfl (by (try simp only [List.map_toArray, List.map_cons, List.map_nil]); first | done | rfl | (simp only [List.length_drop, List.length_take]; rfl)) ?_; (with_reducible refine (logjamref03_bit.calls k1 a2 x9_1 t117 _ A6.out).mono ?_); rintro e w' ⟨rfl, ⟨nd, rfl⟩⟩; refine ⟨_, rfl, ?_⟩))
                  go_roundg k1
                  case measure => have := HK1.out; omega
                  case rel => exact ⟨(x7_1), (wrap64 (x8_1 * 2)), (wrap64 (x9_1 + 1)), (by first | rfl | (simp; done) | (simp [*]; done)), (by first | rfl | (simp; done) | (simp [*]; done)), (by first | rfl | (simp; done) | (simp [*]; done)), H', ⟨by have := HK1.out; omega⟩, by repeat (first | exact Drawn0.refl _ | apply Drawn0.step)⟩
            · rw [if_neg c9] at H
              have c9b0 : (a0 == 12) = false := beq_eq_false_iff_ne.mpr c9
              have c9b1 : (a0 != 12) = true := bne_iff_ne.mpr c9
              by_cases c13 : a0 = 13
              · rw [if_pos c13] at H
                have c13b0 : (a0 == 13) = true := beq_iff_eq.mpr c13
                have c13b1 : (a0 != 13) = false := bne_eq_false_iff_eq.mpr c13
                clear c13
                by_cases c14 : (wrap64 (t116 + t117)) = 1
                · rw [if_pos c14] at H
                  have c14b0 : ((wrap64 (t116 + t117)) == 1) = true := beq_iff_eq.mpr c14
                  have c14b1 : ((wrap64 (t116 + t117)) != 1) = false := bne_eq_false_iff_eq.mpr c14
                  clear c14
                  have H' := Aside0.mk H
                  clear H
                  go_wp2_with (first | ((with_reducible refine gate_callee (f := 22) rfl ?_); refine goesL_ (some 18) rfl rfl Try.func22 (by kernel_rfl) rfl #[.int .i64 a1, .int .i64 x9_1] rfl (by (try simp only [List.map_toArray, List.map_cons, List.map_nil]); first | done | rfl | (simp only [List.length_drop, List.length_take]; rfl)) ?_; (with_reducible refine (logjamref03_bit.calls k1 a1 x9_1 t116 _ A5.out).mono ?_); rintro e w' ⟨rfl, ⟨nd, rfl⟩⟩; refine ⟨_, rfl, ?_⟩) | ((with_reducible refine gate_callee (f := 22) rfl ?_); refine goesL_ (some 21) rfl rfl Try.func22 (by kernel_rfl) rfl #[.int .i64 a2, .int .i64 x9_1] rfl (by (try simp only [List.map_toArray, List.map_cons, List.map_nil]); first | done | rfl | (simp only [List.length_drop, List.length_take]; rfl)) ?_; (with_reducible refine (logjamref03_bit.calls k1 a2 x9_1 t117 _ A6.out).mono ?_); rintro e w' ⟨rfl, ⟨nd, rfl⟩⟩; refine ⟨_, rfl, ?_⟩))
                  go_roundg k1
                  case measure => have := HK1.out; omega
                  case rel => exact ⟨(wrap64 (x7_1 + x8_1)), (wrap64 (x8_1 * 2)), (wrap64 (x9_1 + 1)), (by first | rfl | (simp; done) | (simp [*]; done)), (by first | rfl | (simp; done) | (simp [*]; done)), (by first | rfl | (simp; done) | (simp [*]; done)), H', ⟨by have := HK1.out; omega⟩, by repeat (first | exact Drawn0.refl _ | apply Drawn0.step)⟩
                · rw [if_neg c14] at H
                  have c14b0 : ((wrap64 (t116 + t117)) == 1) = false := beq_eq_false_iff_ne.mpr c14
                  have c14b1 : ((wrap64 (t116 + t117)) != 1) = true := bne_iff_ne.mpr c14
                  have H' := Aside0.mk H
                  clear H
                  go_wp2_with (first | ((with_reducible refine gate_callee (f := 22) rfl ?_); refine goesL_ (some 18) rfl rfl Try.func22 (by kernel_rfl) rfl #[.int .i64 a1, .int .i64 x9_1] rfl (by (try simp only [List.map_toArray, List.map_cons, List.map_nil]); first | done | rfl | (simp only [List.length_drop, List.length_take]; rfl)) ?_; (with_reducible refine (logjamref03_bit.calls k1 a1 x9_1 t116 _ A5.out).mono ?_); rintro e w' ⟨rfl, ⟨nd, rfl⟩⟩; refine ⟨_, rfl, ?_⟩) | ((with_reducible refine gate_callee (f := 22) rfl ?_); refine goesL_ (some 21) rfl rfl Try.func22 (by kernel_rfl) rfl #[.int .i64 a2, .int .i64 x9_1] rfl (by (try simp only [List.map_toArray, List.map_cons, List.map_nil]); first | done | rfl | (simp only [List.length_drop, List.length_take]; rfl)) ?_; (with_reducible refine (logjamref03_bit.calls k1 a2 x9_1 t117 _ A6.out).mono ?_); rintro e w' ⟨rfl, ⟨nd, rfl⟩⟩; refine ⟨_, rfl, ?_⟩))
                  go_roundg k1
                  case measure => have := HK1.out; omega
                  case rel => exact ⟨(x7_1), (wrap64 (x8_1 * 2)), (wrap64 (x9_1 + 1)), (by first | rfl | (simp; done) | (simp [*]; done)), (by first | rfl | (simp; done) | (simp [*]; done)), (by first | rfl | (simp; done) | (simp [*]; done)), H', ⟨by have := HK1.out; omega⟩, by repeat (first | exact Drawn0.refl _ | apply Drawn0.step)⟩
              · rw [if_neg c13] at H
                have c13b0 : (a0 == 13) = false := beq_eq_false_iff_ne.mpr c13
                have c13b1 : (a0 != 13) = true := bne_iff_ne.mpr c13
                have H' := Aside0.mk H
                clear H
                go_wp2_with (first | ((with_reducible refine gate_callee (f := 22) rfl ?_); refine goesL_ (some 18) rfl rfl Try.func22 (by kernel_rfl) rfl #[.int .i64 a1, .int .i64 x9_1] rfl (by (try simp only [List.map_toArray, List.map_cons, List.map_nil]); first | done | rfl | (simp only [List.length_drop, List.length_take]; rfl)) ?_; (with_reducible refine (logjamref03_bit.calls k1 a1 x9_1 t116 _ A5.out).mono ?_); rintro e w' ⟨rfl, ⟨nd, rfl⟩⟩; refine ⟨_, rfl, ?_⟩) | ((with_reducible refine gate_callee (f := 22) rfl ?_); refine goesL_ (some 21) rfl rfl Try.func22 (by kernel_rfl) rfl #[.int .i64 a2, .int .i64 x9_1] rfl (by (try simp only [List.map_toArray, List.map_cons, List.map_nil]); first | done | rfl | (simp only [List.length_drop, List.length_take]; rfl)) ?_; (with_reducible refine (logjamref03_bit.calls k1 a2 x9_1 t117 _ A6.out).mono ?_); rintro e w' ⟨rfl, ⟨nd, rfl⟩⟩; refine ⟨_, rfl, ?_⟩))
                go_roundg k1
                case measure => have := HK1.out; omega
                case rel => exact ⟨(x7_1), (wrap64 (x8_1 * 2)), (wrap64 (x9_1 + 1)), (by first | rfl | (simp; done) | (simp [*]; done)), (by first | rfl | (simp; done) | (simp [*]; done)), (by first | rfl | (simp; done) | (simp [*]; done)), H', ⟨by have := HK1.out; omega⟩, by repeat (first | exact Drawn0.refl _ | apply Drawn0.step)⟩
        · rw [if_neg c7] at H
          have c7b0 : (a0 == 11) = false := beq_eq_false_iff_ne.mpr c7
          have c7b1 : (a0 != 11) = true := bne_iff_ne.mpr c7
          by_cases c15 : a0 = 12
          · rw [if_pos c15] at H
            have c15b0 : (a0 == 12) = true := beq_iff_eq.mpr c15
            have c15b1 : (a0 != 12) = false := bne_eq_false_iff_eq.mpr c15
            clear c15
            by_cases c16 : (wrap64 (t116 + t117)) > 0
            · rw [if_pos c16] at H
              have c16b0 : decide (0 < (wrap64 (t116 + t117))) = true := decide_eq_true c16
              clear c16
              have H' := Aside0.mk H
              clear H
              go_wp2_with (first | ((with_reducible refine gate_callee (f := 22) rfl ?_); refine goesL_ (some 18) rfl rfl Try.func22 (by kernel_rfl) rfl #[.int .i64 a1, .int .i64 x9_1] rfl (by (try simp only [List.map_toArray, List.map_cons, List.map_nil]); first | done | rfl | (simp only [List.length_drop, List.length_take]; rfl)) ?_; (with_reducible refine (logjamref03_bit.calls k1 a1 x9_1 t116 _ A5.out).mono ?_); rintro e w' ⟨rfl, ⟨nd, rfl⟩⟩; refine ⟨_, rfl, ?_⟩) | ((with_reducible refine gate_callee (f := 22) rfl ?_); refine goesL_ (some 21) rfl rfl Try.func22 (by kernel_rfl) rfl #[.int .i64 a2, .int .i64 x9_1] rfl (by (try simp only [List.map_toArray, List.map_cons, List.map_nil]); first | done | rfl | (simp only [List.length_drop, List.length_take]; rfl)) ?_; (with_reducible refine (logjamref03_bit.calls k1 a2 x9_1 t117 _ A6.out).mono ?_); rintro e w' ⟨rfl, ⟨nd, rfl⟩⟩; refine ⟨_, rfl, ?_⟩))
              go_roundg k1
              case measure => have := HK1.out; omega
              case rel => exact ⟨(wrap64 (x7_1 + x8_1)), (wrap64 (x8_1 * 2)), (wrap64 (x9_1 + 1)), (by first | rfl | (simp; done) | (simp [*]; done)), (by first | rfl | (simp; done) | (simp [*]; done)), (by first | rfl | (simp; done) | (simp [*]; done)), H', ⟨by have := HK1.out; omega⟩, by repeat (first | exact Drawn0.refl _ | apply Drawn0.step)⟩
            · rw [if_neg c16] at H
              have c16b0 : decide (0 < (wrap64 (t116 + t117))) = false := decide_eq_false c16
              clear c16
              by_cases c17 : a0 = 13
              · rw [if_pos c17] at H
                have c17b0 : (a0 == 13) = true := beq_iff_eq.mpr c17
                have c17b1 : (a0 != 13) = false := bne_eq_false_iff_eq.mpr c17
                clear c17
                by_cases c18 : (wrap64 (t116 + t117)) = 1
                · rw [if_pos c18] at H
                  have c18b0 : ((wrap64 (t116 + t117)) == 1) = true := beq_iff_eq.mpr c18
                  have c18b1 : ((wrap64 (t116 + t117)) != 1) = false := bne_eq_false_iff_eq.mpr c18
                  clear c18
                  have H' := Aside0.mk H
                  clear H
                  go_wp2_with (first | ((with_reducible refine gate_callee (f := 22) rfl ?_); refine goesL_ (some 18) rfl rfl Try.func22 (by kernel_rfl) rfl #[.int .i64 a1, .int .i64 x9_1] rfl (by (try simp only [List.map_toArray, List.map_cons, List.map_nil]); first | done | rfl | (simp only [List.length_drop, List.length_take]; rfl)) ?_; (with_reducible refine (logjamref03_bit.calls k1 a1 x9_1 t116 _ A5.out).mono ?_); rintro e w' ⟨rfl, ⟨nd, rfl⟩⟩; refine ⟨_, rfl, ?_⟩) | ((with_reducible refine gate_callee (f := 22) rfl ?_); refine goesL_ (some 21) rfl rfl Try.func22 (by kernel_rfl) rfl #[.int .i64 a2, .int .i64 x9_1] rfl (by (try simp only [List.map_toArray, List.map_cons, List.map_nil]); first | done | rfl | (simp only [List.length_drop, List.length_take]; rfl)) ?_; (with_reducible refine (logjamref03_bit.calls k1 a2 x9_1 t117 _ A6.out).mono ?_); rintro e w' ⟨rfl, ⟨nd, rfl⟩⟩; refine ⟨_, rfl, ?_⟩))
                  go_roundg k1
                  case measure => have := HK1.out; omega
                  case rel => exact ⟨(wrap64 (x7_1 + x8_1)), (wrap64 (x8_1 * 2)), (wrap64 (x9_1 + 1)), (by first | rfl | (simp; done) | (simp [*]; done)), (by first | rfl | (simp; done) | (simp [*]; done)), (by first | rfl | (simp; done) | (simp [*]; done)), H', ⟨by have := HK1.out; omega⟩, by repeat (first | exact Drawn0.refl _ | apply Drawn0.step)⟩
                · rw [if_neg c18] at H
                  have c18b0 : ((wrap64 (t116 + t117)) == 1) = false := beq_eq_false_iff_ne.mpr c18
                  have c18b1 : ((wrap64 (t116 + t117)) != 1) = true := bne_iff_ne.mpr c18
                  have H' := Aside0.mk H
                  clear H
                  go_wp2_with (first | ((with_reducible refine gate_callee (f := 22) rfl ?_); refine goesL_ (some 18) rfl rfl Try.func22 (by kernel_rfl) rfl #[.int .i64 a1, .int .i64 x9_1] rfl (by (try simp only [List.map_toArray, List.map_cons, List.map_nil]); first | done | rfl | (simp only [List.length_drop, List.length_take]; rfl)) ?_; (with_reducible refine (logjamref03_bit.calls k1 a1 x9_1 t116 _ A5.out).mono ?_); rintro e w' ⟨rfl, ⟨nd, rfl⟩⟩; refine ⟨_, rfl, ?_⟩) | ((with_reducible refine gate_callee (f := 22) rfl ?_); refine goesL_ (some 21) rfl rfl Try.func22 (by kernel_rfl) rfl #[.int .i64 a2, .int .i64 x9_1] rfl (by (try simp only [List.map_toArray, List.map_cons, List.map_nil]); first | done | rfl | (simp only [List.length_drop, List.length_take]; rfl)) ?_; (with_reducible refine (logjamref03_bit.calls k1 a2 x9_1 t117 _ A6.out).mono ?_); rintro e w' ⟨rfl, ⟨nd, rfl⟩⟩; refine ⟨_, rfl, ?_⟩))
                  go_roundg k1
                  case measure => have := HK1.out; omega
                  case rel => exact ⟨(x7_1), (wrap64 (x8_1 * 2)), (wrap64 (x9_1 + 1)), (by first | rfl | (simp; done) | (simp [*]; done)), (by first | rfl | (simp; done) | (simp [*]; done)), (by first | rfl | (simp; done) | (simp [*]; done)), H', ⟨by have := HK1.out; omega⟩, by repeat (first | exact Drawn0.refl _ | apply Drawn0.step)⟩
              · rw [if_neg c17] at H
                have c17b0 : (a0 == 13) = false := beq_eq_false_iff_ne.mpr c17
                have c17b1 : (a0 != 13) = true := bne_iff_ne.mpr c17
                have H' := Aside0.mk H
                clear H
                go_wp2_with (first | ((with_reducible refine gate_callee (f := 22) rfl ?_); refine goesL_ (some 18) rfl rfl Try.func22 (by kernel_rfl) rfl #[.int .i64 a1, .int .i64 x9_1] rfl (by (try simp only [List.map_toArray, List.map_cons, List.map_nil]); first | done | rfl | (simp only [List.length_drop, List.length_take]; rfl)) ?_; (with_reducible refine (logjamref03_bit.calls k1 a1 x9_1 t116 _ A5.out).mono ?_); rintro e w' ⟨rfl, ⟨nd, rfl⟩⟩; refine ⟨_, rfl, ?_⟩) | ((with_reducible refine gate_callee (f := 22) rfl ?_); refine goesL_ (some 21) rfl rfl Try.func22 (by kernel_rfl) rfl #[.int .i64 a2, .int .i64 x9_1] rfl (by (try simp only [List.map_toArray, List.map_cons, List.map_nil]); first | done | rfl | (simp only [List.length_drop, List.length_take]; rfl)) ?_; (with_reducible refine (logjamref03_bit.calls k1 a2 x9_1 t117 _ A6.out).mono ?_); rintro e w' ⟨rfl, ⟨nd, rfl⟩⟩; refine ⟨_, rfl, ?_⟩))
                go_roundg k1
                case measure => have := HK1.out; omega
                case rel => exact ⟨(x7_1), (wrap64 (x8_1 * 2)), (wrap64 (x9_1 + 1)), (by first | rfl | (simp; done) | (simp [*]; done)), (by first | rfl | (simp; done) | (simp [*]; done)), (by first | rfl | (simp; done) | (simp [*]; done)), H', ⟨by have := HK1.out; omega⟩, by repeat (first | exact Drawn0.refl _ | apply Drawn0.step)⟩
          · rw [if_neg c15] at H
            have c15b0 : (a0 == 12) = false := beq_eq_false_iff_ne.mpr c15
            have c15b1 : (a0 != 12) = true := bne_iff_ne.mpr c15
            by_cases c19 : a0 = 13
            · rw [if_pos c19] at H
              have c19b0 : (a0 == 13) = true := beq_iff_eq.mpr c19
              have c19b1 : (a0 != 13) = false := bne_eq_false_iff_eq.mpr c19
              clear c19
              by_cases c20 : (wrap64 (t116 + t117)) = 1
              · rw [if_pos c20] at H
                have c20b0 : ((wrap64 (t116 + t117)) == 1) = true := beq_iff_eq.mpr c20
                have c20b1 : ((wrap64 (t116 + t117)) != 1) = false := bne_eq_false_iff_eq.mpr c20
                clear c20
                have H' := Aside0.mk H
                clear H
                go_wp2_with (first | ((with_reducible refine gate_callee (f := 22) rfl ?_); refine goesL_ (some 18) rfl rfl Try.func22 (by kernel_rfl) rfl #[.int .i64 a1, .int .i64 x9_1] rfl (by (try simp only [List.map_toArray, List.map_cons, List.map_nil]); first | done | rfl | (simp only [List.length_drop, List.length_take]; rfl)) ?_; (with_reducible refine (logjamref03_bit.calls k1 a1 x9_1 t116 _ A5.out).mono ?_); rintro e w' ⟨rfl, ⟨nd, rfl⟩⟩; refine ⟨_, rfl, ?_⟩) | ((with_reducible refine gate_callee (f := 22) rfl ?_); refine goesL_ (some 21) rfl rfl Try.func22 (by kernel_rfl) rfl #[.int .i64 a2, .int .i64 x9_1] rfl (by (try simp only [List.map_toArray, List.map_cons, List.map_nil]); first | done | rfl | (simp only [List.length_drop, List.length_take]; rfl)) ?_; (with_reducible refine (logjamref03_bit.calls k1 a2 x9_1 t117 _ A6.out).mono ?_); rintro e w' ⟨rfl, ⟨nd, rfl⟩⟩; refine ⟨_, rfl, ?_⟩))
                go_roundg k1
                case measure => have := HK1.out; omega
                case rel => exact ⟨(wrap64 (x7_1 + x8_1)), (wrap64 (x8_1 * 2)), (wrap64 (x9_1 + 1)), (by first | rfl | (simp; done) | (simp [*]; done)), (by first | rfl | (simp; done) | (simp [*]; done)), (by first | rfl | (simp; done) | (simp [*]; done)), H', ⟨by have := HK1.out; omega⟩, by repeat (first | exact Drawn0.refl _ | apply Drawn0.step)⟩
              · rw [if_neg c20] at H
                have c20b0 : ((wrap64 (t116 + t117)) == 1) = false := beq_eq_false_iff_ne.mpr c20
                have c20b1 : ((wrap64 (t116 + t117)) != 1) = true := bne_iff_ne.mpr c20
                have H' := Aside0.mk H
                clear H
                go_wp2_with (first | ((with_reducible refine gate_callee (f := 22) rfl ?_); refine goesL_ (some 18) rfl rfl Try.func22 (by kernel_rfl) rfl #[.int .i64 a1, .int .i64 x9_1] rfl (by (try simp only [List.map_toArray, List.map_cons, List.map_nil]); first | done | rfl | (simp only [List.length_drop, List.length_take]; rfl)) ?_; (with_reducible refine (logjamref03_bit.calls k1 a1 x9_1 t116 _ A5.out).mono ?_); rintro e w' ⟨rfl, ⟨nd, rfl⟩⟩; refine ⟨_, rfl, ?_⟩) | ((with_reducible refine gate_callee (f := 22) rfl ?_); refine goesL_ (some 21) rfl rfl Try.func22 (by kernel_rfl) rfl #[.int .i64 a2, .int .i64 x9_1] rfl (by (try simp only [List.map_toArray, List.map_cons, List.map_nil]); first | done | rfl | (simp only [List.length_drop, List.length_take]; rfl)) ?_; (with_reducible refine (logjamref03_bit.calls k1 a2 x9_1 t117 _ A6.out).mono ?_); rintro e w' ⟨rfl, ⟨nd, rfl⟩⟩; refine ⟨_, rfl, ?_⟩))
                go_roundg k1
                case measure => have := HK1.out; omega
                case rel => exact ⟨(x7_1), (wrap64 (x8_1 * 2)), (wrap64 (x9_1 + 1)), (by first | rfl | (simp; done) | (simp [*]; done)), (by first | rfl | (simp; done) | (simp [*]; done)), (by first | rfl | (simp; done) | (simp [*]; done)), H', ⟨by have := HK1.out; omega⟩, by repeat (first | exact Drawn0.refl _ | apply Drawn0.step)⟩
            · rw [if_neg c19] at H
              have c19b0 : (a0 == 13) = false := beq_eq_false_iff_ne.mpr c19
              have c19b1 : (a0 != 13) = true := bne_iff_ne.mpr c19
              have H' := Aside0.mk H
              clear H
              go_wp2_with (first | ((with_reducible refine gate_callee (f := 22) rfl ?_); refine goesL_ (some 18) rfl rfl Try.func22 (by kernel_rfl) rfl #[.int .i64 a1, .int .i64 x9_1] rfl (by (try simp only [List.map_toArray, List.map_cons, List.map_nil]); first | done | rfl | (simp only [List.length_drop, List.length_take]; rfl)) ?_; (with_reducible refine (logjamref03_bit.calls k1 a1 x9_1 t116 _ A5.out).mono ?_); rintro e w' ⟨rfl, ⟨nd, rfl⟩⟩; refine ⟨_, rfl, ?_⟩) | ((with_reducible refine gate_callee (f := 22) rfl ?_); refine goesL_ (some 21) rfl rfl Try.func22 (by kernel_rfl) rfl #[.int .i64 a2, .int .i64 x9_1] rfl (by (try simp only [List.map_toArray, List.map_cons, List.map_nil]); first | done | rfl | (simp only [List.length_drop, List.length_take]; rfl)) ?_; (with_reducible refine (logjamref03_bit.calls k1 a2 x9_1 t117 _ A6.out).mono ?_); rintro e w' ⟨rfl, ⟨nd, rfl⟩⟩; refine ⟨_, rfl, ?_⟩))
              go_roundg k1
              case measure => have := HK1.out; omega
              case rel => exact ⟨(x7_1), (wrap64 (x8_1 * 2)), (wrap64 (x9_1 + 1)), (by first | rfl | (simp; done) | (simp [*]; done)), (by first | rfl | (simp; done) | (simp [*]; done)), (by first | rfl | (simp; done) | (simp [*]; done)), H', ⟨by have := HK1.out; omega⟩, by repeat (first | exact Drawn0.refl _ | apply Drawn0.step)⟩
      · rw [if_neg c4] at H
        have c4b0 : decide (x9_1 < 32) = false := decide_eq_false c4
        clear c4
        replace H := Option.bind_eq_some_iff.mp H
        obtain ⟨t115, A210, H⟩ := H
        replace H : (some t115) = some r := H
        have A21 := Aside0.mk A210
        clear A210
        obtain rfl := Option.some.inj H
        go_wp2_with (first | ((with_reducible refine gate_callee (f := 14) rfl ?_); refine goesL_ (some 56) rfl rfl Try.func14 (by kernel_rfl) rfl #[.int .i64 x7_1] rfl (by (try simp only [List.map_toArray, List.map_cons, List.map_nil]); first | done | rfl | (simp only [List.length_drop, List.length_take]; rfl)) ?_; (with_reducible refine (logjamref03_Low.calls x7_1 t115 _ A21.out).mono ?_); rintro e w' ⟨rfl, ⟨nd, rfl⟩⟩; refine ⟨_, rfl, ?_⟩))
        go_ret
        exact ⟨by first | rfl | (simp; done) | (simp [*]; done), by repeat (first | exact Drawn0.refl _ | apply Drawn0.step)⟩

/-! ### logjamref03_shift: function 21 -/
mutual
def logjamref03_shift.j0 : Nat → Int → Int → Int → Option (Int)
  | 0, _, _, _ => none
  | k + 1, x0, x1, x7 => logjamref03_shift.l0 k x0 x1 x7 0
def logjamref03_shift.l0 : Nat → Int → Int → Int → Int → Option (Int)
  | 0, _, _, _, _ => none
  | k + 1, x0, x1, x7, x8 => if x8 < x7 then (if x0 = 14 then ((logjamref03_Low.f (wrap64 (2 * x1))).bind fun t118 => (logjamref03_shift.l0 k x0 t118 x7 (wrap64 (x8 + 1)))) else (if x1 < 0 then (logjamref03_shift.l0 k x0 (wrap64 (Int.tdiv (wrap64 (x1 - 1)) 2)) x7 (wrap64 (x8 + 1))) else (logjamref03_shift.l0 k x0 (wrap64 (Int.tdiv x1 2)) x7 (wrap64 (x8 + 1))))) else (some x1)
end
def logjamref03_shift.f (k : Nat) (a0 : Int) (a1 : Int) (a2 : Int) : Option (Int) := if (Int.tmod a2 32) < 0 then (logjamref03_shift.j0 k a0 a1 (wrap64 ((Int.tmod a2 32) + 32))) else (logjamref03_shift.j0 k a0 a1 (Int.tmod a2 32))
theorem logjamref03_shift.mono_l : ∀ k, (∀ y0 y1 y2, LeO (logjamref03_shift.j0 k y0 y1 y2) (logjamref03_shift.j0 (k + 1) y0 y1 y2)) ∧ (∀ y0 y1 y2 y3, LeO (logjamref03_shift.l0 k y0 y1 y2 y3) (logjamref03_shift.l0 (k + 1) y0 y1 y2 y3))
  | 0 => ⟨fun _ _ _ r h => by simp [logjamref03_shift.j0] at h, fun _ _ _ _ r h => by simp [logjamref03_shift.l0] at h⟩
  | k + 1 => by
    obtain ⟨ih0, ih1⟩ := logjamref03_shift.mono_l k
    refine ⟨?_, ?_⟩
    · intro y0 y1 y2
      unfold logjamref03_shift.j0
      repeat' first
      | (with_reducible exact ih0 _ _ _)
      | (with_reducible exact ih1 _ _ _ _)
      | (with_reducible exact LeO.refl _)
      | (with_reducible exact LeO.none _)
      | (with_reducible refine LeO.ite ?_ ?_)
      | (with_reducible refine LeO.bind ?_ (fun _ => ?_))
      | exact ih0 _ _ _
      | exact ih1 _ _ _ _
      | exact LeO.none _
      | refine LeO.ite ?_ ?_
      | refine LeO.bind ?_ (fun _ => ?_)
    · intro y0 y1 y2 y3
      unfold logjamref03_shift.l0
      repeat' first
      | (with_reducible exact ih0 _ _ _)
      | (with_reducible exact ih1 _ _ _ _)
      | (with_reducible exact LeO.refl _)
      | (with_reducible exact LeO.none _)
      | (with_reducible refine LeO.ite ?_ ?_)
      | (with_reducible refine LeO.bind ?_ (fun _ => ?_))
      | exact ih0 _ _ _
      | exact ih1 _ _ _ _
      | exact LeO.none _
      | refine LeO.ite ?_ ?_
      | refine LeO.bind ?_ (fun _ => ?_)
theorem logjamref03_shift.mono : ∀ a0 a1 a2 k, LeO (logjamref03_shift.f k a0 a1 a2) (logjamref03_shift.f (k + 1) a0 a1 a2) := by
  intro a0 a1 a2 k
  obtain ⟨ih0, ih1⟩ := logjamref03_shift.mono_l k
  unfold logjamref03_shift.f
  repeat' first
      | (with_reducible exact ih0 _ _ _)
      | (with_reducible exact ih1 _ _ _ _)
      | (with_reducible exact LeO.refl _)
      | (with_reducible exact LeO.none _)
      | (with_reducible refine LeO.ite ?_ ?_)
      | (with_reducible refine LeO.bind ?_ (fun _ => ?_))
      | exact ih0 _ _ _
      | exact ih1 _ _ _ _
      | exact LeO.none _
      | refine LeO.ite ?_ ?_
      | refine LeO.bind ?_ (fun _ => ?_)
set_option maxHeartbeats 8000000 in
set_option maxRecDepth 100000 in
theorem logjamref03_shift.calls (k : Nat) (a0 : Int) (a1 : Int) (a2 : Int) (r : Int) (w : World) (h : logjamref03_shift.f k a0 a1 a2 = some r) :
    Calls Try.prog 21 #[.int .i64 a0, .int .i64 a1, .int .i64 a2] w fun e w' => e = .returned (.int .i64 r) ∧ Drawn0 w w' := by
  have H : (if (Int.tmod a2 32) < 0 then (logjamref03_shift.j0 k a0 a1 (wrap64 ((Int.tmod a2 32) + 32))) else (logjamref03_shift.j0 k a0 a1 (Int.tmod a2 32))) = some r := h
  clear h
  have HC4 := Aside0.mk H
  clear H
  go_enter Try.func21, Try.ntmps21
  go_upto_if 12 with (fail)
  go_cut [7] (fun v7 wc => ∃ (kq : Nat) (x7_3 : Int), v7 = .int .i64 x7_3 ∧ Aside0 (logjamref03_shift.j0 kq a0 a1 x7_3 = some r) ∧ Aside0 (kq ≤ k) ∧ Drawn0 w wc)
  case first =>
    have H := HC4.out
    clear HC4
    by_cases c5 : (Int.tmod a2 32) < 0
    · rw [if_pos c5] at H
      have c5b0 : decide ((Int.tmod a2 32) < 0) = true := decide_eq_true c5
      clear c5
      (first | rw [c5b0] | (simp only [i64_w, i32_w]; rw [c5b0]) | skip)
      have H' := Aside0.mk H
      clear H
      go_wp2
      go_meet
      case rel => exact ⟨_, (wrap64 ((Int.tmod a2 32) + 32)), (by first | rfl | (simp; done) | (simp [*]; done)), H', ⟨by first | omega | exact Nat.le_refl _⟩, by repeat (first | exact Drawn0.refl _ | apply Drawn0.step)⟩
    · rw [if_neg c5] at H
      have c5b0 : decide ((Int.tmod a2 32) < 0) = false := decide_eq_false c5
      clear c5
      (first | rw [c5b0] | (simp only [i64_w, i32_w]; rw [c5b0]) | skip)
      have H' := Aside0.mk H
      clear H
      go_wp2
      go_meet
      case rel => exact ⟨_, (Int.tmod a2 32), (by first | rfl | (simp; done) | (simp [*]; done)), H', ⟨by first | omega | exact Nat.le_refl _⟩, by repeat (first | exact Drawn0.refl _ | apply Drawn0.step)⟩
  case rest =>
    clear HC4
    try clear c2
    try clear p2
    try clear c5
    try clear c5b0
    obtain ⟨kq, x7_3, rfl, HA, HJ3, ⟨mc3, rfl⟩⟩ := hcut
    cases kq with
    | zero => exact absurd HA.out (by simp [logjamref03_shift.j0])
    | succ kj3 =>
      have H := HA.out
      clear HA
      simp only [logjamref03_shift.j0] at H
      have H' := Aside0.mk H
      clear H
      go_wp2
      go_loopg [1, 8] kj3 (fun kq v1 v8 w' => ∃ (x1_2 : Int) (x8_2 : Int), v1 = .int .i64 x1_2 ∧ v8 = .int .i64 x8_2 ∧ Aside0 (logjamref03_shift.l0 kq a0 x1_2 x7_3 x8_2 = some r) ∧ Aside0 (kq ≤ kj3) ∧ Drawn0 w w')
      case atStart => exact ⟨(a1), (0), (by first | rfl | (simp; done) | (simp [*]; done)), (by first | rfl | (simp; done) | (simp [*]; done)), H', ⟨Nat.le_refl _⟩, by repeat (first | exact Drawn0.refl _ | apply Drawn0.step)⟩
      case round =>
        clear H'
        try clear c2
        try clear p2
        try clear c3
        try clear c5
        try clear c5b0
        try clear p2
        obtain ⟨x1_2, x8_2, rfl, rfl, HA, HK2, ⟨m2, rfl⟩⟩ := hrel
        cases gk with
        | zero => exact absurd HA.out (by simp [logjamref03_shift.l0])
        | succ k2 =>
          have H := HA.out
          clear HA
          simp only [logjamref03_shift.l0] at H
          by_cases c6 : x8_2 < x7_3
          · rw [if_pos c6] at H
            have c6b0 : decide (x8_2 < x7_3) = true := decide_eq_true c6
            clear c6
            by_cases c7 : a0 = 14
            · rw [if_pos c7] at H
              have c7b0 : (a0 == 14) = true := beq_iff_eq.mpr c7
              have c7b1 : (a0 != 14) = false := bne_eq_false_iff_eq.mpr c7
              clear c7
              replace H := Option.bind_eq_some_iff.mp H
              obtain ⟨t118, A80, H⟩ := H
              replace H : (logjamref03_shift.l0 k2 a0 t118 x7_3 (wrap64 (x8_2 + 1))) = some r := H
              have A8 := Aside0.mk A80
              clear A80
              have H' := Aside0.mk H
              clear H
              go_wp2_with (first | ((with_reducible refine gate_callee (f := 14) rfl ?_); refine goesL_ (some 24) rfl rfl Try.func14 (by kernel_rfl) rfl #[.int .i64 (wrap64 (2 * x1_2))] rfl (by (try simp only [List.map_toArray, List.map_cons, List.map_nil]); first | done | rfl | (simp only [List.length_drop, List.length_take]; rfl)) ?_; (with_reducible refine (logjamref03_Low.calls (wrap64 (2 * x1_2)) t118 _ A8.out).mono ?_); rintro e w' ⟨rfl, ⟨nd, rfl⟩⟩; refine ⟨_, rfl, ?_⟩))
              go_roundg k2
              case measure => have := HJ3.out; have := HK2.out; omega
              case rel => exact ⟨(t118), (wrap64 (x8_2 + 1)), (by first | rfl | (simp; done) | (simp [*]; done)), (by first | rfl | (simp; done) | (simp [*]; done)), H', ⟨by have := HJ3.out; have := HK2.out; omega⟩, by repeat (first | exact Drawn0.refl _ | apply Drawn0.step)⟩
            · rw [if_neg c7] at H
              have c7b0 : (a0 == 14) = false := beq_eq_false_iff_ne.mpr c7
              have c7b1 : (a0 != 14) = true := bne_iff_ne.mpr c7
              by_cases c9 : x1_2 < 0
              · rw [if_pos c9] at H
                have c9b0 : decide (x1_2 < 0) = true := decide_eq_true c9
                clear c9
                have H' := Aside0.mk H
                clear H
                go_wp2
                go_roundg k2
                case measure => have := HJ3.out; have := HK2.out; omega
                case rel => exact ⟨(wrap64 (Int.tdiv (wrap64 (x1_2 - 1)) 2)), (wrap64 (x8_2 + 1)), (by first | rfl | (simp; done) | (simp [*]; done)), (by first | rfl | (simp; done) | (simp [*]; done)), H', ⟨by have := HJ3.out; have := HK2.out; omega⟩, by repeat (first | exact Drawn0.refl _ | apply Drawn0.step)⟩
              · rw [if_neg c9] at H
                have c9b0 : decide (x1_2 < 0) = false := decide_eq_false c9
                clear c9
                have H' := Aside0.mk H
                clear H
                go_wp2
                go_roundg k2
                case measure => have := HJ3.out; have := HK2.out; omega
                case rel => exact ⟨(wrap64 (Int.tdiv x1_2 2)), (wrap64 (x8_2 + 1)), (by first | rfl | (simp; done) | (simp [*]; done)), (by first | rfl | (simp; done) | (simp [*]; done)), H', ⟨by have := HJ3.out; have := HK2.out; omega⟩, by repeat (first | exact Drawn0.refl _ | apply Drawn0.step)⟩
          · rw [if_neg c6] at H
            have c6b0 : decide (x8_2 < x7_3) = false := decide_eq_false c6
            clear c6
            obtain rfl := Option.some.inj H
            go_wp2
            go_ret
            exact ⟨by first | rfl | (simp; done) | (simp [*]; done), by repeat (first | exact Drawn0.refl _ | apply Drawn0.step)⟩

end Go.Proofs.Ythkmjhbiaolmkaa.PWordDoes
