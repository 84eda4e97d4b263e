-- PRINTED BY print.sh 35421559b90ae4d0a3588c463048766b98c2df88dd9212a6774a882060cdf62d: not written by this session
import Derived.Test.YthkmjhbiaolmkaaPWordDoesx0
namespace Go.Proofs.Ythkmjhbiaolmkaa.PWordDoes
open Go.RowKit Go.Proofs.YthkmjhbiaolmkaaW.PrintWords Go.Proofs.YthkmjhbiaolmkaaW.PrintLast Go.Proofs.YthkmjhbiaolmkaaW.PrintMore
attribute [local go_sem] max2_int min2_int max_two min_two max_three min_three max_four min_four   -- for this text's walks alone
set_option linter.unusedVariables false
set_option linter.unusedSimpArgs false

/-! ### word_Fits: function 13 -/
def word_Fits.f (a0 : Int) : Option (Bool) := some ((wrap64 (wrap32 (a0))) == a0)
set_option maxHeartbeats 8000000 in
set_option maxRecDepth 100000 in
theorem word_Fits.calls (a0 : Int) (r : Bool) (w : World) (h : word_Fits.f a0 = some r) :
    Calls Try.prog 13 #[.int .i64 a0] w fun e w' => e = .returned (.bool r) ∧ Drawn0 w w' := by
  have H : (some ((wrap64 (wrap32 (a0))) == a0)) = some r := h
  clear h
  obtain rfl := Option.some.inj H
  go_enter Try.func13, Try.ntmps13
  go_wp2
  go_ret
  exact ⟨by first | rfl | (simp; done) | (simp [*]; done), by repeat (first | exact Drawn0.refl _ | apply Drawn0.step)⟩

/-! ### word_exact: function 17 -/
def word_exact.f (a0 : Int) : Option (Int × Int) := (word_Fits.f a0).bind fun t101 => (if t101 = true then (some (a0, 0)) else (some (0, 1)))
set_option maxHeartbeats 8000000 in
set_option maxRecDepth 100000 in
theorem word_exact.calls (a0 : Int) (r1 : Int) (r2 : Int) (w : World) (h : word_exact.f a0 = some (r1, r2)) :
    Calls Try.prog 17 #[.int .i64 a0] w fun e w' => e = .returned (.tuple #[.int .i64 r1, .int .i64 r2]) ∧ Drawn0 w w' := by
  have H : ((word_Fits.f a0).bind fun t101 => (if t101 = true then (some (a0, 0)) else (some (0, 1)))) = some (r1, r2) := h
  clear h
  replace H := Option.bind_eq_some_iff.mp H
  obtain ⟨t101, A20, H⟩ := H
  replace H : (if t101 = true then (some (a0, 0)) else (some (0, 1))) = some (r1, r2) := H
  have A2 := Aside0.mk A20
  clear A20
  by_cases c3 : t101 = true
  · subst c3
    have H1 : (some (a0, 0)) = some (r1, r2) := by rw [if_pos rfl] at H; exact H
    clear H
    have H := H1
    clear H1
    simp only [Option.some.injEq, Prod.mk.injEq] at H
    obtain ⟨rfl, rfl⟩ := H
    go_enter Try.func17, Try.ntmps17
    go_wp2_with (first | ((with_reducible refine gate_callee (f := 13) rfl ?_); refine goesL_ (some 5) rfl rfl Try.func13 (by kernel_rfl) rfl #[.int .i64 a0] rfl (by (try simp only [List.map_toArray, List.map_cons, List.map_nil]); first | done | rfl | (simp only [List.length_drop, List.length_take]; rfl)) ?_; (with_reducible refine (word_Fits.calls a0 true _ A2.out).mono ?_); rintro e w' ⟨rfl, ⟨nd, rfl⟩⟩; refine ⟨_, rfl, ?_⟩))
    go_ret2
    exact ⟨by first | rfl | (simp; done) | (simp [*]; done), by repeat (first | exact Drawn0.refl _ | apply Drawn0.step)⟩
  · replace c3 := Bool.eq_false_iff.mpr c3
    subst c3
    have H1 : (some (0, 1)) = some (r1, r2) := by rw [if_neg (show ¬ (false = true) by decide)] at H; exact H
    clear H
    have H := H1
    clear H1
    simp only [Option.some.injEq, Prod.mk.injEq] at H
    obtain ⟨rfl, rfl⟩ := H
    go_enter Try.func17, Try.ntmps17
    go_wp2_with (first | ((with_reducible refine gate_callee (f := 13) rfl ?_); refine goesL_ (some 5) rfl rfl Try.func13 (by kernel_rfl) rfl #[.int .i64 a0] rfl (by (try simp only [List.map_toArray, List.map_cons, List.map_nil]); first | done | rfl | (simp only [List.length_drop, List.length_take]; rfl)) ?_; (with_reducible refine (word_Fits.calls a0 false _ A2.out).mono ?_); rintro e w' ⟨rfl, ⟨nd, rfl⟩⟩; refine ⟨_, rfl, ?_⟩))
    go_ret2
    exact ⟨by first | rfl | (simp; done) | (simp [*]; done), by repeat (first | exact Drawn0.refl _ | apply Drawn0.step)⟩

/-! ### word_flag: function 18 -/
def word_flag.f (a0 : Bool) : Option (Int) := if a0 = true then (some 1) else (some 0)
set_option maxHeartbeats 8000000 in
set_option maxRecDepth 100000 in
theorem word_flag.calls (a0 : Bool) (r : Int) (w : World) (h : word_flag.f a0 = some r) :
    Calls Try.prog 18 #[.bool a0] w fun e w' => e = .returned (.int .i64 r) ∧ Drawn0 w w' := by
  have H : (if a0 = true then (some 1) else (some 0)) = some r := h
  clear h
  by_cases c2 : a0 = true
  · subst c2
    have H1 : (some 1) = some r := by rw [if_pos rfl] at H; exact H
    clear H
    have H := H1
    clear H1
    obtain rfl := Option.some.inj H
    go_enter Try.func18, Try.ntmps18
    go_wp2
    go_ret
    exact ⟨by first | rfl | (simp; done) | (simp [*]; done), by repeat (first | exact Drawn0.refl _ | apply Drawn0.step)⟩
  · replace c2 := Bool.eq_false_iff.mpr c2
    subst c2
    have H1 : (some 0) = some r := by rw [if_neg (show ¬ (false = true) by decide)] at H; exact H
    clear H
    have H := H1
    clear H1
    obtain rfl := Option.some.inj H
    go_enter Try.func18, Try.ntmps18
    go_wp2
    go_ret
    exact ⟨by first | rfl | (simp; done) | (simp [*]; done), by repeat (first | exact Drawn0.refl _ | apply Drawn0.step)⟩

/-! ### word_Do: function 8 -/
def word_Do.j0 : Nat → Int → Int → Int → Int → Int → Int → Bool → Option (Int × Int)
  | 0, _, _, _, _, _, _, _ => none
  | k + 1, x0, x1, x2, x8, x9, x18, x50 => if x50 = true then (if x2 = 0 then (some (0, 2)) else (if x0 = 7 then (some (Int.tmod x1 x2, 0)) else ((word_exact.f (wrap64 (Int.tdiv x1 x2))).bind fun bt110 => (some (bt110.1, bt110.2))))) else (if x18 = 9 then ((word_flag.f (decide (x8 < x9))).bind fun t112 => (some (t112, 0))) else (if x18 = 10 then ((word_flag.f (x8 == x9)).bind fun t113 => (some (t113, 0))) else (if x18 = 11 then (some (wrap64 (Go.bits .and .i32 x8 x9), 0)) else (if x18 = 12 then (some (wrap64 (Go.bits .or .i32 x8 x9), 0)) else (if x18 = 13 then (some (wrap64 (Go.bits .xor .i32 x8 x9), 0)) else (if x18 = 14 then (if 0 ≤ (Go.bits .and .u32 ((x9) % 4294967296) 31) then (some (wrap64 (shl .i32 x8 (Go.bits .and .u32 ((x9) % 4294967296) 31)), 0)) else (none)) else (if x18 = 15 then (if 0 ≤ (Go.bits .and .u32 ((x9) % 4294967296) 31) then (some (wrap64 (shr .i32 x8 (Go.bits .and .u32 ((x9) % 4294967296) 31)), 0)) else (none)) else (some (0, 0)))))))))
def word_Do.f (k : Nat) (a0 : Int) (a1 : Int) (a2 : Int) : Option (Int × Int) := if a0 = 3 then ((word_exact.f (wrap64 ((wrap64 (wrap32 (a1))) + (wrap64 (wrap32 (a2)))))).bind fun bt102 => (some (bt102.1, bt102.2))) else (if a0 = 4 then ((word_exact.f (wrap64 ((wrap64 (wrap32 (a1))) - (wrap64 (wrap32 (a2)))))).bind fun bt104 => (some (bt104.1, bt104.2))) else (if a0 = 5 then ((word_exact.f (wrap64 ((wrap64 (wrap32 (a1))) * (wrap64 (wrap32 (a2)))))).bind fun bt106 => (some (bt106.1, bt106.2))) else (if a0 = 8 then ((word_exact.f (wrap64 (-(wrap64 (wrap32 (a1)))))).bind fun bt108 => (some (bt108.1, bt108.2))) else (if a0 = 6 then (word_Do.j0 k a0 (wrap64 (wrap32 (a1))) (wrap64 (wrap32 (a2))) (wrap32 (a1)) (wrap32 (a2)) a0 (a0 == 6)) else (word_Do.j0 k a0 (wrap64 (wrap32 (a1))) (wrap64 (wrap32 (a2))) (wrap32 (a1)) (wrap32 (a2)) a0 (a0 == 7))))))
theorem word_Do.mono_l : ∀ k, (∀ y0 y1 y2 y3 y4 y5 y6, LeO (word_Do.j0 k y0 y1 y2 y3 y4 y5 y6) (word_Do.j0 (k + 1) y0 y1 y2 y3 y4 y5 y6))
  | 0 => fun _ _ _ _ _ _ _ r h => by simp [word_Do.j0] at h
  | k + 1 => by
    have ih0 := word_Do.mono_l k
    · intro y0 y1 y2 y3 y4 y5 y6
      unfold word_Do.j0
      repeat' first
      | (with_reducible exact ih0 _ _ _ _ _ _ _)
      | (with_reducible exact LeO.refl _)
      | (with_reducible exact LeO.none _)
      | (with_reducible refine LeO.ite ?_ ?_)
      | (with_reducible refine LeO.bind ?_ (fun _ => ?_))
      | exact ih0 _ _ _ _ _ _ _
      | exact LeO.none _
      | refine LeO.ite ?_ ?_
      | refine LeO.bind ?_ (fun _ => ?_)
theorem word_Do.mono : ∀ a0 a1 a2 k, LeO (word_Do.f k a0 a1 a2) (word_Do.f (k + 1) a0 a1 a2) := by
  intro a0 a1 a2 k
  have ih0 := word_Do.mono_l k
  unfold word_Do.f
  repeat' first
      | (with_reducible exact ih0 _ _ _ _ _ _ _)
      | (with_reducible exact LeO.refl _)
      | (with_reducible exact LeO.none _)
      | (with_reducible refine LeO.ite ?_ ?_)
      | (with_reducible refine LeO.bind ?_ (fun _ => ?_))
      | exact ih0 _ _ _ _ _ _ _
      | exact LeO.none _
      | refine LeO.ite ?_ ?_
      | refine LeO.bind ?_ (fun _ => ?_)
set_option maxHeartbeats 8000000 in
set_option maxRecDepth 100000 in
theorem word_Do.calls (k : Nat) (a0 : Int) (a1 : Int) (a2 : Int) (r1 : Int) (r2 : Int) (w : World) (h : word_Do.f k a0 a1 a2 = some (r1, r2)) :
    Calls Try.prog 8 #[.int .i64 a0, .int .i64 a1, .int .i64 a2] w fun e w' => e = .returned (.tuple #[.int .i64 r1, .int .i64 r2]) ∧ Drawn0 w w' := by
  have H : (if a0 = 3 then ((word_exact.f (wrap64 ((wrap64 (wrap32 (a1))) + (wrap64 (wrap32 (a2)))))).bind fun bt102 => (some (bt102.1, bt102.2))) else (if a0 = 4 then ((word_exact.f (wrap64 ((wrap64 (wrap32 (a1))) - (wrap64 (wrap32 (a2)))))).bind fun bt104 => (some (bt104.1, bt104.2))) else (if a0 = 5 then ((word_exact.f (wrap64 ((wrap64 (wrap32 (a1))) * (wrap64 (wrap32 (a2)))))).bind fun bt106 => (some (bt106.1, bt106.2))) else (if a0 = 8 then ((word_exact.f (wrap64 (-(wrap64 (wrap32 (a1)))))).bind fun bt108 => (some (bt108.1, bt108.2))) else (if a0 = 6 then (word_Do.j0 k a0 (wrap64 (wrap32 (a1))) (wrap64 (wrap32 (a2))) (wrap32 (a1)) (wrap32 (a2)) a0 (a0 == 6)) else (word_Do.j0 k a0 (wrap64 (wrap32 (a1))) (wrap64 (wrap32 (a2))) (wrap32 (a1)) (wrap32 (a2)) a0 (a0 == 7))))))) = some (r1, r2) := h
  clear h
  by_cases c4 : a0 = 3
  · rw [if_pos c4] at H
    have c4b0 : (a0 == 3) = true := beq_iff_eq.mpr c4
    have c4b1 : (a0 != 3) = false := bne_eq_false_iff_eq.mpr c4
    clear c4
    replace H := Option.bind_eq_some_iff.mp H
    obtain ⟨⟨t102, t103⟩, A50, H⟩ := H
    replace H : (some (t102, t103)) = some (r1, r2) := H
    have A5 := Aside0.mk A50
    clear A50
    simp only [Option.some.injEq, Prod.mk.injEq] at H
    obtain ⟨rfl, rfl⟩ := H
    go_enter Try.func8, Try.ntmps8
    go_wp2_with (first | ((with_reducible refine gate_callee (f := 17) rfl ?_); refine goesL_ (some 24) rfl rfl Try.func17 (by kernel_rfl) rfl #[.int .i64 (wrap64 ((wrap64 (wrap32 (a1))) + (wrap64 (wrap32 (a2)))))] rfl (by (try simp only [List.map_toArray, List.map_cons, List.map_nil]); first | done | rfl | (simp only [List.length_drop, List.length_take]; rfl)) ?_; (with_reducible refine (word_exact.calls (wrap64 ((wrap64 (wrap32 (a1))) + (wrap64 (wrap32 (a2))))) t102 t103 _ A5.out).mono ?_); rintro e w' ⟨rfl, ⟨nd, rfl⟩⟩; refine ⟨_, rfl, ?_⟩))
    go_ret2
    exact ⟨by first | rfl | (simp; done) | (simp [*]; done), by repeat (first | exact Drawn0.refl _ | apply Drawn0.step)⟩
  · rw [if_neg c4] at H
    have c4b0 : (a0 == 3) = false := beq_eq_false_iff_ne.mpr c4
    have c4b1 : (a0 != 3) = true := bne_iff_ne.mpr c4
    by_cases c6 : a0 = 4
    · rw [if_pos c6] at H
      have c6b0 : (a0 == 4) = true := beq_iff_eq.mpr c6
      have c6b1 : (a0 != 4) = false := bne_eq_false_iff_eq.mpr c6
      clear c6
      replace H := Option.bind_eq_some_iff.mp H
      obtain ⟨⟨t104, t105⟩, A70, H⟩ := H
      replace H : (some (t104, t105)) = some (r1, r2) := H
      have A7 := Aside0.mk A70
      clear A70
      simp only [Option.some.injEq, Prod.mk.injEq] at H
      obtain ⟨rfl, rfl⟩ := H
      go_enter Try.func8, Try.ntmps8
      go_wp2_with (first | ((with_reducible refine gate_callee (f := 17) rfl ?_); refine goesL_ (some 32) rfl rfl Try.func17 (by kernel_rfl) rfl #[.int .i64 (wrap64 ((wrap64 (wrap32 (a1))) - (wrap64 (wrap32 (a2)))))] rfl (by (try simp only [List.map_toArray, List.map_cons, List.map_nil]); first | done | rfl | (simp only [List.length_drop, List.length_take]; rfl)) ?_; (with_reducible refine (word_exact.calls (wrap64 ((wrap64 (wrap32 (a1))) - (wrap64 (wrap32 (a2))))) t104 t105 _ A7.out).mono ?_); rintro e w' ⟨rfl, ⟨nd, rfl⟩⟩; refine ⟨_, rfl, ?_⟩))
      go_ret2
      exact ⟨by first | rfl | (simp; done) | (simp [*]; done), by repeat (first | exact Drawn0.refl _ | apply Drawn0.step)⟩
    · rw [if_neg c6] at H
      have c6b0 : (a0 == 4) = false := beq_eq_false_iff_ne.mpr c6
      have c6b1 : (a0 != 4) = true := bne_iff_ne.mpr c6
      by_cases c8 : a0 = 5
      · rw [if_pos c8] at H
        have c8b0 : (a0 == 5) = true := beq_iff_eq.mpr c8
        have c8b1 : (a0 != 5) = false := bne_eq_false_iff_eq.mpr c8
        clear c8
        replace H := Option.bind_eq_some_iff.mp H
        obtain ⟨⟨t106, t107⟩, A90, H⟩ := H
        replace H : (some (t106, t107)) = some (r1, r2) := H
        have A9 := Aside0.mk A90
        clear A90
        simp only [Option.some.injEq, Prod.mk.injEq] at H
        obtain ⟨rfl, rfl⟩ := H
        go_enter Try.func8, Try.ntmps8
        go_wp2_with (first | ((with_reducible refine gate_callee (f := 17) rfl ?_); refine goesL_ (some 40) rfl rfl Try.func17 (by kernel_rfl) rfl #[.int .i64 (wrap64 ((wrap64 (wrap32 (a1))) * (wrap64 (wrap32 (a2)))))] rfl (by (try simp only [List.map_toArray, List.map_cons, List.map_nil]); first | done | rfl | (simp only [List.length_drop, List.length_take]; rfl)) ?_; (with_reducible refine (word_exact.calls (wrap64 ((wrap64 (wrap32 (a1))) * (wrap64 (wrap32 (a2))))) t106 t107 _ A9.out).mono ?_); rintro e w' ⟨rfl, ⟨nd, rfl⟩⟩; refine ⟨_, rfl, ?_⟩))
        go_ret2
        exact ⟨by first | rfl | (simp; done) | (simp [*]; done), by repeat (first | exact Drawn0.refl _ | apply Drawn0.step)⟩
      · rw [if_neg c8] at H
        have c8b0 : (a0 == 5) = false := beq_eq_false_iff_ne.mpr c8
        have c8b1 : (a0 != 5) = true := bne_iff_ne.mpr c8
        by_cases c10 : a0 = 8
        · rw [if_pos c10] at H
          have c10b0 : (a0 == 8) = true := beq_iff_eq.mpr c10
          have c10b1 : (a0 != 8) = false := bne_eq_false_iff_eq.mpr c10
          clear c10
          replace H := Option.bind_eq_some_iff.mp H
          obtain ⟨⟨t108, t109⟩, A110, H⟩ := H
          replace H : (some (t108, t109)) = some (r1, r2) := H
          have A11 := Aside0.mk A110
          clear A110
          simp only [Option.some.injEq, Prod.mk.injEq] at H
          obtain ⟨rfl, rfl⟩ := H
          go_enter Try.func8, Try.ntmps8
          go_wp2_with (first | ((with_reducible refine gate_callee (f := 17) rfl ?_); refine goesL_ (some 47) rfl rfl Try.func17 (by kernel_rfl) rfl #[.int .i64 (wrap64 (-(wrap64 (wrap32 (a1)))))] rfl (by (try simp only [List.map_toArray, List.map_cons, List.map_nil]); first | done | rfl | (simp only [List.length_drop, List.length_take]; rfl)) ?_; (with_reducible refine (word_exact.calls (wrap64 (-(wrap64 (wrap32 (a1))))) t108 t109 _ A11.out).mono ?_); rintro e w' ⟨rfl, ⟨nd, rfl⟩⟩; refine ⟨_, rfl, ?_⟩))
          go_ret2
          exact ⟨by first | rfl | (simp; done) | (simp [*]; done), by repeat (first | exact Drawn0.refl _ | apply Drawn0.step)⟩
        · rw [if_neg c10] at H
          have c10b0 : (a0 == 8) = false := beq_eq_false_iff_ne.mpr c10
          have c10b1 : (a0 != 8) = true := bne_iff_ne.mpr c10
          have HC12 := Aside0.mk H
          clear H
          go_enter Try.func8, Try.ntmps8
          go_upto_if 50 with (fail)
          go_cut [50] (fun v50 wc => ∃ (kq : Nat) (x50_11 : Bool), v50 = .bool x50_11 ∧ Aside0 (word_Do.j0 kq a0 (wrap64 (wrap32 (a1))) (wrap64 (wrap32 (a2))) (wrap32 (a1)) (wrap32 (a2)) a0 x50_11 = some (r1, r2)) ∧ Aside0 (kq ≤ k) ∧ Drawn0 w wc)
          case first =>
            have H := HC12.out
            clear HC12
            by_cases c13 : a0 = 6
            · rw [if_pos c13] at H
              have c13b0 : (a0 == 6) = true := beq_iff_eq.mpr c13
              have c13b1 : (a0 != 6) = false := bne_eq_false_iff_eq.mpr c13
              clear c13
              (first | rw [c13b0] | (simp only [i64_w, i32_w]; rw [c13b0]) | skip)
              have H' := Aside0.mk H
              clear H
              go_wp2
              go_meet
              case rel => exact ⟨_, ((a0 == 6)), (by first | rfl | (simp; done) | (simp [*]; done)), H', ⟨by first | omega | exact Nat.le_refl _⟩, by repeat (first | exact Drawn0.refl _ | apply Drawn0.step)⟩
            · rw [if_neg c13] at H
              have c13b0 : (a0 == 6) = false := beq_eq_false_iff_ne.mpr c13
              have c13b1 : (a0 != 6) = true := bne_iff_ne.mpr c13
              (first | rw [c13b0] | (simp only [i64_w, i32_w]; rw [c13b0]) | skip)
              have H' := Aside0.mk H
              clear H
              go_wp2
              go_meet
              case rel => exact ⟨_, ((a0 == 7)), (by first | rfl | (simp; done) | (simp [*]; done)), H', ⟨by first | omega | exact Nat.le_refl _⟩, by repeat (first | exact Drawn0.refl _ | apply Drawn0.step)⟩
          case rest =>
            clear HC12
            try clear c1
            try clear p2
            try clear p3
            try clear c4
            try clear c4b0
            try clear c4b1
            try clear c6
            try clear c6b0
            try clear c6b1
            try clear p6
            try clear c8
            try clear c8b0
            try clear c8b1
            try clear c10
            try clear c10b0
            try clear c10b1
            try clear c13
            try clear c13b0
            try clear c13b1
            obtain ⟨kq, x50_11, rfl, HA, HJ11, ⟨mc11, rfl⟩⟩ := hcut
            cases kq with
            | zero => exact absurd HA.out (by simp [word_Do.j0])
            | succ kj11 =>
              have H := HA.out
              clear HA
              simp only [word_Do.j0] at H
              by_cases c14 : x50_11 = true
              · subst c14
                have H1 : (if (wrap64 (wrap32 (a2))) = 0 then (some (0, 2)) else (if a0 = 7 then (some (Int.tmod (wrap64 (wrap32 (a1))) (wrap64 (wrap32 (a2))), 0)) else ((word_exact.f (wrap64 (Int.tdiv (wrap64 (wrap32 (a1))) (wrap64 (wrap32 (a2)))))).bind fun bt110 => (some (bt110.1, bt110.2))))) = some (r1, r2) := by rw [if_pos rfl] at H; exact H
                clear H
                have H := H1
                clear H1
                by_cases c15 : (wrap64 (wrap32 (a2))) = 0
                · rw [if_pos c15] at H
                  have c15b0 : ((wrap64 (wrap32 (a2))) == 0) = true := beq_iff_eq.mpr c15
                  have c15b1 : ((wrap64 (wrap32 (a2))) != 0) = false := bne_eq_false_iff_eq.mpr c15
                  clear c15
                  simp only [Option.some.injEq, Prod.mk.injEq] at H
                  obtain ⟨rfl, rfl⟩ := H
                  go_wp2
                  go_ret2
                  exact ⟨by first | rfl | (simp; done) | (simp [*]; done), by repeat (first | exact Drawn0.refl _ | apply Drawn0.step)⟩
                · rw [if_neg c15] at H
                  have c15b0 : ((wrap64 (wrap32 (a2))) == 0) = false := beq_eq_false_iff_ne.mpr c15
                  have c15b1 : ((wrap64 (wrap32 (a2))) != 0) = true := bne_iff_ne.mpr c15
                  by_cases c16 : a0 = 7
                  · rw [if_pos c16] at H
                    have c16b0 : (a0 == 7) = true := beq_iff_eq.mpr c16
                    have c16b1 : (a0 != 7) = false := bne_eq_false_iff_eq.mpr c16
                    clear c16
                    simp only [Option.some.injEq, Prod.mk.injEq] at H
                    obtain ⟨rfl, rfl⟩ := H
                    go_wp2
                    go_ret2
                    exact ⟨by first | rfl | (simp; done) | (simp [*]; done), by repeat (first | exact Drawn0.refl _ | apply Drawn0.step)⟩
                  · rw [if_neg c16] at H
                    have c16b0 : (a0 == 7) = false := beq_eq_false_iff_ne.mpr c16
                    have c16b1 : (a0 != 7) = true := bne_iff_ne.mpr c16
                    replace H := Option.bind_eq_some_iff.mp H
                    obtain ⟨⟨t110, t111⟩, A170, H⟩ := H
                    replace H : (some (t110, t111)) = some (r1, r2) := H
                    have A17 := Aside0.mk A170
                    clear A170
                    simp only [Option.some.injEq, Prod.mk.injEq] at H
                    obtain ⟨rfl, rfl⟩ := H
                    go_wp2_with (first | ((with_reducible refine gate_callee (f := 17) rfl ?_); refine goesL_ (some 63) rfl rfl Try.func17 (by kernel_rfl) rfl #[.int .i64 (wrap64 (Int.tdiv (wrap64 (wrap32 (a1))) (wrap64 (wrap32 (a2)))))] rfl (by (try simp only [List.map_toArray, List.map_cons, List.map_nil]); first | done | rfl | (simp only [List.length_drop, List.length_take]; rfl)) ?_; (with_reducible refine (word_exact.calls (wrap64 (Int.tdiv (wrap64 (wrap32 (a1))) (wrap64 (wrap32 (a2))))) t110 t111 _ A17.out).mono ?_); rintro e w' ⟨rfl, ⟨nd, rfl⟩⟩; refine ⟨_, rfl, ?_⟩))
                    go_ret2
                    exact ⟨by first | rfl | (simp; done) | (simp [*]; done), by repeat (first | exact Drawn0.refl _ | apply Drawn0.step)⟩
              · replace c14 := Bool.eq_false_iff.mpr c14
                subst c14
                have H1 : (if a0 = 9 then ((word_flag.f (decide ((wrap32 (a1)) < (wrap32 (a2))))).bind fun t112 => (some (t112, 0))) else (if a0 = 10 then ((word_flag.f ((wrap32 (a1)) == (wrap32 (a2)))).bind fun t113 => (some (t113, 0))) else (if a0 = 11 then (some (wrap64 (Go.bits .and .i32 (wrap32 (a1)) (wrap32 (a2))), 0)) else (if a0 = 12 then (some (wrap64 (Go.bits .or .i32 (wrap32 (a1)) (wrap32 (a2))), 0)) else (if a0 = 13 then (some (wrap64 (Go.bits .xor .i32 (wrap32 (a1)) (wrap32 (a2))), 0)) else (if a0 = 14 then (if 0 ≤ (Go.bits .and .u32 (((wrap32 (a2))) % 4294967296) 31) then (some (wrap64 (shl .i32 (wrap32 (a1)) (Go.bits .and .u32 (((wrap32 (a2))) % 4294967296) 31)), 0)) else (none)) else (if a0 = 15 then (if 0 ≤ (Go.bits .and .u32 (((wrap32 (a2))) % 4294967296) 31) then (some (wrap64 (shr .i32 (wrap32 (a1)) (Go.bits .and .u32 (((wrap32 (a2))) % 4294967296) 31)), 0)) else (none)) else (some (0, 0))))))))) = some (r1, r2) := by rw [if_neg (show ¬ (false = true) by decide)] at H; exact H
                clear H
                have H := H1
                clear H1
                by_cases c18 : a0 = 9
                · rw [if_pos c18] at H
                  have c18b0 : (a0 == 9) = true := beq_iff_eq.mpr c18
                  have c18b1 : (a0 != 9) = false := bne_eq_false_iff_eq.mpr c18
                  clear c18
                  replace H := Option.bind_eq_some_iff.mp H
                  obtain ⟨t112, A190, H⟩ := H
                  replace H : (some (t112, 0)) = some (r1, r2) := H
                  have A19 := Aside0.mk A190
                  clear A190
                  simp only [Option.some.injEq, Prod.mk.injEq] at H
                  obtain ⟨rfl, rfl⟩ := H
                  go_wp2_with (first | ((with_reducible refine gate_callee (f := 18) rfl ?_); refine goesL_ (some 71) rfl rfl Try.func18 (by kernel_rfl) rfl #[.bool (decide ((wrap32 (a1)) < (wrap32 (a2))))] rfl (by (try simp only [List.map_toArray, List.map_cons, List.map_nil]); first | done | rfl | (simp only [List.length_drop, List.length_take]; rfl)) ?_; (with_reducible refine (word_flag.calls (decide ((wrap32 (a1)) < (wrap32 (a2)))) t112 _ A19.out).mono ?_); rintro e w' ⟨rfl, ⟨nd, rfl⟩⟩; refine ⟨_, rfl, ?_⟩))
                  go_ret2
                  exact ⟨by first | rfl | (simp; done) | (simp [*]; done), by repeat (first | exact Drawn0.refl _ | apply Drawn0.step)⟩
                · rw [if_neg c18] at H
                  have c18b0 : (a0 == 9) = false := beq_eq_false_iff_ne.mpr c18
                  have c18b1 : (a0 != 9) = true := bne_iff_ne.mpr c18
                  by_cases c20 : a0 = 10
                  · rw [if_pos c20] at H
                    have c20b0 : (a0 == 10) = true := beq_iff_eq.mpr c20
                    have c20b1 : (a0 != 10) = false := bne_eq_false_iff_eq.mpr c20
                    clear c20
                    replace H := Option.bind_eq_some_iff.mp H
                    obtain ⟨t113, A210, H⟩ := H
                    replace H : (some (t113, 0)) = some (r1, r2) := H
                    have A21 := Aside0.mk A210
                    clear A210
                    simp only [Option.some.injEq, Prod.mk.injEq] at H
                    obtain ⟨rfl, rfl⟩ := H
                    go_wp2_with (first | ((with_reducible refine gate_callee (f := 18) rfl ?_); refine goesL_ (some 77) rfl rfl Try.func18 (by kernel_rfl) rfl #[.bool ((wrap32 (a1)) == (wrap32 (a2)))] rfl (by (try simp only [List.map_toArray, List.map_cons, List.map_nil]); first | done | rfl | (simp only [List.length_drop, List.length_take]; rfl)) ?_; (with_reducible refine (word_flag.calls ((wrap32 (a1)) == (wrap32 (a2))) t113 _ A21.out).mono ?_); rintro e w' ⟨rfl, ⟨nd, rfl⟩⟩; refine ⟨_, rfl, ?_⟩))
                    go_ret2
                    exact ⟨by first | rfl | (simp; done) | (simp [*]; done), by repeat (first | exact Drawn0.refl _ | apply Drawn0.step)⟩
                  · rw [if_neg c20] at H
                    have c20b0 : (a0 == 10) = false := beq_eq_false_iff_ne.mpr c20
                    have c20b1 : (a0 != 10) = true := bne_iff_ne.mpr c20
                    by_cases c22 : a0 = 11
                    · rw [if_pos c22] at H
                      have c22b0 : (a0 == 11) = true := beq_iff_eq.mpr c22
                      have c22b1 : (a0 != 11) = false := bne_eq_false_iff_eq.mpr c22
                      clear c22
                      simp only [Option.some.injEq, Prod.mk.injEq] at H
                      obtain ⟨rfl, rfl⟩ := H
                      go_wp2
                      go_ret2
                      exact ⟨by first | rfl | (simp; done) | (simp [*]; done), by repeat (first | exact Drawn0.refl _ | apply Drawn0.step)⟩
                    · rw [if_neg c22] at H
                      have c22b0 : (a0 == 11) = false := beq_eq_false_iff_ne.mpr c22
                      have c22b1 : (a0 != 11) = true := bne_iff_ne.mpr c22
                      by_cases c23 : a0 = 12
                      · rw [if_pos c23] at H
                        have c23b0 : (a0 == 12) = true := beq_iff_eq.mpr c23
                        have c23b1 : (a0 != 12) = false := bne_eq_false_iff_eq.mpr c23
                        clear c23
                        simp only [Option.some.injEq, Prod.mk.injEq] at H
                        obtain ⟨rfl, rfl⟩ := H
                        go_wp2
                        go_ret2
                        exact ⟨by first | rfl | (simp; done) | (simp [*]; done), by repeat (first | exact Drawn0.refl _ | apply Drawn0.step)⟩
                      · rw [if_neg c23] at H
                        have c23b0 : (a0 == 12) = false := beq_eq_false_iff_ne.mpr c23
                        have c23b1 : (a0 != 12) = true := bne_iff_ne.mpr c23
                        by_cases c24 : a0 = 13
                        · rw [if_pos c24] at H
                          have c24b0 : (a0 == 13) = true := beq_iff_eq.mpr c24
                          have c24b1 : (a0 != 13) = false := bne_eq_false_iff_eq.mpr c24
                          clear c24
                          simp only [Option.some.injEq, Prod.mk.injEq] at H
                          obtain ⟨rfl, rfl⟩ := H
                          go_wp2
                          go_ret2
                          exact ⟨by first | rfl | (simp; done) | (simp [*]; done), by repeat (first | exact Drawn0.refl _ | apply Drawn0.step)⟩
                        · rw [if_neg c24] at H
                          have c24b0 : (a0 == 13) = false := beq_eq_false_iff_ne.mpr c24
                          have c24b1 : (a0 != 13) = true := bne_iff_ne.mpr c24
                          by_cases c25 : a0 = 14
                          · rw [if_pos c25] at H
                            have c25b0 : (a0 == 14) = true := beq_iff_eq.mpr c25
                            have c25b1 : (a0 != 14) = false := bne_eq_false_iff_eq.mpr c25
                            clear c25
                            obtain ⟨ji26, hji26⟩ : ∃ j_ : Int, (Go.bits .and .u32 (((wrap32 (a2))) % 4294967296) 31) = j_ := ⟨_, rfl⟩
                            replace H : (if 0 ≤ (ji26) then (some (wrap64 (shl .i32 (wrap32 (a1)) (ji26)), 0)) else (none)) = some (r1, r2) := by first | (rw [hji26] at H; exact H) | (simp only [hji26] at H ⊢; exact H)
                            by_cases c27 : 0 ≤ (ji26)
                            · rw [if_pos c27] at H
                              have c27b0 := eq_true c27
                              have c27b1 : decide (0 ≤ (ji26)) = true := decide_eq_true c27
                              clear c27
                              obtain ⟨ji28, hji28⟩ : ∃ j_ : Int, (shl .i32 (wrap32 (a1)) (ji26)) = j_ := ⟨_, rfl⟩
                              replace H : (some (wrap64 (ji28), 0)) = some (r1, r2) := by first | (rw [hji28] at H; exact H) | (simp only [hji28] at H ⊢; exact H)
                              have hji28_ : (IntKind.i32.wrap ((wrap32 (a1)) * 2 ^ min (ji26).toNat 32)) = ji28 := hji28
                              have hji28z : (ji26) ≤ 32 → (IntKind.i32.wrap ((wrap32 (a1)) * 2 ^ (ji26).toNat)) = ji28 := shl_small hji28
                              have hji28y : (wrap32 ((wrap32 (a1)) * 2 ^ min (ji26).toNat 32)) = ji28 := (i32_w _).symm.trans hji28_
                              have hji28x : (ji26) ≤ 32 → (wrap32 ((wrap32 (a1)) * 2 ^ (ji26).toNat)) = ji28 := fun h_ => (i32_w _).symm.trans (hji28z h_)
                              simp only [Option.some.injEq, Prod.mk.injEq] at H
                              obtain ⟨rfl, rfl⟩ := H
                              go_wp2
                              go_ret2
                              exact ⟨by first | rfl | (simp; done) | (simp only [← hji26, ← hji28] <;> (first | rfl | simp)) | (simp [*]; done), by repeat (first | exact Drawn0.refl _ | apply Drawn0.step)⟩
                            · rw [if_neg c27] at H
                              exact absurd H (by simp)
                          · rw [if_neg c25] at H
                            have c25b0 : (a0 == 14) = false := beq_eq_false_iff_ne.mpr c25
                            have c25b1 : (a0 != 14) = true := bne_iff_ne.mpr c25
                            by_cases c29 : a0 = 15
                            · rw [if_pos c29] at H
                              have c29b0 : (a0 == 15) = true := beq_iff_eq.mpr c29
                              have c29b1 : (a0 != 15) = false := bne_eq_false_iff_eq.mpr c29
                              clear c29
                              obtain ⟨ji30, hji30⟩ : ∃ j_ : Int, (Go.bits .and .u32 (((wrap32 (a2))) % 4294967296) 31) = j_ := ⟨_, rfl⟩
                              replace H : (if 0 ≤ (ji30) then (some (wrap64 (shr .i32 (wrap32 (a1)) (ji30)), 0)) else (none)) = some (r1, r2) := by first | (rw [hji30] at H; exact H) | (simp only [hji30] at H ⊢; exact H)
                              by_cases c31 : 0 ≤ (ji30)
                              · rw [if_pos c31] at H
                                have c31b0 := eq_true c31
                                have c31b1 : decide (0 ≤ (ji30)) = true := decide_eq_true c31
                                clear c31
                                obtain ⟨ji32, hji32⟩ : ∃ j_ : Int, (shr .i32 (wrap32 (a1)) (ji30)) = j_ := ⟨_, rfl⟩
                                replace H : (some (wrap64 (ji32), 0)) = some (r1, r2) := by first | (rw [hji32] at H; exact H) | (simp only [hji32] at H ⊢; exact H)
                                have hji32_ : ((wrap32 (a1)) / 2 ^ min (ji30).toNat 32) = ji32 := hji32
                                have hji32z : (ji30) ≤ 32 → ((wrap32 (a1)) / 2 ^ (ji30).toNat) = ji32 := shr_small hji32
                                simp only [Option.some.injEq, Prod.mk.injEq] at H
                                obtain ⟨rfl, rfl⟩ := H
                                go_wp2
                                go_ret2
                                exact ⟨by first | rfl | (simp; done) | (simp only [← hji30, ← hji32] <;> (first | rfl | simp)) | (simp [*]; done), by repeat (first | exact Drawn0.refl _ | apply Drawn0.step)⟩
                              · rw [if_neg c31] at H
                                exact absurd H (by simp)
                            · rw [if_neg c29] at H
                              have c29b0 : (a0 == 15) = false := beq_eq_false_iff_ne.mpr c29
                              have c29b1 : (a0 != 15) = true := bne_iff_ne.mpr c29
                              simp only [Option.some.injEq, Prod.mk.injEq] at H
                              obtain ⟨rfl, rfl⟩ := H
                              go_wp2
                              go_ret2
                              exact ⟨by first | rfl | (simp; done) | (simp [*]; done), by repeat (first | exact Drawn0.refl _ | apply Drawn0.step)⟩

/-! ### logjamref03_Low: function 14 -/
def logjamref03_Low.f (a0 : Int) : Option (Int) := if (Int.tmod a0 4294967296) ≥ 2147483648 then (some (wrap64 ((Int.tmod a0 4294967296) - 4294967296))) else (if (Int.tmod a0 4294967296) < (-2147483648) then (some (wrap64 ((Int.tmod a0 4294967296) + 4294967296))) else (some (Int.tmod a0 4294967296)))
set_option maxHeartbeats 8000000 in
set_option maxRecDepth 100000 in
theorem logjamref03_Low.calls (a0 : Int) (r : Int) (w : World) (h : logjamref03_Low.f a0 = some r) :
    Calls Try.prog 14 #[.int .i64 a0] w fun e w' => e = .returned (.int .i64 r) ∧ Drawn0 w w' := by
  have H : (if (Int.tmod a0 4294967296) ≥ 2147483648 then (some (wrap64 ((Int.tmod a0 4294967296) - 4294967296))) else (if (Int.tmod a0 4294967296) < (-2147483648) then (some (wrap64 ((Int.tmod a0 4294967296) + 4294967296))) else (some (Int.tmod a0 4294967296)))) = some r := h
  clear h
  by_cases c2 : (Int.tmod a0 4294967296) ≥ 2147483648
  · rw [if_pos c2] at H
    have c2b0 : decide (2147483648 ≤ (Int.tmod a0 4294967296)) = true := decide_eq_true c2
    clear c2
    obtain rfl := Option.some.inj H
    go_enter Try.func14, Try.ntmps14
    go_wp2
    go_ret
    exact ⟨by first | rfl | (simp; done) | (simp [*]; done), by repeat (first | exact Drawn0.refl _ | apply Drawn0.step)⟩
  · rw [if_neg c2] at H
    have c2b0 : decide (2147483648 ≤ (Int.tmod a0 4294967296)) = false := decide_eq_false c2
    clear c2
    by_cases c3 : (Int.tmod a0 4294967296) < (-2147483648)
    · rw [if_pos c3] at H
      have c3b0 : decide ((Int.tmod a0 4294967296) < (-2147483648)) = true := decide_eq_true c3
      clear c3
      obtain rfl := Option.some.inj H
      go_enter Try.func14, Try.ntmps14
      go_wp2
      go_ret
      exact ⟨by first | rfl | (simp; done) | (simp [*]; done), by repeat (first | exact Drawn0.refl _ | apply Drawn0.step)⟩
    · rw [if_neg c3] at H
      have c3b0 : decide ((Int.tmod a0 4294967296) < (-2147483648)) = false := decide_eq_false c3
      clear c3
      obtain rfl := Option.some.inj H
      go_enter Try.func14, Try.ntmps14
      go_wp2
      go_ret
      exact ⟨by first | rfl | (simp; done) | (simp [*]; done), by repeat (first | exact Drawn0.refl _ | apply Drawn0.step)⟩

/-! ### logjamref03_Fits: function 10 -/
def logjamref03_Fits.f (a0 : Int) : Option (Bool) := if a0 ≥ (-2147483648) then (some (decide (a0 < 2147483648))) else (some false)
set_option maxHeartbeats 8000000 in
set_option maxRecDepth 100000 in
theorem logjamref03_Fits.calls (a0 : Int) (r : Bool) (w : World) (h : logjamref03_Fits.f a0 = some r) :
    Calls Try.prog 10 #[.int .i64 a0] w fun e w' => e = .returned (.bool r) ∧ Drawn0 w w' := by
  have H : (if a0 ≥ (-2147483648) then (some (decide (a0 < 2147483648))) else (some false)) = some r := h
  clear h
  by_cases c2 : a0 ≥ (-2147483648)
  · rw [if_pos c2] at H
    have c2b0 : decide ((-2147483648) ≤ a0) = true := decide_eq_true c2
    clear c2
    obtain rfl := Option.some.inj H
    go_enter Try.func10, Try.ntmps10
    go_wp2
    go_ret
    exact ⟨by first | rfl | (simp; done) | (simp [*]; done), by repeat (first | exact Drawn0.refl _ | apply Drawn0.step)⟩
  · rw [if_neg c2] at H
    have c2b0 : decide ((-2147483648) ≤ a0) = false := decide_eq_false c2
    clear c2
    obtain rfl := Option.some.inj H
    go_enter Try.func10, Try.ntmps10
    go_wp2
    go_ret
    exact ⟨by first | rfl | (simp; done) | (simp [*]; done), by repeat (first | exact Drawn0.refl _ | apply Drawn0.step)⟩

/-! ### logjamref03_exact: function 19 -/
def logjamref03_exact.f (a0 : Int) : Option (Int × Int) := (logjamref03_Fits.f a0).bind fun t114 => (if t114 = true then (some (a0, 0)) else (some (0, 1)))
set_option maxHeartbeats 8000000 in
set_option maxRecDepth 100000 in
theorem logjamref03_exact.calls (a0 : Int) (r1 : Int) (r2 : Int) (w : World) (h : logjamref03_exact.f a0 = some (r1, r2)) :
    Calls Try.prog 19 #[.int .i64 a0] w fun e w' => e = .returned (.tuple #[.int .i64 r1, .int .i64 r2]) ∧ Drawn0 w w' := by
  have H : ((logjamref03_Fits.f a0).bind fun t114 => (if t114 = true then (some (a0, 0)) else (some (0, 1)))) = some (r1, r2) := h
  clear h
  replace H := Option.bind_eq_some_iff.mp H
  obtain ⟨t114, A20, H⟩ := H
  replace H : (if t114 = true then (some (a0, 0)) else (some (0, 1))) = some (r1, r2) := H
  have A2 := Aside0.mk A20
  clear A20
  by_cases c3 : t114 = true
  · subst c3
    have H1 : (some (a0, 0)) = some (r1, r2) := by rw [if_pos rfl] at H; exact H
    clear H
    have H := H1
    clear H1
    simp only [Option.some.injEq, Prod.mk.injEq] at H
    obtain ⟨rfl, rfl⟩ := H
    go_enter Try.func19, Try.ntmps19
    go_wp2_with (first | ((with_reducible refine gate_callee (f := 10) rfl ?_); refine goesL_ (some 5) rfl rfl Try.func10 (by kernel_rfl) rfl #[.int .i64 a0] rfl (by (try simp only [List.map_toArray, List.map_cons, List.map_nil]); first | done | rfl | (simp only [List.length_drop, List.length_take]; rfl)) ?_; (with_reducible refine (logjamref03_Fits.calls a0 true _ A2.out).mono ?_); rintro e w' ⟨rfl, ⟨nd, rfl⟩⟩; refine ⟨_, rfl, ?_⟩))
    go_ret2
    exact ⟨by first | rfl | (simp; done) | (simp [*]; done), by repeat (first | exact Drawn0.refl _ | apply Drawn0.step)⟩
  · replace c3 := Bool.eq_false_iff.mpr c3
    subst c3
    have H1 : (some (0, 1)) = some (r1, r2) := by rw [if_neg (show ¬ (false = true) by decide)] at H; exact H
    clear H
    have H := H1
    clear H1
    simp only [Option.some.injEq, Prod.mk.injEq] at H
    obtain ⟨rfl, rfl⟩ := H
    go_enter Try.func19, Try.ntmps19
    go_wp2_with (first | ((with_reducible refine gate_callee (f := 10) rfl ?_); refine goesL_ (some 5) rfl rfl Try.func10 (by kernel_rfl) rfl #[.int .i64 a0] rfl (by (try simp only [List.map_toArray, List.map_cons, List.map_nil]); first | done | rfl | (simp only [List.length_drop, List.length_take]; rfl)) ?_; (with_reducible refine (logjamref03_Fits.calls a0 false _ A2.out).mono ?_); rintro e w' ⟨rfl, ⟨nd, rfl⟩⟩; refine ⟨_, rfl, ?_⟩))
    go_ret2
    exact ⟨by first | rfl | (simp; done) | (simp [*]; done), by repeat (first | exact Drawn0.refl _ | apply Drawn0.step)⟩

/-! ### logjamref03_bit: function 22 -/
mutual
def logjamref03_bit.j0 : Nat → Int → Int → Option (Int)
  | 0, _, _ => none
  | k + 1, x0, x1 => logjamref03_bit.l0 k x0 x1 0
def logjamref03_bit.l0 : Nat → Int → Int → Int → Option (Int)
  | 0, _, _, _ => none
  | k + 1, x0, x1, x5 => if x5 < x1 then (logjamref03_bit.l0 k (wrap64 (Int.tdiv x0 2)) x1 (wrap64 (x5 + 1))) else (some (Int.tmod x0 2))
end
def logjamref03_bit.f (k : Nat) (a0 : Int) (a1 : Int) : Option (Int) := if a0 < 0 then (logjamref03_bit.j0 k (wrap64 (a0 + 4294967296)) a1) else (logjamref03_bit.j0 k a0 a1)
theorem logjamref03_bit.mono_l : ∀ k, (∀ y0 y1, LeO (logjamref03_bit.j0 k y0 y1) (logjamref03_bit.j0 (k + 1) y0 y1)) ∧ (∀ y0 y1 y2, LeO (logjamref03_bit.l0 k y0 y1 y2) (logjamref03_bit.l0 (k + 1) y0 y1 y2))
  | 0 => ⟨fun _ _ r h => by simp [logjamref03_bit.j0] at h, fun _ _ _ r h => by simp [logjamref03_bit.l0] at h⟩
  | k + 1 => by
    obtain ⟨ih0, ih1⟩ := logjamref03_bit.mono_l k
    refine ⟨?_, ?_⟩
    · intro y0 y1
      unfold logjamref03_bit.j0
      repeat' first
      | (with_reducible exact ih0 _ _)
      | (with_reducible exact ih1 _ _ _)
      | (with_reducible exact LeO.refl _)
      | (with_reducible exact LeO.none _)
      | (with_reducible refine LeO.ite ?_ ?_)
      | (with_reducible refine LeO.bind ?_ (fun _ => ?_))
      | exact ih0 _ _
      | exact ih1 _ _ _
      | exact LeO.none _
      | refine LeO.ite ?_ ?_
      | refine LeO.bind ?_ (fun _ => ?_)
    · intro y0 y1 y2
      unfold logjamref03_bit.l0
      repeat' first
      | (with_reducible exact ih0 _ _)
      | (with_reducible exact ih1 _ _ _)
      | (with_reducible exact LeO.refl _)
      | (with_reducible exact LeO.none _)
      | (with_reducible refine LeO.ite ?_ ?_)
      | (with_reducible refine LeO.bind ?_ (fun _ => ?_))
      | exact ih0 _ _
      | exact ih1 _ _ _
      | exact LeO.none _
      | refine LeO.ite ?_ ?_
      | refine LeO.bind ?_ (fun _ => ?_)
theorem logjamref03_bit.mono : ∀ a0 a1 k, LeO (logjamref03_bit.f k a0 a1) (logjamref03_bit.f (k + 1) a0 a1) := by
  intro a0 a1 k
  obtain ⟨ih0, ih1⟩ := logjamref03_bit.mono_l k
  unfold logjamref03_bit.f
  repeat' first
      | (with_reducible exact ih0 _ _)
      | (with_reducible exact ih1 _ _ _)
      | (with_reducible exact LeO.refl _)
      | (with_reducible exact LeO.none _)
      | (with_reducible refine LeO.ite ?_ ?_)
      | (with_reducible refine LeO.bind ?_ (fun _ => ?_))
      | exact ih0 _ _
      | exact ih1 _ _ _
      | exact LeO.none _
      | refine LeO.ite ?_ ?_
      | refine LeO.bind ?_ (fun _ => ?_)
set_option maxHeartbeats 8000000 in
set_option maxRecDepth 100000 in
theorem logjamref03_bit.calls (k : Nat) (a0 : Int) (a1 : Int) (r : Int) (w : World) (h : logjamref03_bit.f k a0 a1 = some r) :
    Calls Try.prog 22 #[.int .i64 a0, .int .i64 a1] w fun e w' => e = .returned (.int .i64 r) ∧ Drawn0 w w' := by
  have H : (if a0 < 0 then (logjamref03_bit.j0 k (wrap64 (a0 + 4294967296)) a1) else (logjamref03_bit.j0 k a0 a1)) = some r := h
  clear h
  have HC3 := Aside0.mk H
  clear H
  go_enter Try.func22, Try.ntmps22
  go_upto_if 7 with (fail)
  go_cut [0] (fun v0 wc => ∃ (kq : Nat) (x0_2 : Int), v0 = .int .i64 x0_2 ∧ Aside0 (logjamref03_bit.j0 kq x0_2 a1 = some r) ∧ Aside0 (kq ≤ k) ∧ Drawn0 w wc)
  case first =>
    have H := HC3.out
    clear HC3
    by_cases c4 : a0 < 0
    · rw [if_pos c4] at H
      have c4b0 : decide (a0 < 0) = true := decide_eq_true c4
      clear c4
      (first | rw [c4b0] | (simp only [i64_w, i32_w]; rw [c4b0]) | skip)
      have H' := Aside0.mk H
      clear H
      go_wp2
      go_meet
      case rel => exact ⟨_, (wrap64 (a0 + 4294967296)), (by first | rfl | (simp; done) | (simp [*]; done)), H', ⟨by first | omega | exact Nat.le_refl _⟩, by repeat (first | exact Drawn0.refl _ | apply Drawn0.step)⟩
    · rw [if_neg c4] at H
      have c4b0 : decide (a0 < 0) = false := decide_eq_false c4
      clear c4
      (first | rw [c4b0] | (simp only [i64_w, i32_w]; rw [c4b0]) | skip)
      have H' := Aside0.mk H
      clear H
      go_wp2
      go_meet
      case rel => exact ⟨_, (a0), (by first | rfl | (simp; done) | (simp [*]; done)), H', ⟨by first | omega | exact Nat.le_refl _⟩, by repeat (first | exact Drawn0.refl _ | apply Drawn0.step)⟩
  case rest =>
    clear HC3
    try clear c2
    try clear p2
    try clear c4
    try clear c4b0
    obtain ⟨kq, x0_2, rfl, HA, HJ2, ⟨mc2, rfl⟩⟩ := hcut
    cases kq with
    | zero => exact absurd HA.out (by simp [logjamref03_bit.j0])
    | succ kj2 =>
      have H := HA.out
      clear HA
      simp only [logjamref03_bit.j0] at H
      have H' := Aside0.mk H
      clear H
      go_wp2
      go_loopg [0, 5] kj2 (fun kq v0 v5 w' => ∃ (x0_2 : Int) (x5_2 : Int), v0 = .int .i64 x0_2 ∧ v5 = .int .i64 x5_2 ∧ Aside0 (logjamref03_bit.l0 kq x0_2 a1 x5_2 = some r) ∧ Aside0 (kq ≤ kj2) ∧ Drawn0 w w')
      case atStart => exact ⟨(x0_2), (0), (by first | rfl | (simp; done) | (simp [*]; done)), (by first | rfl | (simp; done) | (simp [*]; done)), H', ⟨Nat.le_refl _⟩, by repeat (first | exact Drawn0.refl _ | apply Drawn0.step)⟩
      case round =>
        clear H'
        try clear c2
        try clear p2
        try clear c4
        try clear c4b0
        try clear p2
        obtain ⟨x0_2, x5_2, rfl, rfl, HA, HK2, ⟨m2, rfl⟩⟩ := hrel
        cases gk with
        | zero => exact absurd HA.out (by simp [logjamref03_bit.l0])
        | succ k2 =>
          have H := HA.out
          clear HA
          simp only [logjamref03_bit.l0] at H
          by_cases c5 : x5_2 < a1
          · rw [if_pos c5] at H
            have c5b0 : decide (x5_2 < a1) = true := decide_eq_true c5
            clear c5
            have H' := Aside0.mk H
            clear H
            go_wp2
            go_roundg k2
            case measure => have := HJ2.out; have := HK2.out; omega
            case rel => exact ⟨(wrap64 (Int.tdiv x0_2 2)), (wrap64 (x5_2 + 1)), (by first | rfl | (simp; done) | (simp [*]; done)), (by first | rfl | (simp; done) | (simp [*]; done)), H', ⟨by have := HJ2.out; have := HK2.out; omega⟩, by repeat (first | exact Drawn0.refl _ | apply Drawn0.step)⟩
          · rw [if_neg c5] at H
            have c5b0 : decide (x5_2 < a1) = false := decide_eq_false c5
            clear c5
            obtain rfl := Option.some.inj H
            go_wp2
            go_ret
            exact ⟨by first | rfl | (simp; done) | (simp [*]; done), by repeat (first | exact Drawn0.refl _ | apply Drawn0.step)⟩

end Go.Proofs.Ythkmjhbiaolmkaa.PWordDoes
