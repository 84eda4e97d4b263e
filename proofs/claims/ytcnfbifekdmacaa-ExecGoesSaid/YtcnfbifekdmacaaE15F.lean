/- The laws ExecDoes and ExecGoes, plainly. -/
import Derived.Test.YtcnfbifekdmacaaE15E
namespace LJ
open Go Go.RowKit
set_option linter.unusedVariables false
set_option linter.unusedSimpArgs false

theorem lives15b : law15_lives = some true := by decide +kernel
theorem lay_one {p : T_api_Program} {l : List Fr} {e : Int} (hI : Inv p l (e + 1)) (he : 0 ≤ e) : ref14_Push l 1 = some (putF l (pshF (lastF l) 1), true) ∧ Inv p (putF l (pshF (lastF l) 1)) e := by
  obtain ⟨D, a, h1, h2, h3⟩ := hI.last.dep
  have hr := h2.rng (lastF l).Pc.toNat
  have hn := hI.last.n
  have hp := hI.pos
  have hm := hI.most
  have hps : pushF l 1 = (putF l (pshF (lastF l) 1), true) := by
    unfold pushF
    rw [if_neg (by omega)]
  rw [ref_Push_eq (by omega), hps]
  refine ⟨rfl, hI.put ⟨⟨hI.last.w.1, aset_len ..⟩, hI.last.fn, by show 0 ≤ (lastF l).N + 1; omega, hI.last.pc, D, a, h1, h2, by show D.getD (lastF l).Pc.toNat default = (lastF l).N + 1 + e; omega⟩⟩
theorem run_l12 {p : T_api_Program} {K : List Fr → Option (List Fr × Int)} {u : Int} {x : Ex} (hop : 0 ≤ x.2.1.Op) : ∀ (m i f : Nat) (l : List Fr), ((i + m : Nat) : Int) = u → m < f → u ≤ 2 → Inv p l (m : Int) → ∃ l', ref15_Run_l12 K u x f (l, (i : Int)) = K l' ∧ Inv p l' 0
  | m, i, 0, l, hi, hf, hu, hI => by omega
  | 0, i, f + 1, l, hi, hf, hu, hI => by
    rw [ref15_Run_l12]
    dsimp only
    rw [iLt_f (by omega), Bool.false_and, cond_false]
    exact ⟨l, rfl, hI⟩
  | m + 1, i, f + 1, l, hi, hf, hu, hI => by
    obtain ⟨h1, h2⟩ := lay_one (e := (m : Int)) (by rw [show (m : Int) + 1 = ((m + 1 : Nat) : Int) by omega]; exact hI) (by omega)
    rw [ref15_Run_l12]
    dsimp only
    rw [iLt_t (by omega), iLe_t hop, Bool.and_self, cond_true, h1, bind_some', w64 (by omega), show (i : Int) + 1 = ((i + 1 : Nat) : Int) by omega]
    exact run_l12 hop m (i + 1) f _ (by omega) (by omega) hu h2
theorem run_l3 {p : T_api_Program} (R : Runs p) {st : Int} (hst : st ≤ 300) : ∀ (m f i : Nat) (l : List Fr), (st - i).toNat ≤ m → m < f → i ≤ 300 → Inv p l 0 → ∃ l' z, ref15_Run_l3 p st f (l, (i : Int)) = some (l', z) ∧ Inv p l' 0
  | m, 0, i, l, hm, hf, hi, hI => by omega
  | m, f + 1, i, l, hm, hf, hi, hI => by
    rw [ref15_Run_l3]
    dsimp only
    by_cases h : (i : Int) < st
    · have A := hI.last.at R
      obtain ⟨r, _, h2, h3⟩ := step R hI 3 5
      rw [iLt_t h, cond_true, withK_eq, refAt_eq hI, bind_some', push_ref A.ok.op, bind_some', h2, bind_some', w64 (by omega), show (i : Int) + 1 = ((i + 1 : Nat) : Int) by omega]
      have go : ∀ l', Inv p l' 0 → ∃ l2 z, ref15_Run_l3 p st f (l', ((i + 1 : Nat) : Int)) = some (l2, z) ∧ Inv p l2 0 := fun l' h' => run_l3 R hst (m - 1) f (i + 1) l' (by omega) (by omega) (by omega) h'
      rcases h3 with ⟨q1, q2, q3⟩ | ⟨q1, q2, q3, q4⟩ | ⟨q1, q2, q3⟩ | ⟨q1, q2, q3, q4, q5⟩
      · rw [iNe_t q1, Bool.true_or, cond_true]
        exact ⟨_, _, rfl, hI⟩
      · rw [iEq_t q2, Bool.or_true, cond_true]
        exact ⟨_, _, rfl, hI⟩
      · rw [iNe_f q1, iEq_f (by omega), Bool.or_self, cond_false]
        obtain ⟨F, hF⟩ := fuel_pos
        rw [hF, ref15_Run_l12]
        dsimp only
        rw [iLe_f (show r.2.1.Op < 0 by omega), Bool.and_false, cond_false]
        exact go _ q3
      · rw [iNe_f q1, iEq_f (by omega), Bool.or_self, cond_false]
        have hu := pushN_rng A.ok.op
        rw [q5] at q4
        obtain ⟨l', e1, e2⟩ := run_l12 (p := p) (K := fun s6 : List Fr => ref15_Run_l3 p st f (s6, ((i + 1 : Nat) : Int))) (u := pushN (insF p (lastF l)).Op) (x := r) q2 (pushN (insF p (lastF l)).Op).toNat 0 fuel r.1 (by omega) (by have := fuel_big; omega) hu.2 (by rw [Int.toNat_of_nonneg hu.1]; exact q4)
        rw [show (0 : Int) = ((0 : Nat) : Int) from rfl, e1]
        exact go _ e2
    · rw [iLt_f (by omega), cond_false]
      exact ⟨_, _, rfl, hI⟩
theorem begun_ok (p : T_api_Program) (s : T_law15_Start) : ∃ l b, law15_begun p s = some (l, b) ∧ (b = true → Runs p ∧ Inv p l 0) := by
  unfold law15_begun
  obtain ⟨b, h1, h2⟩ := Good_ref p
  rw [h1, bind_some']
  cases hc : (((!b) || (iLt s.Fn 0)) || (iLe (p.Funcs.length : Int) s.Fn)) || (iLt 100 (s.Args.length : Int)) with
  | true => exact ⟨[], false, rfl, fun h => by cases h⟩
  | false =>
    rw [Bool.or_eq_false_iff, Bool.or_eq_false_iff, Bool.or_eq_false_iff, iLt_iff', iLe_iff', iLt_iff', Bool.not_eq_false'] at hc
    have R := h2 hc.1.1.1
    rw [cond_false]
    unfold ref15_Run
    rw [ref_New_eq, bind_some']
    have hR := R.fns s.Fn.toNat (by omega)
    obtain ⟨D, a, q1, q2⟩ := hR.depth
    rw [Int.toNat_of_nonneg hc.1.1.2] at q1
    have hcl := (R.ok.fns s.Fn.toNat (by omega)).pos
    have hI : Inv p [newF s.Fn s.Args] 0 := ⟨Nat.zero_lt_one, by show 1 ≤ 8; decide, ⟨newF_w _ _, ⟨hc.1.1.2, hc.1.2⟩, Int.le_refl 0, ⟨Int.le_refl 0, by show (0 : Int) < ((p.Funcs.getD s.Fn.toNat default).Code.length : Int); omega⟩, D, a, q1, q2, q2.d0⟩, fun f hf => by cases hf⟩
    have hst : iMin s.Steps (300 : Int) ≤ 300 := by unfold iMin; split <;> omega
    obtain ⟨l', z, e1, e2⟩ := run_l3 R hst 300 fuel 0 _ (by omega) (by have := fuel_big; omega) (by omega) hI
    rw [show (0 : Int) = ((0 : Nat) : Int) from rfl, e1, bind_some']
    exact ⟨_, _, rfl, fun _ => ⟨R, e2⟩⟩
theorem own_funcs {p : T_api_Program} (hp : OkP p) : (ownP p).Funcs = p.Funcs := by
  show (p.Funcs.take 20).map ownF = p.Funcs
  rw [List.take_of_length_le (by have := hp.most; omega)]
  refine Eq.trans (List.map_congr_left (g := id) fun F hF => ?_) (List.map_id _)
  obtain ⟨k, hk, e⟩ := List.getElem_of_mem hF
  have := (hp.fns k hk).most
  rw [List.getD_eq_getElem?_getD, List.getElem?_eq_getElem hk, e] at this
  dsimp only [Option.getD_some] at this
  show T_api_Func.mk F.Args F.Locals (F.Code.take 250) = F
  rw [List.take_of_length_le (by omega)]
theorem Do_funcs {p q : T_api_Program} (h : q.Funcs = p.Funcs) (l : List Fr) (s n : Int) : exec_Do q l s n = exec_Do p l s n := by
  unfold exec_Do exec_at exec_call
  simp only [h]
theorem Res.len {p : T_api_Program} {l : List Fr} {r : Ex} (hl : l.length ≤ 8) (h : Res p l r) : r.1.length ≤ 8 := by
  rcases h with ⟨_, q, _⟩ | ⟨_, _, q, _⟩ | ⟨_, _, q⟩ | ⟨_, _, _, q, _⟩
  · rw [q]; exact hl
  · rw [q]; simp
  · exact q.most
  · exact q.most
theorem iEq_same (a : Int) : iEq a a = true := iEq_t rfl
theorem ExecDoes_pure (p : T_api_Program) (s : T_law15_Start) : law15_ExecDoes p s = some true := by
  unfold law15_ExecDoes
  obtain ⟨l, b, h1, h2⟩ := begun_ok p s
  rw [h1, bind_some']
  cases b with
  | false =>
    dsimp only
    rw [Bool.not_false, cond_true, lives15b, bind_some']
  | true =>
    obtain ⟨R, hI⟩ := h2 rfl
    have hm := hI.most
    dsimp only
    obtain ⟨r, e1, e2, e3⟩ := step R hI s.Self s.Now
    have hr := e3.len hm
    rw [Bool.not_true, cond_false, need_of (nCap_of (by simp; omega)), own10x, bind_some', Do_funcs (own_funcs R.ok), e1, bind_some', List.nil_append, e2, bind_some', ref_Same_eq _ (by omega), bind_some', cond_true]
    simp only [iEq_same, Bool.and_self, cond_true]
    rw [ref_Same_eq _ (by omega), bind_some', Bool.and_self, cond_true, lives15b]
    rfl
theorem ExecGoes_pure (p : T_api_Program) (s : T_law15_Start) : law15_ExecGoes p s = some true := by
  unfold law15_ExecGoes
  obtain ⟨l, b, h1, h2⟩ := begun_ok p s
  rw [h1, bind_some']
  cases b with
  | false =>
    dsimp only
    rw [Bool.not_false, cond_true, lives15b, bind_some']
  | true =>
    obtain ⟨R, hI⟩ := h2 rfl
    have hm := hI.most
    dsimp only
    obtain ⟨r, e1, e2, e3⟩ := step R hI s.Self s.Now
    have hr := e3.len hm
    rw [Bool.not_true, cond_false, own10x, bind_some', Do_funcs (own_funcs R.ok), e1, bind_some']
    rcases e3 with ⟨q1, q2, q3⟩ | ⟨q1, q2, q3, q4⟩ | ⟨q1, q2, hJ⟩ | ⟨q1, q2, q3, hJ, q5⟩
    · rw [iNe_t q1, cond_true, q2, ref_Same_eq _ (by omega), bind_some', iEq_t q3, Bool.and_self, cond_true, lives15b]
      rfl
    · rw [iNe_f q1, cond_false, iEq_t q2, cond_true, q3, q4, lives15b]
      rfl
    · rw [iNe_f q1, cond_false, iEq_f (show r.2.1.Op ≠ -2 by omega), cond_false, iLe_f (show r.2.1.Op < 0 by omega)]
      simp only [cond_false]
      have hp := hJ.pos
      obtain ⟨D, a, d1, d2, d3⟩ := hJ.last.dep
      have hpc := hJ.last.pc
      have hlen := d2.len
      have hn := hJ.last.n
      have hrng := d2.rng (lastF r.1).Pc.toNat
      rw [show (iEq (r.1.length : Int) 0 || iLt 8 (r.1.length : Int)) = false by rw [Bool.or_eq_false_iff, iEq_iff', iLt_iff']; omega, cond_false, lastD hp (by omega), Int.toNat_natCast, show r.1.getD (r.1.length - 1) default = lastF r.1 from rfl, need_of (nIn_of ⟨by omega, by omega⟩), d1, bind_some']
      dsimp only
      rw [iEq_t (show (0 : Int) = 0 from rfl), iLe_t hpc.1, iLt_t (show (lastF r.1).Pc < (D.length : Int) by omega), nIn_of (show 0 ≤ (lastF r.1).Pc ∧ (lastF r.1).Pc < (D.length : Int) by omega), Bool.or_true, need_true, w64 (a := (lastF r.1).N + 0) (by omega), iEq_t (by omega)]
      simp only [Bool.and_self, cond_true]
      rw [lives15b]
      rfl
    · have hu := pushN_rng (k := r.2.1.Op) ⟨q2, q3⟩
      rw [iNe_f q1, cond_false, iEq_f (show r.2.1.Op ≠ -2 by omega), cond_false, iLe_t q2, push_ref ⟨q2, q3⟩]
      simp only [cond_true, bind_some']
      have hp := hJ.pos
      obtain ⟨D, a, d1, d2, d3⟩ := hJ.last.dep
      have hpc := hJ.last.pc
      have hlen := d2.len
      have hn := hJ.last.n
      have hrng := d2.rng (lastF r.1).Pc.toNat
      rw [show (iEq (r.1.length : Int) 0 || iLt 8 (r.1.length : Int)) = false by rw [Bool.or_eq_false_iff, iEq_iff', iLt_iff']; omega, cond_false, lastD hp (by omega), Int.toNat_natCast, show r.1.getD (r.1.length - 1) default = lastF r.1 from rfl, need_of (nIn_of ⟨by omega, by omega⟩), d1, bind_some']
      dsimp only
      rw [iEq_t (show (0 : Int) = 0 from rfl), iLe_t hpc.1, iLt_t (show (lastF r.1).Pc < (D.length : Int) by omega), nIn_of (show 0 ≤ (lastF r.1).Pc ∧ (lastF r.1).Pc < (D.length : Int) by omega), Bool.or_true, need_true, w64 (a := (lastF r.1).N + pushN r.2.1.Op) (by omega), iEq_t (by omega)]
      simp only [Bool.and_self, cond_true]
      rw [lives15b]
      rfl
end LJ
