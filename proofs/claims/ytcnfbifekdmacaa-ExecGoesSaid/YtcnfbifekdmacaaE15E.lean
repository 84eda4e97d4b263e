/- One instruction: the others. -/
import Derived.Test.YtcnfbifekdmacaaE15D
namespace LJ
open Go Go.RowKit
set_option linter.unusedVariables false
set_option linter.unusedSimpArgs false

section
variable {p : T_api_Program} {l : List Fr}
theorem FrI.push {f : Fr} (h : FrI p f 1) (z : Int) : FrI p (pshF f z) 0 := by
  obtain ⟨D, a, h1, h2, h3⟩ := h.dep
  have := h.n
  exact ⟨⟨h.w.1, aset_len ..⟩, h.fn, by show 0 ≤ f.N + 1; omega, h.pc, D, a, h1, h2, by show D.getD f.Pc.toNat default = f.N + 1 + 0; omega⟩
theorem FrI.n15 {f : Fr} (h : FrI p f 1) : f.N < 16 := by
  obtain ⟨D, a, h1, h2, h3⟩ := h.dep
  have := h2.rng f.Pc.toNat
  omega
theorem step_ret (R : Runs p) (hI : Inv p l 0) (h21 : (insF p (lastF l)).Op = 21) (s n : Int) : Step p l (exec_Do p l s n) (ref15_Do p l s n) := by
  have hp := hI.pos
  have hm := hI.most
  have A := hI.last.at R
  have hw := hI.last.w
  have hv : popsN (insF p (lastF l)) (argsR p (insF p (lastF l))) = 1 := by
    unfold popsN
    rw [iEq_f (by omega), cond_false, show (iEq (insF p (lastF l)).Op 41 || iEq (insF p (lastF l)).Op 42) = false by rw [h21]; rfl, cond_false, h21]
    rfl
  have htk := A.takes
  have h16 := A.n16
  rw [hv] at htk
  unfold exec_Do ref15_Do
  rw [need_of (nCap_of (by simp; omega)), exec_at_eq p (by omega), bind_some', at_eq hI, List.nil_append, refAt_eq hI, bind_some', need_of (nIn_of ⟨by rw [lastD hp (by omega)]; omega, by rw [lastD hp (by omega)]; omega⟩), ref_Go_eq (by omega), bind_some']
  dsimp only
  rw [Bool.not_true, cond_false, iEq_f (show (insF p (lastF l)).Op ≠ 20 by omega), cond_false, cond_false, iEq_t h21, cond_true, cond_true, frame_Ret_eq (by omega), bind_some', ref_Ret_eq (by omega) (fun _ => hw), bind_some', withK_eq]
  have htop : topF l = ((popF l 1).2.1.getD 0 default, true) := by
    unfold topF
    rw [if_neg]
    unfold popF
    rw [if_neg (by omega)]
    exact fun h => by cases h
  generalize hz : (popF l 1).2.1.getD 0 default = z at htop
  by_cases h1 : l.length = 1
  · have hr : retF l = ([], z, true) := by
      unfold retF
      rw [htop, if_neg (show ¬ (true = false) by decide), if_pos h1]
    rw [hr, iEq_t (by omega)]
    exact ⟨([], ⟨-2, 0, 0, [z, 0, 0, 0, 0]⟩, 0), rfl, rfl, .inr (.inl ⟨rfl, rfl, rfl, h1⟩)⟩
  · have hl2 : (l.take (l.length - 1)).length = l.length - 1 := by rw [List.length_take]; omega
    have hmem : lastF (l.take (l.length - 1)) ∈ l.take (l.length - 1) := by
      unfold lastF
      rw [List.getD_eq_getElem?_getD, List.getElem?_eq_getElem (by omega)]
      exact List.getElem_mem _
    have hlast := hI.rest _ hmem
    have hpush : pushF (l.take (l.length - 1)) z = (putF (l.take (l.length - 1)) (pshF (lastF (l.take (l.length - 1))) z), true) := by
      unfold pushF
      rw [if_neg (by have := hlast.n; have := hlast.n15; omega)]
    have hr : retF l = (putF (l.take (l.length - 1)) (pshF (lastF (l.take (l.length - 1))) z), z, true) := by
      unfold retF
      rw [htop, if_neg (show ¬ (true = false) by decide), if_neg h1, hpush, if_neg (show ¬ (true = false) by decide)]
    rw [hr, iEq_f (by omega)]
    refine ⟨(putF (l.take (l.length - 1)) (pshF (lastF (l.take (l.length - 1))) z), noE, 0), rfl, rfl, .inr (.inr (.inl ⟨rfl, rfl, ?_⟩))⟩
    have hI2 : Inv p (l.take (l.length - 1)) 1 := ⟨by omega, by omega, hlast, fun f hf => hI.rest f (List.mem_of_mem_take hf)⟩
    exact hI2.put (hlast.push z)
/-- Into an effect, value by value. -/
theorem l16_ref (x : T_api_Ins) (q : List Fr × List Int × Bool) (hq : q.2.1.length ≤ 5) : ∀ (n i f : Nat) (X : List Int), i + n = q.2.1.length → n < f → X.length = 5 → (∀ k, k < 5 → X.getD k default = if k < i then q.2.1.getD k default else 0) → ref15_Do_l16 x q f ((i : Int), X) = some (q.1, ⟨x.Op, x.A, x.B, acopy 5 [0, 0, 0, 0, 0] 0 5 q.2.1⟩, 0)
  | n, i, 0, X, hi, hf, hX, hk => by omega
  | 0, i, f + 1, X, hi, hf, hX, hk => by
    rw [ref15_Do_l16]
    dsimp only
    rw [iLt_f (by omega), cond_false]
    have : X = acopy 5 [0, 0, 0, 0, 0] 0 5 q.2.1 := ext_getD 5 hX (by simp [acopy]) fun k h => by
      have z : ∀ j : Fin 5, ([0, 0, 0, 0, 0] : List Int).getD j default = 0 := by decide
      rw [hk k h, acopy_getD 5 _ 0 5 _ k h, z ⟨k, h⟩]
      by_cases c : k < i
      · rw [if_pos c, if_pos ⟨by omega, by omega⟩]; rfl
      · rw [if_neg c, if_neg (by omega)]
    rw [this]
  | n + 1, i, f + 1, X, hi, hf, hX, hk => by
    rw [ref15_Do_l16]
    dsimp only
    rw [iLt_t (by omega), cond_true, need_of (nIn_of ⟨by omega, by omega⟩), need_of (nIn_of ⟨by omega, by omega⟩), w64 (by omega), show (i : Int) + 1 = ((i + 1 : Nat) : Int) by omega, Int.toNat_natCast]
    refine l16_ref x q hq n (i + 1) f _ (by omega) (by omega) (aset_len ..) fun k h => ?_
    rw [aset_getD _ _ _ _ k h]
    by_cases c : k = i
    · rw [if_pos c, if_pos (by omega), c]
    · rw [if_neg c, hk k h]
      by_cases c2 : k < i
      · rw [if_pos c2, if_pos (by omega)]
      · rw [if_neg c2, if_neg (by omega)]
theorem ref_Local_eq (hl : l.length ≤ 1000) (k : Int) : ref14_Local l k = some (localF l k) := by
  unfold ref14_Local localF
  by_cases hc : l.length = 0 ∨ k < 0 ∨ 8 ≤ k
  · rw [if_pos hc, show ((iEq (l.length : Int) 0 || iLt k 0) || iLt 7 k) = true by
      rw [Bool.or_eq_true, Bool.or_eq_true, iEq_iff, iLt_iff, iLt_iff]; omega, cond_true]
  · rw [if_neg hc, show ((iEq (l.length : Int) 0 || iLt k 0) || iLt 7 k) = false by
      rw [Bool.or_eq_false_iff, Bool.or_eq_false_iff, iEq_iff', iLt_iff', iLt_iff']; omega, cond_false, lastD (by omega) hl, Int.toNat_natCast, show l.getD (l.length - 1) default = lastF l from rfl, need_of (nIn_of ⟨by omega, by omega⟩), need_of (nIn_of ⟨by omega, by omega⟩)]
theorem need_true {α : Type} (k : Option α) : need true k = k := rfl
theorem Step.of {EP : Option (List Fr × Int × Bool)} {RF : Option Ex} (out : List Fr) (fault : Int) (h1 : EP = some (out, fault, true)) (h2 : RF = some (cond (iNe fault 0) (l, noE, fault) (out, noE, 0))) (h3 : fault = 0 → Inv p out 0) :
    Step p l (EP.bind fun (x13 : (List Fr) × Int × Bool) => cond ((iNe x13.2.1 0) || (!x13.2.2)) (some (l, (⟨(-1), 0, 0, ([0, 0, 0, 0, 0] : List Int)⟩ : T_api_Effect), x13.2.1)) (some (x13.1, (⟨(-1), 0, 0, ([0, 0, 0, 0, 0] : List Int)⟩ : T_api_Effect), 0))) RF := by
  rw [h1, h2, bind_some']
  dsimp only
  rw [Bool.not_true, Bool.or_false]
  by_cases h : fault = 0
  · rw [iNe_f h]
    exact ⟨_, rfl, rfl, .inr (.inr (.inl ⟨rfl, rfl, h3 h⟩))⟩
  · rw [iNe_t h]
    exact ⟨_, rfl, rfl, .inl ⟨h, rfl, rfl⟩⟩
theorem step_mid (R : Runs p) (hI : Inv p l 0) (h20 : (insF p (lastF l)).Op ≠ 20) (h21 : (insF p (lastF l)).Op ≠ 21) (s n : Int) : Step p l (exec_Do p l s n) (ref15_Do p l s n) := by
  have hp := hI.pos
  have hm := hI.most
  have A := hI.last.at R
  have hw := hI.last.w
  have hpc := hI.last.pc
  have hmost := (R.ok.fns (lastF l).Fn.toNat (by have := hI.last.fn; omega)).most
  have hcode : (codeF p (lastF l)).length ≤ 200 := hmost
  have hargs : argsR p (insF p (lastF l)) = 0 := by
    unfold argsR
    rw [iEq_f h20]; rfl
  have hops := pops_ref A.ok 0
  have hB := okB A.ok
  have hops2 : op_Pops (insF p (lastF l)) 0 = some (popsN (insF p (lastF l)) 0) := by rw [pops_eq 0 (by omega)]; exact hops
  have htk := A.takes
  have hmo := A.most
  have hv0 := A.v0
  have h16 := A.n16
  have hop := A.ok.op
  have hnx := A.next
  rw [hargs] at htk hmo hv0 hnx
  unfold exec_Do ref15_Do
  rw [need_of (nCap_of (by simp; omega)), exec_at_eq p (by omega), bind_some', at_eq hI, List.nil_append, refAt_eq hI, bind_some', need_of (nIn_of ⟨by rw [lastD hp (by omega)]; omega, by rw [lastD hp (by omega)]; omega⟩), lastD hp (by omega), Int.toNat_natCast, show l.getD (l.length - 1) default = lastF l from rfl, ref_Go_eq (by omega), bind_some']
  dsimp only
  rw [Bool.not_true, cond_false, iEq_f h20, cond_false, cond_false, iEq_f h21, cond_false, cond_false, frame_Go_eq (by omega), bind_some', w64 (a := (lastF l).Pc + 1) (by omega), goF_eq hI, hops, hops2, bind_some', bind_some']
  have hpop := pop_put hp (f := ⟨(lastF l).Fn, (lastF l).Pc + 1, (lastF l).N, (lastF l).L, (lastF l).S⟩) (v := popsN (insF p (lastF l)) 0) ⟨hv0.1, by dsimp only; omega, h16⟩
  rw [frame_Pop_eq (by rw [putF_len]; omega), bind_some', ref_Pop_eq (by rw [putF_len]; omega) (fun _ => by rw [lastF_put hp]; exact hw), bind_some', hpop]
  have hlt : (asub (lastF l).S ((lastF l).N - popsN (insF p (lastF l)) 0) (lastF l).N).length = (popsN (insF p (lastF l)) 0).toNat := by rw [asub_len]; congr 1; omega
  have hf1 : ∀ t ∈ waysL (insF p (lastF l)) (lastF l).Pc, ∀ (L S : List Int) (N e : Int), L.length = 8 → S.length = 16 → 0 ≤ N → N + e = (lastF l).N - popsN (insF p (lastF l)) 0 + pushN (insF p (lastF l)).Op → FrI p ⟨(lastF l).Fn, t, N, L, S⟩ e := hnx
  dsimp only
  generalize asub (lastF l).S ((lastF l).N - popsN (insF p (lastF l)) 0) (lastF l).N = t at hlt
  generalize hfr : popF1 ⟨(lastF l).Fn, (lastF l).Pc + 1, (lastF l).N, (lastF l).L, (lastF l).S⟩ (popsN (insF p (lastF l)) 0) = f1
  have e1 : f1.Fn = (lastF l).Fn ∧ f1.Pc = (lastF l).Pc + 1 ∧ f1.N = (lastF l).N - popsN (insF p (lastF l)) 0 ∧ f1.L.length = 8 ∧ f1.S.length = 16 := by
    rw [← hfr]
    exact ⟨rfl, rfl, rfl, hw.1, afill_len ..⟩
  clear hfr hpop hops hops2
  rw [Bool.not_true, cond_false]
  have hlen : (putF l f1).length ≤ 1000 := by rw [putF_len]; omega
  have hl1 : lastF (putF l f1) = f1 := lastF_put hp f1
  generalize hxe : insF p (lastF l) = x at *
  have nextI : ∀ (L S : List Int) (N e : Int), L.length = 8 → S.length = 16 → 0 ≤ N → N + e = f1.N + pushN x.Op → x.Op ≠ 18 → FrI p ⟨f1.Fn, f1.Pc, N, L, S⟩ e := fun L S N e h1 h2 h3 h4 h18 => by
    rw [e1.1, e1.2.1]
    exact hf1 _ (way_next h18 h21 _) L S N e h1 h2 h3 (by omega)
  have jumpI : (x.Op = 18 ∨ x.Op = 19) → FrI p ⟨f1.Fn, x.A, f1.N, f1.L, f1.S⟩ (pushN x.Op) := fun h => by
    rw [e1.1]
    exact hf1 _ (way_jump h _) _ _ _ _ e1.2.2.2.1 e1.2.2.2.2 (by omega) (by omega)
  have eta : ∀ f : Fr, (⟨f.Fn, f.Pc, f.N, f.L, f.S⟩ : Fr) = f := fun f => rfl
  by_cases h23 : 23 < x.Op
  · rw [Pure_eq, bind_some', iLe_f h23, Bool.and_false, Bool.not_false, cond_true, need_of (nSl_of ⟨by decide, by decide, by decide⟩), iLt_t h23, cond_true]
    have hl16 := l16_ref x (putF l f1, t, true) (by dsimp only; have := hv0.2.2 h20; omega) t.length 0 fuel [0, 0, 0, 0, 0] (by dsimp only; omega) (by have := hv0.2.2 h20; have := fuel_big; omega) rfl (fun k h => by
      have z : ∀ j : Fin 5, ([0, 0, 0, 0, 0] : List Int).getD j default = 0 := by decide
      rw [if_neg (by omega)]; exact z ⟨k, h⟩)
    refine ⟨_, rfl, hl16, .inr (.inr (.inr ⟨rfl, by show 0 ≤ x.Op; omega, hop.2, ?_, by rw [hxe]⟩))⟩
    exact hI.put (nextI f1.L f1.S f1.N _ e1.2.2.2.1 e1.2.2.2.2 (by omega) rfl (by omega))
  · rw [Pure_eq, bind_some', iLe_t (show x.Op ≤ 23 by omega), iLe_t hop.1, Bool.and_self, Bool.not_true, cond_false, iLt_f (show x.Op ≤ 23 by omega), cond_false]
    have pushI : ∀ z, pushN x.Op = 1 → x.Op ≠ 18 → FrI p (pshF f1 z) 0 := fun z hu h18 =>
      nextI f1.L (aset 16 f1.S f1.N.toNat (lowW z)) (f1.N + 1) 0 e1.2.2.2.1 (aset_len ..) (by omega) (by omega) h18
    have pushP : ∀ z, pushN x.Op = 1 → pushF (putF l f1) z = (putF l (pshF f1 z), true) := fun z hu => push_put hp z ⟨by omega, by omega⟩
    by_cases hw3 : 3 ≤ x.Op ∧ x.Op ≤ 15
    · have k0 := iEq_f (show x.Op ≠ 0 by omega)
      have k1 := iEq_f (show x.Op ≠ 1 by omega)
      have k22 := iEq_f (show x.Op ≠ 22 by omega)
      have k23 := iEq_f (show x.Op ≠ 23 by omega)
      have k2 := iEq_f (show x.Op ≠ 2 by omega)
      have k17 := iEq_f (show x.Op ≠ 17 by omega)
      have k18 := iEq_f (show x.Op ≠ 18 by omega)
      have k19 := iEq_f (show x.Op ≠ 19 by omega)
      have k16 := iEq_f (show x.Op ≠ 16 by omega)
      have hu : pushN x.Op = 1 := by
        have key : ∀ k : Fin 52, 3 ≤ (k : Nat) → (k : Nat) ≤ 15 → laysT.getD k default = 1 := by decide +kernel
        exact key ⟨x.Op.toNat, by omega⟩ (by dsimp only; omega) (by dsimp only; omega)
      have hn0 : 1 ≤ t.length → nIn (0 : Int) (t.length : Int) = true := fun h => nIn_of ⟨by decide, by omega⟩
      by_cases h8 : x.Op = 8
      · have hv : popsN x 0 = 1 := by
          unfold popsN
          rw [h8]; rfl
        have ht1 : t.length = 1 := by rw [hlt, hv]; rfl
        obtain ⟨r, hr⟩ := word_Do_some x.Op (t.getD (0 : Int).toNat default) 0
        have hr2 : ref03_Do 8 (t.getD (0 : Int).toNat default) 0 = some r := by rw [← h8, ← Do_same hw3]; exact hr
        by_cases hf : r.2 = 0
        · refine Step.of (putF l (pshF f1 r.1)) 0 ?_ ?_ fun _ => hI.put (pushI _ hu (by omega))
          · unfold exec_pure
            simp only [k0, k1, k2, k16, k17, k18, k19, k22, k23, cond_false]
            rw [iLt_f (show (t.length : Int) ≤ 1 by omega), cond_false, need_of (hn0 (by omega)), hr, bind_some', iNe_f hf, cond_false, frame_Push_eq hlen, bind_some', pushP _ hu]
          · simp only [k0, k1, k2, k16, k17, k18, k19, k22, k23, cond_false, Bool.not_false, Bool.false_and, Bool.and_false, Bool.or_false, Bool.false_or, Bool.true_or, withK_eq, need_true, iEq_t h8, cond_true]
            rw [need_of (hn0 (by omega)), hr2, bind_some', iNe_f hf, cond_false, ref_Push_eq hlen, bind_some', pushP _ hu]
            rfl
        · refine Step.of [] r.2 ?_ ?_ fun h => absurd h hf
          · unfold exec_pure
            simp only [k0, k1, k2, k16, k17, k18, k19, k22, k23, cond_false]
            rw [iLt_f (show (t.length : Int) ≤ 1 by omega), cond_false, need_of (hn0 (by omega)), hr, bind_some', iNe_t hf, cond_true]
          · simp only [k0, k1, k2, k16, k17, k18, k19, k22, k23, cond_false, Bool.not_false, Bool.false_and, Bool.and_false, Bool.or_false, Bool.false_or, Bool.true_or, withK_eq, need_true, iEq_t h8, cond_true]
            rw [need_of (hn0 (by omega)), hr2, bind_some', iNe_t hf, cond_true]
            rfl
      · have hv : popsN x 0 = 2 := by
          unfold popsN
          rw [iEq_f h20, cond_false, show (iEq x.Op 41 || iEq x.Op 42) = false by rw [Bool.or_eq_false_iff, iEq_iff', iEq_iff']; omega, cond_false]
          have key : ∀ k : Fin 52, 3 ≤ (k : Nat) → (k : Nat) ≤ 15 → (k : Nat) ≠ 8 → takesT.getD k default = 2 := by decide +kernel
          exact key ⟨x.Op.toNat, by omega⟩ (by dsimp only; omega) (by dsimp only; omega) (by dsimp only; omega)
        have ht2 : t.length = 2 := by rw [hlt, hv]; rfl
        have hn1 : nIn (1 : Int) (t.length : Int) = true := nIn_of ⟨by decide, by omega⟩
        obtain ⟨r, hr⟩ := word_Do_some x.Op (t.getD (0 : Int).toNat default) (t.getD (1 : Int).toNat default)
        have hr2 : ref03_Do x.Op (t.getD (0 : Int).toNat default) (t.getD (1 : Int).toNat default) = some r := by rw [← Do_same hw3]; exact hr
        have h315 : (iLe 3 x.Op && iLe x.Op 15) = true := by rw [Bool.and_eq_true, iLe_iff, iLe_iff]; exact hw3
        by_cases hf : r.2 = 0
        · refine Step.of (putF l (pshF f1 r.1)) 0 ?_ ?_ fun _ => hI.put (pushI _ hu (by omega))
          · unfold exec_pure
            simp only [k0, k1, k2, k16, k17, k18, k19, k22, k23, cond_false]
            rw [iLt_t (show (1 : Int) < (t.length : Int) by omega), cond_true, need_of hn1, need_of (hn0 (by omega)), hr, bind_some', iNe_f hf, cond_false, frame_Push_eq hlen, bind_some', pushP _ hu]
          · simp only [k0, k1, k2, k16, k17, k18, k19, k22, k23, cond_false, Bool.not_false, Bool.false_and, Bool.and_false, Bool.or_false, Bool.false_or, Bool.true_or, withK_eq, need_true, iEq_f h8, h315, cond_true]
            rw [need_of (hn0 (by omega)), need_of hn1, hr2, bind_some', iNe_f hf, cond_false, ref_Push_eq hlen, bind_some', pushP _ hu]
            rfl
        · refine Step.of [] r.2 ?_ ?_ fun h => absurd h hf
          · unfold exec_pure
            simp only [k0, k1, k2, k16, k17, k18, k19, k22, k23, cond_false]
            rw [iLt_t (show (1 : Int) < (t.length : Int) by omega), cond_true, need_of hn1, need_of (hn0 (by omega)), hr, bind_some', iNe_t hf, cond_true]
          · simp only [k0, k1, k2, k16, k17, k18, k19, k22, k23, cond_false, Bool.not_false, Bool.false_and, Bool.and_false, Bool.or_false, Bool.false_or, Bool.true_or, withK_eq, need_true, iEq_f h8, h315, cond_true]
            rw [need_of (hn0 (by omega)), need_of hn1, hr2, bind_some', iNe_t hf, cond_true]
            rfl
    · have : x.Op = 0 ∨ x.Op = 1 ∨ x.Op = 2 ∨ x.Op = 16 ∨ x.Op = 17 ∨ x.Op = 18 ∨ x.Op = 19 ∨ x.Op = 22 ∨ x.Op = 23 := by omega
      have hvv : popsN x 0 = takesT.getD x.Op.toNat default := by
        unfold popsN
        rw [iEq_f h20, cond_false, show (iEq x.Op 41 || iEq x.Op 42) = false by rw [Bool.or_eq_false_iff, iEq_iff', iEq_iff']; omega, cond_false]
      have hn0 : 1 ≤ t.length → nIn (0 : Int) (t.length : Int) = true := fun h => nIn_of ⟨by decide, by omega⟩
      rcases this with h | h | h | h | h | h | h | h | h
      · have hu : pushN x.Op = 1 := by rw [h]; rfl
        refine Step.of (putF l (pshF f1 x.A)) 0 ?_ ?_ fun _ => hI.put (pushI _ hu (by omega))
        · unfold exec_pure
          rw [h]
          show (frame_Push (putF l f1) x.A).bind (fun x2 => some (x2.1, (0 : Int), x2.2)) = _
          rw [frame_Push_eq hlen, bind_some', pushP _ hu]
        · rw [h]
          show (ref14_Push (putF l f1) x.A).bind (fun x56 => some (x56.1, noE, (0 : Int))) = _
          rw [ref_Push_eq hlen, bind_some', pushP _ hu]
          rfl
      · have hu : pushN x.Op = 1 := by rw [h]; rfl
        refine Step.of (putF l (pshF f1 (localF (putF l f1) x.A))) 0 ?_ ?_ fun _ => hI.put (pushI _ hu (by omega))
        · unfold exec_pure
          rw [h]
          show (frame_Local (putF l f1) x.A).bind (fun z => (frame_Push (putF l f1) z).bind (fun x2 => some (x2.1, (0 : Int), x2.2))) = _
          rw [frame_Local_eq hlen, bind_some', frame_Push_eq hlen, bind_some', pushP _ hu]
        · rw [h]
          show (ref14_Local (putF l f1) x.A).bind (fun z => (ref14_Push (putF l f1) z).bind (fun x56 => some (x56.1, noE, (0 : Int)))) = _
          rw [ref_Local_eq hlen, bind_some', ref_Push_eq hlen, bind_some', pushP _ hu]
          rfl
      · have hu : pushN x.Op = 0 := by rw [h]; rfl
        have ht : t.length = 1 := by rw [hlt, hvv, h]; rfl
        have hst : FrI p f1 0 := by have := nextI f1.L f1.S f1.N 0 e1.2.2.2.1 e1.2.2.2.2 (by omega) (by omega) (by omega); rwa [eta] at this
        refine Step.of (storeF (putF l f1) x.A (t.getD (0 : Int).toNat default)) 0 ?_ ?_ fun _ => ?_
        · unfold exec_pure
          rw [h]
          show need (nIn (0 : Int) (t.length : Int)) ((frame_Store (putF l f1) x.A (t.getD (0 : Int).toNat default)).bind (fun z => some (z, (0 : Int), true))) = _
          rw [need_of (hn0 (by omega)), frame_Store_eq hlen, bind_some']
        · rw [h]
          show need (nIn (0 : Int) (t.length : Int)) ((ref14_Store (putF l f1) x.A (t.getD (0 : Int).toNat default)).bind (fun z => some (z, noE, (0 : Int)))) = _
          rw [need_of (hn0 (by omega)), ref_Store_eq hlen, bind_some']
          rfl
        · unfold storeF
          split
          · exact hI.put hst
          · rw [hl1, put_put]
            refine hI.put ?_
            exact nextI _ f1.S f1.N 0 (aset_len ..) e1.2.2.2.2 (by omega) (by omega) (by omega)
      · have hu : pushN x.Op = 2 := by rw [h]; rfl
        have ht : t.length = 1 := by rw [hlt, hvv, h]; rfl
        have p1 : pushF (putF l f1) (t.getD (0 : Int).toNat default) = (putF l (pshF f1 (t.getD (0 : Int).toNat default)), true) := push_put hp _ ⟨by omega, by omega⟩
        have p2 : pushF (putF l (pshF f1 (t.getD (0 : Int).toNat default))) (t.getD (0 : Int).toNat default) = (putF l (pshF (pshF f1 (t.getD (0 : Int).toNat default)) (t.getD (0 : Int).toNat default)), true) := push_put hp _ ⟨by show 0 ≤ f1.N + 1; omega, by show f1.N + 1 < 16; omega⟩
        have hlen2 : (putF l (pshF f1 (t.getD (0 : Int).toNat default))).length ≤ 1000 := by rw [putF_len]; omega
        refine Step.of (putF l (pshF (pshF f1 (t.getD (0 : Int).toNat default)) (t.getD (0 : Int).toNat default))) 0 ?_ ?_ fun _ => hI.put ?_
        · unfold exec_pure
          rw [h]
          show need (nIn (0 : Int) (t.length : Int)) ((frame_Push (putF l f1) (t.getD (0 : Int).toNat default)).bind (fun y => need (nIn (0 : Int) (t.length : Int)) ((frame_Push y.1 (t.getD (0 : Int).toNat default)).bind (fun z => some (z.1, (0 : Int), z.2))))) = _
          rw [need_of (hn0 (by omega)), frame_Push_eq hlen, bind_some', p1, need_of (hn0 (by omega)), frame_Push_eq hlen2, bind_some', p2]
        · rw [h]
          show need (nIn (0 : Int) (t.length : Int)) ((ref14_Push (putF l f1) (t.getD (0 : Int).toNat default)).bind (fun y => need (nIn (0 : Int) (t.length : Int)) ((ref14_Push y.1 (t.getD (0 : Int).toNat default)).bind (fun z => some (z.1, noE, (0 : Int)))))) = _
          rw [need_of (hn0 (by omega)), ref_Push_eq hlen, bind_some', p1, need_of (hn0 (by omega)), ref_Push_eq hlen2, bind_some', p2]
          rfl
        · exact nextI f1.L _ (f1.N + 1 + 1) 0 e1.2.2.2.1 (aset_len ..) (by omega) (by omega) (by omega)
      · have hu : pushN x.Op = 0 := by rw [h]; rfl
        have hst : FrI p f1 0 := by have := nextI f1.L f1.S f1.N 0 e1.2.2.2.1 e1.2.2.2.2 (by omega) (by omega) (by omega); rwa [eta] at this
        refine Step.of (putF l f1) 0 ?_ ?_ fun _ => hI.put hst
        · unfold exec_pure
          rw [h]; rfl
        · rw [h]; rfl
      · have hu : pushN x.Op = 0 := by rw [h]; rfl
        have hgo : goF (putF l f1) x.A = putF l ⟨f1.Fn, x.A, f1.N, f1.L, f1.S⟩ := by
          unfold goF
          rw [if_neg (by rw [putF_len]; omega), hl1, put_put]
        refine Step.of (goF (putF l f1) x.A) 0 ?_ ?_ fun _ => ?_
        · unfold exec_pure
          rw [h]
          show (frame_Go (putF l f1) x.A).bind (fun z => some (z, (0 : Int), true)) = _
          rw [frame_Go_eq hlen, bind_some']
        · rw [h]
          show (ref14_Go (putF l f1) x.A).bind (fun z => some (z, noE, (0 : Int))) = _
          rw [ref_Go_eq hlen, bind_some']
          rfl
        · have := jumpI (.inl h)
          rw [hu] at this
          rw [hgo]
          exact hI.put this
      · have hu : pushN x.Op = 0 := by rw [h]; rfl
        have ht : t.length = 1 := by rw [hlt, hvv, h]; rfl
        by_cases hz : t.getD (0 : Int).toNat default = 0
        · have hgo : goF (putF l f1) x.A = putF l ⟨f1.Fn, x.A, f1.N, f1.L, f1.S⟩ := by
            unfold goF
            rw [if_neg (by rw [putF_len]; omega), hl1, put_put]
          refine Step.of (goF (putF l f1) x.A) 0 ?_ ?_ fun _ => ?_
          · unfold exec_pure
            rw [h]
            show need (nIn (0 : Int) (t.length : Int)) (cond (iEq (t.getD (0 : Int).toNat default) 0) ((frame_Go (putF l f1) x.A).bind (fun z => some (z, (0 : Int), true))) (some (putF l f1, (0 : Int), true))) = _
            rw [need_of (hn0 (by omega)), iEq_t hz, cond_true, frame_Go_eq hlen, bind_some']
          · rw [h]
            show need (!((!(iEq 19 18)) && (iEq 19 19)) || nIn (0 : Int) (t.length : Int)) (cond ((iEq 19 18) || ((iEq 19 19) && (iEq (t.getD (0 : Int).toNat default) 0))) ((ref14_Go (putF l f1) x.A).bind (fun z => some (z, noE, (0 : Int)))) (some (putF l f1, noE, (0 : Int)))) = _
            rw [hn0 (by omega), Bool.or_true, need_true, iEq_t hz, show ((iEq 19 18) || ((iEq 19 19) && true)) = true from rfl, cond_true, ref_Go_eq hlen, bind_some']
            rfl
          · have := jumpI (.inr h)
            rw [hu] at this
            rw [hgo]
            exact hI.put this
        · have hst : FrI p f1 0 := by have := nextI f1.L f1.S f1.N 0 e1.2.2.2.1 e1.2.2.2.2 (by omega) (by omega) (by omega); rwa [eta] at this
          refine Step.of (putF l f1) 0 ?_ ?_ fun _ => hI.put hst
          · unfold exec_pure
            rw [h]
            show need (nIn (0 : Int) (t.length : Int)) (cond (iEq (t.getD (0 : Int).toNat default) 0) ((frame_Go (putF l f1) x.A).bind (fun z => some (z, (0 : Int), true))) (some (putF l f1, (0 : Int), true))) = _
            rw [need_of (hn0 (by omega)), iEq_f hz, cond_false]
          · rw [h]
            show need (!((!(iEq 19 18)) && (iEq 19 19)) || nIn (0 : Int) (t.length : Int)) (cond ((iEq 19 18) || ((iEq 19 19) && (iEq (t.getD (0 : Int).toNat default) 0))) ((ref14_Go (putF l f1) x.A).bind (fun z => some (z, noE, (0 : Int)))) (some (putF l f1, noE, (0 : Int)))) = _
            rw [hn0 (by omega), Bool.or_true, need_true, iEq_f hz, show ((iEq 19 18) || ((iEq 19 19) && false)) = false from rfl, cond_false]
            rfl
      · have hu : pushN x.Op = 1 := by rw [h]; rfl
        refine Step.of (putF l (pshF f1 s)) 0 ?_ ?_ fun _ => hI.put (pushI _ hu (by omega))
        · unfold exec_pure
          rw [h]
          show (frame_Push (putF l f1) s).bind (fun x2 => some (x2.1, (0 : Int), x2.2)) = _
          rw [frame_Push_eq hlen, bind_some', pushP _ hu]
        · rw [h]
          show (ref14_Push (putF l f1) s).bind (fun x56 => some (x56.1, noE, (0 : Int))) = _
          rw [ref_Push_eq hlen, bind_some', pushP _ hu]
          rfl
      · have hu : pushN x.Op = 1 := by rw [h]; rfl
        refine Step.of (putF l (pshF f1 n)) 0 ?_ ?_ fun _ => hI.put (pushI _ hu (by omega))
        · unfold exec_pure
          rw [h]
          show (frame_Push (putF l f1) n).bind (fun x2 => some (x2.1, (0 : Int), x2.2)) = _
          rw [frame_Push_eq hlen, bind_some', pushP _ hu]
        · rw [h]
          show (ref14_Push (putF l f1) n).bind (fun x56 => some (x56.1, noE, (0 : Int))) = _
          rw [ref_Push_eq hlen, bind_some', pushP _ hu]
          rfl
theorem step (R : Runs p) (hI : Inv p l 0) (s n : Int) : Step p l (exec_Do p l s n) (ref15_Do p l s n) := by
  by_cases h20 : (insF p (lastF l)).Op = 20
  · exact step_call R hI h20 s n
  · by_cases h21 : (insF p (lastF l)).Op = 21
    · exact step_ret R hI h21 s n
    · exact step_mid R hI h20 h21 s n
end
end LJ
