/- One instruction, of frames that come of a program that may run: the program's and the document's are one, and the frames stay such. -/
import Derived.Test.YtcnfbifekdmacaaE15C
import Derived.Test.YtcnfbifekdmacaaE15W
namespace LJ
open Go Go.RowKit
set_option linter.unusedVariables false
set_option linter.unusedSimpArgs false

def codeF (p : T_api_Program) (f : Fr) : List T_api_Ins := (p.Funcs.getD f.Fn.toNat default).Code
/-- A frame that stands at its place with as many values as the place has, but for e that are to come. -/
structure FrI (p : T_api_Program) (f : Fr) (e : Int) : Prop where
  w : FW f
  fn : 0 ≤ f.Fn ∧ f.Fn < p.Funcs.length
  n : 0 ≤ f.N
  pc : 0 ≤ f.Pc ∧ f.Pc < (codeF p f).length
  dep : ∃ D a, ref11_Of p f.Fn = some (D, a, 0) ∧ OkR p (codeF p f) D ∧ D.getD f.Pc.toNat default = f.N + e
structure Inv (p : T_api_Program) (l : List Fr) (e : Int) : Prop where
  pos : 0 < l.length
  most : l.length ≤ 8
  last : FrI p (lastF l) e
  rest : ∀ f ∈ l.take (l.length - 1), FrI p f 1
theorem take_set' {α : Type} (l : List α) (i : Nat) (a : α) : (l.set i a).take i = l.take i := by
  refine List.ext_getElem? fun k => ?_
  rw [List.getElem?_take, List.getElem?_take]
  split
  · rw [List.getElem?_set_ne (by omega)]
  · rfl
theorem Inv.put {p : T_api_Program} {l : List Fr} {e0 e : Int} (h : Inv p l e0) {f : Fr} (hf : FrI p f e) : Inv p (putF l f) e := by
  refine ⟨by rw [putF_len]; exact h.pos, by rw [putF_len]; exact h.most, by rw [lastF_put h.pos]; exact hf, fun g hg => ?_⟩
  rw [putF_len] at hg
  unfold putF at hg
  rw [take_set'] at hg
  exact h.rest g hg
theorem lastF_app (X : List Fr) (g : Fr) : lastF (X ++ [g]) = g := by
  unfold lastF
  rw [List.length_append, List.length_singleton, Nat.add_sub_cancel, List.getD_eq_getElem?_getD, List.getElem?_append_right (Nat.le_refl _), Nat.sub_self]
  rfl
theorem Inv.app {p : T_api_Program} {l : List Fr} {e0 : Int} (h : Inv p l e0) (h8 : l.length < 8) {f g : Fr} (hf : FrI p f 1) (hg : FrI p g 0) : Inv p (putF l f ++ [g]) 0 := by
  refine ⟨by simp, by simp [putF_len]; omega, by rw [lastF_app]; exact hg, fun x hx => ?_⟩
  rw [List.length_append, List.length_singleton, Nat.add_sub_cancel, List.take_left'] at hx
  · rw [← put_take h.pos] at hx
    rcases List.mem_append.1 hx with h1 | h1
    · exact h.rest x h1
    · rw [List.mem_singleton.1 h1]; exact hf
  · rfl
/-- The instruction at which a frame is. -/
def insF (p : T_api_Program) (f : Fr) : T_api_Ins := (codeF p f).getD f.Pc.toNat default
/-- What the frame's depths tell of what follows. -/
structure At (p : T_api_Program) (f : Fr) : Prop where
  ok : OkI (insF p f)
  call : CallOk p (insF p f)
  args : 0 ≤ argsR p (insF p f) ∧ argsR p (insF p f) ≤ 8
  v0 : 0 ≤ popsN (insF p f) (argsR p (insF p f)) ∧ popsN (insF p f) (argsR p (insF p f)) ≤ 8 ∧ ((insF p f).Op ≠ 20 → popsN (insF p f) (argsR p (insF p f)) ≤ 5)
  takes : 0 ≤ f.N - popsN (insF p f) (argsR p (insF p f))
  u : 0 ≤ pushN (insF p f).Op ∧ pushN (insF p f).Op ≤ 2
  most : f.N - popsN (insF p f) (argsR p (insF p f)) + pushN (insF p f).Op ≤ 16
  n16 : f.N ≤ 16
  next : ∀ t ∈ waysL (insF p f) f.Pc, ∀ (L S : List Int) (N e : Int), L.length = 8 → S.length = 16 → 0 ≤ N → N + e = f.N - popsN (insF p f) (argsR p (insF p f)) + pushN (insF p f).Op → FrI p ⟨f.Fn, t, N, L, S⟩ e
theorem FrI.at {p : T_api_Program} (R : Runs p) {f : Fr} (h : FrI p f 0) : At p f := by
  obtain ⟨D, a, h1, h2, h3⟩ := h.dep
  have hF := R.ok.fns f.Fn.toNat (by have := h.fn; omega)
  have hlt : f.Pc.toNat < (codeF p f).length := by have := h.pc; omega
  have hI : OkI (insF p f) := hF.ins _ hlt
  have hd : D.getD f.Pc.toNat default = f.N := by omega
  have hg := h2.good f.Pc.toNat hlt (by rw [hd]; exact h.n)
  have ha := argsR_rng R.ok hI
  have hv := popsN_rng hI ha
  have hu := pushN_rng hI.op
  have hpc : ((f.Pc.toNat : Nat) : Int) = f.Pc := Int.toNat_of_nonneg h.pc.1
  have hb : behR p ((codeF p f).getD f.Pc.toNat default) (D.getD f.Pc.toNat default) = f.N - popsN (insF p f) (argsR p (insF p f)) + pushN (insF p f).Op := by rw [hd]; rfl
  have ht := hg.takes
  have hm := hg.most
  have hw := hg.ways
  rw [hb] at hm hw
  rw [hd] at ht
  rw [hpc] at hw
  refine ⟨hI, (R.fns f.Fn.toNat (by have := h.fn; omega)).calls _ hlt, ha, hv, ht, hu, hm, by have := h2.rng f.Pc.toNat; omega, fun t htm L S N e hL hS hN he => ?_⟩
  obtain ⟨q1, q2⟩ := hw t htm
  have hnn := ways_nn hI h.pc.1 t htm
  exact ⟨⟨hL, hS⟩, h.fn, hN, ⟨hnn, q1⟩, D, a, h1, h2, by rw [q2]; exact he.symm⟩
theorem way_next {x : T_api_Ins} (h18 : x.Op ≠ 18) (h21 : x.Op ≠ 21) (i : Int) : i + 1 ∈ waysL x i := by
  unfold waysL
  rw [iNe_t h18, iNe_t h21]
  exact List.mem_append_left _ (List.mem_singleton.2 rfl)
theorem way_jump {x : T_api_Ins} (h : x.Op = 18 ∨ x.Op = 19) (i : Int) : x.A ∈ waysL x i := by
  unfold waysL
  rw [show (iEq x.Op 18 || iEq x.Op 19) = true by rw [Bool.or_eq_true, iEq_iff, iEq_iff]; exact h]
  exact List.mem_append_right _ (List.mem_singleton.2 rfl)
/-- What comes of an instruction. -/
def Res (p : T_api_Program) (l : List Fr) (r : Ex) : Prop :=
  (r.2.2 ≠ 0 ∧ r.1 = l ∧ r.2.1.Op = -1) ∨ (r.2.2 = 0 ∧ r.2.1.Op = -2 ∧ r.1 = [] ∧ l.length = 1) ∨ (r.2.2 = 0 ∧ r.2.1.Op = -1 ∧ Inv p r.1 0) ∨ (r.2.2 = 0 ∧ 0 ≤ r.2.1.Op ∧ r.2.1.Op < 52 ∧ Inv p r.1 (pushN r.2.1.Op) ∧ r.2.1.Op = (insF p (lastF l)).Op)
def Step (p : T_api_Program) (l : List Fr) (a b : Option Ex) : Prop := ∃ r, a = some r ∧ b = some r ∧ Res p l r
section
variable {p : T_api_Program} {l : List Fr}
theorem at_eq (hI : Inv p l 0) : atE p l = (insF p (lastF l), (lastF l).Pc, true) := by
  have h := hI.last
  have hp := hI.pos
  have hpc := h.pc
  have hfn := h.fn
  unfold atE
  rw [if_neg]
  · rfl
  · unfold codeF at hpc
    omega
theorem refAt_eq (hI : Inv p l 0) : ref15_At p l = some (insF p (lastF l)) := by
  have h := hI.last
  have hp := hI.pos
  have hm := hI.most
  have hpc := h.pc
  have hfn := h.fn
  unfold ref15_At
  rw [lastD hp (by omega), Int.toNat_natCast, show l.getD (l.length - 1) default = lastF l from rfl, need_of (nIn_of ⟨by omega, by omega⟩), need_of (nIn_of ⟨by omega, by omega⟩), need_of (nIn_of ⟨by omega, by unfold codeF at hpc; omega⟩)]
  rfl
theorem goF_eq (hI : Inv p l 0) (pc : Int) : goF l pc = putF l ⟨(lastF l).Fn, pc, (lastF l).N, (lastF l).L, (lastF l).S⟩ := by
  unfold goF
  rw [if_neg (by have := hI.pos; omega)]
theorem pop_put (hp : 0 < l.length) {f : Fr} {v : Int} (h : 0 ≤ v ∧ v ≤ f.N ∧ f.N ≤ 16) : popF (putF l f) v = (putF l (popF1 f v), asub f.S (f.N - v) f.N, true) := by
  unfold popF
  rw [lastF_put hp, if_neg (by rw [putF_len]; omega), put_put]
theorem push_put (hp : 0 < l.length) {f : Fr} (v : Int) (h : 0 ≤ f.N ∧ f.N < 16) : pushF (putF l f) v = (putF l (pshF f v), true) := by
  unfold pushF
  rw [lastF_put hp, if_neg (by rw [putF_len]; omega), put_put]
theorem eta3 (z : Ex) : some (z.1, z.2.1, z.2.2) = some z := rfl
theorem step_call (R : Runs p) (hI : Inv p l 0) (h20 : (insF p (lastF l)).Op = 20) (s n : Int) : Step p l (exec_Do p l s n) (ref15_Do p l s n) := by
  have hp := hI.pos
  have hm := hI.most
  have A := hI.last.at R
  have hpc := hI.last.pc
  have hN := hI.last.n
  have hmost := (R.ok.fns (lastF l).Fn.toNat (by have := hI.last.fn; omega)).most
  have hw := hI.last.w
  have hcode : (codeF p (lastF l)).length ≤ 200 := hmost
  have hnx := A.next _ (way_next (by rw [h20]; decide) (by rw [h20]; decide) (lastF l).Pc)
  have hA0 := okJump A.ok (.inr (.inr h20))
  have hA1 := A.call h20
  have hargs : argsR p (insF p (lastF l)) = (p.Funcs.getD (insF p (lastF l)).A.toNat default).Args := by
    unfold argsR
    rw [iEq_t h20, iLt_t hA1]; rfl
  have hv : popsN (insF p (lastF l)) (argsR p (insF p (lastF l))) = argsR p (insF p (lastF l)) := by
    unfold popsN
    rw [iEq_t h20, cond_true]
  have hu : pushN (insF p (lastF l)).Op = 1 := by rw [h20]; rfl
  have htk := A.takes
  have hmo := A.most
  have h16 := A.n16
  have har := A.args
  rw [hv] at htk hmo hnx
  rw [hu] at hmo hnx
  unfold exec_Do ref15_Do
  rw [need_of (nCap_of (by simp; omega)), exec_at_eq p (by omega), bind_some', at_eq hI, List.nil_append, refAt_eq hI, bind_some', need_of (nIn_of ⟨by rw [lastD hp (by omega)]; omega, by rw [lastD hp (by omega)]; omega⟩), lastD hp (by omega), Int.toNat_natCast, show l.getD (l.length - 1) default = lastF l from rfl, ref_Go_eq (by omega), bind_some']
  dsimp only
  rw [Bool.not_true, cond_false, iEq_t h20, cond_true, cond_true, frame_Go_eq (by omega), bind_some', w64 (by omega), goF_eq hI, exec_call_eq p (by rw [putF_len]; omega), bind_some', eta3]
  unfold callE
  rw [putF_len]
  by_cases h8 : l.length = 8
  · rw [if_pos (by omega), iEq_t (by omega), cond_true]
    exact ⟨_, rfl, rfl, .inl ⟨show (3 : Int) ≠ 0 by decide, rfl, rfl⟩⟩
  · have hpop := pop_put hp (f := ⟨(lastF l).Fn, (lastF l).Pc + 1, (lastF l).N, (lastF l).L, (lastF l).S⟩) (v := argsR p (insF p (lastF l))) ⟨har.1, by dsimp only; omega, h16⟩
    rw [if_neg (by omega), if_neg (by omega), iEq_f (by omega), cond_false, need_of (nIn_of ⟨hA0, hA1⟩), ← hargs, ref_Call_eq (by rw [putF_len]; omega) (fun _ => by rw [lastF_put hp]; exact hw), bind_some']
    unfold callF
    rw [hpop]
    dsimp only
    rw [if_neg (by rw [putF_len]; simp; omega)]
    dsimp only
    rw [cond_true]
    refine ⟨_, rfl, rfl, .inr (.inr (.inl ⟨rfl, rfl, ?_⟩))⟩
    dsimp only
    have hf1 : FrI p (popF1 ⟨(lastF l).Fn, (lastF l).Pc + 1, (lastF l).N, (lastF l).L, (lastF l).S⟩ (argsR p (insF p (lastF l)))) 1 := hnx _ _ _ 1 hw.1 (afill_len ..) htk rfl
    have hR := R.fns (insF p (lastF l)).A.toNat (by omega)
    obtain ⟨D, a, q1, q2⟩ := hR.depth
    rw [Int.toNat_of_nonneg hA0] at q1
    have hcl := (R.ok.fns (insF p (lastF l)).A.toNat (by omega)).pos
    exact hI.app (by omega) hf1 ⟨newF_w _ _, ⟨hA0, hA1⟩, Int.le_refl 0, ⟨Int.le_refl 0, by show (0 : Int) < ((p.Funcs.getD (insF p (lastF l)).A.toNat default).Code.length : Int); omega⟩, D, a, q1, q2, q2.d0⟩
end
end LJ
