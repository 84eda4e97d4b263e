/- A logic for the walks: small steps between code and contract. -/
import Derived.Test.YtjahbgdjejgkpaaDoorXRun
namespace LJ
open Go Go.RowKit
set_option linter.unusedVariables false

section
variable {K : Env → Mem → Prop} {Q : Exit → Env → Mem → Prop} {E : Env} {m : Mem}
theorem QT.n (h : K E m) : QThen K Q .normal E m := h
theorem QT.r (h : Q .ret E m) : QThen K Q .ret E m := h
theorem QT.x {id : Nat} (h : Q (.exit id) E m) : QThen K Q (.exit id) E m := h
theorem QB.n {id : Nat} (h : Q .normal E m) : QBlock id Q .normal E m := h
theorem QB.r {id : Nat} (h : Q .ret E m) : QBlock id Q .ret E m := h
theorem QB.hit {id : Nat} (h : Q .normal E m) : QBlock id Q (.exit id) E m := by
  show cond (Nat.beq id id) _ _
  rw [Nat.beq_refl]
  exact h
theorem QB.miss {id id' : Nat} (hn : Nat.beq id' id = false) (h : Q (.exit id') E m) : QBlock id Q (.exit id') E m := by
  show cond (Nat.beq id' id) _ _
  rw [hn]
  exact h

/-- What the results' places hold. -/
def outsV (E : Env) (m : Mem) : List ResultVar → Option (List AV)
  | [] => some []
  | .tmp t :: l => match vMove E (.tmp t) with
    | some (_, p) => match outsV E m l with
      | some ps => some (p :: ps)
      | none => none
    | none => none
  | _ :: _ => none
theorem outsV_ok {P : Program} : ∀ {rs : List ResultVar} {ps : List AV}, outsV E m rs = some ps → ∃ qs, Outs P E m rs qs ∧ qs = ps
  | [], ps, h => by simp only [outsV, Option.some.injEq] at h; subst h; exact ⟨[], .nil, rfl⟩
  | .tmp t :: l, ps, h => by
    simp only [outsV] at h
    split at h
    · rename_i ψ p hp
      split at h
      · rename_i qs hq
        injection h with h
        subst h
        obtain ⟨qs', h1, rfl⟩ := outsV_ok (P := P) hq
        refine ⟨_, .tmp rfl h1, ?_⟩
        unfold vMove at hp
        have : E.get t = p := by
          split at hp <;> first | (rename_i hx; injection hp with hp; injection hp with h1 h2; subst h2; simp only [opnd, Option.some.injEq] at hx; exact hx) | cases hp
        rw [this]
      · cases h
    · cases h
  | .cell _ _ :: l, ps, h => by cases h
theorem Ends.auto {P : Program} {fn : Func} {out : AV} {m1 : Mem} {rs : List ResultVar} {ps : List AV} (h1 : fn.results = rs.toArray) (h2 : outsV E m rs = some ps) (h3 : tupled ps = out) (h4 : MemSub m m1) : Ends P fn out m1 .ret E m := by
  obtain ⟨qs, k1, rfl⟩ := outsV_ok (P := P) h2
  exact Ends.mk h1 k1 h3 h4
theorem Ends.auton {P : Program} {fn : Func} {out : AV} {m1 : Mem} {rs : List ResultVar} {ps : List AV} (h1 : fn.results = rs.toArray) (h2 : outsV E m rs = some ps) (h3 : tupled ps = out) (h4 : MemSub m m1) : Ends P fn out m1 .normal E m := by
  obtain ⟨qs, k1, rfl⟩ := outsV_ok (P := P) h2
  exact Ends.mkn h1 k1 h3 h4
end
/-- A contract without memory. -/
theorem Spec.pure {P : Program} {f : FuncId} {fn : Func} {C : Code} {args : List AV} {out : AV} (hf : P.funcs[f]? = some fn) (hb : fn.body = some C) (nt : Nat) (hn : fn.ntmps = nt) (ha : Nat.ble args.length nt = true)
    (h : ∀ w0 F0 S0 B0, WC { w0 := w0, F0 := F0, S0 := S0, ntmps := nt, P0 := [], B0 := B0 } P C (Ends P fn out []) (argEnv args 0) []) : Spec P f args [] out [] :=
  Spec.of_code hf hb nt hn (Nat.le_of_ble_eq_true ha) [] (fun n o hn => by cases hn) h
/-! ### Contracts of those that only look -/
def DV.bare : DV → Bool
  | .int _ _ => true
  | .bool _ => true
  | .str _ => true
  | .nilp => true
  | .nils => true
  | .nili => true
  | _ => false
def AV.bare : AV → Bool
  | .d v => v.bare
  | .tup vs => vs.all fun | .d v => v.bare | _ => false
  | _ => false
theorem RepD.bare {F F' : Nat → Prop} {w w' : World} {v : Value} {d : DV} (hd : d.bare = true) (h : RepD F w v d) : RepD F' w' v d := by
  cases h with
  | int => exact .int
  | bool => exact .bool
  | str => exact .str
  | nilp => exact .nilp
  | nils => exact .nils
  | nili => exact .nili
  | _ => cases hd
theorem Rep.bare {F F' : Nat → Prop} {N N' : Names} {w w' : World} {v : Value} {p : AV} (hp : p.bare = true) (h : Rep F N w v p) : Rep F' N' w' v p := by
  cases h with
  | d h => exact .d (h.bare hp)
  | tup hl h =>
    refine .tup hl fun i v c hv hc => ?_
    have hm := List.all_eq_true.1 (show List.all _ _ = true from hp) c (List.mem_of_getElem? hc)
    cases c with
    | d x => exact .d ((h i v _ hv hc).d_inv.bare hm)
    | _ => cases hm
  | _ => cases hp
theorem inl_names : ∀ {m : Mem} {n : Nat} {o : AObj}, m.get n = some o → inl m.names n = true
  | [], n, o, h => by cases h
  | (k, x) :: m, n, o, h => by
    simp only [Mem.get] at h
    simp only [Mem.names, inl]
    cases e : Nat.beq k n with
    | true => rfl
    | false => rw [e] at h; exact inl_names h
theorem Reads.sub {P : Program} {f : FuncId} {args : List AV} {m m0 : Mem} {out : AV} (h : Reads P f args m0 out) (hs : MemSub m m0) : Reads P f args m out :=
  fun F N w vals hm hl hv => h F N w vals ⟨hm.glob, hm.Fin, fun n o hn => hm.obj n o (hs.get hn), fun n o b hn hb => hm.free n o b (hs.get hn) hb, fun n n' o o' b hn hn' => hm.apart n n' o o' b (hs.get hn) (hs.get hn')⟩ hl hv
theorem Reads.of_code {P : Program} {f : FuncId} {fn : Func} {C : Code} {args : List AV} {m0 : Mem} {out : AV} (hf : P.funcs[f]? = some fn) (hb : fn.body = some C) (nt : Nat) (hn : fn.ntmps = nt) (ha : Nat.ble args.length nt = true) (hout : out.bare = true) (p0 : List Nat)
    (h : ∀ w0 F0 S0 B0 K wK, WC { w0 := w0, F0 := F0, S0 := S0, ntmps := nt, P0 := p0, B0 := B0, K := K, wK := wK, KN := m0.names } P C (Ends P fn out []) (argEnv args 0) m0) : Reads P f args m0 out := by
  intro F N w vals hm hl hr
  have ha' : args.length ≤ nt := Nat.le_of_ble_eq_true ha
  refine calls_of_wp hf hb ?_
  refine wp_mono (h w F (InMem N m0) N (InMem N m0) w _ w ⟨rfl, ?_, F, N, ?_, ?_⟩) ?_
  · simp
    omega
  · exact ⟨fun _ h => h, fun _ h => .inl h, hm.Fin, rfl, rfl, rfl, Nat.le_refl _, fun _ _ _ => rfl, hm.obj, fun n o b hn hb => ⟨hm.free n o b hn hb, .inl ⟨n, o, hn, hb⟩⟩, hm.apart, fun _ _ => ⟨rfl, fun _ => rfl⟩, fun _ _ _ => rfl, fun n o b hn _ _ _ => inl_names hn, Nat.le_refl _⟩
  · refine ⟨fun t => ?_, hm.glob⟩
    rw [argEnv_get, if_pos (Nat.zero_le _), Nat.sub_zero]
    cases hp : args[t]? with
    | none => exact .und
    | some p =>
      have ht : t < args.length := (List.getElem?_eq_some_iff.1 hp).1
      obtain ⟨v, hv⟩ : ∃ v, vals[t]? = some v := ⟨vals[t], List.getElem?_eq_getElem (by omega)⟩
      have : (vals.toArray ++ Array.replicate (fn.ntmps - vals.toArray.size) undef).getD t undef = v := by
        rw [Array.getD_eq_getD_getElem?, Array.getElem?_append_left (by simp; omega)]
        simp [hv]
      show Rep F N w ((vals.toArray ++ Array.replicate (fn.ntmps - vals.toArray.size) undef).getD t undef) (Option.getD (some p) .und)
      rw [this]
      exact hr t v p hv hp
  · have fin : ∀ (E' : Env) (m' : Mem) (a' : Act) (w' : World), (∃ rs ps, fn.results = rs.toArray ∧ Outs P E' m' rs ps ∧ tupled ps = out ∧ ∀ n o, Mem.get [] n = some o → m'.get n = some o) → Rel { w0 := w, F0 := F, S0 := InMem N m0, ntmps := nt, P0 := p0, B0 := N, K := InMem N m0, wK := w, KN := m0.names } E' m' a' w' →
        a'.defers = [] ∧ ∃ v, (results fn a'.tmps).run P w' = .ok v w' ∧ ∃ u F', (Ending.returned v) = .returned u ∧ Rep F' N w' u out ∧ (∀ b, F b → F' b) ∧ (∀ b, F' b → F b ∨ w.heap.size ≤ b) ∧ (∀ b, F' b → b < w'.heap.size) ∧ Grew w w' := by
      rintro E' m' a' w' ⟨rs, ps, h1, h2, h3, h4⟩ ⟨g1, g2, F', N', g3, g4⟩
      obtain ⟨v, hv1, hv2⟩ := results_outs g3.obj g4 h1 h2
      rw [h3] at hv2
      refine ⟨g1, v, hv1, v, F, rfl, hv2.bare hout, fun _ h => h, fun _ h => .inl h, fun b hb => Nat.lt_of_lt_of_le (hm.Fin b hb) g3.size, ⟨g3.os, g3.tape, g3.output, g3.size, fun b hb => ?_⟩⟩
      by_cases hi : InMem N m0 b
      · exact g3.agree b hi hb
      · exact g3.kept b hb hi
    rintro e a' w' ⟨E', m', hq, hrel⟩
    cases e with
    | normal => exact fin E' m' a' w' hq hrel
    | ret => exact fin E' m' a' w' hq hrel
    | exit id => exact hq
    | goto l => exact hq
    | panic ch => exact hq.elim
    | outgrown => exact hq.elim

/-- The arguments' names, and their kinds. -/
def boxOrRow (p0 : List Nat) : Mem → Bool
  | [] => true
  | (n, o) :: l => (inl p0 n || (match o with | .row _ _ _ => true | _ => false)) && boxOrRow p0 l
theorem boxOrRow_ok {p0 : List Nat} : ∀ {m : Mem}, boxOrRow p0 m = true → ∀ n o, m.get n = some o → inl p0 n = true ∨ ∃ E sz es, o = .row E sz es
  | [], _, n, o, h => by cases h
  | (k, x) :: m, hb, n, o, h => by
    simp only [boxOrRow, Bool.and_eq_true, Bool.or_eq_true] at hb
    simp only [Mem.get] at h
    cases e : Nat.beq k n with
    | true =>
      rw [e] at h
      simp only [cond_true, Option.some.injEq] at h
      have := Nat.eq_of_beq_eq_true e
      subst this; subst h
      rcases hb.1 with h1 | h1
      · exact .inl h1
      · split at h1
        · exact .inr ⟨_, _, _, rfl⟩
        · cases h1
    | false => rw [e] at h; exact boxOrRow_ok hb.2 n o h
theorem Spec.code {P : Program} {f : FuncId} {fn : Func} {C : Code} {args : List AV} {m0 : Mem} {out : AV} {m1 : Mem} (hf : P.funcs[f]? = some fn) (hb : fn.body = some C) (nt : Nat) (hn : fn.ntmps = nt) (ha : Nat.ble args.length nt = true) (p0 : List Nat) (hp0 : boxOrRow p0 m0 = true)
    (h : ∀ w0 F0 S0 B0, WC { w0 := w0, F0 := F0, S0 := S0, ntmps := nt, P0 := p0, B0 := B0 } P C (Ends P fn out m1) (argEnv args 0) m0) : Spec P f args m0 out m1 :=
  Spec.of_code hf hb nt hn (Nat.le_of_ble_eq_true ha) p0 (boxOrRow_ok hp0) h

/-- A contract, as a law's row asks for it: the arguments' values, in whatever world. -/
theorem Spec.walk {P : Program} {f : FuncId} {args : List AV} {b : Bool} (h : Spec P f args [] (.d (.bool b)) []) (F : Nat → Prop) (w : World) (vals : List Value) (hF : ∀ b, F b → b < w.heap.size) (hg : GlobAt F w) (hl : vals.length = args.length) (hv : ∀ (i : Nat) (v : Value) (p : AV), vals[i]? = some v → args[i]? = some p → Rep F ⟨fun _ => 0, fun _ => undef⟩ w v p) :
    Calls P f vals.toArray w fun e w' => e = .returned (.bool b) ∧ Below w.heap.size w w' := by
  refine (h F ⟨fun _ => 0, fun _ => undef⟩ w vals ⟨hg, hF, fun n o hn => (by cases hn), fun n o b hn => (by cases hn), fun n n' o o' b hn => (by cases hn)⟩ hl hv).mono ?_
  rintro e w' ⟨v, F', N', hd⟩
  refine ⟨?_, ⟨hd.os, hd.tape, hd.output, hd.size, fun k hk => hd.kept k hk (fun ⟨n, o, hn, _⟩ => by cases hn)⟩⟩
  rw [hd.ending, hd.rep.d_inv.bool_inv]
/-- Values, and what they say, side by side. -/
inductive Reps (F : Nat → Prop) (N : Names) (w : World) : List Value → List AV → Prop
  | nil : Reps F N w [] []
  | cons {v : Value} {p : AV} {vs : List Value} {ps : List AV} (h : Rep F N w v p) (hs : Reps F N w vs ps) : Reps F N w (v :: vs) (p :: ps)
theorem Reps.all {F : Nat → Prop} {N : Names} {w : World} {vs : List Value} {ps : List AV} (h : Reps F N w vs ps) : vs.length = ps.length ∧ ∀ (i : Nat) (v : Value) (p : AV), vs[i]? = some v → ps[i]? = some p → Rep F N w v p := by
  induction h with
  | nil => exact ⟨rfl, fun i v p hv => by simp at hv⟩
  | cons h hs ih =>
    refine ⟨by simp [ih.1], fun i v p hv hp => ?_⟩
    cases i with
    | zero => simp at hv hp; subst hv; subst hp; exact h
    | succ i => simp at hv hp; exact ih.2 i v p hv hp
end LJ
