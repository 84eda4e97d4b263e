/- What the arguments of a law weigh: the bulk of what a value says is at most the bulk of its reading. -/
import Derived.Test.YtfbdapchaofeoaaXBulk
import Derived.Test.YtfbdapchaofeoaaRows
namespace LJ
open Go Go.RowKit
set_option linter.unusedVariables false
set_option linter.unusedSimpArgs false

section
open Go.Proofs.Ytfbdapchaofeoaa
variable {H : Type} {enc : TypeId × Value → H} {P : Program} {w : World} {base : Nat} {spare : Nat → Bool} {held : Bool} {F : Nat → Prop}
theorem one_le {H : Type} (d : DataW H) : 1 ≤ Rows.uptoBulk d := by
  cases d with
  | lit l => cases l <;> simp [Rows.uptoBulk]
  | nil => simp [Rows.uptoBulk]
  | ptr d => simp [Rows.uptoBulk]
  | slice elems spare => simp [Rows.uptoBulk]
  | agg parts => simp [Rows.uptoBulk]
  | iface t d => simp [Rows.uptoBulk]
  | map entries => simp [Rows.uptoBulk]
  | held h => simp [Rows.uptoBulk]
def RepL (F : Nat → Prop) (w : World) (cs : List Value) (ds : List DV) : Prop := ∀ (i : Nat) (v : Value) (d : DV), cs[i]? = some v → ds[i]? = some d → RepD F w v d
theorem RepL.sub {cs : List Value} {ds : List DV} (h : RepL F w cs ds) (o n : Nat) : RepL F w ((cs.drop o).take n) ((ds.drop o).take n) := by
  intro i v d hv hd
  rw [List.getElem?_take] at hv hd
  split at hv
  · rename_i hi
    rw [if_pos hi] at hd
    rw [List.getElem?_drop] at hv hd
    exact h _ v d hv hd
  · cases hv
theorem RepL.one {v : Value} {ks : List CK} {k : CK} {ds : List DV} (h : RepL F w [v] ds) (hs : ShpL [k] ds) : ∃ d, ds = [d] ∧ RepD F w v d ∧ Shp k d := by
  obtain ⟨h1, h2⟩ := hs
  match ds, h1 with
  | [d], _ => exact ⟨d, rfl, h 0 v d rfl rfl, h2 0 k d rfl rfl⟩
theorem sum_le : ∀ (n : Nat) (f : Nat → Nat) (l : List (DataW H × List MemPlace)), l.length = n → (∀ i y, l[i]? = some y → f i ≤ Rows.uptoBulk y.1) → ((List.range n).map f).sum ≤ Rows.uptoBulkAll (l.map (·.1))
  | 0, f, l, hl, h => by simp
  | n + 1, f, [], hl, h => by simp at hl
  | n + 1, f, y :: l, hl, h => by
    have h0 := h 0 y rfl
    have ih := sum_le n (fun i => f (i + 1)) l (by simpa using hl) (fun i y' hy => h (i + 1) y' (by simpa using hy))
    rw [List.range_succ_eq_map]
    simp only [List.map_cons, List.map_map, List.sum_cons, Rows.uptoBulkAll]
    have : List.map (f ∘ Nat.succ) (List.range n) = List.map (fun i => f (i + 1)) (List.range n) := rfl
    rw [this]
    omega
theorem fields_bulk {g : Nat} {ks : List CK} {ds : List DV} : ∀ (fs : List Field) (o : Nat) (xs : List (DataW H × List MemPlace)), fieldsCK P (ckOK P g) ks o fs = true → ds.length = ks.length → xs.length = fs.length →
    (∀ (i : Nat) (f : Field) (y : DataW H × List MemPlace), fs[i]? = some f → xs[i]? = some y → ckOK P g f.type ((ks.drop f.offset).take (P.cellsOf f.type)) = true → bulkL ((ds.drop f.offset).take (P.cellsOf f.type)) ≤ Rows.uptoBulk y.1) → bulkL (ds.drop o) ≤ Rows.uptoBulkAll (xs.map (·.1))
  | [], o, xs, h, hl, hx, hf => by
    simp only [fieldsCK] at h
    have := Nat.eq_of_beq_eq_true h
    rw [this, ← hl, List.drop_length]
    simp
  | f :: fs, o, [], h, hl, hx, hf => by simp at hx
  | f :: fs, o, y :: xs, h, hl, hx, hf => by
    simp only [fieldsCK, Bool.and_eq_true] at h
    obtain ⟨⟨h1, h2⟩, h3⟩ := h
    have ho := Nat.eq_of_beq_eq_true h1
    subst ho
    have p1 := hf 0 f y rfl rfl h2
    have p2 := fields_bulk fs (f.offset + P.cellsOf f.type) xs h3 hl (by simpa using hx) (fun i f' y' hf' hy' => hf (i + 1) f' y' (by simpa using hf') (by simpa using hy'))
    have e : ds.drop f.offset = (ds.drop f.offset).take (P.cellsOf f.type) ++ ds.drop (f.offset + P.cellsOf f.type) := by
      rw [← List.drop_drop, List.take_append_drop]
    rw [e, bulkL_append]
    simp only [List.map_cons, Rows.uptoBulkAll]
    omega
theorem trod_bulk : ∀ (g : Nat) (t : TypeId) (ks : List CK), ckOK P g t ks = true → ∀ {fuel : Nat} {cs : List Value} {x : DataW H × List MemPlace}, DataW.trod enc P w base spare held fuel t cs = some x → ∀ {ds : List DV}, ShpL ks ds → RepL F w cs ds → bulkL ds ≤ Rows.uptoBulk x.1
  | 0, t, ks, h, fuel, cs, x, ht, ds, hs, hr => by rw [ckOK] at h; cases h
  | g + 1, t, ks, h, fuel, cs, x, ht, ds, hs, hr => by
    unfold ckOK at h
    simp only [Bool.and_eq_true] at h
    obtain ⟨hc, h⟩ := h
    clear hc
    split at h
    · rename_i k k' hu
      obtain ⟨n, rfl, rfl, hw⟩ := DataW.trod_int hu ht
      obtain ⟨d, rfl, hd, hk⟩ := hr.one (ks := []) hs
      cases hk
      simp [Rows.uptoBulk]
    · rename_i hu
      obtain ⟨b, rfl, rfl⟩ := DataW.trod_bool hu ht
      obtain ⟨d, rfl, hd, hk⟩ := hr.one (ks := []) hs
      cases hk
      simp [Rows.uptoBulk]
    · rename_i hu
      obtain ⟨s, rfl, rfl, _⟩ := DataW.trod_string hu ht
      obtain ⟨d, rfl, hd, hk⟩ := hr.one (ks := []) hs
      cases hk
      cases hd
      simp [Rows.uptoBulk]
    · rename_i e es hu
      simp only [Bool.and_eq_true] at h
      have hs0 := hs
      rcases DataW.trod_slice hu ht with ⟨rfl, rfl⟩ | ⟨a, len, cap, elems, rest, n, _, rfl, rfl, hb, hl, hm, hlen, hel, _⟩
      · obtain ⟨d, rfl, hd, hk⟩ := hr.one (ks := []) hs
        cases hk with
        | @slice _ n f h1 h2 =>
          have hn : n = 0 := by
            cases hd with
            | slf hd =>
              obtain ⟨_, _, e⟩ := hd.sl_inv
              injection e with _ e _
              rw [tab_length] at e
              exact e.symm
          subst hn
          simp [Rows.uptoBulk, bulk_slf]
      · obtain ⟨d, rfl, hd, hk⟩ := hr.one (ks := []) hs
        have hce : P.cellsOf e = es.length := by
          cases g with
          | zero => have h2 := h.2; rw [ckOK] at h2; cases h2
          | succ g =>
            have h2 := h.2
            unfold ckOK at h2
            simp only [Bool.and_eq_true] at h2
            exact Nat.eq_of_beq_eq_true h2.1
        cases hk with
        | @slice _ m f h1 h2 =>
          cases hd with
          | slf hd =>
            have hml : m = len := by
              obtain ⟨_, _, e⟩ := hd.sl_inv
              injection e with _ e _
              rw [tab_length] at e
              exact e.symm
            subst hml
            simp only [bulkL_cons, bulkL_nil, bulk_slf, Rows.uptoBulk]
            have key := sum_le m (fun i => bulkL (f i)) elems hlen (fun i y hy => by
              have hi : i < m := by have := (List.getElem?_eq_some_iff.1 hy).1; omega
              have hy' := hel i hi
              rw [hce, hy] at hy'
              obtain ⟨cs', hc1, hc2⟩ := Option.bind_eq_some_iff.1 hy'
              refine trod_bulk g e es h.2 hc2 (ds := f i) ⟨h1 i hi, h2 i hi⟩ ?_
              obtain ⟨hcl, hcg⟩ := cells_get hc1
              intro j v d hv hd'
              have hj : j < es.length := by rw [← h1 i hi]; exact (List.getElem?_eq_some_iff.1 hd').1
              generalize htab : tab m f = T at hd
              cases hd with
              | nil => first | omega | (have := congrArg List.length htab; rw [tab_length] at this; simp at this; omega)
              | sl u hn h0 hc hsp hF hz hmm hh =>
                rename_i sz
                have hTi : T[i]? = some (f i) := by rw [← htab]; exact tab_get f hi
                have hsz : sz = es.length := by rw [← h1 i hi]; exact (hz i _ hTi).symm
                have c1 := hmm i j _ d hTi hd'
                have c2 := hcg j v hv
                have ha : a = ⟨a.block, a.off, none⟩ := by cases a; simp_all
                rw [ha, Addr.add_lit, Addr.add_lit] at c2
                rw [hsz, show a.off + (i * es.length + j) = a.off + i * es.length + j by omega, c2] at c1
                injection c1 with c1
                rw [c1]
                exact hh i j _ d hTi hd')
            omega
    · rename_i fs hu
      obtain ⟨xs, n, _, rfl, hl, hlen, hf⟩ := DataW.trod_struct hu ht
      have := fields_bulk (P := P) (g := g) (ds := ds) fs.toList 0 xs h hs.1 (by simpa using hlen) (fun i f y hfi hy hck => by
        have h2 := hf i f (by simpa using hfi)
        rw [hy] at h2
        exact trod_bulk g f.type _ hck h2 (hs.sub _ _) (hr.sub _ _))
      simp only [List.drop_zero] at this
      simp only [Rows.uptoBulk]
      omega
    · cases h
/-- An argument's bulk. -/
theorem arg_bulk {t : TypeId} {ks : List CK} {v : Value} {d : DataW H} {ps : List MemPlace} (g : Nat) (hk : ckOK P g t ks = true) (h : DataW.Trod enc P w 0 (fun _ => true) true t v d ps) {ds : List DV} (hs : ShpL ks ds) (hr : RepL F w v.cells.toList ds) : bulkL ds ≤ Rows.uptoBulk d := by
  obtain ⟨fuel, h⟩ := h
  exact trod_bulk g t ks hk h hs hr
theorem RepL.of1 {v : Value} {d : DV} (hv : v.cells = #[v]) (h : RepD F w v d) : RepL F w v.cells.toList [d] := by
  rw [hv]
  intro i v' d' h1 h2
  cases i with
  | zero => simp at h1 h2; subst h1; subst h2; exact h
  | succ i => simp at h1
theorem RepL.ofAgg {v : Value} {ds : List DV} (h : RepD F w v (.agg ds)) : RepL F w v.cells.toList ds := by
  obtain ⟨vs, rfl, hl, hr⟩ := h.agg_inv
  exact hr
theorem bulk_bound {l : List (DataW H)} (hk : Rows.uptoSmall H l = true) : Rows.uptoBulkAll l ≤ 1048576 := of_decide_eq_true hk
end
end LJ
