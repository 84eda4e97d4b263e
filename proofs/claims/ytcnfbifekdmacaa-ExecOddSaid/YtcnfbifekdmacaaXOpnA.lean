/- A logic for the walks: what a law's arguments say, with arrays among them. -/
import Derived.Test.YtcnfbifekdmacaaXArg
import Derived.OpenShut
namespace LJ
open Go Go.RowKit
set_option linter.unusedVariables false
set_option linter.unusedSimpArgs false
def ckOKA (P : Program) : Nat → TypeId → List CK → Bool
  | 0, _, _ => false
  | g + 1, t, ks => Nat.beq (P.cellsOf t) ks.length && (match P.underlying t, ks with
    | some (.int k), [.int k'] => decide (k' = k)
    | some .bool, [.bool] => true
    | some .string, [.str] => true
    | some (.slice e), [.slice es] => Nat.blt 0 es.length && ckOKA P g e es
    | some (.array n e), ks => Nat.beq (P.cellsOf e) 1 && Nat.beq n ks.length && ks.all (fun k => ckOKA P g e [k])
    | some (.struct fs), ks => fieldsCK P (ckOKA P g) ks 0 fs.toList
    | _, _ => false)
section
variable {H : Type} {enc : TypeId × Value → H} {P : Program} {w : World} {base : Nat} {spare : Nat → Bool} {held : Bool}
theorem each_says {cs : List Value} {ks : List CK} : ∀ (m o : Nat), o + m = ks.length → cs.length = ks.length → (∀ i, o ≤ i → i < ks.length → Says w ((cs.drop i).take 1) ((ks.drop i).take 1)) → Says w (cs.drop o) (ks.drop o)
  | 0, o, h, hl, hf => by
    rw [List.drop_eq_nil_of_le (by omega), List.drop_eq_nil_of_le (by omega)]
    exact .nil
  | m + 1, o, h, hl, hf => by
    have := (hf o (Nat.le_refl _) (by omega)).append (each_says m (o + 1) (by omega) hl fun i h1 h2 => hf i (by omega) h2)
    rwa [← List.drop_drop, List.take_append_drop, ← List.drop_drop, List.take_append_drop] at this
theorem fields_saysA {g : Nat} {ks : List CK} {cs : List Value} : ∀ (fs : List Field) (o : Nat), fieldsCK P (ckOKA P g) ks o fs = true → (∀ f ∈ fs, ckOKA P g f.type ((ks.drop f.offset).take (P.cellsOf f.type)) = true → Says w ((cs.drop f.offset).take (P.cellsOf f.type)) ((ks.drop f.offset).take (P.cellsOf f.type))) → cs.length = ks.length → Says w (cs.drop o) (ks.drop o)
  | [], o, h, hf, hl => by
    simp only [fieldsCK] at h
    have := Nat.eq_of_beq_eq_true h
    rw [this, List.drop_length, ← hl, List.drop_length]
    exact .nil
  | f :: fs, o, h, hf, hl => by
    simp only [fieldsCK, Bool.and_eq_true] at h
    obtain ⟨⟨h1, h2⟩, h3⟩ := h
    have ho := Nat.eq_of_beq_eq_true h1
    subst ho
    have p1 := hf f (List.mem_cons_self ..) h2
    have p2 := fields_saysA fs (f.offset + P.cellsOf f.type) h3 (fun f' hf' => hf f' (List.mem_cons_of_mem _ hf')) hl
    have := p1.append p2
    rwa [← List.drop_drop, List.take_append_drop, ← List.drop_drop, List.take_append_drop] at this
theorem open_trodA : ∀ (g : Nat) (t : TypeId) (ks : List CK), ckOKA P g t ks = true → ∀ {fuel : Nat} {cs : List Value} {x : DataW H × List MemPlace}, DataW.trod enc P w base spare held fuel t cs = some x → Says w cs ks
  | 0, t, ks, h, fuel, cs, x, ht => by rw [ckOKA] at h; cases h
  | g + 1, t, ks, h, fuel, cs, x, ht => by
    unfold ckOKA at h
    simp only [Bool.and_eq_true] at h
    obtain ⟨hc, h⟩ := h
    have hc' := Nat.eq_of_beq_eq_true hc
    clear hc
    split at h
    · rename_i k k' hu
      have := of_decide_eq_true h
      subst this
      obtain ⟨n, rfl, _, hw⟩ := DataW.trod_int hu ht
      exact .one .int (.int hw)
    · rename_i hu
      obtain ⟨b, rfl, _⟩ := DataW.trod_bool hu ht
      exact .one .bool .bool
    · rename_i hu
      obtain ⟨s, rfl, _, hs⟩ := DataW.trod_string hu ht
      exact .one .str (.str hs)
    · rename_i e es hu
      simp only [Bool.and_eq_true] at h
      have h0 : 0 < es.length := Nat.le_of_ble_eq_true h.1
      rcases DataW.trod_slice hu ht with ⟨rfl, _⟩ | ⟨a, len, cap, elems, rest, n, _, rfl, _, hb, hl, hm, hlen, hel, _⟩
      · exact .one (d := .slf 0 fun _ => []) (.slf .nil) (.slice (Nat.zero_le _) (fun i hi => by omega) (fun i hi => by omega))
      · have hce : P.cellsOf e = es.length := by
          cases g with
          | zero => have h2 := h.2; rw [ckOKA] at h2; cases h2
          | succ g =>
            have h2 := h.2
            unfold ckOKA at h2
            simp only [Bool.and_eq_true] at h2
            exact Nat.eq_of_beq_eq_true h2.1
        refine slice_says (base := base) h0 hl hm fun i hi => ?_
        have := hel i hi
        rw [hce, List.getElem?_eq_getElem (by omega)] at this
        obtain ⟨cs', h1, h2⟩ := Option.bind_eq_some_iff.1 this
        exact ⟨cs', h1, open_trodA g e es h.2 h2⟩
    · rename_i ks' _ _ n e hu
      simp only [Bool.and_eq_true] at h
      obtain ⟨⟨h1, h2⟩, h3⟩ := h
      have h1 := Nat.eq_of_beq_eq_true h1
      have h2 := Nat.eq_of_beq_eq_true h2
      obtain ⟨xs, m, _, _, hl, hlen, hf⟩ := DataW.trod_array hu ht
      have := each_says (w := w) (cs := cs) (ks := ks') ks'.length 0 (by omega) (by omega) (fun i _ hi => by
        have h4 := hf i (by omega)
        rw [h1, Nat.mul_one, List.getElem?_eq_getElem (by omega)] at h4
        have e1 : (ks'.drop i).take 1 = [ks'[i]] := by rw [List.take_one, List.head?_drop, List.getElem?_eq_getElem hi]; rfl
        rw [e1]
        exact open_trodA g e _ (List.all_eq_true.1 h3 _ (List.getElem_mem hi)) h4)
      simpa using this
    · rename_i fs hu
      obtain ⟨xs, n, _, _, hl, hlen, hf⟩ := DataW.trod_struct hu ht
      have := fields_saysA (w := w) (cs := cs) fs.toList 0 h (fun f hfm hck => by
        obtain ⟨i, hi⟩ := List.getElem?_of_mem hfm
        have hi' : fs[i]? = some f := by simpa using hi
        have h2 := hf i f hi'
        have hlt : i < xs.length := by rw [hlen]; exact (Array.getElem?_eq_some_iff.1 hi').1
        rw [List.getElem?_eq_getElem hlt] at h2
        exact open_trodA g f.type _ hck h2) (by omega)
      simpa using this
    · cases h
theorem open_oneA {t : TypeId} {k : CK} {v : Value} {d : DataW H} {ps : List MemPlace} (g : Nat) (hk : ckOKA P g t [k] = true) (hv : v.cells = #[v]) (h : DataW.Trod enc P w 0 (fun _ => true) true t v d ps) : ∃ x, RepD (fun b => b < w.heap.size) w v x ∧ Conf k x := by
  obtain ⟨fuel, h⟩ := h
  obtain ⟨h1, ds, h2, h3, h4⟩ := open_trodA g t [k] hk h
  match ds, h2 with
  | [x], _ => exact ⟨x, h3 0 v x (by rw [hv]; rfl) rfl, h4 0 k x rfl rfl⟩
theorem open_aggA {t : TypeId} {ks : List CK} {cs : Array Value} {d : DataW H} {ps : List MemPlace} (g : Nat) (hk : ckOKA P g t ks = true) (h : DataW.Trod enc P w 0 (fun _ => true) true t (.agg cs) d ps) : ∃ ds, ConfL ks ds ∧ RepD (fun b => b < w.heap.size) w (.agg cs) (.agg ds) := by
  obtain ⟨fuel, h⟩ := h
  obtain ⟨h1, ds, h2, h3, h4⟩ := open_trodA g t ks hk h
  refine ⟨ds, ⟨h2, h4⟩, ?_⟩
  have : Value.agg cs = .agg cs.toList.toArray := by simp
  rw [this]
  exact .agg (by rw [h2]; exact h1) h3
end
end LJ
