/- A logic for the walks: operations that are known not to be carried out. -/
import Derived.Test.YthcinpgklihaoaaXRen
namespace LJ
open Go Go.RowKit
set_option linter.unusedVariables false

/-- Operations behind a test that is known not to come out so: none is carried out. -/
def runSkip (j : Nat) (want : Bool) (g : Nat) : List Oper → Env → Option Env
  | [], E => some E
  | o :: l, E => match gEq j want o.guard with
    | false => none
    | true => match E.get g with
      | .d (.bool b) => match b == want with
        | true => none
        | false => match o.dst with
          | none => none
          | some d => runSkip j want g l ((d, .und) :: E)
      | _ => none
theorem runSkip_ok {P : Program} {c : Ctx} {ops : Array Oper} {Q : Exit → Env → Mem → Prop} {m : Mem} {j g : Nat} {want : Bool} {x : Oper} (hj : ops[j]? = some x) (hx : x.dst = some g) {rest : List Oper} : ∀ {l : List Oper} {E E' : Env}, runSkip j want g l E = some E' → dstsOK c.ntmps l = true → WL c P ops Q rest E' m → WL c P ops Q (l ++ rest) E m
  | [], E, E', h, hd, hk => by
    simp only [runSkip, Option.some.injEq] at h
    subst h
    exact hk
  | o :: l, E, E', h, hd, hk => by
    simp only [dstsOK, dstsP, Bool.and_eq_true] at hd
    simp only [runSkip] at h
    split at h
    · cases h
    · rename_i hg
      split at h
      · rename_i b hb
        split at h
        · cases h
        · rename_i hbw
          split at h
          · cases h
          · rename_i d ho
            have hd1 := hd.1
            rw [ho] at hd1
            exact WL.gskip (gEq_ok hg) hj hx hb hbw ho hd1 (runSkip_ok hj hx h hd.2 hk)
      · cases h
theorem WL.gskips {P : Program} {c : Ctx} {ops : Array Oper} {Q : Exit → Env → Mem → Prop} {m : Mem} {l : List Oper} {E E' : Env} (n j : Nat) (want : Bool) (g : Nat) {x : Oper} (hj : ops[j]? = some x) (hx : x.dst = some g) (h : runSkip j want g (l.take n) E = some E') (hd : dstsOK c.ntmps (l.take n) = true) (hk : WL c P ops Q (l.drop n) E' m) : WL c P ops Q l E m := by
  have := runSkip_ok (P := P) (Q := Q) (m := m) (rest := l.drop n) hj hx h hd hk
  rwa [List.take_append_drop] at this
end LJ
