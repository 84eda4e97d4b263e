import Derived.Test.YtfbdapchaofeoaaXRen
import Derived.Test.YtfbdapchaofeoaaProg
namespace Go.Proofs.Ytfbdapchaofeoaa.Oct
open Go Go.RowKit LJ
set_option linter.unusedVariables false
set_option linter.unusedSimpArgs false
set_option maxRecDepth 10000

/-- The types that the walks meet. -/
def tt : List (Nat × TK) := [(2, .int .i64), (3, .int .i64), (4, .bool), (5, .int .u8), (9, .str), (22, .ptr), (24, .ptr), (25, .slice 5 1), (27, .struct 1 [(0, 1, true)] [.nils]), (31, .int .u64), (33, .int .i64), (39, .slice 42 4), (42, .struct 4 [(0, 1, true), (1, 1, true), (2, 1, true), (3, 1, true)] [.int .i64 0, .int .u64 0, .int .i64 0, .str .empty]), (45, .slice 3 1), (47, .struct 3 [(0, 1, true), (1, 1, true), (2, 1, true)] [.str .empty, .int .i64 0, .int .i64 0]), (59, .struct 3 [(0, 1, true), (1, 1, true), (2, 1, true)] [.str .empty, .int .i64 0, .int .i64 0])]
theorem tt_ok : ttOK Try.prog tt = true := by kernel_rfl
/-- Elements of the slices that are appended to: cells, bytes. -/
def et : List (Nat × Nat × Nat) := [(5, 1, 1)]
theorem et_ok : etOK Try.prog et = true := by kernel_rfl

def sg0 : List (PSig Try.prog) := []
def eg0 : List (ESig Try.prog) := []
/-- A number's bytes. -/
def numB (n : Nat) : ByteArray := if h : n < 128 then ByteArray.empty.push (UInt8.ofNat n) else (ByteArray.empty.push (UInt8.ofNat (n % 128 + 128))) ++ numB (n / 128)
decreasing_by omega
theorem w64_id {a : Int} (h : -9223372036854775808 ≤ a ∧ a ≤ 9223372036854775807) : IntKind.i64.wrap a = a := by rw [IntKind.wrap_i64]; omega
theorem numB_small {n : Nat} (h : n < 128) : numB n = ByteArray.empty.push (UInt8.ofNat n) := by unfold numB; rw [dif_pos h]
theorem numB_big {n : Nat} (h : ¬ n < 128) : numB n = (ByteArray.empty.push (UInt8.ofNat (n % 128 + 128))) ++ numB (n / 128) := by rw [numB, dif_neg h]
theorem push_app (s : ByteArray) (b : UInt8) (t : ByteArray) : s.push b ++ t = s ++ (ByteArray.empty.push b ++ t) := by
  apply ByteArray.ext
  simp [ByteArray.push, ByteArray.data_append]
/-- What a writer holds. -/
def mo (s : ByteArray) : Mem := [(0, .box 27 [.own 1]), (1, .row 5 1 (rowOf s))]
theorem mo_def (s : ByteArray) : mo s = [(0, .box 27 [.own 1]), (1, .row 5 1 (rowOf s))] := rfl
theorem or128 (n : Int) (h0 : 0 ≤ n) : IntKind.u8.wrap n = ((n.toNat % 256 : Nat) : Int) ∧ Go.bits .or .u8 (IntKind.u8.wrap n) 128 = ((n.toNat % 128 + 128 : Nat) : Int) := by
  have h1 : IntKind.u8.wrap n = ((n.toNat % 256 : Nat) : Int) := by rw [IntKind.wrap_u8]; omega
  refine ⟨h1, ?_⟩
  rw [h1]
  have key : ∀ a : Fin 256, Go.bits .or .u8 ((a : Nat) : Int) 128 = (((a : Nat) % 128 + 128 : Nat) : Int) := by decide +kernel
  have := key ⟨n.toNat % 256, Nat.mod_lt _ (by decide)⟩
  simp only [] at this
  rw [this]
  congr 2
  omega
/-- A state of the loop in Num: what is written, what is left. -/
def NS (s : ByteArray) (n : Nat) : Type := { p : ByteArray × Nat // p.1 ++ numB p.2 = s ++ numB n }
theorem num_end {s s1 : ByteArray} {n n1 : Nat} (hx : s1 ++ numB n1 = s ++ numB n) (h : decide (127 < (n1 : Int)) = false) : rowOf s1 ++ [[.int .u8 (IntKind.u8.wrap (n1 : Int))]] = rowOf (s ++ numB n) := by
  have h' : n1 < 128 := by simp at h; omega
  rw [← hx, numB_small h', (or128 n1 (by omega)).1, rowOf_one (by omega) (by omega), rowOf_push, rowOf_append, rowOf_push, rowOf_empty, List.nil_append, Int.toNat_natCast, Int.toNat_natCast, show n1 % 256 = n1 by omega]
theorem num_next {s s1 : ByteArray} {n n1 : Nat} (hx : s1 ++ numB n1 = s ++ numB n) (h : decide (127 < (n1 : Int)) = true) : s1.push (UInt8.ofNat (n1 % 128 + 128)) ++ numB (n1 / 128) = s ++ numB n ∧ n1 / 128 < n1 ∧ rowOf s1 ++ [[.int .u8 (Go.bits .or .u8 (IntKind.u8.wrap (n1 : Int)) 128)]] = rowOf (s1.push (UInt8.ofNat (n1 % 128 + 128))) := by
  have h' : ¬ n1 < 128 := by simp at h; omega
  refine ⟨by rw [← hx, push_app, numB_big h'], by omega, ?_⟩
  rw [(or128 n1 (by omega)).2, rowOf_one (by omega) (by omega), Int.toNat_natCast, Int.toNat_natCast]
theorem shr7 (n : Nat) : (n : Int) / 2 ^ min (Int.toNat 7) IntKind.u64.bits = ((n / 128 : Nat) : Int) := by
  rw [show min (Int.toNat 7) IntKind.u64.bits = 7 from rfl]
  omega
theorem appOK_one {s : ByteArray} {k : IntKind} {v : Int} (h : s.size + 1 ≤ 140737488355328) : AppOK (rowOf s) [[.int k v]] 1 := by
  refine ⟨fun e he d hd ds h => ?_, by rw [rowOf_len]; simpa using h, by rw [rowOf_len]; simpa using h⟩
  simp only [List.mem_singleton] at he
  subst he
  simp only [List.mem_singleton] at hd
  subst hd
  cases h
theorem numB_pos (n : Nat) : 0 < (numB n).size := by
  unfold numB
  split
  · simp [ByteArray.size_push]
  · rw [ByteArray.size_append, ByteArray.size_push]; omega

/-! ### (*logjam/octet.Out).Num -/
theorem num (s : ByteArray) (n : Nat) (hb : (s ++ numB n).size ≤ 140737488355328) : LJ.Spec Try.prog 12 [.ptr 0 0, .d (.int .u64 (n : Int))] (mo s) (.tup []) (mo (s ++ numB n)) := by
  refine LJ.Spec.code Try.func12 rfl 33 rfl rfl [0] rfl fun w0 F0 S0 B0 => ?_
  refine WC.seq ?_
  refine WC.seq ?_
  refine WC.region ?_
  refine WL.run 2 tt_ok sg0 rfl rfl trivial ?_
  refine WL.nil ?_
  refine QT.n ?_
  refine WC.cond rfl (fun h1 => absurd h1 (by decide)) (fun h1 => ?_)
  refine WC.skip ?_
  refine QT.n ?_
  refine WC.seq ?_
  refine WC.block ?_
  refine WC.loop (ι := NS s n) (fun x => [(0, .ptr 0 0), (1, .d (.int .u64 (x.1.2 : Int)))]) (fun x => mo x.1.1) (fun x => x.1.2) ⟨(s, n), rfl⟩ (Less.mk' ⟨rfl, rfl, trivial⟩ ⟨rfl, rfl, trivial⟩) fun x => ?_
  obtain ⟨⟨s1, n1⟩, hx⟩ := x
  have hsz : s1.size + 1 ≤ 140737488355328 := by
    have h1 := congrArg ByteArray.size hx
    simp only [ByteArray.size_append] at h1 hb
    have := numB_pos n1
    omega
  simp only [] at hx ⊢
  refine WC.seq ?_
  refine WC.seq ?_
  refine WC.region ?_
  refine WL.run 2 tt_ok sg0 rfl rfl trivial ?_
  refine WL.nil ?_
  refine QT.n ?_
  refine WC.cond rfl (fun h2 => ?_) (fun h2 => ?_)
  · refine WC.skip ?_
    refine QT.n ?_
    refine WC.block ?_
    refine WC.seq ?_
    refine WC.region ?_
    refine WL.run 8 tt_ok sg0 rfl rfl trivial ?_
    refine WL.eff 116 tt_ok et_ok eg0 rfl rfl rfl trivial ?_
    refine WL.eff 117 tt_ok et_ok eg0 rfl rfl rfl (appOK_one hsz) ?_
    refine WL.run 2 tt_ok sg0 rfl rfl trivial ?_
    refine WL.eff 0 tt_ok et_ok eg0 rfl rfl rfl trivial ?_
    refine WL.nil ?_
    refine QT.n ?_
    refine WC.region ?_
    refine WL.run 3 tt_ok sg0 rfl rfl trivial ?_
    refine WL.nil ?_
    refine QB.n ?_
    refine QT.n ?_
    obtain ⟨g1, g2, g3⟩ := num_next hx h2
    exact ⟨⟨(_, n1 / 128), g1⟩, g2, Less.mk' ⟨rfl, congrArg (fun i => AV.d (.int .u64 i)) (shr7 n1), trivial⟩ ⟨rfl, congrArg (fun es => some (AObj.row 5 1 es)) g3, trivial⟩⟩
  · refine WC.exit ?_
    refine QT.x ?_
    refine QT.x ?_
    refine QB.hit ?_
    refine QT.n ?_
    refine WC.region ?_
    refine WL.run 7 tt_ok sg0 rfl rfl trivial ?_
    refine WL.eff 129 tt_ok et_ok eg0 rfl rfl rfl trivial ?_
    refine WL.eff 130 tt_ok et_ok eg0 rfl rfl rfl (appOK_one hsz) ?_
    refine WL.run 2 tt_ok sg0 rfl rfl trivial ?_
    refine WL.eff 0 tt_ok et_ok eg0 rfl rfl rfl trivial ?_
    refine WL.nil ?_
    refine Ends.auton rfl rfl ?_ ⟨rfl, congrArg (fun es => some (AObj.row 5 1 es)) (num_end hx h2), trivial⟩
    rfl

theorem br_nodup {m : Mem} {b r : Nat} {T : TypeId} {cs : List AV} {E : TypeId} {sz : Nat} {es : List (List DV)} (h1 : m.get b = some (.box T cs)) (h2 : m.get r = some (.row E sz es)) : nodupB [b, r] = true := by
  have : Nat.beq r b = false := by
    cases e : Nat.beq r b with
    | false => rfl
    | true =>
      have := Nat.eq_of_beq_eq_true e
      subst this
      rw [h1] at h2
      cases h2
  simp [nodupB, inl, this]
theorem num' (s : ByteArray) (x : Int) (hx : 0 ≤ x) (hb : (s ++ numB x.toNat).size ≤ 140737488355328) : LJ.Spec Try.prog 12 [.ptr 0 0, .d (.int .u64 x)] (mo s) (.tup []) (mo (s ++ numB x.toNat)) := by
  have := num s x.toNat hb
  rwa [Int.toNat_of_nonneg hx] at this

def num_sig : ESig Try.prog := ⟨12, fun _ ag m => match ag with
  | [.ptr b 0, .d (.int .u64 x)] => match m.get b with
    | some (.box 27 [.own r]) => match m.get r with
      | some (.row 5 1 es) => some (some (es = rowOf (strOf es) ∧ (strOf es ++ numB x.toNat).size ≤ 140737488355328 ∧ 0 ≤ x), .tup [], [(b, .box 27 [.own r]), (r, .row 5 1 es)], [(b, .box 27 [.own r]), (r, .row 5 1 (rowOf (strOf es ++ numB x.toNat)))], [r])
      | _ => none
    | _ => none
  | _ => none, ⟨_, Try.func12, rfl, by kernel_rfl⟩, by
  intro n ag m ψ out m0 m1 fs h hψ
  split at h
  · split at h
    · rename_i hb
      split at h
      · rename_i es hr
        simp only [Option.some.injEq, Prod.mk.injEq] at h
        obtain ⟨rfl, rfl, rfl, rfl, rfl⟩ := h
        obtain ⟨k0, k1, k2⟩ := hψ
        refine ⟨?_, hb, hr, trivial⟩
        have := LJ.Spec.ren (rho_inv (ns := [_, _]) (br_nodup hb hr)) rfl rfl (num' (strOf es) _ k2 k1)
        rw [k0, strOf_rowOf]
        exact this
      · cases h
    · cases h
  · cases h⟩

def eg1 : List (ESig Try.prog) := [num_sig]
/-- A whole number, turned so that small ones are small. -/
def zig (x : Int) : Int := Go.bits .xor .u64 (IntKind.u64.wrap (IntKind.u64.wrap x * 2 ^ min (Int.toNat 1) IntKind.u64.bits)) (IntKind.u64.wrap (x / 2 ^ min (Int.toNat 63) IntKind.i64.bits))

/-! ### (*logjam/octet.Out).Int -/
theorem int (s : ByteArray) (x : Int) (hz : 0 ≤ zig x) (hb : (s ++ numB (zig x).toNat).size ≤ 140737488355328) : LJ.Spec Try.prog 10 [.ptr 0 0, .d (.int .i64 x)] (mo s) (.tup []) (mo (s ++ numB (zig x).toNat)) := by
  refine LJ.Spec.code Try.func10 rfl 13 rfl rfl [0] rfl fun w0 F0 S0 B0 => ?_
  refine WC.region ?_
  refine WL.run 8 tt_ok sg0 rfl rfl trivial ?_
  refine WL.eff 112 tt_ok et_ok eg1 rfl rfl rfl ⟨(strOf_rowOf _).symm ▸ rfl, by rw [strOf_rowOf]; exact hb, hz⟩ ?_
  refine WL.nil ?_
  refine Ends.auton rfl rfl ?_ ⟨rfl, by rw [strOf_rowOf]; rfl, trivial⟩
  rfl

def int_sig : ESig Try.prog := ⟨10, fun _ ag m => match ag with
  | [.ptr b 0, .d (.int .i64 x)] => match m.get b with
    | some (.box 27 [.own r]) => match m.get r with
      | some (.row 5 1 es) => some (some (es = rowOf (strOf es) ∧ (strOf es ++ numB (zig x).toNat).size ≤ 140737488355328 ∧ 0 ≤ zig x), .tup [], [(b, .box 27 [.own r]), (r, .row 5 1 es)], [(b, .box 27 [.own r]), (r, .row 5 1 (rowOf (strOf es ++ numB (zig x).toNat)))], [r])
      | _ => none
    | _ => none
  | _ => none, ⟨_, Try.func10, rfl, by kernel_rfl⟩, by
  intro n ag m ψ out m0 m1 fs h hψ
  split at h
  · split at h
    · rename_i hb
      split at h
      · rename_i es hr
        simp only [Option.some.injEq, Prod.mk.injEq] at h
        obtain ⟨rfl, rfl, rfl, rfl, rfl⟩ := h
        obtain ⟨k0, k1, k2⟩ := hψ
        refine ⟨?_, hb, hr, trivial⟩
        have := LJ.Spec.ren (rho_inv (ns := [_, _]) (br_nodup hb hr)) rfl rfl (int (strOf es) _ k2 k1)
        rw [k0, strOf_rowOf]
        exact this
      · cases h
    · cases h
  · cases h⟩

/-! ### (*logjam/octet.Out).Done -/
theorem done (s : ByteArray) : Reads Try.prog 17 [.ptr 0 0] (mo s) (.d (.str s)) := by
  refine Reads.of_code Try.func17 rfl 10 rfl rfl rfl [0] fun w0 F0 S0 B0 K wK => ?_
  refine WC.seq ?_
  refine WC.region ?_
  refine WL.run 1 tt_ok sg0 rfl rfl trivial ?_
  refine WL.nil ?_
  refine QT.n ?_
  refine WC.seq ?_
  refine WC.seq ?_
  refine WC.region ?_
  refine WL.run 2 tt_ok sg0 rfl rfl trivial ?_
  refine WL.nil ?_
  refine QT.n ?_
  refine WC.cond rfl (fun h1 => absurd h1 (by decide)) (fun h1 => ?_)
  refine WC.skip ?_
  refine QT.n ?_
  refine WC.seq ?_
  refine WC.region ?_
  refine WL.run 6 tt_ok sg0 rfl rfl ⟨by rw [strOf_rowOf], trivial⟩ ?_
  refine WL.nil ?_
  refine QT.n ?_
  refine WC.ret ?_
  refine Ends.auto rfl rfl ?_ trivial
  exact congrArg (fun t => AV.d (.str t)) (strOf_rowOf s)

/-- What a reader holds: the text, the place, the error. -/
def mi (s : ByteArray) (at' e : Int) : Mem := [(0, .box 59 [.d (.str s), .d (.int .i64 at'), .d (.int .i64 e)])]
def fA (s : ByteArray) (at' e : Int) : Int := cond (decide (e = 0)) (s.size : Int) at'
def fE (e c : Int) : Int := cond (decide (e = 0)) c e

/-! ### (*logjam/octet.In).fail -/
theorem fail (s : ByteArray) (at' e c : Int) : LJ.Spec Try.prog 28 [.ptr 0 0, .d (.int .i64 c)] (mi s at' e) (.tup []) (mi s (fA s at' e) (fE e c)) := by
  refine LJ.Spec.code Try.func28 rfl 21 rfl rfl [0] rfl fun w0 F0 S0 B0 => ?_
  refine WC.seq ?_
  refine WC.region ?_
  refine WL.run 5 tt_ok sg0 rfl rfl trivial ?_
  refine WL.nil ?_
  refine QT.n ?_
  refine WC.cond rfl (fun h1 => ?_) (fun h1 => ?_)
  · refine WC.region ?_
    refine WL.run 10 tt_ok sg0 rfl rfl trivial ?_
    refine WL.eff 0 tt_ok et_ok eg0 rfl rfl rfl trivial ?_
    refine WL.run 2 tt_ok sg0 rfl rfl trivial ?_
    refine WL.eff 0 tt_ok et_ok eg0 rfl rfl rfl trivial ?_
    refine WL.nil ?_
    refine Ends.auton rfl rfl ?_ ⟨by simp only [fA, fE, h1, cond_true, cond_false]; rfl, trivial⟩
    rfl
  · refine WC.skip ?_
    refine Ends.auton rfl rfl ?_ ⟨by simp only [fA, fE, h1, cond_true, cond_false]; rfl, trivial⟩
    rfl

def fail_sig : ESig Try.prog := ⟨28, fun _ ag m => match ag with
  | [.ptr b 0, .d (.int .i64 c)] => match m.get b with
    | some (.box 59 [.d (.str s), .d (.int .i64 at'), .d (.int .i64 e)]) => some (none, .tup [], [(b, .box 59 [.d (.str s), .d (.int .i64 at'), .d (.int .i64 e)])], [(b, .box 59 [.d (.str s), .d (.int .i64 (fA s at' e)), .d (.int .i64 (fE e c))])], [])
    | _ => none
  | _ => none, ⟨_, Try.func28, rfl, by kernel_rfl⟩, by
  intro n ag m ψ out m0 m1 fs h hψ
  split at h
  · split at h
    · rename_i hb
      simp only [Option.some.injEq, Prod.mk.injEq] at h
      obtain ⟨rfl, rfl, rfl, rfl, rfl⟩ := h
      refine ⟨?_, hb, trivial⟩
      exact LJ.Spec.ren (rho_inv (ns := [_]) rfl) rfl rfl (fail _ _ _ _)
    · cases h
  · cases h⟩

def eg2 : List (ESig Try.prog) := [num_sig, int_sig, fail_sig]
def bC (s : ByteArray) (at' : Int) : Bool := decide ((s.size : Int) ≤ at')
def bV (s : ByteArray) (at' : Int) : Int := cond (bC s at') 0 (IntKind.i64.wrap (byteAt s (IntKind.i64.wrap (IntKind.i64.wrap (at' + 1) - 1)).toNat))
def bA (s : ByteArray) (at' e : Int) : Int := cond (bC s at') (fA s at' e) (IntKind.i64.wrap (at' + 1))
def bE (s : ByteArray) (at' e : Int) : Int := cond (bC s at') (fE e 3) e
theorem idx_ok {s : ByteArray} {at' : Int} (h0 : 0 ≤ at') (hs : s.size ≤ 140737488355328) (h : decide ((s.size : Int) ≤ at') = false) : 0 ≤ IntKind.i64.wrap (IntKind.i64.wrap (at' + 1) - 1) ∧ IntKind.i64.wrap (IntKind.i64.wrap (at' + 1) - 1) < s.size := by
  have h := of_decide_eq_false h
  rw [IntKind.wrap_i64, IntKind.wrap_i64]
  omega

/-! ### (*logjam/octet.In).Byte -/
theorem byte (s : ByteArray) (at' e : Int) (h0 : 0 ≤ at') (hs : s.size ≤ 140737488355328) : LJ.Spec Try.prog 21 [.ptr 0 0] (mi s at' e) (.d (.int .i64 (bV s at'))) (mi s (bA s at' e) (bE s at' e)) := by
  refine LJ.Spec.code Try.func21 rfl 35 rfl rfl [0] rfl fun w0 F0 S0 B0 => ?_
  refine WC.seq ?_
  refine WC.region ?_
  refine WL.run 1 tt_ok sg0 rfl rfl trivial ?_
  refine WL.nil ?_
  refine QT.n ?_
  refine WC.seq ?_
  refine WC.seq ?_
  refine WC.region ?_
  refine WL.run 2 tt_ok sg0 rfl rfl trivial ?_
  refine WL.nil ?_
  refine QT.n ?_
  refine WC.cond rfl (fun h1 => absurd h1 (by decide)) (fun h1 => ?_)
  refine WC.skip ?_
  refine QT.n ?_
  refine WC.seq ?_
  refine WC.seq ?_
  refine WC.draws 9 rfl (by kernel_rfl) ?_
  refine WS.run 9 tt_ok rfl rfl trivial ?_
  refine WS.nil ?_
  refine WL.run 1 tt_ok sg0 rfl rfl trivial ?_
  refine WL.nil ?_
  refine QT.n ?_
  refine WC.cond rfl (fun h2 => ?_) (fun h2 => ?_)
  · refine WC.seq ?_
    refine WC.region ?_
    refine WL.run 1 tt_ok sg0 rfl rfl trivial ?_
    refine WL.eff 116 tt_ok et_ok eg2 rfl rfl rfl trivial ?_
    refine WL.nil ?_
    refine QT.n ?_
    refine WC.seq ?_
    refine WC.region ?_
    refine WL.run 1 tt_ok sg0 rfl rfl trivial ?_
    refine WL.nil ?_
    refine QT.n ?_
    refine WC.ret ?_
    refine QT.r ?_
    refine Ends.auto rfl rfl ?_ ⟨by simp only [bA, bE, bC, h2, cond_true, cond_false]; rfl, trivial⟩
    simp only [bV, bC, h2, cond_true, cond_false]; rfl
  · refine WC.skip ?_
    refine QT.n ?_
    refine WC.seq ?_
    refine WC.region ?_
    refine WL.run 7 tt_ok sg0 rfl rfl trivial ?_
    refine WL.eff 0 tt_ok et_ok eg2 rfl rfl rfl trivial ?_
    refine WL.nil ?_
    refine QT.n ?_
    refine WC.seq ?_
    refine WC.draws 11 rfl (by kernel_rfl) ?_
    refine WS.run 11 tt_ok rfl rfl ⟨idx_ok h0 hs h2, trivial⟩ ?_
    refine WS.nil ?_
    refine WL.run 1 tt_ok sg0 rfl rfl trivial ?_
    refine WL.nil ?_
    refine QT.n ?_
    refine WC.ret ?_
    refine Ends.auto rfl rfl ?_ ⟨by simp only [bA, bE, bC, h2, cond_true, cond_false]; rfl, trivial⟩
    simp only [bV, bC, h2, cond_true, cond_false]; rfl

def byte_sig : ESig Try.prog := ⟨21, fun _ ag m => match ag with
  | [.ptr b 0] => match m.get b with
    | some (.box 59 [.d (.str s), .d (.int .i64 at'), .d (.int .i64 e)]) => some (some (0 ≤ at' ∧ s.size ≤ 140737488355328), .d (.int .i64 (bV s at')), [(b, .box 59 [.d (.str s), .d (.int .i64 at'), .d (.int .i64 e)])], [(b, .box 59 [.d (.str s), .d (.int .i64 (bA s at' e)), .d (.int .i64 (bE s at' e))])], [])
    | _ => none
  | _ => none, ⟨_, Try.func21, rfl, by kernel_rfl⟩, by
  intro n ag m ψ out m0 m1 fs h hψ
  split at h
  · split at h
    · rename_i hb
      simp only [Option.some.injEq, Prod.mk.injEq] at h
      obtain ⟨rfl, rfl, rfl, rfl, rfl⟩ := h
      refine ⟨?_, hb, trivial⟩
      exact LJ.Spec.ren (rho_inv (ns := [_]) rfl) rfl rfl (byte _ _ _ hψ.1 hψ.2)
    · cases h
  · cases h⟩

/-! ### (*logjam/octet.In).Err -/
theorem err (s : ByteArray) (at' e : Int) : Reads Try.prog 14 [.ptr 0 0] (mi s at' e) (.d (.int .i64 e)) := by
  refine Reads.of_code Try.func14 rfl 9 rfl rfl rfl [0] fun w0 F0 S0 B0 K wK => ?_
  refine WC.seq ?_
  refine WC.region ?_
  refine WL.run 1 tt_ok sg0 rfl rfl trivial ?_
  refine WL.nil ?_
  refine QT.n ?_
  refine WC.seq ?_
  refine WC.seq ?_
  refine WC.region ?_
  refine WL.run 2 tt_ok sg0 rfl rfl trivial ?_
  refine WL.nil ?_
  refine QT.n ?_
  refine WC.cond rfl (fun h1 => absurd h1 (by decide)) (fun h1 => ?_)
  refine WC.skip ?_
  refine QT.n ?_
  refine WC.seq ?_
  refine WC.region ?_
  refine WL.run 5 tt_ok sg0 rfl rfl trivial ?_
  refine WL.nil ?_
  refine QT.n ?_
  refine WC.ret ?_
  refine Ends.auto rfl rfl ?_ trivial
  rfl

/-! ### (*logjam/octet.In).Left -/
theorem left (s : ByteArray) (at' e : Int) : Reads Try.prog 16 [.ptr 0 0] (mi s at' e) (.d (.int .i64 (IntKind.i64.wrap (s.size - at')))) := by
  refine Reads.of_code Try.func16 rfl 15 rfl rfl rfl [0] fun w0 F0 S0 B0 K wK => ?_
  refine WC.seq ?_
  refine WC.region ?_
  refine WL.run 1 tt_ok sg0 rfl rfl trivial ?_
  refine WL.nil ?_
  refine QT.n ?_
  refine WC.seq ?_
  refine WC.seq ?_
  refine WC.region ?_
  refine WL.run 2 tt_ok sg0 rfl rfl trivial ?_
  refine WL.nil ?_
  refine QT.n ?_
  refine WC.cond rfl (fun h1 => absurd h1 (by decide)) (fun h1 => ?_)
  refine WC.skip ?_
  refine QT.n ?_
  refine WC.seq ?_
  refine WC.draws 10 rfl (by kernel_rfl) ?_
  refine WS.run 10 tt_ok rfl rfl trivial ?_
  refine WS.nil ?_
  refine WL.run 1 tt_ok sg0 rfl rfl trivial ?_
  refine WL.nil ?_
  refine QT.n ?_
  refine WC.ret ?_
  refine Ends.auto rfl rfl ?_ trivial
  rfl

/-! ### logjam/octet.Open -/
theorem open1 (s : ByteArray) : LJ.Spec Try.prog 9 [.d (.str s)] [] (.ptr 105 0) [(105, .box 59 [.d (.str s), .d (.int .i64 0), .d (.int .i64 0)])] := by
  refine LJ.Spec.code Try.func9 rfl 6 rfl rfl [] rfl fun w0 F0 S0 B0 => ?_
  refine WC.seq ?_
  refine WC.region ?_
  refine WL.run 1 tt_ok sg0 rfl rfl trivial ?_
  refine WL.nil ?_
  refine QT.n ?_
  refine WC.seq ?_
  refine WC.region ?_
  refine WL.run 2 tt_ok sg0 rfl rfl trivial ?_
  refine WL.eff 105 tt_ok et_ok eg2 rfl rfl rfl trivial ?_
  refine WL.run 1 tt_ok sg0 rfl rfl trivial ?_
  refine WL.nil ?_
  refine QT.n ?_
  refine WC.ret ?_
  refine Ends.auto rfl rfl ?_ ⟨rfl, trivial⟩
  rfl

def eg3 : List (ESig Try.prog) := [num_sig, int_sig, fail_sig, byte_sig]
def nStep (acc b i : Int) : Int := Go.bits .or .u64 acc (IntKind.u64.wrap (IntKind.u64.wrap (Go.bits .and .i64 b 127) * 2 ^ min (IntKind.i64.wrap (7 * i)).toNat IntKind.u64.bits))
def nC (b i : Int) : Bool := (decide (i = 9) && decide (1 < b)) || (decide (0 < i) && decide (b = 0))
/-- What Num comes to: the number, the place, the error. -/
def nOut (s : ByteArray) : Nat → Int → Int → Int → Int → Int × Int × Int
  | 0, _, acc, at', e => (acc, at', e)
  | k + 1, i, acc, at', e => cond (decide (bE s at' e ≠ 0)) (0, bA s at' e, bE s at' e) (cond (nC (bV s at') i) (0, fA s (bA s at' e) (bE s at' e), fE (bE s at' e) 2)
      (cond (decide (bV s at' < 128)) (nStep acc (bV s at') i, bA s at' e, bE s at' e) (nOut s k (IntKind.i64.wrap (i + 1)) (nStep acc (bV s at') i) (bA s at' e) (bE s at' e))))
section
variable {s : ByteArray} {k : Nat} {i acc at' e : Int}
theorem nOut_err (h : (false || decide (bE s at' e ≠ 0)) = true) : nOut s (k + 1) i acc at' e = (0, bA s at' e, bE s at' e) := by
  rw [Bool.false_or] at h
  simp only [nOut, h, cond_true]
theorem nOut_bad (h : (false || decide (bE s at' e ≠ 0)) = false) (h2 : nC (bV s at') i = true) : nOut s (k + 1) i acc at' e = (0, fA s (bA s at' e) (bE s at' e), fE (bE s at' e) 2) := by
  rw [Bool.false_or] at h
  simp only [nOut, h, h2, cond_true, cond_false]
theorem nOut_done (h : (false || decide (bE s at' e ≠ 0)) = false) (h2 : nC (bV s at') i = false) (h3 : decide (bV s at' < 128) = true) : nOut s (k + 1) i acc at' e = (nStep acc (bV s at') i, bA s at' e, bE s at' e) := by
  rw [Bool.false_or] at h
  simp only [nOut, h, h2, h3, cond_true, cond_false]
theorem nOut_next (h : (false || decide (bE s at' e ≠ 0)) = false) (h2 : nC (bV s at') i = false) (h3 : decide (bV s at' < 128) = false) : nOut s (k + 1) i acc at' e = nOut s k (IntKind.i64.wrap (i + 1)) (nStep acc (bV s at') i) (bA s at' e) (bE s at' e) := by
  rw [Bool.false_or] at h
  simp only [nOut, h, h2, h3, cond_false]
theorem bA_pos (h0 : 0 ≤ at') (hs : s.size ≤ 140737488355328) : 0 ≤ bA s at' e := by
  unfold bA bC fA
  by_cases h : (s.size : Int) ≤ at'
  · simp only [h, decide_true, cond_true]
    cases decide (e = 0) <;> simp only [cond_true, cond_false] <;> omega
  · simp only [h, decide_false, cond_false]
    rw [IntKind.wrap_i64]
    omega
end
/-- A state of the loop in Num. -/
def RS (s : ByteArray) (a0 e0 : Int) : Type := { p : Nat × Int × Int × Int × Int // nOut s p.1 p.2.1 p.2.2.1 p.2.2.2.1 p.2.2.2.2 = nOut s 10 0 0 a0 e0 ∧ 0 ≤ p.2.2.2.1 ∧ p.2.1 = 10 - (p.1 : Int) ∧ p.1 ≤ 10 }

/-! ### (*logjam/octet.In).Num -/
theorem rnum (s : ByteArray) (at' e : Int) (h0 : 0 ≤ at') (hs : s.size ≤ 140737488355328) : LJ.Spec Try.prog 13 [.ptr 0 0] (mi s at' e) (.d (.int .u64 (nOut s 10 0 0 at' e).1)) (mi s (nOut s 10 0 0 at' e).2.1 (nOut s 10 0 0 at' e).2.2) := by
  refine LJ.Spec.code Try.func13 rfl 49 rfl rfl [0] rfl fun w0 F0 S0 B0 => ?_
  refine WC.seq ?_
  refine WC.region ?_
  refine WL.run 1 tt_ok sg0 rfl rfl trivial ?_
  refine WL.nil ?_
  refine QT.n ?_
  refine WC.seq ?_
  refine WC.region ?_
  refine WL.run 1 tt_ok sg0 rfl rfl trivial ?_
  refine WL.nil ?_
  refine QT.n ?_
  refine WC.seq ?_
  refine WC.seq ?_
  refine WC.region ?_
  refine WL.run 1 tt_ok sg0 rfl rfl trivial ?_
  refine WL.nil ?_
  refine QT.n ?_
  refine WC.block ?_
  refine WC.loop (ι := RS s at' e) (fun x => [(0, .ptr 0 0), (3, .d (.int .u64 x.1.2.2.1)), (6, .d (.int .i64 x.1.2.1))]) (fun x => mi s x.1.2.2.2.1 x.1.2.2.2.2) (fun x => x.1.1) ⟨(10, 0, 0, at', e), rfl, h0, rfl, Nat.le_refl _⟩ (Less.mk' ⟨rfl, rfl, rfl, trivial⟩ ⟨rfl, trivial⟩) fun x => ?_
  obtain ⟨⟨k, i, acc, a, e1⟩, hx, ha, hi, hk⟩ := x
  simp only [] at hx ha hi hk ⊢
  refine WC.seq ?_
  refine WC.region ?_
  refine WL.run 1 tt_ok sg0 rfl rfl trivial ?_
  refine WL.nil ?_
  refine QT.n ?_
  refine WC.seq ?_
  refine WC.cond rfl (fun h1 => ?_) (fun h1 => ?_)
  · refine WC.skip ?_
    refine QT.n ?_
    refine WC.seq ?_
    refine WC.block ?_
    refine WC.seq ?_
    refine WC.region ?_
    obtain ⟨k, rfl⟩ : ∃ k0, k = k0 + 1 := ⟨k - 1, by have := of_decide_eq_true h1; omega⟩
    refine WL.run 2 tt_ok sg0 rfl rfl trivial ?_
    refine WL.nil ?_
    refine QT.n ?_
    refine WC.seq ?_
    refine WC.region ?_
    refine WL.run 1 tt_ok sg0 rfl rfl trivial ?_
    refine WL.eff 110 tt_ok et_ok eg3 rfl rfl rfl ⟨ha, hs⟩ ?_
    refine WL.run 1 tt_ok sg0 rfl rfl trivial ?_
    refine WL.nil ?_
    refine QT.n ?_
    refine WC.seq ?_
    refine WC.seq ?_
    refine WC.region ?_
    refine WL.run 3 tt_ok sg0 rfl rfl trivial ?_
    refine WL.sect 5 2 false tt_ok sg0 rfl rfl (fun _ => trivial) ?_
    refine WL.run 1 tt_ok sg0 rfl rfl ⟨fun h => by rw [h]; rfl, trivial⟩ ?_
    refine WL.nil ?_
    refine QT.n ?_
    refine WC.cond rfl (fun h2 => ?_) (fun h2 => ?_)
    · refine WC.seq ?_
      refine WC.region ?_
      refine WL.run 1 tt_ok sg0 rfl rfl trivial ?_
      refine WL.nil ?_
      refine QT.n ?_
      refine WC.ret ?_
      refine QT.r ?_
      refine QB.r ?_
      refine QT.r ?_
      refine QT.r ?_
      refine QB.r ?_
      refine QT.r ?_
      refine Ends.auto rfl rfl ?_ (by
    first
      | exact ⟨congrArg (fun t : Int × Int × Int => some (AObj.box 59 [.d (.str s), .d (.int .i64 t.2.1), .d (.int .i64 t.2.2)])) ((nOut_err h2).symm.trans hx), trivial⟩
      | exact ⟨congrArg (fun t : Int × Int × Int => some (AObj.box 59 [.d (.str s), .d (.int .i64 t.2.1), .d (.int .i64 t.2.2)])) ((nOut_bad h2 h3).symm.trans hx), trivial⟩
      | exact ⟨congrArg (fun t : Int × Int × Int => some (AObj.box 59 [.d (.str s), .d (.int .i64 t.2.1), .d (.int .i64 t.2.2)])) ((nOut_done h2 h3 h4).symm.trans hx), trivial⟩
      | (obtain rfl : k = 0 := by have := of_decide_eq_false h1; omega
         exact ⟨congrArg (fun t : Int × Int × Int => some (AObj.box 59 [.d (.str s), .d (.int .i64 t.2.1), .d (.int .i64 t.2.2)])) hx, trivial⟩))
      first
        | exact congrArg (fun t : Int × Int × Int => AV.d (.int .u64 t.1)) ((nOut_err h2).symm.trans hx)
        | exact congrArg (fun t : Int × Int × Int => AV.d (.int .u64 t.1)) ((nOut_bad h2 h3).symm.trans hx)
        | exact congrArg (fun t : Int × Int × Int => AV.d (.int .u64 t.1)) ((nOut_done h2 h3 h4).symm.trans hx)
        | (obtain rfl : k = 0 := by have := of_decide_eq_false h1; omega
           exact congrArg (fun t : Int × Int × Int => AV.d (.int .u64 t.1)) hx)
    · refine WC.skip ?_
      refine QT.n ?_
      refine WC.seq ?_
      refine WC.seq ?_
      refine WC.region ?_
      refine WL.run 3 tt_ok sg0 rfl rfl trivial ?_
      refine WL.sect 2 2 true tt_ok sg0 rfl rfl (fun _ => trivial) ?_
      refine WL.run 2 tt_ok sg0 rfl rfl ⟨id, trivial⟩ ?_
      refine WL.sect 3 6 false tt_ok sg0 rfl rfl (fun _ => trivial) ?_
      refine WL.sect 2 9 true tt_ok sg0 rfl rfl (fun _ => trivial) ?_
      refine WL.sect 1 6 false tt_ok sg0 rfl rfl (fun hb => ⟨by first | exact id | exact ⟨hb, fun h => by rw [hb, h]; rfl⟩ | exact ⟨hb, id⟩ | simp_all, trivial⟩) ?_
      refine WL.run 1 tt_ok sg0 rfl rfl ⟨fun h => by rw [h]; rfl, trivial⟩ ?_
      refine WL.nil ?_
      refine QT.n ?_
      refine WC.cond rfl (fun h3 => ?_) (fun h3 => ?_)
      · refine WC.seq ?_
        refine WC.region ?_
        refine WL.run 1 tt_ok sg0 rfl rfl trivial ?_
        refine WL.eff 135 tt_ok et_ok eg3 rfl rfl rfl trivial ?_
        refine WL.nil ?_
        refine QT.n ?_
        refine WC.seq ?_
        refine WC.region ?_
        refine WL.run 1 tt_ok sg0 rfl rfl trivial ?_
        refine WL.nil ?_
        refine QT.n ?_
        refine WC.ret ?_
        refine QT.r ?_
        refine QB.r ?_
        refine QT.r ?_
        refine QT.r ?_
        refine QB.r ?_
        refine QT.r ?_
        refine Ends.auto rfl rfl ?_ (by
    first
      | exact ⟨congrArg (fun t : Int × Int × Int => some (AObj.box 59 [.d (.str s), .d (.int .i64 t.2.1), .d (.int .i64 t.2.2)])) ((nOut_err h2).symm.trans hx), trivial⟩
      | exact ⟨congrArg (fun t : Int × Int × Int => some (AObj.box 59 [.d (.str s), .d (.int .i64 t.2.1), .d (.int .i64 t.2.2)])) ((nOut_bad h2 h3).symm.trans hx), trivial⟩
      | exact ⟨congrArg (fun t : Int × Int × Int => some (AObj.box 59 [.d (.str s), .d (.int .i64 t.2.1), .d (.int .i64 t.2.2)])) ((nOut_done h2 h3 h4).symm.trans hx), trivial⟩
      | (obtain rfl : k = 0 := by have := of_decide_eq_false h1; omega
         exact ⟨congrArg (fun t : Int × Int × Int => some (AObj.box 59 [.d (.str s), .d (.int .i64 t.2.1), .d (.int .i64 t.2.2)])) hx, trivial⟩))
        first
          | exact congrArg (fun t : Int × Int × Int => AV.d (.int .u64 t.1)) ((nOut_err h2).symm.trans hx)
          | exact congrArg (fun t : Int × Int × Int => AV.d (.int .u64 t.1)) ((nOut_bad h2 h3).symm.trans hx)
          | exact congrArg (fun t : Int × Int × Int => AV.d (.int .u64 t.1)) ((nOut_done h2 h3 h4).symm.trans hx)
          | (obtain rfl : k = 0 := by have := of_decide_eq_false h1; omega
             exact congrArg (fun t : Int × Int × Int => AV.d (.int .u64 t.1)) hx)
      · refine WC.skip ?_
        refine QT.n ?_
        refine WC.seq ?_
        refine WC.region ?_
        refine WL.run 9 tt_ok sg0 rfl rfl ⟨by rw [w64_id (by omega)]; omega, trivial⟩ ?_
        refine WL.nil ?_
        refine QT.n ?_
        refine WC.seq ?_
        refine WC.region ?_
        refine WL.run 2 tt_ok sg0 rfl rfl trivial ?_
        refine WL.nil ?_
        refine QT.n ?_
        refine WC.cond rfl (fun h4 => ?_) (fun h4 => ?_)
        · refine WC.seq ?_
          refine WC.region ?_
          refine WL.run 2 tt_ok sg0 rfl rfl trivial ?_
          refine WL.nil ?_
          refine QT.n ?_
          refine WC.ret ?_
          refine QB.r ?_
          refine QT.r ?_
          refine QT.r ?_
          refine QB.r ?_
          refine QT.r ?_
          refine Ends.auto rfl rfl ?_ (by
    first
      | exact ⟨congrArg (fun t : Int × Int × Int => some (AObj.box 59 [.d (.str s), .d (.int .i64 t.2.1), .d (.int .i64 t.2.2)])) ((nOut_err h2).symm.trans hx), trivial⟩
      | exact ⟨congrArg (fun t : Int × Int × Int => some (AObj.box 59 [.d (.str s), .d (.int .i64 t.2.1), .d (.int .i64 t.2.2)])) ((nOut_bad h2 h3).symm.trans hx), trivial⟩
      | exact ⟨congrArg (fun t : Int × Int × Int => some (AObj.box 59 [.d (.str s), .d (.int .i64 t.2.1), .d (.int .i64 t.2.2)])) ((nOut_done h2 h3 h4).symm.trans hx), trivial⟩
      | (obtain rfl : k = 0 := by have := of_decide_eq_false h1; omega
         exact ⟨congrArg (fun t : Int × Int × Int => some (AObj.box 59 [.d (.str s), .d (.int .i64 t.2.1), .d (.int .i64 t.2.2)])) hx, trivial⟩))
          first
            | exact congrArg (fun t : Int × Int × Int => AV.d (.int .u64 t.1)) ((nOut_err h2).symm.trans hx)
            | exact congrArg (fun t : Int × Int × Int => AV.d (.int .u64 t.1)) ((nOut_bad h2 h3).symm.trans hx)
            | exact congrArg (fun t : Int × Int × Int => AV.d (.int .u64 t.1)) ((nOut_done h2 h3 h4).symm.trans hx)
            | (obtain rfl : k = 0 := by have := of_decide_eq_false h1; omega
               exact congrArg (fun t : Int × Int × Int => AV.d (.int .u64 t.1)) hx)
        · refine WC.skip ?_
          refine QB.n ?_
          refine QT.n ?_
          refine WC.region ?_
          refine WL.run 2 tt_ok sg0 rfl rfl trivial ?_
          refine WL.nil ?_
          refine QT.n ?_
          have hh := (nOut_next (k := k) (i := i) (acc := acc) h2 h3 h4).symm.trans hx
          exact ⟨⟨(k, IntKind.i64.wrap (i + 1), nStep acc (bV s a) i, bA s a e1, bE s a e1), hh, bA_pos ha hs, by simp only []; rw [IntKind.wrap_i64]; omega, by simp only []; omega⟩, Nat.lt_succ_self k, Less.mk' ⟨rfl, rfl, rfl, trivial⟩ ⟨rfl, trivial⟩⟩
  · refine WC.exit ?_
    refine QT.x ?_
    refine QT.x ?_
    refine QB.hit ?_
    refine QT.n ?_
    refine WC.seq ?_
    refine WC.region ?_
    refine WL.run 2 tt_ok sg0 rfl rfl trivial ?_
    refine WL.nil ?_
    refine QT.n ?_
    refine WC.ret ?_
    refine Ends.auto rfl rfl ?_ (by
    first
      | exact ⟨congrArg (fun t : Int × Int × Int => some (AObj.box 59 [.d (.str s), .d (.int .i64 t.2.1), .d (.int .i64 t.2.2)])) ((nOut_err h2).symm.trans hx), trivial⟩
      | exact ⟨congrArg (fun t : Int × Int × Int => some (AObj.box 59 [.d (.str s), .d (.int .i64 t.2.1), .d (.int .i64 t.2.2)])) ((nOut_bad h2 h3).symm.trans hx), trivial⟩
      | exact ⟨congrArg (fun t : Int × Int × Int => some (AObj.box 59 [.d (.str s), .d (.int .i64 t.2.1), .d (.int .i64 t.2.2)])) ((nOut_done h2 h3 h4).symm.trans hx), trivial⟩
      | (obtain rfl : k = 0 := by have := of_decide_eq_false h1; omega
         exact ⟨congrArg (fun t : Int × Int × Int => some (AObj.box 59 [.d (.str s), .d (.int .i64 t.2.1), .d (.int .i64 t.2.2)])) hx, trivial⟩))
    first
      | exact congrArg (fun t : Int × Int × Int => AV.d (.int .u64 t.1)) ((nOut_err h2).symm.trans hx)
      | exact congrArg (fun t : Int × Int × Int => AV.d (.int .u64 t.1)) ((nOut_bad h2 h3).symm.trans hx)
      | exact congrArg (fun t : Int × Int × Int => AV.d (.int .u64 t.1)) ((nOut_done h2 h3 h4).symm.trans hx)
      | (obtain rfl : k = 0 := by have := of_decide_eq_false h1; omega
         exact congrArg (fun t : Int × Int × Int => AV.d (.int .u64 t.1)) hx)

def rnum_sig : ESig Try.prog := ⟨13, fun _ ag m => match ag with
  | [.ptr b 0] => match m.get b with
    | some (.box 59 [.d (.str s), .d (.int .i64 at'), .d (.int .i64 e)]) => some (some (0 ≤ at' ∧ s.size ≤ 140737488355328), .d (.int .u64 (nOut s 10 0 0 at' e).1), [(b, .box 59 [.d (.str s), .d (.int .i64 at'), .d (.int .i64 e)])], [(b, .box 59 [.d (.str s), .d (.int .i64 ((nOut s 10 0 0 at' e).2.1)), .d (.int .i64 ((nOut s 10 0 0 at' e).2.2))])], [])
    | _ => none
  | _ => none, ⟨_, Try.func13, rfl, by kernel_rfl⟩, by
  intro n ag m ψ out m0 m1 fs h hψ
  split at h
  · split at h
    · rename_i hb
      simp only [Option.some.injEq, Prod.mk.injEq] at h
      obtain ⟨rfl, rfl, rfl, rfl, rfl⟩ := h
      refine ⟨?_, hb, trivial⟩
      exact LJ.Spec.ren (rho_inv (ns := [_]) rfl) rfl rfl (rnum _ _ _ hψ.1 hψ.2)
    · cases h
  · cases h⟩

def err_sig : PSig Try.prog := ⟨14, fun ag m => match ag with
  | [.ptr b 0] => match m.get b with
    | some (.box 59 [.d (.str s), .d (.int .i64 at'), .d (.int .i64 e)]) => some (none, .d (.int .i64 e))
    | _ => none
  | _ => none, ⟨_, Try.func14, rfl, by kernel_rfl⟩, by
  intro ag m ψ out h hψ
  split at h
  · split at h
    · rename_i hb
      simp only [Option.some.injEq, Prod.mk.injEq] at h
      obtain ⟨rfl, rfl⟩ := h
      exact ⟨(Reads.ren (rho_inv (ns := [_]) rfl) rfl rfl rfl (err _ _ _)).sub ⟨hb, trivial⟩, rfl⟩
    · cases h
  · cases h⟩

def left_sig : PSig Try.prog := ⟨16, fun ag m => match ag with
  | [.ptr b 0] => match m.get b with
    | some (.box 59 [.d (.str s), .d (.int .i64 at'), .d (.int .i64 e)]) => some (none, .d (.int .i64 (IntKind.i64.wrap (s.size - at'))))
    | _ => none
  | _ => none, ⟨_, Try.func16, rfl, by kernel_rfl⟩, by
  intro ag m ψ out h hψ
  split at h
  · split at h
    · rename_i hb
      simp only [Option.some.injEq, Prod.mk.injEq] at h
      obtain ⟨rfl, rfl⟩ := h
      exact ⟨(Reads.ren (rho_inv (ns := [_]) rfl) rfl rfl rfl (left _ _ _)).sub ⟨hb, trivial⟩, rfl⟩
    · cases h
  · cases h⟩

def done_sig : PSig Try.prog := ⟨17, fun ag m => match ag with
  | [.ptr b 0] => match m.get b with
    | some (.box 27 [.own r]) => match m.get r with
      | some (.row 5 1 es) => some (some (es = rowOf (strOf es)), .d (.str (strOf es)))
      | _ => none
    | _ => none
  | _ => none, ⟨_, Try.func17, rfl, by kernel_rfl⟩, by
  intro ag m ψ out h hψ
  split at h
  · split at h
    · rename_i hb
      split at h
      · rename_i es hr
        simp only [Option.some.injEq, Prod.mk.injEq] at h
        obtain ⟨rfl, rfl⟩ := h
        have k0 : es = rowOf (strOf es) := hψ
        refine ⟨(Reads.ren (rho_inv (ns := [_, _]) (br_nodup hb hr)) rfl rfl rfl (done (strOf es))).sub ⟨hb, ?_, trivial⟩, rfl⟩
        show m.get _ = some (.row 5 1 (rowOf (strOf es)))
        rw [← k0]
        exact hr
      · cases h
    · cases h
  · cases h⟩

def open_sig : ESig Try.prog := ⟨9, fun n ag _ => match ag with
  | [.d (.str s)] => some (none, .ptr n 0, [], [(n, .box 59 [.d (.str s), .d (.int .i64 0), .d (.int .i64 0)])], [n])
  | _ => none, ⟨_, Try.func9, rfl, by kernel_rfl⟩, by
  intro n ag m ψ out m0 m1 fs h hψ
  split at h
  · simp only [Option.some.injEq, Prod.mk.injEq] at h
    obtain ⟨rfl, rfl, rfl, rfl, rfl⟩ := h
    exact ⟨LJ.Spec.ren (rho1_inv 105 n) rfl rfl (open1 _), trivial⟩
  · cases h⟩
def zagF (n : Int) : Int := Go.bits .xor .i64 (IntKind.i64.wrap (n / 2 ^ min (Int.toNat 1) IntKind.u64.bits)) (IntKind.i64.wrap (0 - IntKind.i64.wrap (Go.bits .and .u64 n 1)))
def eg4 : List (ESig Try.prog) := [num_sig, int_sig, fail_sig, byte_sig, rnum_sig]
def rg : List (PSig Try.prog) := [err_sig, left_sig, done_sig]

/-! ### (*logjam/octet.In).Int -/
theorem rint (s : ByteArray) (at' e : Int) (h0 : 0 ≤ at') (hs : s.size ≤ 140737488355328) : LJ.Spec Try.prog 11 [.ptr 0 0] (mi s at' e) (.d (.int .i64 (zagF (nOut s 10 0 0 at' e).1))) (mi s (nOut s 10 0 0 at' e).2.1 (nOut s 10 0 0 at' e).2.2) := by
  refine LJ.Spec.code Try.func11 rfl 14 rfl rfl [0] rfl fun w0 F0 S0 B0 => ?_
  refine WC.seq ?_
  refine WC.region ?_
  refine WL.run 1 tt_ok sg0 rfl rfl trivial ?_
  refine WL.nil ?_
  refine QT.n ?_
  refine WC.seq ?_
  refine WC.region ?_
  refine WL.run 1 tt_ok sg0 rfl rfl trivial ?_
  refine WL.eff 105 tt_ok et_ok eg4 rfl rfl rfl ⟨h0, hs⟩ ?_
  refine WL.run 1 tt_ok sg0 rfl rfl trivial ?_
  refine WL.nil ?_
  refine QT.n ?_
  refine WC.seq ?_
  refine WC.region ?_
  refine WL.run 9 tt_ok sg0 rfl rfl trivial ?_
  refine WL.nil ?_
  refine QT.n ?_
  refine WC.ret ?_
  refine Ends.auto rfl rfl ?_ ⟨rfl, trivial⟩
  rfl

def rint_sig : ESig Try.prog := ⟨11, fun _ ag m => match ag with
  | [.ptr b 0] => match m.get b with
    | some (.box 59 [.d (.str s), .d (.int .i64 at'), .d (.int .i64 e)]) => some (some (0 ≤ at' ∧ s.size ≤ 140737488355328), .d (.int .i64 (zagF (nOut s 10 0 0 at' e).1)), [(b, .box 59 [.d (.str s), .d (.int .i64 at'), .d (.int .i64 e)])], [(b, .box 59 [.d (.str s), .d (.int .i64 ((nOut s 10 0 0 at' e).2.1)), .d (.int .i64 ((nOut s 10 0 0 at' e).2.2))])], [])
    | _ => none
  | _ => none, ⟨_, Try.func11, rfl, by kernel_rfl⟩, by
  intro n ag m ψ out m0 m1 fs h hψ
  split at h
  · split at h
    · rename_i hb
      simp only [Option.some.injEq, Prod.mk.injEq] at h
      obtain ⟨rfl, rfl, rfl, rfl, rfl⟩ := h
      refine ⟨?_, hb, trivial⟩
      exact LJ.Spec.ren (rho_inv (ns := [_]) rfl) rfl rfl (rint _ _ _ hψ.1 hψ.2)
    · cases h
  · cases h⟩

def eg : List (ESig Try.prog) := [num_sig, int_sig, fail_sig, byte_sig, rnum_sig, rint_sig, open_sig]

end Go.Proofs.Ytfbdapchaofeoaa.Oct
