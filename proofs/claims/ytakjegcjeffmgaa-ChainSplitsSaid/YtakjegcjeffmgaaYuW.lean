import Derived.Test.YtakjegcjeffmgaaYuX
namespace Go.Proofs.Ytakjegcjeffmgaa.Am
open Go.RowKit
set_option maxRecDepth 100000
set_option linter.unusedSimpArgs false
set_option linter.unusedVariables false

theorem Sat.put {m : Mem} {a : Act} {T : List V} {H : List (Option Ob)} (sat : Sat m a T H) (s : Nat) {x : V} {v : Value} (hv : x.rep m v) : Sat m (a.put (some s) v) (T.set s x) H := by
  refine ⟨sat.base, fun i => ?_, sat.obj, sat.inj, sat.top, by rw [put_size]; simpa using sat.size, by rw [put_defers']; exact sat.defers⟩
  have h1 : T.set s x = putT T (some s) x := rfl
  rw [h1, putT_getD, put_getD, sat.size]
  split
  · exact hv
  · exact sat.slots i

abbrev sO (s : Nat) : Ob := ⟨3, [.d (.int .i64 s)]⟩
def plC (p : Pl) : List D := [.int .i64 p.x, .int .i64 p.shift, natW p.value, natW p.reply]
abbrev fnY (l : Nat) : V := .fn (.yield l) []
def Tw0 (l : Nat) : List V := [fnY l, .p 3 0, .junk, .p 5 0] ++ List.replicate 19 .junk
def Tw (l i : Nat) : List V := [fnY l, .p 3 0, .junk, .p 5 0, .d (.int .i64 i)] ++ List.replicate 18 .junk
def Hw (K s i : Nat) (c : List V) : List (Option Ob) := [some (kO K), none, some (plO c), some (sO s), none, some (plO ((plC (placeY s i)).map .d))]

theorem placeY_size {s k : Nat} (h1 : 1 ≤ s) (h5 : s ≤ 5) (hk : k ≤ 1024) : (placeY s k).x ≤ 100000 ∧ (placeY s k).shift ≤ 8192 ∧ size (placeY s k).value ≤ 900 ∧ size (placeY s k).reply ≤ 900 := by
  obtain ⟨a1, a2, a3, a4, a5⟩ := placeY_le h1 k
  refine ⟨by omega, by omega, ?_, ?_⟩
  · refine Nat.le_trans (size_pow (n := 11 + (2 * s + k)) (m := 20) (Nat.lt_of_le_of_lt a4 ?_) (by omega)) (by omega)
    have hp := Nat.two_pow_pos (2 * s + k)
    rw [Nat.pow_add 2 11]
    generalize 2 ^ (2 * s + k) = z at *
    have h1 : k * z ≤ 1024 * z := Nat.mul_le_mul_right _ hk
    have h2 : (2 : Nat) ^ 11 * z = 2048 * z := rfl
    rw [h2]
    omega
  · exact Nat.le_trans (size_pow (n := 2 * s + k + 1) (m := 20) (Nat.lt_of_le_of_lt a2 (Nat.pow_lt_pow_right (by omega) (Nat.lt_succ_self _))) (by omega)) (by omega)

theorem w_r0 (l K s : Nat) (h1 : 1 ≤ s) (h5 : s ≤ 5) (c : List V) (hc : V.lowl 6 c = true) : AW Try.prog 4 c_yu_walk_1.l (thenQ (fun T H => wk 6 T (Tw0 l) ∧ wkH 6 H (Hw K s 0 c)) noQ) ([fnY l, .p 3 0] ++ List.replicate 21 .junk) [some (kO K), none, some (plO c), some (sO s)] := by
  simp only [c_yu_walk_1, C.l, Tw0, Hw]
  have e1 : IntKind.i64.wrap (2 * (s : Int)) = 2 * (s : Int) := w64 (by omega) (by omega)
  have e2 : ((2 : Int) * s).toNat = 2 * s := by omega
  have e3 : (2 : Int) ^ (2 * s) = (2 ^ (2 * s) : Nat) := by rw [Int.natCast_pow]; rfl
  have hlt : 2 ^ (2 * s) ≤ 2 ^ 10 := Nat.pow_le_pow_right (by omega) (by omega)
  have hp0 : placeY s 0 = ⟨0, 0, 0, 2 ^ (2 * s)⟩ := rfl
  rw [hp0]
  generalize 2 ^ (2 * s) = q at *
  have e4 : IntKind.u64.wrap (q : Int) = q := wu64 (by omega) (by omega)
  have e5 : (2 : Int) * s ≤ 64 := by omega
  repeat (first | refine AW.seq ?_ | refine AW.block ?_ | (refine AW.reg mix ?_; (simp [e1, e2, e3, e4, e5]; try simp (disch := omega) only [w64, wu64])) | (refine need.of (by first | omega | kernel_rfl) ?_) | (refine AW.skip ?_; (try simp [e1, e2, e3, e4, e5])) | (refine AW.ret ?_; (try simp [e1, e2, e3, e4, e5])) | (refine AW.exit ?_; (try simp [e1, e2, e3, e4, e5])))
  refine CallS.pureF 4 1 ⟨86, _⟩ [.int .u64 q] (of_ok [q] (small_one (by omega)) (by simp)) (by first | exact plain_d _ | exact plain_tup2 _ _ | exact plain_tup3 _ _ _) rfl (fun _ => rfl) (by rfl) (by simp) (Subs.of ?_) ?_
  focus first | rfl | (simp; done) | skip
  rotate_left
  (try simp; try simp (disch := omega) only [w64, wu64])
  repeat (first | refine AW.seq ?_ | refine AW.block ?_ | (refine AW.reg mix ?_; (simp; try simp (disch := omega) only [w64, wu64])) | (refine need.of (by first | omega | kernel_rfl) ?_) | (refine AW.skip ?_; (try simp)) | (refine AW.ret ?_; (try simp)) | (refine AW.exit ?_; (try simp)))
  exact ⟨Subs.cons (Sub1.refl _) (Subs.cons (Sub1.refl _) (Subs.cons Sub1.nil (Subs.of (by simp [wval])))), rfl⟩

theorem w_r1 (l K s : Nat) (c : List V) (hc : V.lowl 6 c = true) : AW Try.prog 4 c_yu_walk_1.r.l (thenQ (fun T H => wk 6 T (Tw l 0) ∧ wkH 6 H (Hw K s 0 c)) noQ) (Tw0 l) (Hw K s 0 c) := by
  simp only [c_yu_walk_1, C.l, C.r, Tw0, Tw, Hw]
  have hp : V.lowl 6 ((plC (placeY s 0)).map V.d) = true := rfl
  repeat (first | refine AW.seq ?_ | refine AW.block ?_ | (refine AW.reg mix ?_; (simp [hc, hp]; try simp (disch := omega) only [w64, wu64])) | (refine need.of (by first | omega | kernel_rfl) ?_) | (refine AW.skip ?_; (try simp [hc, hp])) | (refine AW.ret ?_; (try simp [hc, hp])) | (refine AW.exit ?_; (try simp [hc, hp])))

theorem w_g (l K s i : Nat) (hi : i ≤ 1023) (c : List V) (hc : V.lowl 6 c = true) : AW Try.prog 4 cWb.l (thenQ (fun T H => wk 6 T (Tw l i) ∧ wkH 6 H (Hw K s i c)) noQ) (Tw l i) (Hw K s i c) := by
  simp only [c_yu_walk_1, C.l, C.r, C.b, Tw, Hw]
  have hp : V.lowl 6 ((plC (placeY s i)).map V.d) = true := rfl
  have h1 : (i : Int) ≤ 1023 := by omega
  repeat (first | refine AW.seq ?_ | refine AW.block ?_ | (refine AW.reg mix ?_; (simp [hc, hp, h1]; try simp (disch := omega) only [w64, wu64])) | (refine need.of (by first | omega | kernel_rfl) ?_) | (refine AW.skip ?_; (try simp [hc, hp, h1])) | (refine AW.ret ?_; (try simp [hc, hp, h1])) | (refine AW.exit ?_; (try simp [hc, hp, h1])))
  refine AW.cond rfl (fun h => ?_) (fun h => ?_)
  · repeat (first | refine AW.seq ?_ | refine AW.block ?_ | (refine AW.reg mix ?_; (simp [hc, hp]; try simp (disch := omega) only [w64, wu64])) | (refine need.of (by first | omega | kernel_rfl) ?_) | (refine AW.skip ?_; (try simp [hc, hp])) | (refine AW.ret ?_; (try simp [hc, hp])) | (refine AW.exit ?_; (try simp [hc, hp])))
  · simp [h1] at h

theorem w_r5 (l K s i : Nat) (h1 : 1 ≤ s) (h5 : s ≤ 5) (hi : i ≤ 1023) (c : List V) (hc : V.lowl 6 c = true) : AW Try.prog 4 cWb.r.l.b.r (thenQ (fun T H => wk 6 T (Tw l i) ∧ wkH 6 H (Hw K s (i + 1) c)) noQ) (Tw l i) (Hw K s i c) := by
  simp only [c_yu_walk_1, C.l, C.r, C.b, Tw, Hw]
  obtain ⟨b1, b2, b3, b4⟩ := placeY_size h1 h5 (k := i) (by omega)
  have hn := next_ok s (placeY s i) h5 b1 b2 b3 b4
  rw [show nextY s (placeY s i) = placeY s (i + 1) from rfl] at hn
  generalize placeY s i = p at *
  generalize placeY s (i + 1) = p' at *
  simp only [plC, List.map_cons, List.map_nil, plD] at hn ⊢
  repeat (first | refine AW.seq ?_ | refine AW.block ?_ | (refine AW.reg mix ?_; (simp [hc]; try simp (disch := omega) only [w64, wu64])) | (refine need.of (by first | omega | kernel_rfl) ?_) | (refine AW.skip ?_; (try simp [hc])) | (refine AW.ret ?_; (try simp [hc])) | (refine AW.exit ?_; (try simp [hc])))
  refine CallS.pure (hn) (by first | exact plain_d _ | exact plain_tup2 _ _ | exact plain_tup3 _ _ _) rfl (fun _ => rfl) (Subs.refl _) ?_
  (try simp [hc]; try simp (disch := omega) only [w64, wu64])
  repeat (first | refine AW.seq ?_ | refine AW.block ?_ | (refine AW.reg mix ?_; (simp [hc]; try simp (disch := omega) only [w64, wu64])) | (refine need.of (by first | omega | kernel_rfl) ?_) | (refine AW.skip ?_; (try simp [hc])) | (refine AW.ret ?_; (try simp [hc])) | (refine AW.exit ?_; (try simp [hc])))

theorem w_r6 (l K s i : Nat) (hi : i ≤ 1023) (c : List V) (hc : V.lowl 6 c = true) : AW Try.prog 4 cWb.r.r (thenQ (fun T H => wk 6 T (Tw l (i + 1)) ∧ wkH 6 H (Hw K s (i + 1) c)) noQ) (Tw l i) (Hw K s (i + 1) c) := by
  simp only [c_yu_walk_1, C.l, C.r, C.b, Tw, Hw]
  have hp : V.lowl 6 ((plC (placeY s (i + 1))).map V.d) = true := rfl
  generalize (plC (placeY s (i + 1))).map V.d = pc at *
  have ew : IntKind.i64.wrap ((i : Int) + 1) = (i : Int) + 1 := w64 (by omega) (by omega)
  repeat (first | refine AW.seq ?_ | refine AW.block ?_ | (refine AW.reg mix ?_; (simp [hc, hp, ew]; try simp (disch := omega) only [w64, wu64])) | (refine need.of (by first | omega | kernel_rfl) ?_) | (refine AW.skip ?_; (try simp [hc, hp, ew])) | (refine AW.ret ?_; (try simp [hc, hp, ew])) | (refine AW.exit ?_; (try simp [hc, hp, ew])))

/-- what is read ahead of the call of yield -/
theorem w_os (l K s i : Nat) (c : List V) (ops : Array Oper) {K' : List V → List (Option Ob) → Prop} (h : K' ((((Tw l i).set 15 (fnY l)).set 16 (.d (.int .i64 i))).set 17 (.d (.agg (plC (placeY s i))))) (Hw K s i c)) :
    vops Try.prog false K' ((cWb.r.l.b.l.l.os).take 3) [] (Tw l i) (Hw K s i c) := by
  simp only [cWb, c_yu_walk_1, C.l, C.r, C.b, C.os, Tw, Hw] at h ⊢
  generalize placeY s i = p at *
  simp only [plC, List.map_cons, List.map_nil] at h ⊢
  simp
  simpa using h
theorem w_o4 (l K s i : Nat) (p : D) (b : Bool) (H : List (Option Ob)) {K' : List V → List (Option Ob) → Prop} (h : K' (((((Tw l i).set 15 (fnY l)).set 16 (.d (.int .i64 i))).set 17 (.d p)).set 18 (.d (.bool b)) |>.set 19 (.d (.bool !b))) H) :
    vops Try.prog false K' [((cWb.r.l.b.l.l.os).drop 4).headD ⟨none, .bad, none, []⟩] [] (((((Tw l i).set 15 (fnY l)).set 16 (.d (.int .i64 i))).set 17 (.d p)).set 18 (.d (.bool b))) H := by
  simp only [cWb, c_yu_walk_1, C.l, C.r, C.b, C.os, Tw] at h ⊢
  simp
  simpa using h
end Go.Proofs.Ytakjegcjeffmgaa.Am
