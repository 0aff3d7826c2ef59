/- Parts of the proof: Yu1, AmX, AmY, YuX, YuW, YuAt, YuAt2, Yu2, Float2, Yu3, Chain2, Chain3, AmO3, Chain4, Chain5, Chain6, AmGen, ChainP, Chain7. -/
import Derived.Test.YtakjegcjeffmgaaGreatPd
namespace Go.Proofs.YtakjegcjeffmgaaGreat.Am
section
open Go.RowKit
set_option maxRecDepth 100000
set_option linter.unusedSimpArgs false
set_option linter.unusedVariables false

theorem ygood_ok (s : Int) : Eqn Tryz.prog n_yu_Good [.d (.int .i64 s)] [] (.d (.bool (decide (1 ≤ s ∧ s ≤ 5)))) [] := by
  refine Eqn.pure r_yu_Good (plain_d _) ?_
  simp only [c_yu_Good]
  by_cases h : 1 ≤ s
  · repeat (first | refine AW.seq ?_ | refine AW.block ?_ | (refine AW.reg mix ?_; (simp [h]; try simp (disch := omega) only [w64, wu64])) | (refine need.of (by first | omega | kernel_rfl) ?_) | (refine AW.skip ?_; (try simp [h])) | (refine AW.ret ?_; (try simp [h])) | (refine AW.exit ?_; (try simp [h])))
  · repeat (first | refine AW.seq ?_ | refine AW.block ?_ | (refine AW.reg mix ?_; (simp [h]; try simp (disch := omega) only [w64, wu64])) | (refine need.of (by first | omega | kernel_rfl) ?_) | (refine AW.skip ?_; (try simp [h])) | (refine AW.ret ?_; (try simp [h])) | (refine AW.exit ?_; (try simp [h])))

theorem size_lt_two {x m : Nat} (h : x < 2 ^ (64 * m)) : size x ≤ m := by
  apply words_le (words_top x)
  rw [words_val, show (18446744073709551616 : Nat) = 2 ^ 64 by rfl, ← Nat.pow_mul]
  exact h

theorem size_add {a b m : Nat} (ha : size a ≤ m) (hb : size b ≤ m) : size (a + b) ≤ m + 1 := by
  refine size_lt_two ?_
  have h1 := wval_lt (words_small a)
  have h2 := wval_lt (words_small b)
  rw [words_val, show (18446744073709551616 : Nat) = 2 ^ 64 by rfl, ← Nat.pow_mul] at h1 h2
  have h3 : (2 : Nat) ^ (64 * (words a).length) ≤ 2 ^ (64 * m) := Nat.pow_le_pow_right (by omega) (by unfold size at ha; omega)
  have h4 : (2 : Nat) ^ (64 * (words b).length) ≤ 2 ^ (64 * m) := Nat.pow_le_pow_right (by omega) (by unfold size at hb; omega)
  have h5 : (2 : Nat) ^ (64 * (m + 1)) = 2 ^ (64 * m) * 18446744073709551616 := by rw [show 64 * (m + 1) = 64 * m + 64 by omega, Nat.pow_add]
  rw [h5]
  generalize (2 : Nat) ^ (64 * m) = z at *
  omega

theorem size_pow {x n m : Nat} (h : x < 2 ^ n) (hm : n ≤ 64 * m) : size x ≤ m :=
  size_lt_two (Nat.lt_of_lt_of_le h (Nat.pow_le_pow_right (by omega) hm))
theorem bits_size (t : Nat) : bitsN t ≤ 64 * size t := by
  apply bitsN_le
  have h1 := wval_lt (words_small t)
  rw [words_val, show (18446744073709551616 : Nat) = 2 ^ 64 by rfl, ← Nat.pow_mul] at h1
  exact h1
theorem shift_ok (s t : Nat) (hs : s ≤ 5) (ht : size t ≤ 1000) : Eqn Tryz.prog n_yu_shift [.d (.int .i64 s), .d (.agg [natW t])] [] (.d (.int .i64 (shiftY s t))) [] := by
  refine Eqn.pure r_yu_shift (plain_d _) ?_
  simp only [c_yu_shift]
  have hb := bits_size t
  repeat (first | refine AW.seq ?_ | refine AW.block ?_ | (refine AW.reg mix ?_; (simp; try simp (disch := omega) only [w64, wu64])) | (refine need.of (by first | omega | kernel_rfl) ?_) | (refine AW.skip ?_; (try simp)) | (refine AW.ret ?_; (try simp)) | (refine AW.exit ?_; (try simp)))
  refine CallS.pure (bits_ok t (by omega)) (by first | exact plain_d _ | exact plain_tup2 _ _ | exact plain_tup3 _ _ _) rfl (fun _ => rfl) (Subs.refl _) ?_
  (try simp; try simp (disch := omega) only [w64, wu64])
  repeat (first | refine AW.seq ?_ | refine AW.block ?_ | (refine AW.reg mix ?_; (simp; try simp (disch := omega) only [w64, wu64])) | (refine need.of (by first | omega | kernel_rfl) ?_) | (refine AW.skip ?_; (try simp)) | (refine AW.ret ?_; (try simp)) | (refine AW.exit ?_; (try simp)))
  have e1 : IntKind.i64.wrap ((bitsN t : Int) - 1) = (bitsN t : Int) - 1 := w64 (by omega) (by omega)
  have e2 : IntKind.i64.wrap (2 * (s : Int)) = 2 * (s : Int) := w64 (by omega) (by omega)
  have e3 : IntKind.i64.wrap ((bitsN t : Int) - 1 - 2 * (s : Int)) = (bitsN t : Int) - 1 - 2 * (s : Int) := w64 (by omega) (by omega)
  have e4 : max 0 ((bitsN t : Int) - 1 - 2 * (s : Int)) = (shiftY s t : Int) := by unfold shiftY; omega
  simp [e1, e2, e3, e4]
  repeat (first | refine AW.seq ?_ | refine AW.block ?_ | (refine AW.reg mix ?_; (simp; try simp (disch := omega) only [w64, wu64])) | (refine need.of (by first | omega | kernel_rfl) ?_) | (refine AW.skip ?_; (try simp)) | (refine AW.ret ?_; (try simp)) | (refine AW.exit ?_; (try simp)))

theorem more_ok (s t : Nat) (hs : s ≤ 5) (ht : size t ≤ 1000) : Eqn Tryz.prog n_yu_more [.d (.int .i64 s), .d (.agg [natW t])] [] (.d (.agg [natW (moreY s t)])) [] := by
  refine Eqn.pure r_yu_more (plain_d _) ?_
  simp only [c_yu_more]
  have hq := Nat.div_le_self t (2 ^ s)
  have hq2 := Nat.div_mul_le_self t (2 ^ s)
  have hm : moreY s t = t + (if t / 2 ^ s * 2 ^ s < t then t / 2 ^ s + 1 else t / 2 ^ s) := rfl
  rw [hm]
  have s1 := size_le hq
  have s2 := size_le hq2
  have s1' : size 1 ≤ 1 := size_one (by omega)
  repeat (first | refine AW.seq ?_ | refine AW.block ?_ | (refine AW.reg mix ?_; (simp; try simp (disch := omega) only [w64, wu64])) | (refine need.of (by first | omega | kernel_rfl) ?_) | (refine AW.skip ?_; (try simp)) | (refine AW.ret ?_; (try simp)) | (refine AW.exit ?_; (try simp)))
  refine CallS.pure (shr_ok t s (by omega) (by omega)) (by first | exact plain_d _ | exact plain_tup2 _ _ | exact plain_tup3 _ _ _) rfl (fun _ => rfl) (Subs.refl _) ?_
  (try simp; try simp (disch := omega) only [w64, wu64])
  repeat (first | refine AW.seq ?_ | refine AW.block ?_ | (refine AW.reg mix ?_; (simp; try simp (disch := omega) only [w64, wu64])) | (refine need.of (by first | omega | kernel_rfl) ?_) | (refine AW.skip ?_; (try simp)) | (refine AW.ret ?_; (try simp)) | (refine AW.exit ?_; (try simp)))
  refine CallS.pure (shl_ok (t / 2 ^ s) s (by omega) (by omega)) (by first | exact plain_d _ | exact plain_tup2 _ _ | exact plain_tup3 _ _ _) rfl (fun _ => rfl) (Subs.refl _) ?_
  (try simp; try simp (disch := omega) only [w64, wu64])
  repeat (first | refine AW.seq ?_ | refine AW.block ?_ | (refine AW.reg mix ?_; (simp; try simp (disch := omega) only [w64, wu64])) | (refine need.of (by first | omega | kernel_rfl) ?_) | (refine AW.skip ?_; (try simp)) | (refine AW.ret ?_; (try simp)) | (refine AW.exit ?_; (try simp)))
  generalize hQ : t / 2 ^ s = q at *
  generalize q * 2 ^ s = b at *
  refine CallS.pure (cmp_ok b t (by omega) (by omega)) (by first | exact plain_d _ | exact plain_tup2 _ _ | exact plain_tup3 _ _ _) rfl (fun _ => rfl) (Subs.refl _) ?_
  (try simp; try simp (disch := omega) only [w64, wu64])
  repeat (first | refine AW.seq ?_ | refine AW.block ?_ | (refine AW.reg mix ?_; (simp; try simp (disch := omega) only [w64, wu64])) | (refine need.of (by first | omega | kernel_rfl) ?_) | (refine AW.skip ?_; (try simp)) | (refine AW.ret ?_; (try simp)) | (refine AW.exit ?_; (try simp)))
  have hb : size (q + 1) ≤ 1001 := by
    have := size_add (a := q) (b := 1) (m := 1000) (by omega) (by omega)
    omega
  by_cases hlt : b < t
  · simp only [if_pos hlt]
    refine AW.cond rfl (fun h => ?_) (fun h => ?_)
    · repeat (first | refine AW.seq ?_ | refine AW.block ?_ | (refine AW.reg mix ?_; (simp; try simp (disch := omega) only [w64, wu64])) | (refine need.of (by first | omega | kernel_rfl) ?_) | (refine AW.skip ?_; (try simp)) | (refine AW.ret ?_; (try simp)) | (refine AW.exit ?_; (try simp)))
      refine CallS.pureF 4 1 ⟨119, _⟩ [.int .u64 (1 : Nat)] (of_ok [1] (small_one (by omega)) (by simp)) (by first | exact plain_d _ | exact plain_tup2 _ _ | exact plain_tup3 _ _ _) rfl (fun _ => rfl) (by rfl) (by simp) (Subs.of ?_) ?_
      focus first | rfl | (simp; done) | skip
      rotate_left
      (try simp; try simp (disch := omega) only [w64, wu64])
      repeat (first | refine AW.seq ?_ | refine AW.block ?_ | (refine AW.reg mix ?_; (simp; try simp (disch := omega) only [w64, wu64])) | (refine need.of (by first | omega | kernel_rfl) ?_) | (refine AW.skip ?_; (try simp)) | (refine AW.ret ?_; (try simp)) | (refine AW.exit ?_; (try simp)))
      refine CallS.pure (add_ok q 1 (by omega) (by omega)) (by first | exact plain_d _ | exact plain_tup2 _ _ | exact plain_tup3 _ _ _) rfl (fun _ => rfl) (Subs.refl _) ?_
      (try simp; try simp (disch := omega) only [w64, wu64])
      repeat (first | refine AW.seq ?_ | refine AW.block ?_ | (refine AW.reg mix ?_; (simp; try simp (disch := omega) only [w64, wu64])) | (refine need.of (by first | omega | kernel_rfl) ?_) | (refine AW.skip ?_; (try simp)) | (refine AW.ret ?_; (try simp)) | (refine AW.exit ?_; (try simp)))
      refine CallS.pure (add_ok t (q + 1) (by omega) (by omega)) (by first | exact plain_d _ | exact plain_tup2 _ _ | exact plain_tup3 _ _ _) rfl (fun _ => rfl) (Subs.refl _) ?_
      (try simp; try simp (disch := omega) only [w64, wu64])
      repeat (first | refine AW.seq ?_ | refine AW.block ?_ | (refine AW.reg mix ?_; (simp; try simp (disch := omega) only [w64, wu64])) | (refine need.of (by first | omega | kernel_rfl) ?_) | (refine AW.skip ?_; (try simp)) | (refine AW.ret ?_; (try simp)) | (refine AW.exit ?_; (try simp)))
    · simp [cmpZ_lt, hlt] at h
  · simp only [if_neg hlt]
    refine AW.cond rfl (fun h => ?_) (fun h => ?_)
    · simp [cmpZ_lt, hlt] at h
    · repeat (first | refine AW.seq ?_ | refine AW.block ?_ | (refine AW.reg mix ?_; (simp; try simp (disch := omega) only [w64, wu64])) | (refine need.of (by first | omega | kernel_rfl) ?_) | (refine AW.skip ?_; (try simp)) | (refine AW.ret ?_; (try simp)) | (refine AW.exit ?_; (try simp)))
      refine CallS.pure (add_ok t q (by omega) (by omega)) (by first | exact plain_d _ | exact plain_tup2 _ _ | exact plain_tup3 _ _ _) rfl (fun _ => rfl) (Subs.refl _) ?_
      (try simp; try simp (disch := omega) only [w64, wu64])
      repeat (first | refine AW.seq ?_ | refine AW.block ?_ | (refine AW.reg mix ?_; (simp; try simp (disch := omega) only [w64, wu64])) | (refine need.of (by first | omega | kernel_rfl) ?_) | (refine AW.skip ?_; (try simp)) | (refine AW.ret ?_; (try simp)) | (refine AW.exit ?_; (try simp)))

/-- a place, as data -/
def plD (p : Pl) : D := .agg [.int .i64 p.x, .int .i64 p.shift, natW p.value, natW p.reply]

theorem moreY_le' {s t : Nat} : moreY s t ≤ 4 * t := by
  unfold moreY
  have h1 := Nat.div_le_self t (2 ^ s)
  split
  · rename_i h
    have : 0 < t := by omega
    omega
  · omega

theorem next_ok (s : Nat) (p : Pl) (hs : s ≤ 5) (hx : p.x ≤ 100000) (h1 : p.shift ≤ 8192) (h2 : size p.value ≤ 900) (h3 : size p.reply ≤ 900) :
    Eqn Tryz.prog n_yu_Place_next [.d (plD p), .d (.int .i64 s)] [] (.d (plD (nextY s p))) [] := by
  refine Eqn.pure r_yu_Place_next (plain_d _) ?_
  obtain ⟨x, sh, v, r⟩ := p
  simp only at hx h1 h2 h3
  simp only [c_yu_Place_next, plD, nextY]
  have s1 : size 1 ≤ 1 := size_one (by omega)
  have hsz : size (1 * 2 ^ sh) ≤ 129 := size_pow (n := sh + 1) (by rw [Nat.one_mul]; exact Nat.pow_lt_pow_right (by omega) (Nat.lt_succ_self _)) (by omega)
  have hv := size_add (m := 900) h2 (by omega : size (1 * 2 ^ sh) ≤ 900)
  repeat (first | refine AW.seq ?_ | refine AW.block ?_ | (refine AW.reg mix ?_; (simp; try simp (disch := omega) only [w64, wu64])) | (refine need.of (by first | omega | kernel_rfl) ?_) | (refine AW.skip ?_; (try simp)) | (refine AW.ret ?_; (try simp)) | (refine AW.exit ?_; (try simp)))
  refine CallS.pureF 2 1 ⟨119, _⟩ [.int .u64 (1 : Nat)] (of_ok [1] (small_one (by omega)) (by simp)) (by first | exact plain_d _ | exact plain_tup2 _ _ | exact plain_tup3 _ _ _) rfl (fun _ => rfl) (by rfl) (by simp) (Subs.of ?_) ?_
  focus first | rfl | (simp; done) | skip
  rotate_left
  (try simp; try simp (disch := omega) only [w64, wu64])
  repeat (first | refine AW.seq ?_ | refine AW.block ?_ | (refine AW.reg mix ?_; (simp; try simp (disch := omega) only [w64, wu64])) | (refine need.of (by first | omega | kernel_rfl) ?_) | (refine AW.skip ?_; (try simp)) | (refine AW.ret ?_; (try simp)) | (refine AW.exit ?_; (try simp)))
  refine CallS.pure (shl_ok 1 sh (by omega) h1) (by first | exact plain_d _ | exact plain_tup2 _ _ | exact plain_tup3 _ _ _) rfl (fun _ => rfl) (Subs.refl _) ?_
  (try simp; try simp (disch := omega) only [w64, wu64])
  repeat (first | refine AW.seq ?_ | refine AW.block ?_ | (refine AW.reg mix ?_; (simp; try simp (disch := omega) only [w64, wu64])) | (refine need.of (by first | omega | kernel_rfl) ?_) | (refine AW.skip ?_; (try simp)) | (refine AW.ret ?_; (try simp)) | (refine AW.exit ?_; (try simp)))
  rw [Nat.one_mul] at hsz hv
  generalize 2 ^ sh = st at *
  refine CallS.pure (add_ok v st (by omega) (by omega)) (by first | exact plain_d _ | exact plain_tup2 _ _ | exact plain_tup3 _ _ _) rfl (fun _ => rfl) (Subs.refl _) ?_
  (try simp; try simp (disch := omega) only [w64, wu64])
  repeat (first | refine AW.seq ?_ | refine AW.block ?_ | (refine AW.reg mix ?_; (simp; try simp (disch := omega) only [w64, wu64])) | (refine need.of (by first | omega | kernel_rfl) ?_) | (refine AW.skip ?_; (try simp)) | (refine AW.ret ?_; (try simp)) | (refine AW.exit ?_; (try simp)))
  refine CallS.pure (cmp_ok (v + st) r (by omega) (by omega)) (by first | exact plain_d _ | exact plain_tup2 _ _ | exact plain_tup3 _ _ _) rfl (fun _ => rfl) (Subs.refl _) ?_
  (try simp; try simp (disch := omega) only [w64, wu64])
  repeat (first | refine AW.seq ?_ | refine AW.block ?_ | (refine AW.reg mix ?_; (simp; try simp (disch := omega) only [w64, wu64])) | (refine need.of (by first | omega | kernel_rfl) ?_) | (refine AW.skip ?_; (try simp)) | (refine AW.ret ?_; (try simp)) | (refine AW.exit ?_; (try simp)))
  have hge : (0 ≤ cmpZ (v + st) r) ↔ r ≤ v + st := by
    unfold cmpZ; split <;> (try split) <;> omega
  by_cases hr : r ≤ v + st
  · simp only [if_pos hr]
    have ew : IntKind.i64.wrap ((x : Int) + 1) = (x : Int) + 1 := w64 (by omega) (by omega)
    refine AW.cond rfl (fun h => ?_) (fun h => ?_)
    · have hm := moreY_le' (s := s) (t := r)
      have hms := size_le hm
      have hrr := size_add h3 h3
      have hmsz : size (moreY s r) ≤ 1000 := by
        have := size_add hrr hrr
        have h4 : r + r + (r + r) = 4 * r := by omega
        rw [h4] at this
        omega
      repeat (first | refine AW.seq ?_ | refine AW.block ?_ | (refine AW.reg mix ?_; (simp [ew]; try simp (disch := omega) only [w64, wu64])) | (refine need.of (by first | omega | kernel_rfl) ?_) | (refine AW.skip ?_; (try simp [ew])) | (refine AW.ret ?_; (try simp [ew])) | (refine AW.exit ?_; (try simp [ew])))
      refine CallS.pure (more_ok s r hs (by omega)) (by first | exact plain_d _ | exact plain_tup2 _ _ | exact plain_tup3 _ _ _) rfl (fun _ => rfl) (Subs.refl _) ?_
      (try simp; try simp (disch := omega) only [w64, wu64])
      repeat (first | refine AW.seq ?_ | refine AW.block ?_ | (refine AW.reg mix ?_; (simp; try simp (disch := omega) only [w64, wu64])) | (refine need.of (by first | omega | kernel_rfl) ?_) | (refine AW.skip ?_; (try simp)) | (refine AW.ret ?_; (try simp)) | (refine AW.exit ?_; (try simp)))
      refine CallS.pure (shift_ok s (moreY s r) hs hmsz) (by first | exact plain_d _ | exact plain_tup2 _ _ | exact plain_tup3 _ _ _) rfl (fun _ => rfl) (Subs.refl _) ?_
      (try simp; try simp (disch := omega) only [w64, wu64])
      repeat (first | refine AW.seq ?_ | refine AW.block ?_ | (refine AW.reg mix ?_; (simp; try simp (disch := omega) only [w64, wu64])) | (refine need.of (by first | omega | kernel_rfl) ?_) | (refine AW.skip ?_; (try simp)) | (refine AW.ret ?_; (try simp)) | (refine AW.exit ?_; (try simp)))
    · simp [hge, hr] at h
  · simp only [if_neg hr]
    refine AW.cond rfl (fun h => ?_) (fun h => ?_)
    · simp [hge, hr] at h
    · repeat (first | refine AW.seq ?_ | refine AW.block ?_ | (refine AW.reg mix ?_; (simp; try simp (disch := omega) only [w64, wu64])) | (refine need.of (by first | omega | kernel_rfl) ?_) | (refine AW.skip ?_; (try simp)) | (refine AW.ret ?_; (try simp)) | (refine AW.exit ?_; (try simp)))
end
end Go.Proofs.YtakjegcjeffmgaaGreat.Am
namespace Go.Proofs.YtakjegcjeffmgaaGreat.Am
section
open Go.RowKit
set_option linter.unusedVariables false
set_option linter.unusedSimpArgs false

def notDefer (o : Oper) : Bool := match o.op with
  | .defer _ => false
  | _ => true
theorem notDefer_spec {o : Oper} (h : notDefer o = true) : ∀ c, o.op ≠ .defer c := fun c e => by simp [notDefer, e] at h

abbrev FR (l : Option Nat) : Fence := { Fence.wide with round := l }

theorem rowsIn_of {l : Option Nat} {n : Nat} {P : Program} {row : String} {args : Array Value} {w : World} {R : Value → World → Prop} (h : Rows P row args w R) : RowsIn (FR l) n P row args w R := by
  intro c cs _
  obtain ⟨v, w', hR, hs⟩ := h c cs
  exact ⟨v, w', hR, stepsIn_wide.2 hs⟩
theorem callsIn_of {l : Option Nat} {n : Nat} {P : Program} {f : FuncId} {args : Array Value} {w : World} {R : Ending → World → Prop} (h : Calls P f args w R) : CallsIn (FR l) n P f args w R := callsIn_wide.2 h

theorem operIn_of {l : Option Nat} {n : Nat} {P : Program} {o : Oper} {a : Act} {w : World} {K : Act → World → Prop} {Q : Exit → Act → World → Prop} (hd : notDefer o = true) (h : o.wp P a w K Q) : o.wpIn (FR l) n P a w K Q := by
  refine ⟨fun _ _ => trivial, ?_⟩
  rw [Oper.semAt_eq _ _ _ (notDefer_spec hd)]
  unfold Oper.wp at h
  generalize (execOp a.eval o).run P w = r at h
  have hdep : (FR l).depth.isSome = true → 1 ≤ n := fun h => by simp [FR, Fence.wide] at h
  unfold Oper.upon at h
  unfold Oper.uponIn
  split at h
  all_goals first
    | exact h
    | exact ⟨hdep, callsIn_of h⟩
    | exact ⟨hdep, rowsIn_of h⟩
    | exact h.elim

/-- code without defer statements -/
def Code.calm : Code → Bool
  | .seq a b | .cond _ a b => Code.calm a && Code.calm b
  | .block _ a | .loop a => Code.calm a
  | .region _ ops _ => ops.toList.all notDefer
  | _ => true

/-- In a round: what a walk shows of code. -/
def AWr (P : Program) (l : Option Nat) (n L : Nat) (c : C) (Q : Exit → List V → List (Option Ob) → Prop) (T : List V) (H : List (Option Ob)) : Prop :=
  ∀ code, resolveC P code = c → Code.calm code = true → ∀ (m0 m : Mem) (a : Act), Sat m a T H → m0.le m (· < L) → (∀ n, L ≤ n → m0.ρ n = none) → L ≤ H.length →
    code.wpIn (FR l) n P (fun e a' w' => ∃ T' H', ∃ m' : Mem, m'.w = w' ∧ Q e T' H' ∧ Sat m' a' T' H' ∧ m0.le m' (· < L) ∧ L ≤ H'.length) a m.w

section
variable {P : Program} {l : Option Nat} {n L : Nat} {Q : Exit → List V → List (Option Ob) → Prop} {T : List V} {H : List (Option Ob)}
theorem AWr.skip (h : Q .normal T H) : AWr P l n L .skip Q T H := by
  intro code hc _ m0 m a sat hle htop hL
  cases code <;> simp [resolveC] at hc
  exact wpIn_skip ⟨T, H, m, rfl, h, sat, hle, hL⟩
theorem AWr.exit {id : Nat} (h : Q (.exit id) T H) : AWr P l n L (.exit id) Q T H := by
  intro code hc _ m0 m a sat hle htop hL
  cases code <;> simp [resolveC] at hc
  subst hc
  exact wpIn_exit ⟨T, H, m, rfl, h, sat, hle, hL⟩
theorem AWr.seq {x y : C} (h : AWr P l n L x (thenQ (AWr P l n L y Q) Q) T H) : AWr P l n L (.seq x y) Q T H := by
  intro code hc hd m0 m a sat hle htop hL
  cases code <;> simp [resolveC] at hc
  rename_i cx cy
  obtain ⟨hx, hy⟩ := hc
  simp only [Code.calm, Bool.and_eq_true] at hd
  refine wpIn_seq (wpIn_mono (h cx hx hd.1 m0 m a sat hle htop hL) ?_)
  rintro e a' w' ⟨T', H', m', rfl, hq, sat', hle', hL'⟩
  cases e with
  | normal => exact hq cy hy hd.2 m0 m' a' sat' hle' htop hL'
  | _ => exact ⟨T', H', m', rfl, hq, sat', hle', hL'⟩
theorem AWr.cond {c : X} {x y : C} {b : Bool} (hb : c.ev T = .d (.bool b)) (h1 : b = true → AWr P l n L x Q T H) (h2 : b = false → AWr P l n L y Q T H) : AWr P l n L (.cond c x y) Q T H := by
  intro code hc hd m0 m a sat hle htop hL
  cases code <;> simp [resolveC] at hc
  rename_i cc cx cy
  obtain ⟨hcc, hx, hy⟩ := hc
  simp only [Code.calm, Bool.and_eq_true] at hd
  have hv : a.eval cc = .bool b := by
    refine V.rep_bool.1 (X.rep' (T := T) (fun s _ => sat.slots s) ?_)
    rw [hcc]; exact hb
  exact wpIn_cond_split hv (fun h => h1 h cx hx hd.1 m0 m a sat hle htop hL) (fun h => h2 h cy hy hd.2 m0 m a sat hle htop hL)
theorem AWr.block {id : Nat} {x : C} (h : AWr P l n L x (blockQ id Q) T H) : AWr P l n L (.block id x) Q T H := by
  intro code hc hd m0 m a sat hle htop hL
  cases code <;> simp [resolveC] at hc
  rename_i id' cx
  obtain ⟨rfl, hx⟩ := hc
  refine wpIn_block (wpIn_mono (h cx hx hd m0 m a sat hle htop hL) ?_)
  rintro e a' w' ⟨T', H', m', rfl, hq, sat', hle', hL'⟩
  cases e with
  | exit j =>
    simp only [blockQ] at hq
    simp only [Exit.inBlock]
    split at hq
    · rename_i hj; rw [if_pos hj]; exact ⟨T', H', m', rfl, hq, sat', hle', hL'⟩
    · rename_i hj; rw [if_neg hj]; exact ⟨T', H', m', rfl, hq, sat', hle', hL'⟩
  | _ => exact ⟨T', H', m', rfl, hq, sat', hle', hL'⟩

theorem seq_listIn {P : Program} {ops : Array Oper} {Q : Exit → Act → World → Prop} (rest : List Oper) : ∀ (os : List Oper) (Ts : Nat → List V) (Hs : Nat → List (Option Ob)) (xs : Nat → V) (es : Nat → E), (∀ o ∈ os, notDefer o = true) →
    (∀ i o, os[i]? = some o → StepI P ops o (Ts i) (Hs i) (xs i) (Hs (i + 1)) (es i) ∧ Ts (i + 1) = putT (Ts i) o.dst (xs i)) → ∀ (m : Mem) (a : Act), Sat m a (Ts 0) (Hs 0) →
    (∀ a' m', Sat m' a' (Ts os.length) (Hs os.length) → m.le m' (· < (Hs 0).length) → (Hs 0).length ≤ (Hs os.length).length → wpListIn (FR l) n P ops Q rest a' m'.w) → wpListIn (FR l) n P ops Q (os ++ rest) a m.w
  | [], Ts, Hs, xs, es, hd, h, m, a, sat, hQ => hQ a m sat (Mem.le.refl _ _) (Nat.le_refl _)
  | o :: os, Ts, Hs, xs, es, hd, h, m, a, sat, hQ => by
    obtain ⟨h1, h2⟩ := h 0 o rfl
    have hlen : (Hs 0).length ≤ (Hs 1).length := by
      obtain ⟨_, _, ⟨S, _, hok, _⟩ | ⟨_, he, _⟩⟩ := h1
      · exact hok.len
      · rw [he]; exact Nat.le_refl _
    rw [List.cons_append]
    refine wpListIn_step fun K hK => ?_
    have := seq_step h1 sat K Q fun v m' sat' hle' => hK _ _ (by
      rw [← h2] at sat'
      refine seq_listIn rest os (fun i => Ts (i + 1)) (fun i => Hs (i + 1)) (fun i => xs (i + 1)) (fun i => es (i + 1)) (fun o ho => hd o (by simp [ho])) (fun i o' ho => h (i + 1) o' (by simpa using ho)) m' _ sat' fun a2 m2 s2 l2 ln => hQ a2 m2 s2 ?_ (Nat.le_trans hlen ln)
      refine hle'.trans l2 fun n b hb hn => ?_
      rcases Nat.lt_or_ge n (Hs 0).length with h | h
      · exact h
      · rw [sat.top n h] at hb; cases hb)
    split
    · rename_i hw
      rw [if_pos hw] at this
      exact operIn_of (hd o (by simp)) this
    · rename_i hw
      rw [if_neg hw] at this
      exact ⟨fun _ _ => trivial, this⟩

/-- a list of operations, in a row -/
theorem vops_listIn {ops : Array Oper} {Q : Exit → Act → World → Prop} (rest : List Oper) {os : List Oper} (hd : os.all notDefer = true) {K : List V → List (Option Ob) → Prop} (h : vops P false K (os.map (resolveO P ops)) [] T H) {m0 m : Mem} {a : Act} (sat : Sat m a T H) (hle : m0.le m (· < L)) (htop : ∀ n, L ≤ n → m0.ρ n = none) (hL : L ≤ H.length)
    (hQ : ∀ T' H' a' m', K T' H' → Sat m' a' T' H' → m0.le m' (· < L) → L ≤ H'.length → wpListIn (FR l) n P ops Q rest a' m'.w) : wpListIn (FR l) n P ops Q (os ++ rest) a m.w := by
  obtain ⟨Ts, Hs, xs, es, rfl, rfl, h3, _, h5⟩ := vops_run os [] T H h
  refine seq_listIn rest os Ts Hs xs es (fun o ho => List.all_eq_true.1 hd o ho) h3 m a sat fun a' m' s' l' ln => ?_
  refine hQ _ _ a' m' h5 s' (hle.trans l' fun n b hb hn => ?_) (Nat.le_trans hL ln)
  rcases Nat.lt_or_ge n L with h | h
  · exact h
  · rw [htop n h] at hb; cases hb

theorem AWr.reg {os : List O} (h : vops P false (Q .normal) os [] T H) : AWr P l n L (.reg false os) Q T H := by
  intro code hc hd m0 m a sat hle htop hL
  cases code <;> simp [resolveC] at hc
  rename_i id ops d
  obtain ⟨rfl, rfl⟩ := hc
  refine wpIn_region_list ?_
  rw [← List.append_nil ops.toList]
  exact vops_listIn [] hd h sat hle htop hL fun T' H' a' m' hq s' l' ln => ⟨_, _, m', rfl, hq, s', l', ln⟩
end

/-- but for blocks without names the memories are the same -/
structure Off (m m' : Mem) : Prop where
  ρ : m'.ρ = m.ρ
  I : m'.I = m.I
  w : ∀ b, m.I b → m'.w.heap[b]? = m.w.heap[b]?
  s : ∀ n b, m.ρ n = some b → m'.w.heap[b]? = m.w.heap[b]?
theorem Off.shape {m m' : Mem} (h : Off m m') (n b : Nat) (k : m.ρ n = some b) : m'.w.shape? b = m.w.shape? b := by unfold World.shape?; rw [h.s n b k]
mutual
theorem V.rep_off {m m' : Mem} (h : Off m m') : ∀ (x : V) (v : Value), V.rep m x v → V.rep m' x v
  | .d x, v, k => by unfold V.rep at k ⊢; exact D.rep_mono (fun b hb => h.I ▸ hb) h.w x v k
  | .agg l, v, k => by unfold V.rep at k ⊢; obtain ⟨vs, h1, h0, h2⟩ := k; exact ⟨vs, h1, h0, V.reps_off h l vs h2⟩
  | .tup l, v, k => by unfold V.rep at k ⊢; obtain ⟨vs, h1, h2⟩ := k; exact ⟨vs, h1, V.reps_off h l vs h2⟩
  | .p n off, v, k => by unfold V.rep at k ⊢; rw [h.ρ]; exact k
  | .row n off len, v, k => by unfold V.rep at k ⊢; rw [h.ρ]; exact k
  | .own n s len, v, k => by
    unfold V.rep at k ⊢
    obtain ⟨b, t, z, cap, h1, h2, h3⟩ := k
    exact ⟨b, t, z, cap, by rw [h.ρ]; exact h1, by rw [h.shape n b h1]; exact h2, h3⟩
  | .ia l off, v, k => by
    unfold V.rep at k ⊢
    obtain ⟨b, o, h1, h2, vs, h0, h3, h4⟩ := k
    exact ⟨b, o, h1, h.I ▸ h2, vs, h0, D.reps_mono (fun b hb => h.I ▸ hb) h.w l vs h3, fun i u hu => by rw [World.cell?_of_block (h.w b h2)]; exact h4 i u hu⟩
  | .fn f l, v, k => by unfold V.rep at k ⊢; obtain ⟨vs, h1, h2⟩ := k; exact ⟨vs, h1, V.reps_off h l vs h2⟩
  | .junk, v, k => by unfold V.rep; trivial
theorem V.reps_off {m m' : Mem} (h : Off m m') : ∀ (l : List V) (vs : List Value), V.reps m l vs → V.reps m' l vs
  | [], vs, k => by unfold V.reps at k ⊢; exact k
  | x :: l, vs, k => by
    unfold V.reps at k ⊢
    obtain ⟨v, r, h1, h2, h3⟩ := k
    exact ⟨v, r, h1, V.rep_off h x v h2, V.reps_off h l r h3⟩
end
theorem Mem.obj_off {m m' : Mem} (h : Off m m') {n : Nat} {o : Ob} (k : m.obj n o) : m'.obj n o := by
  obtain ⟨b, vs, more, h1, h2, h3, h4, h5⟩ := k
  exact ⟨b, vs, more, by rw [h.ρ]; exact h1, by rw [h.s n b h1]; exact h2, h3, V.reps_off h _ _ h4, by rw [h.I]; exact h5⟩
theorem Sat.off {m m' : Mem} (h : Off m m') {a : Act} {T : List V} {H : List (Option Ob)} (sat : Sat m a T H) (hsz : m.w.heap.size ≤ m'.w.heap.size) : Sat m' a T H := by
  refine ⟨⟨fun b hb => Nat.lt_of_lt_of_le (sat.base.imm b (h.I ▸ hb)) hsz, fun n b hb => Nat.lt_of_lt_of_le (sat.base.dom n b (h.ρ ▸ hb)) hsz⟩, fun s => V.rep_off h _ _ (sat.slots s), fun n ob hn => Mem.obj_off h (sat.obj n ob hn), ?_, ?_, sat.size, sat.defers⟩
  · rw [h.ρ]; exact sat.inj
  · rw [h.ρ]; exact sat.top

/-- the same memory, of another world -/
abbrev Mem.at (m : Mem) (w : World) : Mem := ⟨m.ρ, m.I, w⟩
/-- a block without a name: it is another one -/
structure Mem.loose (m : Mem) (l : Nat) : Prop where
  lt : l < m.w.heap.size
  ρ : ∀ n, m.ρ n ≠ some l
  I : ¬ m.I l
theorem Mem.loose.keep {m m' : Mem} {M : Nat → Prop} {l : Nat} (h : m.loose l) (hle : m.le m' M) : m'.loose l ∧ m'.w.heap[l]? = m.w.heap[l]? := by
  refine ⟨⟨Nat.lt_of_lt_of_le h.lt hle.size, fun n hn => ?_, fun hI => ?_⟩, hle.block l h.lt fun n _ hn => h.ρ n hn⟩
  · rcases hle.newρ n l hn with k | k | ⟨j, _, k⟩
    · exact h.ρ n k
    · have := h.lt; omega
    · exact h.ρ j k
  · rcases hle.newI l hI with k | k | ⟨j, _, k⟩
    · exact h.I k
    · have := h.lt; omega
    · exact h.ρ j k
theorem Mem.loose.put {m : Mem} {l : Nat} (h : m.loose l) (o : Obj) : (m.at (m.w.putObj l o)).loose l := ⟨by simpa using h.lt, h.ρ, h.I⟩
theorem Mem.loose.sat {m : Mem} {l : Nat} (h : m.loose l) (o : Obj) {a : Act} {T : List V} {H : List (Option Ob)} (sat : Sat m a T H) : Sat (m.at (m.w.putObj l o)) a T H :=
  Sat.off (m := m) (m' := m.at (m.w.putObj l o)) ⟨rfl, rfl, fun b hb => World.putObj_heap_other fun e => h.I (e ▸ hb), fun n b hb => World.putObj_heap_other fun e => h.ρ n (e ▸ hb)⟩ sat (by simp)
theorem Mem.loose.rep {m : Mem} {l : Nat} (h : m.loose l) (o : Obj) {x : V} {v : Value} (k : x.rep m v) : x.rep (m.at (m.w.putObj l o)) v :=
  V.rep_off (m := m) (m' := m.at (m.w.putObj l o)) ⟨rfl, rfl, fun b hb => World.putObj_heap_other fun e => h.I (e ▸ hb), fun n b hb => World.putObj_heap_other fun e => h.ρ n (e ▸ hb)⟩ x v k
theorem shape_put {w : World} {l b : Nat} {o o' : Obj} (h : w.heap[l]? = some o) (h0 : ∀ c t f, o ≠ .cells c t f) (h1 : ∀ c t f, o' ≠ .cells c t f) : (w.putObj l o').shape? b = w.shape? b := by
  by_cases e : b = l
  · subst e
    have hlt : b < w.heap.size := (Array.getElem?_eq_some_iff.1 h).1
    unfold World.shape?
    rw [World.putObj_heap_same hlt, h]
    split <;> split <;> simp_all
  · unfold World.shape?; rw [World.putObj_heap_other e]
/-- what is true of the steps is true of them beside another block -/
theorem Mem.loose.le {m m' : Mem} {M : Nat → Prop} {l : Nat} (h : m.loose l) (hle : m.le m' M) {o0 o o' : Obj} (hl : m.w.heap[l]? = some o0) (hn : ∀ c t f, o0 ≠ .cells c t f) (h1 : ∀ c t f, o ≠ .cells c t f) (h2 : ∀ c t f, o' ≠ .cells c t f) (hoo : o = o') : (m.at (m.w.putObj l o)).le (m'.at (m'.w.putObj l o')) M := by
  subst hoo
  obtain ⟨hk, hk2⟩ := h.keep hle
  refine ⟨hle.ρ, hle.I, hle.os, hle.tape, hle.output, by simpa using hle.size, fun b hb hm => ?_, fun b hb => ?_, fun b hb => ?_, fun b hb => ?_, fun n b hb => ?_⟩
  · by_cases e : b = l
    · subst e
      rw [World.putObj_heap_same h.lt, World.putObj_heap_same hk.lt]
    · rw [World.putObj_heap_other e, World.putObj_heap_other e]; exact hle.block b (by simpa using hb) hm
  · rw [shape_put hl hn h1, shape_put (hk2.trans hl) hn h2]; exact hle.shape b (by simpa using hb)
  · have : b ≠ l := fun e => h.I (e ▸ hb)
    rw [World.putObj_heap_other this, World.putObj_heap_other this]; exact hle.imm b hb
  · have := hle.newI b hb; simpa using this
  · have := hle.newρ n b hb; simpa using this
end
end Go.Proofs.YtakjegcjeffmgaaGreat.Am
namespace Go.Proofs.YtakjegcjeffmgaaGreat.Am
section
open Go.RowKit
set_option linter.unusedVariables false
set_option linter.unusedSimpArgs false

theorem eval_tmps {a a' : Act} (h : a.tmps = a'.tmps) : a.eval = a'.eval := by
  funext x
  cases x <;> simp [Act.eval, h]
/-- the same slots; other deferred calls besides -/
structure Beside (D : List Deferred) (a a' : Act) : Prop where
  tmps : a.tmps = a'.tmps
  defers : a'.defers = a.defers ++ D
theorem Beside.put {D : List Deferred} {a a' : Act} (h : Beside D a a') (d : Option Tmp) (v : Value) : Beside D (a.put d v) (a'.put d v) := by
  cases d with
  | none => exact h
  | some d => exact ⟨by simp [Act.put, h.tmps], by simp [Act.put, h.defers]⟩
theorem uponIn_beside {D : List Deferred} {F : Fence} {n : Nat} {P : Program} {o : Oper} {K K' : Act → World → Prop} {Q Q' : Exit → Act → World → Prop} (hK : ∀ a a' w, Beside D a a' → K a w → K' a' w) (hQ : ∀ e a a' w, Beside D a a' → Q e a w → Q' e a' w) {a a' : Act} (h : Beside D a a') :
    ∀ r, o.uponIn F n P a K Q r → o.uponIn F n P a' K' Q' r := by
  have hl : LetsOut Q → LetsOut Q' := fun ⟨a, w, h⟩ => ⟨⟨a.tmps, a.defers ++ D⟩, w, hQ _ a _ _ ⟨rfl, rfl⟩ h⟩
  intro r hr
  unfold Oper.uponIn at hr ⊢
  split at hr
  · exact hK _ _ _ (h.put _ _) hr
  · exact hK _ _ _ (h.put _ _) hr
  · refine hK _ _ _ (Beside.put ⟨?_, ?_⟩ _ _) hr
    · exact h.tmps
    · simp [h.defers]
  · refine ⟨hr.1, hr.2.mono fun e w' k => ?_⟩
    cases e with
    | returned v => exact hK _ _ _ (h.put _ _) k
    | panicked chain => exact hQ _ _ _ _ h k
    | outgrown => exact hl k
  · exact ⟨hr.1, hr.2.mono fun v w' k => hK _ _ _ (h.put _ _) k⟩
  · refine ⟨hr.1, hr.2.mono fun e w' k => ?_⟩
    cases e with
    | returned v => exact hK _ _ _ (h.put _ _) k
    | panicked chain => exact hQ _ _ _ _ h k
    | outgrown => exact hl k
  · exact hQ _ _ _ _ h hr
  · exact hr.elim
theorem wpListIn_beside {D : List Deferred} {F : Fence} {n : Nat} {P : Program} {ops : Array Oper} {Q Q' : Exit → Act → World → Prop} (hQ : ∀ e a a' w, Beside D a a' → Q e a w → Q' e a' w) : ∀ (os : List Oper) (a a' : Act) (w : World), Beside D a a' → wpListIn F n P ops Q os a w → wpListIn F n P ops Q' os a' w
  | [], a, a', w, h, k => hQ _ _ _ _ h k
  | o :: os, a, a', w, h, k => by
    unfold wpListIn at k ⊢
    rw [← h.tmps]
    split
    · rename_i hw
      rw [if_pos hw] at k
      unfold Oper.wpIn at k ⊢
      rw [← eval_tmps h.tmps]
      exact ⟨k.1, uponIn_beside (fun a a' w h k => wpListIn_beside hQ os a a' w h k) hQ h _ k.2⟩
    · rename_i hw
      rw [if_neg hw] at k
      rw [← eval_tmps h.tmps]
      exact ⟨k.1, wpListIn_beside hQ os _ _ w (h.put _ _) k.2⟩

abbrev noQ : Exit → List V → List (Option Ob) → Prop := fun _ _ _ => False
theorem AW.then {P : Program} {n L : Nat} {x y : Code} {c : C} {R : Exit → Act → World → Prop} {K : List V → List (Option Ob) → Prop} {T : List V} {H : List (Option Ob)} (hc : resolveC P x = c) (hx : AW P L c (thenQ K noQ) T H) {m0 m : Mem} {a : Act} (sat : Sat m a T H) (hle : m0.le m (· < L)) (htop : ∀ n, L ≤ n → m0.ρ n = none) (hL : L ≤ H.length)
    (hy : ∀ T' H' m' a', K T' H' → Sat m' a' T' H' → m0.le m' (· < L) → L ≤ H'.length → y.wpIn Fence.wide n P R a' m'.w) : (Code.seq x y).wpIn Fence.wide n P R a m.w := by
  refine wpIn_seq (wpIn_mono (wpIn_wide.2 (hx x hc m0 m a sat hle htop hL)) ?_)
  rintro e a' w' ⟨T', H', m', rfl, hq, sat', hle', hL'⟩
  cases e with
  | normal => exact hy T' H' m' a' hq sat' hle' hL'
  | _ => exact hq.elim

/-- a call of yield -/
theorem yield_exec {P : Program} {o : Oper} {a : Act} {w : World} {c : Call} {f x y : Operand} {l : Nat} {caps : Array Value} (ho : o.op = .call c) (hc : c.callee = .value f) (ha : c.args.toList = [x, y]) (hf : a.eval f = .func (.yield l) #[] caps) :
    (execOp a.eval o).run P w = (Instr.yield l #[a.eval x, a.eval y]).run P w := by
  have e : c.args.map a.eval = #[a.eval x, a.eval y] := by rw [← Array.toArray_toList (xs := c.args), ha]; simp
  simp [execOp, ho, Go.resolve, hc, hf, Deferred.ofValue, invoke, e]

theorem putObj_put (w : World) (l : Nat) (o o' : Obj) : (w.putObj l o).putObj l o' = w.putObj l o' := by
  simp [World.putObj]
theorem putObj_same {w : World} {l : Nat} {o : Obj} (h : w.heap[l]? = some o) : w.putObj l o = w := by
  unfold World.putObj
  have : w.heap.setIfInBounds l o = w.heap := by
    apply Array.ext_getElem?
    intro i
    rw [Array.getElem?_setIfInBounds]
    split
    · rename_i e; subst e
      obtain ⟨hlt, _⟩ := Array.getElem?_eq_some_iff.1 h
      rw [if_pos hlt, h]
    · rfl
  rw [this]
theorem Mem.le.far {m m' : Mem} {M : Nat → Prop} (h : m.le m' M) (hb : m.base) {l : Nat} (hl : m.w.heap.size ≤ l) (o : Obj) : m.le (m'.at (m'.w.putObj l o)) M := by
  have e : ∀ b, b < m.w.heap.size → (m'.w.putObj l o).heap[b]? = m'.w.heap[b]? := fun b hb => World.putObj_heap_other (by omega)
  refine ⟨h.ρ, h.I, h.os, h.tape, h.output, by simpa using h.size, fun b hb hn => by rw [e b hb]; exact h.block b hb hn, fun b hb => ?_, fun b hI => by rw [e b (hb.imm b hI)]; exact h.imm b hI, h.newI, h.newρ⟩
  have := h.shape b hb
  unfold World.shape? at this ⊢
  rw [e b hb]; exact this
theorem Mem.le.grow {m m' : Mem} {M : Nat → Prop} (h : m.le m' M) (hb : m'.base) (o : Obj) : m.le (m'.at (m'.w.alloc o)) M := by
  have e : ∀ b, b < m'.w.heap.size → (m'.w.alloc o).heap[b]? = m'.w.heap[b]? := fun b hb => Below.heap_alloc _ _ _ hb
  refine ⟨h.ρ, h.I, h.os, h.tape, h.output, by simp; have := h.size; omega, fun b hb hn => by rw [e b (Nat.lt_of_lt_of_le hb h.size)]; exact h.block b hb hn, fun b hb => ?_, fun b hI => by rw [e b (hb.imm b (h.I b hI))]; exact h.imm b hI, h.newI, h.newρ⟩
  rw [← h.shape b hb]
  unfold World.shape?
  rw [e b (Nat.lt_of_lt_of_le hb h.size)]
theorem Sat.grow {m : Mem} {a : Act} {T : List V} {H : List (Option Ob)} (sat : Sat m a T H) (o : Obj) : Sat (m.at (m.w.alloc o)) a T H :=
  Sat.off (m := m) (m' := m.at (m.w.alloc o)) ⟨rfl, rfl, fun b hb => Below.heap_alloc _ _ _ (sat.base.imm b hb), fun n b hb => Below.heap_alloc _ _ _ (sat.base.dom n b hb)⟩ sat (by simp)
theorem loose_new {m : Mem} (hb : m.base) (o : Obj) : (m.at (m.w.alloc o)).loose m.w.heap.size :=
  ⟨by simp, fun n h => by have := hb.dom n _ h; omega, fun h => by have := hb.imm _ h; omega⟩
theorem Mem.loose.grow {m : Mem} {l : Nat} (h : m.loose l) (o : Obj) : (m.at (m.w.alloc o)).loose l := ⟨by simp; have := h.lt; omega, h.ρ, h.I⟩

/-- the memory as a round of names S sees it -/
abbrev Mem.cut (m : Mem) (S : Nat → Bool) : Mem := ⟨fun n => if S n then m.ρ n else none, m.I, m.w⟩
theorem Mem.cut_base {m : Mem} (h : m.base) (S : Nat → Bool) : (m.cut S).base :=
  ⟨h.imm, fun n b hb => by simp only at hb; split at hb; exact h.dom n b hb; cases hb⟩
/-- back from the round -/
theorem Mem.uncut {m m' : Mem} {S : Nat → Bool} {M : Nat → Prop} (h : (m.cut S).le m' M) (hM : ∀ n, S n = true → M n) : m.le ⟨m.ρ, m'.I, m'.w⟩ (fun n => S n = true) := by
  refine ⟨fun _ _ k => k, h.I, h.os, h.tape, h.output, h.size, fun b hb hn => h.block b hb fun n _ k => ?_, h.shape, h.imm, fun b hb => (h.newI b hb).imp id (fun k => k.imp id ?_), fun n b k => .inl k⟩
  · simp only at k
    split at k
    · exact hn n ‹_› k
    · cases k
  · rintro ⟨n, _, k⟩
    simp only at k
    split at k
    · exact ⟨n, ‹_›, k⟩
    · cases k
theorem Sat.uncut {m m' : Mem} {a : Act} {T : List V} {H H' : List (Option Ob)} {S : Nat → Bool} (sat : Sat m a T H) (hb : m'.base) (hle : m.le ⟨m.ρ, m'.I, m'.w⟩ (fun n => S n = true)) (hS : ∀ n, S n = true → live H n) (hlen : H'.length = H.length)
    (hH : ∀ n ob, H'.getD n none = some ob → (S n = true ∧ (⟨m.ρ, m'.I, m'.w⟩ : Mem).obj n ob) ∨ (S n = false ∧ H.getD n none = some ob)) : Sat ⟨m.ρ, m'.I, m'.w⟩ a T H' := by
  have hl : ∀ n, live H' n → live H n := fun n h => by
    unfold live at h
    obtain ⟨ob, ho⟩ := Option.isSome_iff_exists.1 h
    rcases hH n ob ho with ⟨h1, _⟩ | ⟨_, h1⟩
    · exact hS n h1
    · unfold live; rw [h1]; rfl
  refine ⟨⟨hb.imm, fun n b h => Nat.lt_of_lt_of_le (sat.base.dom n b h) hle.size⟩, fun s => V.rep_mono hle _ _ (sat.slots s), fun n ob h => ?_, fun n k b h1 h2 => sat.inj n k b (hl n h1) (hl k h2), fun n h => sat.top n (by omega), sat.size, sat.defers⟩
  rcases hH n ob h with ⟨_, h1⟩ | ⟨h0, h1⟩
  · exact h1
  · refine Mem.obj_keep sat.base hle (fun k b hk hn hk' => ?_) (sat.obj n ob h1)
    have := sat.inj n k b (by unfold live; rw [h1]; rfl) (hS k hk) hn hk'
    subst this
    rw [h0] at hk; cases hk

/-- the operations of a region that isn't drawn -/
theorem wpIn_regops {P : Program} {n id : Nat} {ops : Array Oper} {Q : Exit → Act → World → Prop} {a : Act} {w : World} (h : wpListIn Fence.wide n P ops Q ops.toList a w) : (Code.region id ops false).wpIn Fence.wide n P Q a w := wpIn_region_list h

theorem fnOf_enters {P : Program} {f : FuncId} {c : C} {rs : List RV} {nt : Nat} (hf : fnOf P f = some (c, rs, nt, false)) (vs : Array Value) (w : World) : (callFunc f vs).run P w = .ok (.enter f vs) w := by
  unfold fnOf at hf
  split at hf
  · rename_i fn hfn
    split at hf
    · rename_i b hb
      simp only [Option.some.injEq, Prod.mk.injEq] at hf
      obtain ⟨h1, h2, h3, h4⟩ := hf
      have h1 : ¬ fn.name = "runtime.NumGoroutine" := by simpa using h4
      simp [callFunc, hfn, h1, hb]
    · cases hf
  · cases hf
end
end Go.Proofs.YtakjegcjeffmgaaGreat.Am
namespace Go.Proofs.YtakjegcjeffmgaaGreat.Am
section
open Go.RowKit
set_option maxRecDepth 100000
set_option linter.unusedSimpArgs false
set_option linter.unusedVariables false

theorem walk_ok (s : Nat) : Eqn Tryz.prog n_yu_walk [.d (.int .i64 s)] [] (.fn (.func n_yu_walk_1) [.p 0 0]) [⟨3, [.d (.int .i64 s)]⟩] := by
  refine Eqn.newX r_yu_walk rfl ⟨rfl, fun _ => rfl⟩ (fun n => rfl) ?_
  simp only [c_yu_walk]
  repeat (first | refine AW.seq ?_ | refine AW.block ?_ | (refine AW.reg mix ?_; (simp; try simp (disch := omega) only [w64, wu64])) | (refine need.of (by first | omega | kernel_rfl) ?_) | (refine AW.skip ?_; (try simp)) | (refine AW.ret ?_; (try simp)) | (refine AW.exit ?_; (try simp)))
  exact ⟨0, Sub1.refl _, _, rfl, rfl, Subs.refl _⟩

/-- the walk's code, in its pieces -/
structure WalkS where
  r0 : C
  r1 : C
  g : C
  os : List O
  call : Option (Nat × List Nat × Option Nat)
  o4 : O
  cy : X
  r5 : C
  r6 : C
  ids : Nat × Nat
  calm : Bool
  res : Nat
  nt : Nat
def callS (o : Oper) : Option (Nat × List Nat × Option Nat) := match o.op, o.guard with
  | .call c, none => match c.callee, c.args.toList with
    | .value (.tmp f), [.tmp x, .tmp y] => some (f, [x, y], o.dst)
    | _, _ => none
  | _, _ => none
def walkS (P : Program) (f : FuncId) : Option WalkS := match P.funcs[f]? with
  | some fn => match fn.body with
    | some (.seq r0 (.seq r1 (.block i0 (.loop (.seq g (.seq (.block i1 (.seq (.seq (.region _ ops false) (.cond cy .ret .skip)) r5)) r6)))))) => match ops.toList with
      | [o0, o1, o2, o3, o4] => some ⟨resolveC P r0, resolveC P r1, resolveC P g, [o0, o1, o2].map (resolveO P ops), callS o3, resolveO P ops o4, X.of cy, resolveC P r5, resolveC P r6, (i0, i1), [o0, o1, o2].all notDefer && [o4].all notDefer, fn.results.size, fn.ntmps⟩
      | _ => none
    | _ => none
  | none => none
theorem walkS_spec {P : Program} {f : FuncId} {s : WalkS} (h : walkS P f = some s) : ∃ (fn : Func) (r0 r1 g r5 r6 : Code) (i id : Nat) (ops : Array Oper) (o0 o1 o2 o3 o4 : Oper) (cy : Operand),
    P.funcs[f]? = some fn ∧ fn.body = some (.seq r0 (.seq r1 (.block s.ids.1 (.loop (.seq g (.seq (.block s.ids.2 (.seq (.seq (.region id ops false) (.cond cy .ret .skip)) r5)) r6)))))) ∧ ops.toList = [o0, o1, o2, o3, o4] ∧
    resolveC P r0 = s.r0 ∧ resolveC P r1 = s.r1 ∧ resolveC P g = s.g ∧ [o0, o1, o2].map (resolveO P ops) = s.os ∧ callS o3 = s.call ∧ resolveO P ops o4 = s.o4 ∧ X.of cy = s.cy ∧ resolveC P r5 = s.r5 ∧ resolveC P r6 = s.r6 ∧ ([o0, o1, o2].all notDefer && [o4].all notDefer) = s.calm ∧ fn.results.size = s.res ∧ fn.ntmps = s.nt := by
  unfold walkS at h
  split at h
  · rename_i fn hf
    split at h
    · rename_i r0 r1 i0 g i1 id ops cy r5 r6 hb
      split at h
      · rename_i o0 o1 o2 o3 o4 ho
        cases h
        exact ⟨fn, r0, r1, g, r5, r6, 0, id, ops, o0, o1, o2, o3, o4, cy, hf, hb, ho, rfl, rfl, rfl, rfl, rfl, rfl, rfl, rfl, rfl, rfl, rfl, rfl⟩
      · cases h
    · cases h
  · cases h
theorem callS_spec {o : Oper} {f x y : Nat} {d : Option Nat} (h : callS o = some (f, [x, y], d)) : ∃ c, o.op = .call c ∧ o.guard = none ∧ c.callee = .value (.tmp f) ∧ c.args.toList = [.tmp x, .tmp y] ∧ o.dst = d := by
  unfold callS at h
  split at h
  · rename_i c ho hg
    split at h
    · rename_i hc ha
      cases h
      exact ⟨c, ho, hg, hc, ha, rfl⟩
    · cases h
  · cases h

/-- the asker's code -/
structure AtS where
  a1 : C
  a2 : C
  a3 : C
  a4 : C
  g : X
  ps : List Nat
  asg : C
  bd : C
  a5 : List O
  id : Nat
  calm : Bool
  rs : List RV
  nt : Nat
def atS (P : Program) (f : FuncId) : Option AtS := match P.funcs[f]? with
  | some fn => match fn.body with
    | some (.seq a1 (.seq a2 (.seq a3 (.seq (.seq a4 (.block id (.rangeFunc g ps asg bd))) (.seq (.region _ ops false) .ret))))) =>
      some ⟨resolveC P a1, resolveC P a2, resolveC P a3, resolveC P a4, X.of g, ps.toList, resolveC P asg, resolveC P bd, ops.toList.map (resolveO P ops), id, Code.calm asg && (Code.calm bd && ops.toList.all notDefer), fn.results.toList.map (resolveR P), fn.ntmps⟩
    | _ => none
  | none => none
theorem atS_spec {P : Program} {f : FuncId} {s : AtS} (h : atS P f = some s) : ∃ (fn : Func) (a1 a2 a3 a4 asg bd : Code) (g : Operand) (ps : Array Nat) (id : Nat) (ops : Array Oper),
    P.funcs[f]? = some fn ∧ fn.body = some (.seq a1 (.seq a2 (.seq a3 (.seq (.seq a4 (.block s.id (.rangeFunc g ps asg bd))) (.seq (.region id ops false) .ret))))) ∧
    resolveC P a1 = s.a1 ∧ resolveC P a2 = s.a2 ∧ resolveC P a3 = s.a3 ∧ resolveC P a4 = s.a4 ∧ X.of g = s.g ∧ ps.toList = s.ps ∧ resolveC P asg = s.asg ∧ resolveC P bd = s.bd ∧ ops.toList.map (resolveO P ops) = s.a5 ∧ (Code.calm asg && (Code.calm bd && ops.toList.all notDefer)) = s.calm ∧ fn.results.toList.map (resolveR P) = s.rs ∧ fn.ntmps = s.nt := by
  unfold atS at h
  split at h
  · rename_i fn hf
    split at h
    · rename_i a1 a2 a3 a4 id g ps asg bd id' ops hb
      cases h
      exact ⟨fn, a1, a2, a3, a4, asg, bd, g, ps, id', ops, hf, hb, rfl, rfl, rfl, rfl, rfl, rfl, rfl, rfl, rfl, rfl, rfl, rfl⟩
    · cases h
  · cases h

def C.l : C → C
  | .seq a _ => a
  | c => c
def C.r : C → C
  | .seq _ b => b
  | c => c
def C.b : C → C
  | .block _ a | .loop a => a
  | c => c
def C.os : C → List O
  | .reg _ l => l
  | _ => []
/-- the assignment to the loop's variables -/
def cAsg : C := .seq (.reg false [⟨some 7, .mv (.t 24), none, []⟩]) (.reg false [⟨some 8, .new 219 [.int .i64 0, .int .i64 0, .nilsl, .nilsl], none, []⟩, ⟨none, .store 4 (.t 8) (.t 25), none, [0, 0]⟩])
/-- the loop's body -/
def cBd : C := .block 2 (.seq (.reg false [⟨some 26, .load true 4 (.t 8), none, []⟩, ⟨none, .store 4 (.t 6) (.t 26), none, [0, 0]⟩])
  (.seq (.reg false [⟨some 27, .mv (.t 7), none, []⟩, ⟨some 28, .load false 1 (.t 3), none, []⟩, ⟨some 29, .bin .eql (.t 27) (.t 28), none, [0, 1]⟩]) (.cond (.t 29) (.exit 1) .skip)))
theorem at_s : atS Tryz.prog n_yu_At = some ⟨c_yu_At.l, c_yu_At.r.l, c_yu_At.r.r.l, c_yu_At.r.r.r.l.l, .t 23, [24, 25], cAsg, cBd, c_yu_At.r.r.r.r.l.os, 1, true, [.cell 4 true 4, .t 5], 31⟩ := by kernel_rfl
abbrev cWb : C := c_yu_walk_1.r.r.b.b
theorem walk_s : walkS Tryz.prog n_yu_walk_1 = some ⟨c_yu_walk_1.l, c_yu_walk_1.r.l, cWb.l, (cWb.r.l.b.l.l.os).take 3, some (15, [16, 17], some 18), ((cWb.r.l.b.l.l.os).drop 4).headD ⟨none, .bad, none, []⟩, .t 19, cWb.r.l.b.r, cWb.r.r, (0, 1), true, 0, 23⟩ := by kernel_rfl

abbrev kO (K : Nat) : Ob := ⟨3, [.d (.int .i64 K)]⟩
abbrev plO (c : List V) : Ob := ⟨219, c⟩

def Tr (i : Nat) (p : List D) : List V := [.junk, .junk, .junk, .p 0 0, .junk, .junk, .p 2 0] ++ List.replicate 17 .junk ++ [.d (.int .i64 i), .d (.agg p)] ++ List.replicate 5 .junk

theorem asg_ok (l n K i : Nat) (c : List V) (p : List D) (hp : p.length = 4) : AWr Tryz.prog (some l) n 3 cAsg (thenQ (fun T H => T = ((Tr i p).set 7 (.d (.int .i64 i))).set 8 (.p 3 0) ∧ H = [some (kO K), none, some (plO c), some (plO (p.map .d))]) noQ) (Tr i p) [some (kO K), none, some (plO c)] := by
  obtain ⟨p1, p2, p3, p4, rfl⟩ : ∃ a b c d, p = [a, b, c, d] := by
    match p, hp with
    | [a, b, c, d], _ => exact ⟨a, b, c, d, rfl⟩
  simp only [cAsg, Tr]
  refine AWr.seq (AWr.reg ?_)
  simp
  refine AWr.reg ?_
  simp

theorem bd_ok (l n K i : Nat) (c : List V) (hc : c.length = 4) (p : List D) (hp : p.length = 4) : AWr Tryz.prog (some l) n 3 cBd (fun e T H => H = [some (kO K), none, some (plO (p.map .d)), some (plO (p.map .d))] ∧ e = if i = K then .exit 1 else .normal) (((Tr i p).set 7 (.d (.int .i64 i))).set 8 (.p 3 0)) [some (kO K), none, some (plO c), some (plO (p.map .d))] := by
  obtain ⟨p1, p2, p3, p4, rfl⟩ : ∃ a b c d, p = [a, b, c, d] := by
    match p, hp with
    | [a, b, c, d], _ => exact ⟨a, b, c, d, rfl⟩
  obtain ⟨c1, c2, c3, c4, rfl⟩ : ∃ a b c' d, c = [a, b, c', d] := by
    match c, hc with
    | [a, b, c, d], _ => exact ⟨a, b, c, d, rfl⟩
  simp only [cBd, Tr]
  refine AWr.block ?_
  refine AWr.seq (AWr.reg ?_)
  simp
  refine AWr.seq (AWr.reg ?_)
  by_cases h : i = K
  · subst h
    simp
    refine AWr.cond rfl (fun h => ?_) (fun h => ?_)
    · refine AWr.exit ?_
      simp
    · simp at h
  · have h' : ¬ (i : Int) = K := by omega
    simp [h, h']
    refine AWr.cond rfl (fun h => ?_) (fun h => ?_)
    · simp at h
      omega
    · refine AWr.skip ?_
      simp

theorem obj_rho {m : Mem} {n : Nat} {o : Ob} (h : m.obj n o) : ∃ b, m.ρ n = some b := by
  obtain ⟨b, _, _, h1, _⟩ := h; exact ⟨b, h1⟩

/-- what a round leaves behind -/
def RoundR (K i : Nat) (p : List D) (m : Mem) (l : Nat) (rec : LoopState → Option Code → Loop) (e : Ending) (w' : World) : Prop :=
  ∃ m' : Mem, m'.w = w' ∧ m'.base ∧ m'.obj 0 (kO K) ∧ m'.obj 2 (plO (p.map .d)) ∧
    if i = K then e = .returned (.bool false) ∧ (m.at (m.w.putObj l (.loop (rec .done (some (.exit 1)))))).le m' (· < 3) else e = .returned (.bool true) ∧ m.le m' (· < 3)

theorem round_ok {asg bd : Code} (hasg : resolveC Tryz.prog asg = cAsg) (hbd : resolveC Tryz.prog bd = cBd) (ca : Code.calm asg = true) (cb : Code.calm bd = true) {fn df : Nat} {tmps : Array Value} {rec : LoopState → Option Code → Loop}
    (hrec : rec = fun st pe => { state := st, pending := pe, fn, tmps, params := #[24, 25], assign := asg, body := bd, defers := df }) (n K i : Nat) (p : List D) (hp : p.length = 4) {m : Mem} {l : Nat} {c : List V} (mb : m.base) (h0 : m.obj 0 (kO K)) (h2 : m.obj 2 (plO c)) (hc : c.length = 4)
    (hinj : ∀ b, m.ρ 0 = some b → m.ρ 2 ≠ some b) (htop : ∀ n, n ≠ 0 → n ≠ 2 → m.ρ n = none) (t3 : (V.p 0 0).rep m (tmps.getD 3 undef)) (t6 : (V.p 2 0).rep m (tmps.getD 6 undef)) (hsz : tmps.size = 31) (hlo : m.loose l) (hl : m.w.heap[l]? = some (.loop (rec .ready none))) {v : Value} (hv : (V.d (.agg p)).rep m v) :
    YieldAt Fence.wide n Tryz.prog l #[.int .i64 i, v] m.w (RoundR K i p m l rec) := by
  have hy := run_yield (P := Tryz.prog) (args := #[.int .i64 i, v]) hl (by rw [hrec]; rfl)
  refine ⟨_, _, _, _, hy, ?_⟩
  have ht : ((rec .ready none).params.zip #[.int .i64 i, v]).foldl (fun tmps (t, a) => tmps.setIfInBounds t a) (rec .ready none).tmps = (tmps.setIfInBounds 24 (.int .i64 i)).setIfInBounds 25 v := by
    rw [hrec]; simp
  rw [ht, show (rec .ready none).assign = asg by rw [hrec], show (rec .ready none).body = bd by rw [hrec]]
  clear hy ht
  have sat : Sat m ⟨(tmps.setIfInBounds 24 (.int .i64 i)).setIfInBounds 25 v, []⟩ (Tr i p) [some (kO K), none, some (plO c)] := by
    refine ⟨mb, fun s => ?_, fun n ob h => ?_, fun n k b ln lk h1 h3 => ?_, fun n h => htop n (by simp at h; omega) (by simp at h; omega), by simp [Tr, hsz], rfl⟩
    · have g : ((tmps.setIfInBounds 24 (.int .i64 i)).setIfInBounds 25 v).getD s undef = if s = 25 then v else if s = 24 then .int .i64 i else tmps.getD s undef := by
        rw [Array.getD_eq_getD_getElem?, Array.getElem?_setIfInBounds]
        by_cases e1 : s = 25
        · subst e1; simp [hsz]
        · rw [if_neg (by omega), if_neg e1, Array.getElem?_setIfInBounds]
          by_cases e2 : s = 24
          · subst e2; simp [hsz]
          · rw [if_neg (by omega), if_neg e2, Array.getD_eq_getD_getElem?]
      have g2 : (Tr i p).getD s .junk = if s = 25 then .d (.agg p) else if s = 24 then .d (.int .i64 i) else if s = 3 then .p 0 0 else if s = 6 then .p 2 0 else .junk := by
        rcases Nat.lt_or_ge s 31 with hs | hs
        · have : ∀ s, s < 31 → (Tr i p).getD s .junk = if s = 25 then .d (.agg p) else if s = 24 then .d (.int .i64 i) else if s = 3 then .p 0 0 else if s = 6 then .p 2 0 else .junk := by
            intro s hs
            iterate 31 (rcases s with _ | s; · rfl)
            omega
          exact this s hs
        · rw [if_neg (by omega), if_neg (by omega), if_neg (by omega), if_neg (by omega), List.getD_eq_getElem?_getD, List.getElem?_eq_none (by simp [Tr]; omega)]; rfl
      rw [g, g2]
      split
      · exact hv
      · split
        · exact V.rep_int.2 rfl
        · split
          · rename_i e; subst e; exact t3
          · split
            · rename_i e; subst e; exact t6
            · unfold V.rep; trivial
    · rcases n with _ | _ | _ | n
      · simp at h; subst h; exact h0
      · simp at h
      · simp at h; subst h; exact h2
      · simp at h
    · have l2 : ∀ n, live [some (kO K), none, some (plO c)] n → n = 0 ∨ n = 2 := fun n h => by
        rcases n with _ | _ | _ | n
        · exact .inl rfl
        · simp [live] at h
        · exact .inr rfl
        · simp [live] at h
      rcases l2 n ln with rfl | rfl <;> rcases l2 k lk with rfl | rfl
      · rfl
      · exact (hinj b h1 h3).elim
      · exact (hinj b h3 h1).elim
      · rfl
  have htop3 : ∀ n, 3 ≤ n → m.ρ n = none := fun n h => htop n (by omega) (by omega)
  refine roundIn_of_wpIn trivial (wpIn_mono (asg_ok l n K i c p hp asg hasg ca m m _ sat (Mem.le.refl _ _) htop3 (by simp)) ?_)
  rintro e a1 w1 ⟨T1, H1, m1, rfl, hq, sat1, hle1, _⟩
  cases e with
  | normal =>
    obtain ⟨rfl, rfl⟩ := hq
    obtain ⟨lo1, hl1⟩ := hlo.keep hle1
    have hl1' := hl1.trans hl
    refine ⟨_, run_beginRound hl1' (by rw [hrec]), ?_⟩
    have nc : ∀ (r : Loop) c t f, Obj.loop r ≠ .cells c t f := by intro r c t f h; cases h
    have hle2 := hlo.le hle1 (o := .loop { rec .ready none with state := .busy }) (o' := .loop { rec .ready none with state := .busy }) hl (nc _) (nc _) (nc _) rfl
    have sat2 := lo1.sat (.loop { rec .ready none with state := .busy }) sat1
    refine wpIn_mono (bd_ok l n K i c hc p hp bd hbd cb (m.at (m.w.putObj l (.loop { rec .ready none with state := .busy }))) _ a1 sat2 hle2 htop3 (by simp)) ?_
    rintro e a3 w3 ⟨T3, H3, m3, rfl, ⟨rfl, rfl⟩, sat3, hle3, _⟩
    obtain ⟨lo3, hl3⟩ := (hlo.put (.loop { rec .ready none with state := .busy })).keep hle3
    rw [World.putObj_heap_same hlo.lt] at hl3
    have hend := fun jump => run_endRound (P := Tryz.prog) jump hl3
    have hle4 := fun o (ho : ∀ c t f, o ≠ Obj.cells c t f) => (hlo.put (.loop { rec .ready none with state := .busy })).le hle3 (o := o) (o' := o) (World.putObj_heap_same hlo.lt) (nc _) ho ho rfl
    have sat4 := fun o => lo3.sat o sat3
    by_cases hik : i = K
    · simp only [if_pos hik]
      refine ⟨_, _, hend (some (.exit 1)), ⟨_, rfl, (sat4 _).base, (sat4 _).obj 0 _ rfl, (sat4 _).obj 2 _ rfl, ?_⟩⟩
      rw [if_pos hik]
      refine ⟨rfl, ?_⟩
      have := hle4 (.loop { rec .ready none with state := .done, pending := some (.exit 1) }) (nc _)
      simp only [putObj_put] at this
      rw [hrec] at this ⊢
      exact this
    · simp only [if_neg hik]
      refine ⟨_, _, hend none, ⟨_, rfl, (sat4 _).base, (sat4 _).obj 0 _ rfl, (sat4 _).obj 2 _ rfl, ?_⟩⟩
      rw [if_neg hik]
      refine ⟨rfl, ?_⟩
      have := hle4 (.loop (rec .ready none)) (nc _)
      simp only [putObj_put, putObj_same hl] at this
      rw [hrec] at this ⊢
      exact this
  | _ => exact hq.elim
end
end Go.Proofs.YtakjegcjeffmgaaGreat.Am
namespace Go.Proofs.YtakjegcjeffmgaaGreat.Am
section
open Go.RowKit
set_option maxRecDepth 100000
set_option linter.unusedSimpArgs false
set_option linter.unusedVariables false

theorem Sat.put {m : Mem} {a : Act} {T : List V} {H : List (Option Ob)} (sat : Sat m a T H) (s : Nat) {x : V} {v : Value} (hv : x.rep m v) : Sat m (a.put (some s) v) (T.set s x) H := by
  refine ⟨sat.base, fun i => ?_, sat.obj, sat.inj, sat.top, by rw [put_size]; simpa using sat.size, by rw [put_defers']; exact sat.defers⟩
  have h1 : T.set s x = putT T (some s) x := rfl
  rw [h1, putT_getD, put_getD, sat.size]
  split
  · exact hv
  · exact sat.slots i

abbrev sO (s : Nat) : Ob := ⟨3, [.d (.int .i64 s)]⟩
def plC (p : Pl) : List D := [.int .i64 p.x, .int .i64 p.shift, natW p.value, natW p.reply]
abbrev fnY (l : Nat) : V := .fn (.yield l) []
def Tw0 (l : Nat) : List V := [fnY l, .p 3 0, .junk, .p 5 0] ++ List.replicate 19 .junk
def Tw (l i : Nat) : List V := [fnY l, .p 3 0, .junk, .p 5 0, .d (.int .i64 i)] ++ List.replicate 18 .junk
def Hw (K s i : Nat) (c : List V) : List (Option Ob) := [some (kO K), none, some (plO c), some (sO s), none, some (plO ((plC (placeY s i)).map .d))]

theorem placeY_size {s k : Nat} (h1 : 1 ≤ s) (h5 : s ≤ 5) (hk : k ≤ 1024) : (placeY s k).x ≤ 100000 ∧ (placeY s k).shift ≤ 8192 ∧ size (placeY s k).value ≤ 900 ∧ size (placeY s k).reply ≤ 900 := by
  obtain ⟨a1, a2, a3, a4, a5⟩ := placeY_le h1 k
  refine ⟨by omega, by omega, ?_, ?_⟩
  · refine Nat.le_trans (size_pow (n := 11 + (2 * s + k)) (m := 20) (Nat.lt_of_le_of_lt a4 ?_) (by omega)) (by omega)
    have hp := Nat.two_pow_pos (2 * s + k)
    rw [Nat.pow_add 2 11]
    generalize 2 ^ (2 * s + k) = z at *
    have h1 : k * z ≤ 1024 * z := Nat.mul_le_mul_right _ hk
    have h2 : (2 : Nat) ^ 11 * z = 2048 * z := rfl
    rw [h2]
    omega
  · exact Nat.le_trans (size_pow (n := 2 * s + k + 1) (m := 20) (Nat.lt_of_le_of_lt a2 (Nat.pow_lt_pow_right (by omega) (Nat.lt_succ_self _))) (by omega)) (by omega)

theorem w_r0 (l K s : Nat) (h1 : 1 ≤ s) (h5 : s ≤ 5) (c : List V) (hc : V.lowl 6 c = true) : AW Tryz.prog 4 c_yu_walk_1.l (thenQ (fun T H => wk 6 T (Tw0 l) ∧ wkH 6 H (Hw K s 0 c)) noQ) ([fnY l, .p 3 0] ++ List.replicate 21 .junk) [some (kO K), none, some (plO c), some (sO s)] := by
  simp only [c_yu_walk_1, C.l, Tw0, Hw]
  have e1 : IntKind.i64.wrap (2 * (s : Int)) = 2 * (s : Int) := w64 (by omega) (by omega)
  have e2 : ((2 : Int) * s).toNat = 2 * s := by omega
  have e3 : (2 : Int) ^ (2 * s) = (2 ^ (2 * s) : Nat) := by rw [Int.natCast_pow]; rfl
  have hlt : 2 ^ (2 * s) ≤ 2 ^ 10 := Nat.pow_le_pow_right (by omega) (by omega)
  have hp0 : placeY s 0 = ⟨0, 0, 0, 2 ^ (2 * s)⟩ := rfl
  rw [hp0]
  generalize 2 ^ (2 * s) = q at *
  have e4 : IntKind.u64.wrap (q : Int) = q := wu64 (by omega) (by omega)
  have e5 : (2 : Int) * s ≤ 64 := by omega
  repeat (first | refine AW.seq ?_ | refine AW.block ?_ | (refine AW.reg mix ?_; (simp [e1, e2, e3, e4, e5]; try simp (disch := omega) only [w64, wu64])) | (refine need.of (by first | omega | kernel_rfl) ?_) | (refine AW.skip ?_; (try simp [e1, e2, e3, e4, e5])) | (refine AW.ret ?_; (try simp [e1, e2, e3, e4, e5])) | (refine AW.exit ?_; (try simp [e1, e2, e3, e4, e5])))
  refine CallS.pureF 4 1 ⟨119, _⟩ [.int .u64 q] (of_ok [q] (small_one (by omega)) (by simp)) (by first | exact plain_d _ | exact plain_tup2 _ _ | exact plain_tup3 _ _ _) rfl (fun _ => rfl) (by rfl) (by simp) (Subs.of ?_) ?_
  focus first | rfl | (simp; done) | skip
  rotate_left
  (try simp; try simp (disch := omega) only [w64, wu64])
  repeat (first | refine AW.seq ?_ | refine AW.block ?_ | (refine AW.reg mix ?_; (simp; try simp (disch := omega) only [w64, wu64])) | (refine need.of (by first | omega | kernel_rfl) ?_) | (refine AW.skip ?_; (try simp)) | (refine AW.ret ?_; (try simp)) | (refine AW.exit ?_; (try simp)))
  exact ⟨Subs.cons (Sub1.refl _) (Subs.cons (Sub1.refl _) (Subs.cons Sub1.nil (Subs.of (by simp [wval])))), rfl⟩

theorem w_r1 (l K s : Nat) (c : List V) (hc : V.lowl 6 c = true) : AW Tryz.prog 4 c_yu_walk_1.r.l (thenQ (fun T H => wk 6 T (Tw l 0) ∧ wkH 6 H (Hw K s 0 c)) noQ) (Tw0 l) (Hw K s 0 c) := by
  simp only [c_yu_walk_1, C.l, C.r, Tw0, Tw, Hw]
  have hp : V.lowl 6 ((plC (placeY s 0)).map V.d) = true := rfl
  repeat (first | refine AW.seq ?_ | refine AW.block ?_ | (refine AW.reg mix ?_; (simp [hc, hp]; try simp (disch := omega) only [w64, wu64])) | (refine need.of (by first | omega | kernel_rfl) ?_) | (refine AW.skip ?_; (try simp [hc, hp])) | (refine AW.ret ?_; (try simp [hc, hp])) | (refine AW.exit ?_; (try simp [hc, hp])))

theorem w_g (l K s i : Nat) (hi : i ≤ 1023) (c : List V) (hc : V.lowl 6 c = true) : AW Tryz.prog 4 cWb.l (thenQ (fun T H => wk 6 T (Tw l i) ∧ wkH 6 H (Hw K s i c)) noQ) (Tw l i) (Hw K s i c) := by
  simp only [c_yu_walk_1, C.l, C.r, C.b, Tw, Hw]
  have hp : V.lowl 6 ((plC (placeY s i)).map V.d) = true := rfl
  have h1 : (i : Int) ≤ 1023 := by omega
  repeat (first | refine AW.seq ?_ | refine AW.block ?_ | (refine AW.reg mix ?_; (simp [hc, hp, h1]; try simp (disch := omega) only [w64, wu64])) | (refine need.of (by first | omega | kernel_rfl) ?_) | (refine AW.skip ?_; (try simp [hc, hp, h1])) | (refine AW.ret ?_; (try simp [hc, hp, h1])) | (refine AW.exit ?_; (try simp [hc, hp, h1])))
  refine AW.cond rfl (fun h => ?_) (fun h => ?_)
  · repeat (first | refine AW.seq ?_ | refine AW.block ?_ | (refine AW.reg mix ?_; (simp [hc, hp]; try simp (disch := omega) only [w64, wu64])) | (refine need.of (by first | omega | kernel_rfl) ?_) | (refine AW.skip ?_; (try simp [hc, hp])) | (refine AW.ret ?_; (try simp [hc, hp])) | (refine AW.exit ?_; (try simp [hc, hp])))
  · simp [h1] at h

theorem w_r5 (l K s i : Nat) (h1 : 1 ≤ s) (h5 : s ≤ 5) (hi : i ≤ 1023) (c : List V) (hc : V.lowl 6 c = true) : AW Tryz.prog 4 cWb.r.l.b.r (thenQ (fun T H => wk 6 T (Tw l i) ∧ wkH 6 H (Hw K s (i + 1) c)) noQ) (Tw l i) (Hw K s i c) := by
  simp only [c_yu_walk_1, C.l, C.r, C.b, Tw, Hw]
  obtain ⟨b1, b2, b3, b4⟩ := placeY_size h1 h5 (k := i) (by omega)
  have hn := next_ok s (placeY s i) h5 b1 b2 b3 b4
  rw [show nextY s (placeY s i) = placeY s (i + 1) from rfl] at hn
  generalize placeY s i = p at *
  generalize placeY s (i + 1) = p' at *
  simp only [plC, List.map_cons, List.map_nil, plD] at hn ⊢
  repeat (first | refine AW.seq ?_ | refine AW.block ?_ | (refine AW.reg mix ?_; (simp [hc]; try simp (disch := omega) only [w64, wu64])) | (refine need.of (by first | omega | kernel_rfl) ?_) | (refine AW.skip ?_; (try simp [hc])) | (refine AW.ret ?_; (try simp [hc])) | (refine AW.exit ?_; (try simp [hc])))
  refine CallS.pure (hn) (by first | exact plain_d _ | exact plain_tup2 _ _ | exact plain_tup3 _ _ _) rfl (fun _ => rfl) (Subs.refl _) ?_
  (try simp [hc]; try simp (disch := omega) only [w64, wu64])
  repeat (first | refine AW.seq ?_ | refine AW.block ?_ | (refine AW.reg mix ?_; (simp [hc]; try simp (disch := omega) only [w64, wu64])) | (refine need.of (by first | omega | kernel_rfl) ?_) | (refine AW.skip ?_; (try simp [hc])) | (refine AW.ret ?_; (try simp [hc])) | (refine AW.exit ?_; (try simp [hc])))

theorem w_r6 (l K s i : Nat) (hi : i ≤ 1023) (c : List V) (hc : V.lowl 6 c = true) : AW Tryz.prog 4 cWb.r.r (thenQ (fun T H => wk 6 T (Tw l (i + 1)) ∧ wkH 6 H (Hw K s (i + 1) c)) noQ) (Tw l i) (Hw K s (i + 1) c) := by
  simp only [c_yu_walk_1, C.l, C.r, C.b, Tw, Hw]
  have hp : V.lowl 6 ((plC (placeY s (i + 1))).map V.d) = true := rfl
  generalize (plC (placeY s (i + 1))).map V.d = pc at *
  have ew : IntKind.i64.wrap ((i : Int) + 1) = (i : Int) + 1 := w64 (by omega) (by omega)
  repeat (first | refine AW.seq ?_ | refine AW.block ?_ | (refine AW.reg mix ?_; (simp [hc, hp, ew]; try simp (disch := omega) only [w64, wu64])) | (refine need.of (by first | omega | kernel_rfl) ?_) | (refine AW.skip ?_; (try simp [hc, hp, ew])) | (refine AW.ret ?_; (try simp [hc, hp, ew])) | (refine AW.exit ?_; (try simp [hc, hp, ew])))

/-- what is read ahead of the call of yield -/
theorem w_os (l K s i : Nat) (c : List V) (ops : Array Oper) {K' : List V → List (Option Ob) → Prop} (h : K' ((((Tw l i).set 15 (fnY l)).set 16 (.d (.int .i64 i))).set 17 (.d (.agg (plC (placeY s i))))) (Hw K s i c)) :
    vops Tryz.prog false K' ((cWb.r.l.b.l.l.os).take 3) [] (Tw l i) (Hw K s i c) := by
  simp only [cWb, c_yu_walk_1, C.l, C.r, C.b, C.os, Tw, Hw] at h ⊢
  generalize placeY s i = p at *
  simp only [plC, List.map_cons, List.map_nil] at h ⊢
  simp
  simpa using h
theorem w_o4 (l K s i : Nat) (p : D) (b : Bool) (H : List (Option Ob)) {K' : List V → List (Option Ob) → Prop} (h : K' (((((Tw l i).set 15 (fnY l)).set 16 (.d (.int .i64 i))).set 17 (.d p)).set 18 (.d (.bool b)) |>.set 19 (.d (.bool !b))) H) :
    vops Tryz.prog false K' [((cWb.r.l.b.l.l.os).drop 4).headD ⟨none, .bad, none, []⟩] [] (((((Tw l i).set 15 (fnY l)).set 16 (.d (.int .i64 i))).set 17 (.d p)).set 18 (.d (.bool b))) H := by
  simp only [cWb, c_yu_walk_1, C.l, C.r, C.b, C.os, Tw] at h ⊢
  simp
  simpa using h
end
end Go.Proofs.YtakjegcjeffmgaaGreat.Am
namespace Go.Proofs.YtakjegcjeffmgaaGreat.Am
section
open Go.RowKit
set_option maxRecDepth 100000
set_option linter.unusedSimpArgs false
set_option linter.unusedVariables false

theorem lowl_plC (n : Nat) (p : Pl) : V.lowl n ((plC p).map V.d) = true := rfl
theorem getD_of_rep {m : Mem} {a : Act} {T : List V} {H : List (Option Ob)} (sat : Sat m a T H) {s : Nat} {x : V} (h : T.getD s .junk = x) : x.rep m (a.tmps.getD s undef) := h ▸ sat.slots s
theorem nloop (r : Loop) : ∀ c t f, Obj.loop r ≠ .cells c t f := by intro c t f h; cases h

theorem reps_data {m m' : Mem} (hI : m'.I = m.I) (hw : m'.w = m.w) {ds : List D} {vs : List Value} (h : V.reps m (ds.map V.d) vs) : V.reps m' (ds.map V.d) vs := by
  rw [V.reps_map_d] at h ⊢
  rw [hI, hw]; exact h
theorem wpIn_eval {m : Mem} {a : Act} {T : List V} {H : List (Option Ob)} (sat : Sat m a T H) {c : Operand} {s : Nat} (hc : X.of c = .t s) {b : Bool} (h : T.getD s .junk = .d (.bool b)) : a.eval c = .bool b :=
  V.rep_bool.1 (X.rep' (T := T) (fun s _ => sat.slots s) (by rw [hc]; exact h))
def zD : List D := [.int .i64 0, .int .i64 0, .nilsl, .nilsl]
def SS : Nat → Bool := fun n => n == 0 || n == 2

set_option maxHeartbeats 4000000 in
theorem walk1_ok {asg bd : Code} (hasg : resolveC Tryz.prog asg = cAsg) (hbd : resolveC Tryz.prog bd = cBd) (ca : Code.calm asg = true) (cb : Code.calm bd = true) {fn df : Nat} {tmps : Array Value} {rec : LoopState → Option Code → Loop}
    (hrec : rec = fun st pe => { state := st, pending := pe, fn, tmps, params := #[24, 25], assign := asg, body := bd, defers := df }) (s K : Nat) (s1 : 1 ≤ s) (s5 : s ≤ 5) (hK : K ≤ 1023) {m : Mem} {l : Nat} {sv : Value}
    (sat : ∀ a : Act, a.tmps = #[.func (.yield l) #[] #[], sv] ++ Array.replicate 21 undef → a.defers = [] → Sat m a ([fnY l, .p 3 0] ++ List.replicate 21 .junk) [some (kO K), none, some (plO (zD.map V.d)), some (sO s)])
    (t3 : (V.p 0 0).rep m (tmps.getD 3 undef)) (t6 : (V.p 2 0).rep m (tmps.getD 6 undef)) (hsz : tmps.size = 31) (hlo : m.loose l) (hl : m.w.heap[l]? = some (.loop (rec .ready none))) :
    Calls Tryz.prog n_yu_walk_1 #[.func (.yield l) #[] #[], sv] m.w fun e w' => (∃ v, e = .returned v) ∧ ∃ m' : Mem, m'.w = w' ∧ m'.base ∧ m'.obj 2 (plO ((plC (placeY s K)).map .d)) ∧ (m.at (m.w.putObj l (.loop (rec .done (some (.exit 1)))))).le m' (· < 4) := by
  obtain ⟨f67, r0, r1, g, r5, r6, -, id, ops, o0, o1, o2, o3, o4, cy, hf, hb, hops, e0, e1, eg, eos, ecall, eo4, ecy, er5, er6, ecalm, eres, ent⟩ := walkS_spec walk_s
  simp only at hb e0 e1 eg eos ecall eo4 ecy er5 er6 ecalm eres ent
  obtain ⟨cc, ho3, hg3, hc3, ha3, hd3⟩ := callS_spec ecall
  rw [Bool.and_eq_true] at ecalm
  refine calls_of_wp hf hb ((wpIn_wide (n := 0)).1 ?_)
  have sat0 := sat { tmps := #[.func (.yield l) #[] #[], sv] ++ Array.replicate (f67.ntmps - #[Value.func (.yield l) #[] #[], sv].size) undef, defers := [] } (by rw [ent]; rfl) rfl
  have htop : ∀ n, 4 ≤ n → m.ρ n = none := sat0.top
  refine AW.then (L := 4) e0 (w_r0 l K s s1 s5 (zD.map V.d) rfl) sat0 (Mem.le.refl _ _) htop (by simp) fun T1 H1 m1 a1 hq st1 le1 L1 => ?_
  obtain ⟨m1', hw1, st1', le1', L1'⟩ := Sat.weaken (T1 := Tw0 l) (H1 := Hw K s 0 (zD.map V.d)) (Weak.of hq.1 hq.2) st1 le1 htop (by simp [Hw])
  rw [← hw1]
  refine AW.then (L := 4) e1 (w_r1 l K s (zD.map V.d) rfl) st1' le1' htop (by simp [Hw]) fun T2 H2 m2 a2 hq st2 le2 L2 => ?_
  obtain ⟨m2', hw2, st2', le2', L2'⟩ := Sat.weaken (T1 := Tw l 0) (H1 := Hw K s 0 (zD.map V.d)) (Weak.of hq.1 hq.2) st2 le2 htop (by simp [Hw])
  rw [← hw2]
  clear hw1 hw2 st1 st2 sat0 sat le1 le2 L1 L2 st1' le1' L1' hq
  refine wpIn_block (wpIn_wide.2 (wp_loop_ex (fun k a w => ∃ (i : Nat) (c : List D) (m' : Mem), m'.w = w ∧ k = 1024 - i ∧ i ≤ K ∧ c.length = 4 ∧ Sat m' a (Tw l i) (Hw K s i (c.map V.d)) ∧ m.le m' (· < 4)) ?_ 1024 a2 m2'.w ⟨0, _, m2', rfl, rfl, Nat.zero_le _, rfl, st2', le2'⟩))
  clear st2' le2' L2' hq m2 m2' a2 T2 H2 m1 m1' a1 T1 H1
  rintro k a w ⟨i, c, mw, rfl, rfl, hi, hc, st, le⟩
  have hlc : V.lowl 6 (c.map V.d) = true := V.lowl_mono (by omega) _ (plainL_d c).1
  refine (wpIn_wide (n := 0)).1 ?_
  refine AW.then (L := 4) eg (w_g l K s i (by omega) (c.map V.d) hlc) st le htop (by simp [Hw]) fun T1 H1 m1 a1 hq st1 le1 L1 => ?_
  obtain ⟨m1', hw1, st1', le1', L1'⟩ := Sat.weaken (T1 := Tw l i) (H1 := Hw K s i (c.map V.d)) (Weak.of hq.1 hq.2) st1 le1 htop (by simp [Hw])
  rw [← hw1]
  clear hw1 st1 le1 L1 hq st le m1 T1 H1 a mw
  refine wpIn_seq (wpIn_block (wpIn_seq (wpIn_seq (wpIn_regops ?_))))
  rw [hops, show [o0, o1, o2, o3, o4] = [o0, o1, o2] ++ [o3, o4] from rfl]
  refine vops_listIn (l := none) (L := 4) (K := fun T H => T = ((((Tw l i).set 15 (fnY l)).set 16 (.d (.int .i64 i))).set 17 (.d (.agg (plC (placeY s i))))) ∧ H = Hw K s i (c.map V.d)) [o3, o4] ecalm.1 (by rw [eos]; exact w_os l K s i (c.map V.d) ops ⟨rfl, rfl⟩) st1' le1' htop (by simp [Hw]) fun T2 H2 a2 m2 hq st2 le2 L2 => ?_
  obtain ⟨rfl, rfl⟩ := hq
  clear st1' le1' L1' m1' a1
  -- the call of yield
  have g15 : a2.eval (.tmp 15) = .func (.yield l) #[] #[] := by
    have := getD_of_rep st2 (s := 15) (x := fnY l) (by simp [Tw])
    unfold V.rep at this
    obtain ⟨vs, h1, h2⟩ := this
    simp at h2
    subst h2
    exact h1
  have g16 : a2.eval (.tmp 16) = .int .i64 i := V.rep_int.1 (getD_of_rep st2 (s := 16) (by simp [Tw]))
  have g17 : (V.d (.agg (plC (placeY s i)))).rep m2 (a2.eval (.tmp 17)) := getD_of_rep st2 (s := 17) (by simp [Tw])
  obtain ⟨lo2, hl2⟩ := hlo.keep le2
  have hl2' := hl2.trans hl
  have hcut : ∀ n, n = 0 ∨ n = 2 → (m2.cut SS).ρ n = m2.ρ n := fun n h => by rcases h with rfl | rfl <;> simp [SS]
  have hobj : ∀ (n : Nat) (ty : TypeId) (ds : List D), n = 0 ∨ n = 2 → m2.obj n ⟨ty, ds.map V.d⟩ → (m2.cut SS).obj n ⟨ty, ds.map V.d⟩ := by
    rintro n ty ds hn ⟨b, vs, more, h1, h2, h3, h4, h5⟩
    exact ⟨b, vs, more, by rw [hcut n hn]; exact h1, h2, h3, reps_data (m := m2) (m' := m2.cut SS) rfl rfl (show V.reps m2 (ds.map V.d) vs from h4), h5⟩
  have hun : ∀ (n : Nat) (ty : TypeId) (ds : List D) (mr : Mem), n = 0 ∨ n = 2 → (∀ b, m2.ρ n = some b → mr.ρ n = some b) → mr.obj n ⟨ty, ds.map V.d⟩ → (⟨m2.ρ, mr.I, mr.w⟩ : Mem).obj n ⟨ty, ds.map V.d⟩ := by
    rintro n ty ds mr hn hρ ⟨b, vs, more, h1, h2, h3, h4, h5⟩
    obtain ⟨b', hb'⟩ : ∃ b', m2.ρ n = some b' := by
      rcases hn with rfl | rfl
      · exact obj_rho (st2.obj 0 _ rfl)
      · exact obj_rho (st2.obj 2 _ rfl)
    have := hρ b' hb'
    rw [h1] at this
    cases this
    exact ⟨b, vs, more, hb', h2, h3, reps_data (m := mr) (m' := ⟨m2.ρ, mr.I, mr.w⟩) rfl rfl (show V.reps mr (ds.map V.d) vs from h4), h5⟩
  have r3 : (V.p 0 0).rep (m2.cut SS) (tmps.getD 3 undef) := by
    unfold V.rep at t3 ⊢
    obtain ⟨b, h1, h2⟩ := t3
    exact ⟨b, by rw [hcut 0 (.inl rfl)]; exact le2.ρ 0 b h1, h2⟩
  have r6' : (V.p 2 0).rep (m2.cut SS) (tmps.getD 6 undef) := by
    unfold V.rep at t6 ⊢
    obtain ⟨b, h1, h2⟩ := t6
    exact ⟨b, by rw [hcut 2 (.inr rfl)]; exact le2.ρ 2 b h1, h2⟩
  have rv : (V.d (.agg (plC (placeY s i)))).rep (m2.cut SS) (a2.eval (.tmp 17)) := V.rep_d.2 (V.rep_d.1 g17)
  have loc : (m2.cut SS).loose l := by
    refine ⟨lo2.lt, fun n h => ?_, lo2.I⟩
    simp only at h
    split at h
    · exact lo2.ρ n h
    · cases h
  have hround := round_ok hasg hbd ca cb hrec (0 - 1) K i (plC (placeY s i)) rfl (m := m2.cut SS) (l := l) (c := c.map V.d) (Mem.cut_base st2.base SS) (hobj 0 _ [.int .i64 K] (.inl rfl) (st2.obj 0 _ rfl)) (hobj 2 _ c (.inr rfl) (st2.obj 2 _ rfl)) (by simpa using hc)
    (fun b h0 h2 => by
      rw [hcut 0 (.inl rfl)] at h0; rw [hcut 2 (.inr rfl)] at h2
      have := st2.inj 0 2 b rfl rfl h0 h2
      omega)
    (fun n h0 h2 => by simp [SS, h0, h2]) r3 r6' hsz loc hl2' rv
  obtain ⟨fn', tmps', asg', bd', hy, hR⟩ := hround
  rw [← g16] at hy
  refine wpListIn_plain hg3 (fun Kk hKk => ⟨fun _ _ => trivial, ?_⟩)
  rw [show (FR none).round = none from rfl, Oper.semAt_none, yield_exec ho3 hc3 ha3 g15, hy, Oper.uponIn_round]
  refine ⟨fun h => by simp [FR, Fence.wide] at h, hR.mono ?_⟩
  rintro e w' ⟨mr, rfl, mrb, mr0, mr2, hcase⟩
  -- both ways: a memory that fits
  have key : ∀ (o : Obj), (∀ c t f, o ≠ .cells c t f) → ((m2.cut SS).at (m2.w.putObj l o)).le mr (· < 3) → ∀ b : Bool,
      Sat ⟨m2.ρ, mr.I, mr.w⟩ (a2.put (some 18) (.bool b)) (((((Tw l i).set 15 (fnY l)).set 16 (.d (.int .i64 i))).set 17 (.d (.agg (plC (placeY s i))))).set 18 (.d (.bool b))) (Hw K s i ((plC (placeY s i)).map V.d)) ∧ (m2.at (m2.w.putObj l o)).le ⟨m2.ρ, mr.I, mr.w⟩ (fun n => SS n = true) := by
    intro o ho hle b
    have hu := Mem.uncut (m := m2.at (m2.w.putObj l o)) (S := SS) hle (fun n h => by simp [SS] at h; omega)
    have hρ : ∀ n b, m2.ρ n = some b → n = 0 ∨ n = 2 → mr.ρ n = some b := fun n b h hn => hle.ρ n b (by show (if SS n = true then m2.ρ n else none) = some b; rw [if_pos (by rcases hn with rfl | rfl <;> rfl)]; exact h)
    refine ⟨Sat.put (Sat.uncut (H' := Hw K s i ((plC (placeY s i)).map V.d)) (lo2.sat o st2) mrb hu (fun n h => ?_) rfl fun n ob h => ?_) 18 (V.rep_bool.2 rfl), hu⟩
    · simp [SS] at h
      rcases h with rfl | rfl <;> rfl
    · rcases n with _ | _ | _ | _ | _ | _ | n
      · left; simp [Hw] at h; subst h
        exact ⟨rfl, hun 0 _ [.int .i64 K] mr (.inl rfl) (fun b h => hρ 0 b h (.inl rfl)) mr0⟩
      · simp [Hw] at h
      · left; simp [Hw] at h; subst h
        exact ⟨rfl, hun 2 _ (plC (placeY s i)) mr (.inr rfl) (fun b h => hρ 2 b h (.inr rfl)) mr2⟩
      · right; simp [Hw] at h; subst h; exact ⟨rfl, rfl⟩
      · simp [Hw] at h
      · right; simp [Hw] at h; subst h; exact ⟨rfl, by simp [Hw]⟩
      · simp [Hw] at h
  have hres : ∀ (a : Act) (w : World), (results f67 a.tmps).run Tryz.prog w = .ok (.tuple #[]) w := fun a w => by
    have : f67.results = #[] := Array.eq_empty_of_size_eq_zero eres
    simp [results, this]
  have hmap : [o4].map (resolveO Tryz.prog ops) = [((cWb.r.l.b.l.l.os).drop 4).headD ⟨none, .bad, none, []⟩] := by rw [← eo4]; rfl
  by_cases hik : i = K
  · rw [if_pos hik] at hcase
    obtain ⟨rfl, hle⟩ := hcase
    obtain ⟨sat5, le5⟩ := key _ (nloop _) hle false
    refine hKk _ _ ?_
    rw [hd3]
    have lem := (hlo.le le2 (o := .loop (rec .done (some (.exit 1)))) (o' := .loop (rec .done (some (.exit 1)))) hl (nloop _) (nloop _) (nloop _) rfl).trans le5 (fun n b _ h => by simp [SS] at h; omega)
    refine vops_listIn (l := none) (L := 4) (m0 := m.at (m.w.putObj l (.loop (rec .done (some (.exit 1)))))) (m := ⟨m2.ρ, mr.I, mr.w⟩) (K := fun T H => T = (((((Tw l i).set 15 (fnY l)).set 16 (.d (.int .i64 i))).set 17 (.d (.agg (plC (placeY s i))))).set 18 (.d (.bool false))).set 19 (.d (.bool true)) ∧ H = Hw K s i ((plC (placeY s i)).map V.d)) [] ecalm.2 (by rw [hmap]; exact w_o4 l K s i _ false _ ⟨rfl, rfl⟩) sat5 lem htop (by simp [Hw]) fun T6 H6 a6 m6 hq st6 le6 _ => ?_
    obtain ⟨rfl, rfl⟩ := hq
    refine wpListIn_nil ?_
    refine wpIn_cond_split (wpIn_eval st6 ecy (b := true) (by simp [Tw])) (fun _ => wpIn_ret ?_) (fun h => by cases h)
    refine ⟨st6.defers, _, hres _ _, ⟨_, rfl⟩, m6, rfl, st6.base, ?_, le6⟩
    rw [← hik]
    exact st6.obj 2 _ rfl
  · rw [if_neg hik] at hcase
    obtain ⟨rfl, hle⟩ := hcase
    obtain ⟨sat5, le5⟩ := key (.loop (rec .ready none)) (nloop _) (by rw [putObj_same hl2']; exact hle) true
    rw [putObj_same hl2'] at le5
    refine hKk _ _ ?_
    rw [hd3]
    refine vops_listIn (l := none) (L := 4) (m0 := m) (m := ⟨m2.ρ, mr.I, mr.w⟩) (K := fun T H => T = (((((Tw l i).set 15 (fnY l)).set 16 (.d (.int .i64 i))).set 17 (.d (.agg (plC (placeY s i))))).set 18 (.d (.bool true))).set 19 (.d (.bool false)) ∧ H = Hw K s i ((plC (placeY s i)).map V.d)) [] ecalm.2 (by rw [hmap]; exact w_o4 l K s i _ true _ ⟨rfl, rfl⟩) sat5 (le2.trans le5 (fun n b _ h => by simp [SS] at h; omega)) htop (by simp [Hw]) fun T6 H6 a6 m6 hq st6 le6 _ => ?_
    obtain ⟨rfl, rfl⟩ := hq
    refine wpListIn_nil ?_
    refine wpIn_cond_split (wpIn_eval st6 ecy (b := false) (by simp [Tw])) (fun h => by cases h) (fun _ => wpIn_skip ?_)
    have hlp := lowl_plC 6 (placeY s i)
    obtain ⟨m7, hw7, st7, le7, _⟩ := Sat.weaken (T1 := Tw l i) (H1 := Hw K s i ((plC (placeY s i)).map V.d)) (Weak.of (by simp [Tw, Hw, V.low, V.lowl]) (by simp [Hw, hlp, V.lowl, V.low])) st6 le6 htop (by simp [Hw])
    rw [← hw7]
    refine wpIn_mono (wpIn_wide.2 (w_r5 l K s i s1 s5 (by omega) _ hlp r5 er5 m m7 a6 st7 le7 htop (by simp [Hw]))) ?_
    rintro e a8 w8 ⟨T8, H8, m8, rfl, hq, st8, le8, _⟩
    cases e with
    | normal =>
      obtain ⟨m9, hw9, st9, le9, _⟩ := Sat.weaken (T1 := Tw l i) (H1 := Hw K s (i + 1) ((plC (placeY s i)).map V.d)) (Weak.of hq.1 hq.2) st8 le8 htop (by simp [Hw])
      rw [← hw9]
      refine wpIn_mono (wpIn_wide.2 (w_r6 l K s i (by omega) _ hlp r6 er6 m m9 a8 st9 le9 htop (by simp [Hw]))) ?_
      rintro e a10 w10 ⟨T10, H10, m10, rfl, hq, st10, le10, _⟩
      cases e with
      | normal =>
        obtain ⟨m11, hw11, st11, le11, _⟩ := Sat.weaken (T1 := Tw l (i + 1)) (H1 := Hw K s (i + 1) ((plC (placeY s i)).map V.d)) (Weak.of hq.1 hq.2) st10 le10 htop (by simp [Hw])
        exact ⟨1024 - (i + 1), by omega, i + 1, plC (placeY s i), m11, hw11, rfl, by omega, rfl, st11, le11⟩
      | _ => exact hq.elim
    | _ => exact hq.elim
end
end Go.Proofs.YtakjegcjeffmgaaGreat.Am
namespace Go.Proofs.YtakjegcjeffmgaaGreat.Am
section
open Go.RowKit
set_option maxRecDepth 100000
set_option linter.unusedSimpArgs false
set_option linter.unusedVariables false

def atE (s k : Int) : Int := if 1 ≤ s ∧ s ≤ 5 then (if 0 ≤ k ∧ k ≤ 1023 then 0 else 2) else 10
def atP (s k : Int) : Pl := if atE s k = 0 then placeY s.toNat k.toNat else ⟨0, 0, 0, 0⟩

def Ta (s k : Nat) (x23 : V) : List V := [.d (.int .i64 s), .d (.int .i64 k), .junk, .p 0 0, .p 1 0, .d (.int .i64 0), .p 2 0] ++ List.replicate 16 .junk ++ [x23] ++ List.replicate 7 .junk
def Ta0 (s k : Nat) : List V := [.d (.int .i64 s), .d (.int .i64 k), .junk, .p 0 0, .p 1 0, .d (.int .i64 0)] ++ List.replicate 25 .junk
abbrev zO : Ob := plO (zD.map V.d)

theorem a_1 (s k : Nat) : AW Tryz.prog 0 c_yu_At.l (thenQ (fun T H => wk 2 T (Ta0 s k) ∧ wkH 2 H [some (kO k), some zO]) noQ) ([.d (.int .i64 s), .d (.int .i64 k)] ++ List.replicate 29 .junk) [] := by
  simp only [c_yu_At, C.l, Ta0]
  repeat (first | refine AW.seq ?_ | refine AW.block ?_ | (refine AW.reg mix ?_; (simp; try simp (disch := omega) only [w64, wu64])) | (refine need.of (by first | omega | kernel_rfl) ?_) | (refine AW.skip ?_; (try simp)) | (refine AW.ret ?_; (try simp)) | (refine AW.exit ?_; (try simp)))
  exact ⟨Subs.refl _, rfl⟩
theorem a_2 (s k : Nat) (s1 : 1 ≤ s) (s5 : s ≤ 5) (hk : k ≤ 1023) : AW Tryz.prog 0 c_yu_At.r.l (thenQ (fun T H => wk 2 T (Ta0 s k) ∧ wkH 2 H [some (kO k), some zO]) noQ) (Ta0 s k) [some (kO k), some zO] := by
  simp only [c_yu_At, C.l, C.r, Ta0, zD]
  repeat (first | refine AW.seq ?_ | refine AW.block ?_ | (refine AW.reg mix ?_; (simp; try simp (disch := omega) only [w64, wu64])) | (refine need.of (by first | omega | kernel_rfl) ?_) | (refine AW.skip ?_; (try simp)) | (refine AW.ret ?_; (try simp)) | (refine AW.exit ?_; (try simp)))
  refine CallS.pure (ygood_ok s) (by first | exact plain_d _ | exact plain_tup2 _ _ | exact plain_tup3 _ _ _) rfl (fun _ => rfl) (Subs.refl _) ?_
  (try simp; try simp (disch := omega) only [w64, wu64])
  repeat (first | refine AW.seq ?_ | refine AW.block ?_ | (refine AW.reg mix ?_; (simp; try simp (disch := omega) only [w64, wu64])) | (refine need.of (by first | omega | kernel_rfl) ?_) | (refine AW.skip ?_; (try simp)) | (refine AW.ret ?_; (try simp)) | (refine AW.exit ?_; (try simp)))
  have h1 : (1 : Int) ≤ s ∧ (s : Int) ≤ 5 := by omega
  refine AW.cond rfl (fun h => ?_) (fun h => ?_)
  · simp [h1] at h
  have h2 : ¬ (1023 : Int) < k := by omega
  repeat (first | refine AW.seq ?_ | refine AW.block ?_ | (refine AW.reg mix ?_; (simp [h2]; try simp (disch := omega) only [w64, wu64])) | (refine need.of (by first | omega | kernel_rfl) ?_) | (refine AW.skip ?_; (try simp [h2])) | (refine AW.ret ?_; (try simp [h2])) | (refine AW.exit ?_; (try simp [h2])))
  refine AW.cond rfl (fun h => ?_) (fun h => ?_)
  · simp at h
  repeat (first | refine AW.seq ?_ | refine AW.block ?_ | (refine AW.reg mix ?_; (simp; try simp (disch := omega) only [w64, wu64])) | (refine need.of (by first | omega | kernel_rfl) ?_) | (refine AW.skip ?_; (try simp)) | (refine AW.ret ?_; (try simp)) | (refine AW.exit ?_; (try simp)))
  rfl
theorem a_3 (s k : Nat) : AW Tryz.prog 0 c_yu_At.r.r.l (thenQ (fun T H => wk 3 T (Ta s k .junk) ∧ wkH 3 H [some (kO k), some zO, some zO]) noQ) (Ta0 s k) [some (kO k), some zO] := by
  simp only [c_yu_At, C.l, C.r, Ta0, Ta]
  repeat (first | refine AW.seq ?_ | refine AW.block ?_ | (refine AW.reg mix ?_; (simp; try simp (disch := omega) only [w64, wu64])) | (refine need.of (by first | omega | kernel_rfl) ?_) | (refine AW.skip ?_; (try simp)) | (refine AW.ret ?_; (try simp)) | (refine AW.exit ?_; (try simp)))
  exact ⟨Subs.refl _, rfl⟩
theorem a_4 (s k : Nat) : AW Tryz.prog 0 c_yu_At.r.r.r.l.l (thenQ (fun T H => wk 4 T (Ta s k (.fn (.func n_yu_walk_1) [.p 3 0])) ∧ wkH 4 H [some (kO k), some zO, some zO, some (sO s)]) noQ) (Ta s k .junk) [some (kO k), some zO, some zO] := by
  simp only [c_yu_At, C.l, C.r, Ta]
  repeat (first | refine AW.seq ?_ | refine AW.block ?_ | (refine AW.reg mix ?_; (simp; try simp (disch := omega) only [w64, wu64])) | (refine need.of (by first | omega | kernel_rfl) ?_) | (refine AW.skip ?_; (try simp)) | (refine AW.ret ?_; (try simp)) | (refine AW.exit ?_; (try simp)))
  refine CallS.newX (walk_ok s) ⟨rfl, fun _ => rfl⟩ rfl (fun _ => rfl) (Subs.refl _) ?_
  simp [nameOf, V.ren, V.rens]
  rfl
theorem a_5 (s k : Nat) (x : V) (p : Pl) {K' : List V → List (Option Ob) → Prop} (h : ∀ T, T.getD 4 .junk = .p 1 0 → T.getD 5 .junk = .d (.int .i64 0) → K' T [none, some (plO ((plC p).map V.d)), some (plO ((plC p).map V.d)), none]) :
    vops Tryz.prog false K' c_yu_At.r.r.r.r.l.os [] (Ta s k x) [none, some zO, some (plO ((plC p).map V.d)), none] := by
  simp only [c_yu_At, C.l, C.r, C.os, Ta, zD]
  simp only [plC, List.map_cons, List.map_nil] at h ⊢
  simp
  exact need.of (by decide) (h _ rfl rfl)

theorem getD_junk (l : List V) (n i : Nat) (h : l.length ≤ i) : (l ++ List.replicate n V.junk).getD i .junk = .junk := by
  rw [List.getD_eq_getElem?_getD, List.getElem?_append_right h, List.getElem?_replicate]; split <;> rfl
theorem sat_two {m : Mem} {H : List (Option Ob)} {a : Act} {l : Nat} {sv : Value} (hb : m.base) (hobj : ∀ n ob, H.getD n none = some ob → m.obj n ob) (hinj : ∀ n k b, live H n → live H k → m.ρ n = some b → m.ρ k = some b → n = k) (htop : ∀ n, H.length ≤ n → m.ρ n = none)
    (hv : (V.p 3 0).rep m sv) (ht : a.tmps = #[.func (.yield l) #[] #[], sv] ++ Array.replicate 21 undef) (hd : a.defers = []) : Sat m a ([fnY l, .p 3 0] ++ List.replicate 21 .junk) H := by
  refine ⟨hb, fun s => ?_, hobj, hinj, htop, by rw [ht]; simp, hd⟩
  rcases s with _ | _ | s
  · rw [ht]
    show V.rep m (fnY l) _
    unfold V.rep
    exact ⟨[], by simp, by simp⟩
  · rw [ht]
    show V.rep m (.p 3 0) _
    simpa using hv
  · have : ([fnY l, .p 3 0] ++ List.replicate 21 V.junk).getD (s + 2) .junk = .junk := getD_junk _ _ _ (by simp)
    rw [this]
    unfold V.rep
    trivial
def SC : Nat → Bool := fun n => n == 0 || n == 2 || n == 3

set_option maxHeartbeats 4000000 in
theorem at_good (s k : Nat) (s1 : 1 ≤ s) (s5 : s ≤ 5) (hk : k ≤ 1023) : Eqn Tryz.prog n_yu_At [.d (.int .i64 s), .d (.int .i64 k)] [] (.tup [.d (plD (placeY s k)), .d (.int .i64 0)]) [] := by
  refine ⟨Nat.le_refl _, by simp, rfl, by simp, fun m vs mb hargs _ _ htop => .inr ⟨fnOf_enters r_yu_At _ _, ?_⟩⟩
  obtain ⟨v0, _, rfl, hv0, hargs⟩ := V.reps_cons'.1 hargs
  obtain ⟨v1, _, rfl, hv1, hargs⟩ := V.reps_cons'.1 hargs
  simp at hargs; subst hargs
  have htop : ∀ n, 0 ≤ n → m.ρ n = none := fun n _ => htop n (Nat.zero_le _)
  obtain ⟨f10, a1, a2, a3, a4, asg, bd, g, ps, id, ops, hf, hb, e1, e2, e3, e4, eg, eps, easg, ebd, e5, ecalm, ers, ent⟩ := atS_spec at_s
  simp only at hb e1 e2 e3 e4 eg eps easg ebd e5 ecalm ers ent
  rw [Bool.and_eq_true, Bool.and_eq_true] at ecalm
  obtain ⟨calA, calB, calO⟩ := ecalm
  have eps : ps = #[24, 25] := by rw [← Array.toArray_toList (xs := ps), eps]
  subst eps
  refine (callsIn_wide (n := 1)).1 (callsIn_of_wp_marks hf hb trivial ?_ rfl)
  have hsize : f10.ntmps - 2 = 29 := by rw [ent]
  have sat0 : Sat m { tmps := #[v0, v1] ++ Array.replicate (f10.ntmps - #[v0, v1].size) undef, defers := [] } ([.d (.int .i64 s), .d (.int .i64 k)] ++ List.replicate 29 .junk) [] := by
    refine ⟨mb, fun i => ?_, by simp, fun n k b ln => by simp [live] at ln, fun n _ => htop n (Nat.zero_le _), by simp [ent], rfl⟩
    rcases i with _ | _ | i
    · show V.rep m (.d (.int .i64 s)) _
      rw [Array.getD_eq_getD_getElem?, Array.getElem?_append_left (by simp)]
      exact hv0
    · show V.rep m (.d (.int .i64 k)) _
      rw [Array.getD_eq_getD_getElem?, Array.getElem?_append_left (by simp)]
      exact hv1
    · have : ([V.d (.int .i64 s), V.d (.int .i64 k)] ++ List.replicate 29 V.junk).getD (i + 2) .junk = .junk := getD_junk _ _ _ (by simp)
      rw [this]
      unfold V.rep
      trivial
  refine AW.then (L := 0) e1 (a_1 s k) sat0 (Mem.le.refl _ _) htop (by simp) fun T1 H1 m1 w1 hq st1 le1 _ => ?_
  obtain ⟨m1', hw1, st1', le1', _⟩ := Sat.weaken (T1 := Ta0 s k) (H1 := [some (kO k), some zO]) (Weak.of hq.1 hq.2) st1 le1 htop (by simp)
  rw [← hw1]
  refine AW.then (L := 0) e2 (a_2 s k s1 s5 hk) st1' le1' htop (by simp) fun T2 H2 m2 w2 hq st2 le2 _ => ?_
  obtain ⟨m2', hw2, st2', le2', _⟩ := Sat.weaken (T1 := Ta0 s k) (H1 := [some (kO k), some zO]) (Weak.of hq.1 hq.2) st2 le2 htop (by simp)
  rw [← hw2]
  refine AW.then (L := 0) e3 (a_3 s k) st2' le2' htop (by simp) fun T3 H3 m3 w3 hq st3 le3 _ => ?_
  obtain ⟨m3', hw3, st3', le3', _⟩ := Sat.weaken (T1 := Ta s k .junk) (H1 := [some (kO k), some zO, some zO]) (Weak.of hq.1 hq.2) st3 le3 htop (by simp)
  rw [← hw3]
  refine wpIn_seq ?_
  refine AW.then (L := 0) e4 (a_4 s k) st3' le3' htop (by simp) fun T4 H4 m4' w4 hq st4 le4 _ => ?_
  obtain ⟨m4, hw4, st4', le4', _⟩ := Sat.weaken (T1 := Ta s k (.fn (.func n_yu_walk_1) [.p 3 0])) (H1 := [some (kO k), some zO, some zO, some (sO s)]) (Weak.of hq.1 hq.2) st4 le4 htop (by simp)
  rw [← hw4]
  clear hw1 hw2 hw3 hw4 st1 st2 st3 st4 st1' st2' st3' le1 le2 le3 le4 le1' le2' le3' hq sat0
  refine wpIn_block (wpIn_rangeFunc fun fn' _ => ?_)
  -- the function that is ranged over
  have gt3 : (V.p 0 0).rep m4 (w4.tmps.getD 3 undef) := getD_of_rep st4' (s := 3) rfl
  have gt6 : (V.p 2 0).rep m4 (w4.tmps.getD 6 undef) := getD_of_rep st4' (s := 6) rfl
  have gt23 : (V.fn (.func n_yu_walk_1) [.p 3 0]).rep m4 (w4.tmps.getD 23 undef) := getD_of_rep st4' (s := 23) rfl
  unfold V.rep at gt23
  obtain ⟨cvs, hg23, hcv⟩ := gt23
  obtain ⟨sv, _, rfl, hsv, hcv⟩ := V.reps_cons'.1 hcv
  simp at hcv; subst hcv
  have hgt : g = .tmp 23 := by
    cases g <;> simp [X.of] at eg
    · rw [eg]
    · rename_i v; cases h : D.of1 v <;> simp [h] at eg
  have hgev : w4.eval g = .func (.func n_yu_walk_1) #[] #[sv] := by rw [hgt]; exact hg23
  obtain ⟨rec, hrec⟩ : ∃ rec : LoopState → Option Code → Loop, rec = fun st pe => { state := st, pending := pe, fn := fn', tmps := w4.tmps, params := #[24, 25], assign := asg, body := bd, defers := m4.w.heap.size } := ⟨_, rfl⟩
  obtain ⟨W1, hW1⟩ : ∃ W1, W1 = (m4.w.alloc (.deferred (some []))).alloc (.loop (rec .ready none)) := ⟨_, rfl⟩
  have hl1 : W1.heap[m4.w.heap.size + 1]? = some (.loop (rec .ready none)) := by
    rw [hW1]; have := World.alloc_heap_new (m4.w.alloc (.deferred (some []))) (.loop (rec .ready none)); rwa [World.size_alloc] at this
  have hd1 : W1.heap[m4.w.heap.size]? = some (.deferred (some [])) := by
    rw [hW1]; exact (Below.heap_alloc _ _ _ (by simp)).trans (World.alloc_heap_new m4.w _)
  have satw : Sat (m4.at W1) w4 (Ta s k (.fn (.func n_yu_walk_1) [.p 3 0])) [some (kO k), some zO, some zO, some (sO s)] := by
    rw [hW1]; exact (st4'.grow _).grow _
  have lew : m.le (m4.at W1) (· < 0) := by
    rw [hW1]; exact (le4'.grow st4'.base _).grow (st4'.grow _).base _
  have loD : (m4.at W1).loose m4.w.heap.size := by
    rw [hW1]; exact (loose_new st4'.base _).grow _
  have loL : (m4.at W1).loose (m4.w.heap.size + 1) := by
    rw [hW1]
    have := loose_new (st4'.grow (.deferred (some []))).base (.loop (rec .ready none))
    simpa using this
  have hb4 : m.w.heap.size ≤ m4.w.heap.size := le4'.size
  have hrep1 : ∀ x v, V.rep m4 x v → V.rep (m4.at W1) x v := fun x v h => by
    rw [hW1]
    exact V.rep_off (m := m4) (m' := m4.at ((m4.w.alloc (.deferred (some []))).alloc (.loop (rec .ready none)))) ⟨rfl, rfl, fun b hb => (Below.heap_alloc _ _ _ (by simp; have := st4'.base.imm b hb; omega)).trans (Below.heap_alloc _ _ _ (st4'.base.imm b hb)), fun n b hb => (Below.heap_alloc _ _ _ (by simp; have := st4'.base.dom n b hb; omega)).trans (Below.heap_alloc _ _ _ (st4'.base.dom n b hb))⟩ x v h
  generalize hLn : m4.w.heap.size + 1 = l at *
  generalize hDn : m4.w.heap.size = dd at *
  refine ⟨l, [{ target := .collected dd, args := #[] }], W1, { target := .fn (.func n_yu_walk_1) #[sv], args := #[.func (.yield l) #[] #[]] }, W1, n_yu_walk_1, #[.func (.yield l) #[] #[], sv], W1, ?_, ?_, fun _ _ => trivial, ?_, fun h => by simp [Fence.wide] at h, ?_⟩
  · have := run_enterLoop_outer (P := Tryz.prog) (w := m4.w) fn' w4.tmps #[24, 25] asg bd
    rw [hW1, hrec, ← hLn, ← hDn]
    exact this
  · simp only [Go.resolve, hgev]
    simp [go_sem, Deferred.ofValue]
  · simp [invoke, go_sem]
  refine callsIn_wide.2 ?_
  -- the memory that the walk sees
  have cutr : ∀ n, SC n = true → ((m4.at W1).cut SC).ρ n = m4.ρ n := fun n h => by simp [h]
  have cobj : ∀ (n : Nat) (ty : TypeId) (ds : List D), SC n = true → (m4.at W1).obj n ⟨ty, ds.map V.d⟩ → ((m4.at W1).cut SC).obj n ⟨ty, ds.map V.d⟩ := by
    rintro n ty ds hn ⟨b, vs, more, h1, h2, h3, h4, h5⟩
    exact ⟨b, vs, more, by rw [cutr n hn]; exact h1, h2, h3, reps_data (m := m4.at W1) (m' := (m4.at W1).cut SC) rfl rfl (show V.reps (m4.at W1) (ds.map V.d) vs from h4), h5⟩
  have prep : ∀ n o v, SC n = true → (V.p n o).rep (m4.at W1) v → (V.p n o).rep ((m4.at W1).cut SC) v := by
    intro n o v hn h
    unfold V.rep at h ⊢
    obtain ⟨b, h1, h2⟩ := h
    exact ⟨b, by rw [cutr n hn]; exact h1, h2⟩
  have loC : ((m4.at W1).cut SC).loose l := by
    refine ⟨loL.lt, fun n h => ?_, loL.I⟩
    simp only at h
    split at h
    · exact loL.ρ n h
    · cases h
  have lv : ∀ n, live [some (kO k), none, some zO, some (sO s)] n → SC n = true := fun n h => by
    rcases n with _ | _ | _ | _ | n <;> first | rfl | (simp [live] at h)
  have hwalk := walk1_ok (m := (m4.at W1).cut SC) (l := l) (sv := sv) easg ebd calA calB hrec s k s1 s5 hk
    (fun a ha hd => sat_two (H := [some (kO k), none, some zO, some (sO s)]) (Mem.cut_base satw.base SC) (fun n ob h => by
      rcases n with _ | _ | _ | _ | n
      · simp at h; subst h; exact cobj 0 _ [.int .i64 k] rfl (satw.obj 0 _ rfl)
      · simp at h
      · simp at h; subst h; exact cobj 2 _ zD rfl (satw.obj 2 _ rfl)
      · simp at h; subst h; exact cobj 3 _ [.int .i64 s] rfl (satw.obj 3 _ rfl)
      · simp at h) (fun n k' b h1 h2 h3 h4 => by
        have l1 := lv n h1
        have l2 := lv k' h2
        rw [cutr n l1] at h3; rw [cutr k' l2] at h4
        refine satw.inj n k' b ?_ ?_ h3 h4
        · rcases n with _ | _ | _ | _ | n <;> first | rfl | (simp [live] at h1)
        · rcases k' with _ | _ | _ | _ | k' <;> first | rfl | (simp [live] at h2)) (fun n h => by
        have h4 : ¬ SC n = true := by simp [SC]; simp at h; omega
        simp [h4]) (prep 3 0 sv rfl (hrep1 _ _ hsv)) ha hd)
    (prep 0 0 _ rfl (hrep1 _ _ gt3)) (prep 2 0 _ rfl (hrep1 _ _ gt6)) (by rw [satw.size]; rfl) loC hl1
  refine hwalk.mono ?_
  rintro e w5 ⟨⟨v, rfl⟩, m5, rfl, b5, o5, le5⟩
  obtain ⟨loC5, hl5⟩ := (loC.put (.loop (rec .done (some (.exit 1))))).keep le5
  have hl5' := hl5.trans (World.putObj_heap_same loC.lt)
  have hrd : ∀ st pe, (rec st pe).state = st ∧ (rec st pe).pending = pe := fun st pe => by rw [hrec]; exact ⟨rfl, rfl⟩
  have hend := run_endLoop (P := Tryz.prog) hl5' (by rw [(hrd _ _).1]; simp)
  rw [(hrd _ _).2] at hend
  obtain ⟨o6, hend⟩ : ∃ o6, (Instr.endLoop l).run Tryz.prog m5.w = .ok (some (.exit 1)) (m5.w.putObj l o6) := ⟨_, hend⟩
  refine ⟨_, _, hend, wpIn_exit ?_⟩
  -- back in the asker
  have hu := Mem.uncut (m := (m4.at W1).at (W1.putObj l (.loop (rec .done (some (.exit 1)))))) (S := SC) le5 (fun n h => by simp [SC] at h; omega)
  have lo5 : (⟨m4.ρ, m5.I, m5.w⟩ : Mem).loose l := ((loL.put (.loop (rec .done (some (.exit 1))))).keep hu).1
  have loD5 := (Mem.loose.keep (m := (m4.at W1).at (W1.putObj l (.loop (rec .done (some (.exit 1)))))) (l := dd) ⟨by simpa using loD.lt, loD.ρ, loD.I⟩ hu)
  have hne : dd ≠ l := by omega
  have hd5 : m5.w.heap[dd]? = some (.deferred (some [])) := loD5.2.trans ((World.putObj_heap_other hne).trans hd1)
  have obj2 : (⟨m4.ρ, m5.I, m5.w⟩ : Mem).obj 2 (plO ((plC (placeY s k)).map V.d)) := by
    obtain ⟨b, vs, more, h1, h2, h3, h4, h5⟩ := o5
    obtain ⟨b', hb'⟩ := obj_rho (satw.obj 2 _ rfl)
    have := le5.ρ 2 b' (by show (if SC 2 = true then m4.ρ 2 else none) = some b'; rw [if_pos (show SC 2 = true from rfl)]; exact hb')
    rw [h1] at this
    cases this
    exact ⟨b, vs, more, hb', h2, h3, reps_data (m := m5) (m' := ⟨m4.ρ, m5.I, m5.w⟩) rfl rfl (show V.reps m5 ((plC (placeY s k)).map V.d) vs from h4), h5⟩
  have sat5 : Sat ⟨m4.ρ, m5.I, m5.w⟩ w4 (Ta s k (.fn (.func n_yu_walk_1) [.p 3 0])) [none, some zO, some (plO ((plC (placeY s k)).map V.d)), none] := by
    refine Sat.uncut (m := (m4.at W1).at (W1.putObj l (.loop (rec .done (some (.exit 1)))))) (loL.sat (.loop (rec .done (some (.exit 1)))) satw) b5 hu (fun n h => ?_) rfl fun n ob h => ?_
    · simp [SC] at h
      rcases h with (rfl | rfl) | rfl <;> rfl
    · rcases n with _ | _ | _ | _ | n
      · simp at h
      · right; simp at h; subst h; exact ⟨rfl, rfl⟩
      · left; simp at h; subst h; exact ⟨rfl, obj2⟩
      · simp at h
      · simp at h
  have le5' : m.le ⟨m4.ρ, m5.I, m5.w⟩ (· < 0) := by
    refine Mem.le.trans (lew.far mb (l := l) (by omega) (.loop (rec .done (some (.exit 1))))) hu fun n b h _ => ?_
    rw [htop n (Nat.zero_le _)] at h; cases h
  have sat6 := lo5.sat o6 sat5
  have le6 := le5'.far mb (l := l) (by omega) o6
  have hd6 : (m5.w.putObj l o6).heap[dd]? = some (.deferred (some [])) := (World.putObj_heap_other hne).trans hd5
  have loD6 : ((⟨m4.ρ, m5.I, m5.w⟩ : Mem).at (m5.w.putObj l o6)).loose dd := ⟨by simpa using loD5.1.lt, loD5.1.ρ, loD5.1.I⟩
  show (Code.seq (.region id ops false) .ret).wpIn Fence.wide 1 _ _ _ _
  refine wpIn_seq (wpIn_regops ?_)
  have hops : ops.toList = ops.toList ++ [] := (List.append_nil _).symm
  rw [hops]
  refine wpListIn_beside (D := [{ target := .collected dd, args := #[] }]) (Q := fun e a w => e = .normal ∧ ∃ T' H' m', m'.w = w ∧ Sat m' a T' H' ∧ T'.getD 4 .junk = .p 1 0 ∧ T'.getD 5 .junk = .d (.int .i64 0) ∧ H' = [none, some (plO ((plC (placeY s k)).map V.d)), some (plO ((plC (placeY s k)).map V.d)), none] ∧ m.le m' (· < 0) ∧ ((⟨m4.ρ, m5.I, m5.w⟩ : Mem).at (m5.w.putObj l o6)).le m' (· < 4)) ?_ _ w4 _ _ ⟨rfl, by rw [st4'.defers]; rfl⟩ ?_
  · rintro e a a' w hbes ⟨rfl, T7, H7, m7, rfl, st7, h4, h5, rfl, le0, le7⟩
    refine wpIn_ret ?_
    have hdf : a'.defers = [{ target := .collected dd, args := #[] }] := by rw [hbes.defers, st7.defers]; rfl
    show LeavesInM _ _ _ _ _ _ a'.defers _ _
    rw [hdf, ← hbes.tmps]
    obtain ⟨lo7, hl7⟩ := loD6.keep le7
    have hd7 := hl7.trans hd6
    refine ⟨by simp, .inl ⟨dd, _, rfl, run_takeDeferred hd7, ?_⟩⟩
    have sat8 := lo7.sat (.deferred none) st7
    obtain ⟨v, hv1, hv2⟩ := outV_run (P := Tryz.prog) sat8 f10 (.tup [.d (plD (placeY s k)), .d (.int .i64 0)]) (by
      rw [ers]
      simp only [outV, outs, RV.out, h4, h5]
      rfl)
    refine ⟨v, hv1, v, ⟨fun _ => none, m7.I, m7.w.putObj dd (.deferred none)⟩, rfl, rfl, ?_⟩
    have lem := le0.far mb (l := dd) (by omega) (.deferred none)
    refine ⟨⟨sat8.base.imm, fun n b h => (by cases h)⟩, ⟨fun n b h => (by rw [htop n (Nat.zero_le _)] at h; cases h), lem.I, lem.os, lem.tape, lem.output, lem.size, lem.block, lem.shape, lem.imm, lem.newI, fun n b h => (by cases h)⟩, ?_, by simp, by simp, fun _ _ => rfl, fun n b _ h => (by cases h)⟩
    unfold V.rep at hv2 ⊢
    obtain ⟨us, h1, h2⟩ := hv2
    exact ⟨us, h1, reps_data (ds := [plD (placeY s k), .int .i64 0]) (m := m7.at (m7.w.putObj dd (.deferred none))) rfl rfl h2⟩
  · refine vops_listIn (l := none) (L := 4) (m0 := (⟨m4.ρ, m5.I, m5.w⟩ : Mem).at (m5.w.putObj l o6)) (m := (⟨m4.ρ, m5.I, m5.w⟩ : Mem).at (m5.w.putObj l o6)) (K := fun T H => T.getD 4 .junk = .p 1 0 ∧ T.getD 5 .junk = .d (.int .i64 0) ∧ H = [none, some (plO ((plC (placeY s k)).map V.d)), some (plO ((plC (placeY s k)).map V.d)), none]) [] calO (by rw [e5]; exact a_5 s k _ _ fun T h1 h2 => ⟨h1, h2, rfl⟩) sat6 (Mem.le.refl _ _) sat6.top (by simp) fun T7 H7 a7 m7 hq st7 le7 _ => ?_
    refine wpListIn_nil ⟨rfl, T7, H7, m7, rfl, st7, hq.1, hq.2.1, hq.2.2, ?_, le7⟩
    refine Mem.le.trans le6 le7 fun n b h _ => ?_
    rw [htop n (Nat.zero_le _)] at h; cases h

theorem Sub1.aggd {l r : List D} (h : Subs (l.map V.d) (r.map V.d)) : Sub1 (.d (.agg l)) (.d (.agg r)) := fun m v k => by
  rw [V.rep_d] at k ⊢
  unfold D.rep at k ⊢
  obtain ⟨vs, h1, h2, h3⟩ := k
  exact ⟨vs, h1, h2, V.reps_map_d.1 (h m vs (V.reps_map_d.2 h3))⟩
theorem Sub1.pl0 (e : D) : Sub1 (.tup [.d (.agg [.int .i64 0, .int .i64 0, .nilsl, .nilsl]), .d e]) (.tup [.d (plD ⟨0, 0, 0, 0⟩), .d e]) :=
  Sub1.tup (Subs.cons (Sub1.aggd (Subs.cons (Sub1.refl _) (Subs.cons (Sub1.refl _) (Subs.cons Sub1.nil (Subs.cons Sub1.nil (Subs.refl _)))))) (Subs.refl _))

theorem at_ok (s k : Int) : Eqn Tryz.prog n_yu_At [.d (.int .i64 s), .d (.int .i64 k)] [] (.tup [.d (plD (atP s k)), .d (.int .i64 (atE s k))]) [] := by
  by_cases hs : 1 ≤ s ∧ s ≤ 5
  · by_cases hk : 0 ≤ k ∧ k ≤ 1023
    · have e : atE s k = 0 := by rw [atE, if_pos hs, if_pos hk]
      obtain ⟨s, rfl⟩ : ∃ n : Nat, s = n := ⟨s.toNat, by omega⟩
      obtain ⟨k, rfl⟩ : ∃ n : Nat, k = n := ⟨k.toNat, by omega⟩
      rw [atP, if_pos e, e]
      exact at_good s k (by omega) (by omega) (by omega)
    · have e : atE s k = 2 := by rw [atE, if_pos hs, if_neg hk]
      rw [atP, if_neg (by rw [e]; omega), e]
      refine Eqn.pure r_yu_At (plain_tup2 _ _) ?_
      simp only [c_yu_At]
      repeat (first | refine AW.seq ?_ | refine AW.block ?_ | (refine AW.reg mix ?_; (simp; try simp (disch := omega) only [w64, wu64])) | (refine need.of (by first | omega | kernel_rfl) ?_) | (refine AW.skip ?_; (try simp)) | (refine AW.ret ?_; (try simp)) | (refine AW.exit ?_; (try simp)))
      refine CallS.pure (ygood_ok s) (by first | exact plain_d _ | exact plain_tup2 _ _ | exact plain_tup3 _ _ _) rfl (fun _ => rfl) (Subs.refl _) ?_
      (try simp; try simp (disch := omega) only [w64, wu64])
      repeat (first | refine AW.seq ?_ | refine AW.block ?_ | (refine AW.reg mix ?_; (simp; try simp (disch := omega) only [w64, wu64])) | (refine need.of (by first | omega | kernel_rfl) ?_) | (refine AW.skip ?_; (try simp)) | (refine AW.ret ?_; (try simp)) | (refine AW.exit ?_; (try simp)))
      refine AW.cond rfl (fun h => ?_) (fun h => ?_)
      · simp [hs] at h
      by_cases h0 : k < 0
      · repeat (first | refine AW.seq ?_ | refine AW.block ?_ | (refine AW.reg mix ?_; (simp [h0]; try simp (disch := omega) only [w64, wu64])) | (refine need.of (by first | omega | kernel_rfl) ?_) | (refine AW.skip ?_; (try simp [h0])) | (refine AW.ret ?_; (try simp [h0])) | (refine AW.exit ?_; (try simp [h0])))
        refine AW.cond rfl (fun h => ?_) (fun h => ?_)
        · repeat (first | refine AW.seq ?_ | refine AW.block ?_ | (refine AW.reg mix ?_; (simp; try simp (disch := omega) only [w64, wu64])) | (refine need.of (by first | omega | kernel_rfl) ?_) | (refine AW.skip ?_; (try simp)) | (refine AW.ret ?_; (try simp)) | (refine AW.exit ?_; (try simp)))
          exact Sub1.pl0 _
        · simp [h0] at h
      · have h1 : 1023 < k := by omega
        repeat (first | refine AW.seq ?_ | refine AW.block ?_ | (refine AW.reg mix ?_; (simp [h0, h1]; try simp (disch := omega) only [w64, wu64])) | (refine need.of (by first | omega | kernel_rfl) ?_) | (refine AW.skip ?_; (try simp [h0, h1])) | (refine AW.ret ?_; (try simp [h0, h1])) | (refine AW.exit ?_; (try simp [h0, h1])))
        refine AW.cond rfl (fun h => ?_) (fun h => ?_)
        · repeat (first | refine AW.seq ?_ | refine AW.block ?_ | (refine AW.reg mix ?_; (simp; try simp (disch := omega) only [w64, wu64])) | (refine need.of (by first | omega | kernel_rfl) ?_) | (refine AW.skip ?_; (try simp)) | (refine AW.ret ?_; (try simp)) | (refine AW.exit ?_; (try simp)))
          exact Sub1.pl0 _
        · simp [h0, h1] at h
  · have e : atE s k = 10 := by rw [atE, if_neg hs]
    rw [atP, if_neg (by rw [e]; omega), e]
    refine Eqn.pure r_yu_At (plain_tup2 _ _) ?_
    simp only [c_yu_At]
    repeat (first | refine AW.seq ?_ | refine AW.block ?_ | (refine AW.reg mix ?_; (simp; try simp (disch := omega) only [w64, wu64])) | (refine need.of (by first | omega | kernel_rfl) ?_) | (refine AW.skip ?_; (try simp)) | (refine AW.ret ?_; (try simp)) | (refine AW.exit ?_; (try simp)))
    refine CallS.pure (ygood_ok s) (by first | exact plain_d _ | exact plain_tup2 _ _ | exact plain_tup3 _ _ _) rfl (fun _ => rfl) (Subs.refl _) ?_
    (try simp; try simp (disch := omega) only [w64, wu64])
    repeat (first | refine AW.seq ?_ | refine AW.block ?_ | (refine AW.reg mix ?_; (simp; try simp (disch := omega) only [w64, wu64])) | (refine need.of (by first | omega | kernel_rfl) ?_) | (refine AW.skip ?_; (try simp)) | (refine AW.ret ?_; (try simp)) | (refine AW.exit ?_; (try simp)))
    refine AW.cond rfl (fun h => ?_) (fun h => ?_)
    · repeat (first | refine AW.seq ?_ | refine AW.block ?_ | (refine AW.reg mix ?_; (simp; try simp (disch := omega) only [w64, wu64])) | (refine need.of (by first | omega | kernel_rfl) ?_) | (refine AW.skip ?_; (try simp)) | (refine AW.ret ?_; (try simp)) | (refine AW.exit ?_; (try simp)))
      exact Sub1.pl0 _
    · simp at h
      omega
end
end Go.Proofs.YtakjegcjeffmgaaGreat.Am
namespace Go.Proofs.YtakjegcjeffmgaaGreat.Am
section
open Go.RowKit
set_option maxRecDepth 100000
set_option linter.unusedSimpArgs false
set_option linter.unusedVariables false
end
end Go.Proofs.YtakjegcjeffmgaaGreat.Am
namespace Go.Proofs.YtakjegcjeffmgaaGreat.Am
section
open Go.RowKit
set_option maxRecDepth 100000
set_option linter.unusedSimpArgs false
set_option linter.unusedVariables false

theorem wrong_good {d k : Nat} (hd : d ≤ 8) (hk : k ≤ 1023) : wrongZ d [(k : Int)] = 0 := by
  rw [wrongZ, if_pos (by omega), if_pos]
  simp [okK]; omega

theorem chance_small (d k : Nat) (hd : d ≤ 8) (hk : k ≤ 1023) (hu : k / 2 ^ d < 64) :
    Eqn Tryz.prog n_float_Chance [.d (.int .i64 d), .d (.int .i64 k)] [] (.tup [.d (.agg [natW 1, .bool false, natW (2 ^ (k / 2 ^ d) - 1)]), .d (.int .i64 0)]) [] := by
  refine Eqn.pure r_float_Chance (plain_tup2 _ _) ?_
  simp only [c_float_Chance]
  repeat (first | refine AW.seq ?_ | refine AW.block ?_ | (refine AW.reg mix ?_; (simp; try simp (disch := omega) only [w64, wu64])) | (refine need.of (by first | omega | kernel_rfl) ?_) | (refine AW.skip ?_; (try simp)) | (refine AW.ret ?_; (try simp)) | (refine AW.exit ?_; (try simp)))
  refine CallS.pureF 1 1 ⟨3, _⟩ [.int .i64 k] (wrong1_ok d k) (by first | exact plain_d _ | exact plain_tup2 _ _ | exact plain_tup3 _ _ _) rfl (fun _ => rfl) (by rfl) (by simp) (Subs.of ?_) ?_
  focus first | rfl | (simp; done) | skip
  rotate_left
  (try simp; try simp (disch := omega) only [w64, wu64])
  repeat (first | refine AW.seq ?_ | refine AW.block ?_ | (refine AW.reg mix ?_; (simp; try simp (disch := omega) only [w64, wu64])) | (refine need.of (by first | omega | kernel_rfl) ?_) | (refine AW.skip ?_; (try simp)) | (refine AW.ret ?_; (try simp)) | (refine AW.exit ?_; (try simp)))
  have hw := wrong_good hd hk
  refine AW.cond rfl (fun h => ?_) (fun h => ?_)
  · simp [hw] at h
  have hp := parts_ok d k (by omega) (by omega)
  generalize k / 2 ^ d = u at hp hu ⊢
  repeat (first | refine AW.seq ?_ | refine AW.block ?_ | (refine AW.reg mix ?_; (simp; try simp (disch := omega) only [w64, wu64])) | (refine need.of (by first | omega | kernel_rfl) ?_) | (refine AW.skip ?_; (try simp)) | (refine AW.ret ?_; (try simp)) | (refine AW.exit ?_; (try simp)))
  refine CallS.pure (hp) (by first | exact plain_d _ | exact plain_tup2 _ _ | exact plain_tup3 _ _ _) rfl (fun _ => rfl) (Subs.refl _) ?_
  (try simp; try simp (disch := omega) only [w64, wu64])
  repeat (first | refine AW.seq ?_ | refine AW.block ?_ | (refine AW.reg mix ?_; (simp; try simp (disch := omega) only [w64, wu64])) | (refine need.of (by first | omega | kernel_rfl) ?_) | (refine AW.skip ?_; (try simp)) | (refine AW.ret ?_; (try simp)) | (refine AW.exit ?_; (try simp)))
  refine CallS.pure (rhalf_ok u hu) (by first | exact plain_d _ | exact plain_tup2 _ _ | exact plain_tup3 _ _ _) rfl (fun _ => rfl) (Subs.refl _) ?_
  (try simp; try simp (disch := omega) only [w64, wu64])
  repeat (first | refine AW.seq ?_ | refine AW.block ?_ | (refine AW.reg mix ?_; (simp; try simp (disch := omega) only [w64, wu64])) | (refine need.of (by first | omega | kernel_rfl) ?_) | (refine AW.skip ?_; (try simp)) | (refine AW.ret ?_; (try simp)) | (refine AW.exit ?_; (try simp)))

theorem new_ok (cs : List Bool) (h : cs.length ≤ 1048576) : Eqn Tryz.prog n_tape_New [.d (BL cs)] [] (.p 0 0) [tapeO cs 0 false] := by
  refine Eqn.new1 r_tape_New ⟨rfl, fun _ => rfl⟩ ?_
  simp only [c_tape_New, BL]
  have e : min (cs.length : Int) 1048576 = cs.length := by omega
  have e2 : List.take cs.length (cs.map D.bool) = cs.map D.bool := List.take_of_length_le (by simp)
  repeat (first | refine AW.seq ?_ | refine AW.block ?_ | (refine AW.reg mix ?_; (simp [e, e2]; try simp (disch := omega) only [w64, wu64])) | (refine need.of (by first | omega | kernel_rfl) ?_) | (refine AW.skip ?_; (try simp [e, e2])) | (refine AW.ret ?_; (try simp [e, e2])) | (refine AW.exit ?_; (try simp [e, e2])))
  refine CallS.pure (cloneB_ok cs.length (cs.map .bool) (by simp) (by omega)) (by first | exact plain_d _ | exact plain_tup2 _ _ | exact plain_tup3 _ _ _) rfl (fun _ => rfl) (Subs.refl _) ?_
  (try simp; try simp (disch := omega) only [w64, wu64])
  repeat (first | refine AW.seq ?_ | refine AW.block ?_ | (refine AW.reg mix ?_; (simp; try simp (disch := omega) only [w64, wu64])) | (refine need.of (by first | omega | kernel_rfl) ?_) | (refine AW.skip ?_; (try simp)) | (refine AW.ret ?_; (try simp)) | (refine AW.exit ?_; (try simp)))
  exact Subs.refl _

theorem read_ok (cs : List Bool) (p : Nat) (dd : Bool) : Eqn Tryz.prog n_tape_Tape_Read [.p 0 0] [tapeO cs p dd] (.d (.int .i64 p)) [tapeO cs p dd] := by
  refine Eqn.obj1 r_tape_Tape_Read (plain_d _) ⟨rfl, fun _ => rfl⟩ ?_
  simp only [c_tape_Tape_Read, tapeO, BL]
  repeat (first | refine AW.seq ?_ | refine AW.block ?_ | (refine AW.reg mix ?_; (simp [-Bool.exists_bool]; try simp (disch := omega) only [w64, wu64])) | (refine need.of (by first | omega | kernel_rfl) ?_) | (refine AW.skip ?_; (try simp [-Bool.exists_bool])) | (refine AW.ret ?_; (try simp [-Bool.exists_bool])) | (refine AW.exit ?_; (try simp [-Bool.exists_bool])))

theorem few_ok (cs : List Bool) (n : Nat) (h : cs.length ≤ 9223372036854775807) (hn : n ≤ 1000000) : Eqn Tryz.prog n_Tlaw09_Few [.d (BL cs), .d (.int .i64 n)] [] (.d (BL (cs.take n))) [] := by
  refine Eqn.pure r_Tlaw09_Few (plain_d _) ?_
  simp only [c_Tlaw09_Few, BL]
  repeat (first | refine AW.seq ?_ | refine AW.block ?_ | (refine AW.reg mix ?_; (simp; try simp (disch := omega) only [w64, wu64])) | (refine need.of (by first | omega | kernel_rfl) ?_) | (refine AW.skip ?_; (try simp)) | (refine AW.ret ?_; (try simp)) | (refine AW.exit ?_; (try simp)))
  refine AW.cond rfl (fun h => ?_) (fun h => ?_)
  · have h' : (n : Int) ≤ cs.length := by simp at h; omega
    have h2 : n ≤ cs.length := by omega
    repeat (first | refine AW.seq ?_ | refine AW.block ?_ | (refine AW.reg mix ?_; (simp [h', h2]; try simp (disch := omega) only [w64, wu64])) | (refine need.of (by first | omega | kernel_rfl) ?_) | (refine AW.skip ?_; (try simp [h', h2])) | (refine AW.ret ?_; (try simp [h', h2])) | (refine AW.exit ?_; (try simp [h', h2])))
  · have h2 : cs.length ≤ n := by simp at h; omega
    repeat (first | refine AW.seq ?_ | refine AW.block ?_ | (refine AW.reg mix ?_; (simp; try simp (disch := omega) only [w64, wu64])) | (refine need.of (by first | omega | kernel_rfl) ?_) | (refine AW.skip ?_; (try simp)) | (refine AW.ret ?_; (try simp)) | (refine AW.exit ?_; (try simp)))
    refine Sub1.of ?_
    rw [Nat.min_eq_right h2, List.take_of_length_le (by simp; omega)]

def p2 (n : Nat) : Nat := 2 ^ n
theorem p2_zero : p2 0 = 1 := rfl
theorem p2_succ (n : Nat) : p2 (n + 1) = 2 * p2 n := by rw [p2, p2, Nat.pow_succ, Nat.mul_comm]
theorem p2_pos (n : Nat) : 0 < p2 n := Nat.two_pow_pos n
theorem p2_le {n m : Nat} (h : n ≤ m) : p2 n ≤ p2 m := Nat.pow_le_pow_right (by omega) h

theorem rsize_ok (d : Nat) (hd : d ≤ 60) : Eqn Tryz.prog n_Tref13_Size [.d (.int .i64 d)] [] (.d (.int .i64 (p2 d))) [] := by
  refine Eqn.pure r_Tref13_Size (plain_d _) ?_
  simp only [c_Tref13_Size]
  repeat (first | refine AW.seq ?_ | refine AW.block ?_ | (refine AW.reg mix ?_; (simp; try simp (disch := omega) only [w64, wu64])) | (refine need.of (by first | omega | kernel_rfl) ?_) | (refine AW.skip ?_; (try simp)) | (refine AW.ret ?_; (try simp)) | (refine AW.exit ?_; (try simp)))
  refine AW.loopT (α := Nat) 0 (fun i => [(4, .d (.int .i64 (i : Int))), (3, .d (.int .i64 (p2 i)))]) (fun i => []) (fun i => i ≤ d) (fun i => d - i) 0 ?_ ?_ (Nat.zero_le _) ?_ ?_ ?_
  · simp
  · simp
  · simp [p2_zero]
  · simp
  rintro i hi
  have hle : p2 i ≤ 2 ^ 60 := p2_le (m := 60) (by omega)
  simp
  by_cases h : i = d
  · subst h
    repeat (first | refine AW.seq ?_ | refine AW.block ?_ | (refine AW.reg mix ?_; (simp; try simp (disch := omega) only [w64, wu64])) | (refine need.of (by first | omega | kernel_rfl) ?_) | (refine AW.skip ?_; (try simp)) | (refine AW.ret ?_; (try simp)) | (refine AW.exit ?_; (try simp)))
    refine AW.cond rfl (fun h => ?_) (fun h => ?_)
    · simp at h
    repeat (first | refine AW.seq ?_ | refine AW.block ?_ | (refine AW.reg mix ?_; (simp; try simp (disch := omega) only [w64, wu64])) | (refine need.of (by first | omega | kernel_rfl) ?_) | (refine AW.skip ?_; (try simp)) | (refine AW.ret ?_; (try simp)) | (refine AW.exit ?_; (try simp)))
  · have hlt : (i : Int) < d := by omega
    have hlt' : i < d := by omega
    have e1 : IntKind.i64.wrap (2 * (p2 i : Int)) = (p2 (i + 1) : Int) := by rw [p2_succ]; exact w64 (by omega) (by omega)
    have e2 : IntKind.i64.wrap ((i : Int) + 1) = (i : Int) + 1 := w64 (by omega) (by omega)
    repeat (first | refine AW.seq ?_ | refine AW.block ?_ | (refine AW.reg mix ?_; (simp [hlt, hlt']; try simp (disch := omega) only [w64, wu64])) | (refine need.of (by first | omega | kernel_rfl) ?_) | (refine AW.skip ?_; (try simp [hlt, hlt'])) | (refine AW.ret ?_; (try simp [hlt, hlt'])) | (refine AW.exit ?_; (try simp [hlt, hlt'])))
    refine AW.cond rfl (fun h => ?_) (fun h => ?_)
    · repeat (first | refine AW.seq ?_ | refine AW.block ?_ | (refine AW.reg mix ?_; (simp [e1, e2]; try simp (disch := omega) only [w64, wu64])) | (refine need.of (by first | omega | kernel_rfl) ?_) | (refine AW.skip ?_; (try simp [e1, e2])) | (refine AW.ret ?_; (try simp [e1, e2])) | (refine AW.exit ?_; (try simp [e1, e2])))
      exact ⟨i + 1, by omega, by omega, by simp, by simp⟩
    · simp [hlt'] at h

/-- so many coins that are true, as the document tells it: is it, how many were taken, what is wrong -/
def halfO (cs : List Bool) : Nat → Nat → Bool × Nat × Int
  | 0, i => (true, i, 0)
  | r + 1, i => if i < cs.length then (if cs.getD i false then halfO cs r (i + 1) else (false, i + 1, 0)) else (false, i, 8)
end
end Go.Proofs.YtakjegcjeffmgaaGreat.Am
namespace Go.Proofs.YtakjegcjeffmgaaGreat.Am
section
open Go.RowKit
set_option maxRecDepth 100000
set_option linter.unusedSimpArgs false
set_option linter.unusedVariables false

theorem atE_zero {s k : Int} (h : atE s k = 0) : 1 ≤ s ∧ s ≤ 5 ∧ 0 ≤ k ∧ k ≤ 1023 := by
  unfold atE at h
  split at h
  · split at h <;> omega
  · omega
theorem atP_shift {s k : Int} (h : atE s k = 0) : (atP s k).shift ≤ 8192 := by
  have h1 := atE_zero h
  rw [atP, if_pos h]
  exact (placeY_size (s := s.toNat) (k := k.toNat) (by omega) (by omega) (by omega)).2.1

/-- a step at a place -/
def stepY (cs : List Bool) (s k : Int) : Bool × Int × Nat × Bool := if atE s k = 0 then halfR cs (atP s k).shift 0 false else (false, atE s k, 0, false)
def againE (s k j : Int) : Int := if atE s k = 0 then atE s j else atE s k
/-- what a step at another place is here -/
def againY (cs : List Bool) (s k j : Int) : Bool × Int × Nat × Bool := if againE s k j = 0 then halfR cs ((atP s k).shift - (atP s j).shift) 0 false else (false, againE s k j, 0, false)
end
end Go.Proofs.YtakjegcjeffmgaaGreat.Am
namespace Go.Proofs.YtakjegcjeffmgaaGreat.Am
section
open Go.RowKit
set_option maxRecDepth 100000
set_option linter.unusedSimpArgs false
set_option linter.unusedVariables false

theorem blen_ok (x : Nat) (hx : x < 18446744073709551616) : Eqn Tryz.prog n_math_bits_Len [.d (.int .u64 x)] [] (.d (.int .i64 (bitsN x))) [] := by
  refine Eqn.pure r_math_bits_Len (plain_d _) ?_
  simp only [c_math_bits_Len]
  repeat (first | refine AW.seq ?_ | refine AW.block ?_ | (refine AW.reg mix ?_; (simp (implicitDefEqProofs := false) [↓callI, vopsN, vopsG, ↓step_slice, ↓Am.A.step, ↓binInt, ↓binStr, vopsE0, vopsE1, -vops]; try simp (disch := omega) only [w64, wu64])) | (refine need.of (by first | omega | kernel_rfl) ?_) | (refine AW.skip ?_; (try simp (implicitDefEqProofs := false) [↓callI, vopsN, vopsG, ↓step_slice, ↓Am.A.step, ↓binInt, ↓binStr, vopsE0, vopsE1, -vops])) | (refine AW.ret ?_; (try simp (implicitDefEqProofs := false) [↓callI, vopsN, vopsG, ↓step_slice, ↓Am.A.step, ↓binInt, ↓binStr, vopsE0, vopsE1, -vops])) | (refine AW.exit ?_; (try simp (implicitDefEqProofs := false) [↓callI, vopsN, vopsG, ↓step_slice, ↓Am.A.step, ↓binInt, ↓binStr, vopsE0, vopsE1, -vops])))
  refine AW.cond rfl (fun h => ?_) (fun h => ?_)
  · simp at h
  repeat (first | refine AW.seq ?_ | refine AW.block ?_ | (refine AW.reg mix ?_; (simp (implicitDefEqProofs := false) [↓callI, vopsN, vopsG, ↓step_slice, ↓Am.A.step, ↓binInt, ↓binStr, vopsE0, vopsE1, -vops]; try simp (disch := omega) only [w64, wu64])) | (refine need.of (by first | omega | kernel_rfl) ?_) | (refine AW.skip ?_; (try simp (implicitDefEqProofs := false) [↓callI, vopsN, vopsG, ↓step_slice, ↓Am.A.step, ↓binInt, ↓binStr, vopsE0, vopsE1, -vops])) | (refine AW.ret ?_; (try simp (implicitDefEqProofs := false) [↓callI, vopsN, vopsG, ↓step_slice, ↓Am.A.step, ↓binInt, ↓binStr, vopsE0, vopsE1, -vops])) | (refine AW.exit ?_; (try simp (implicitDefEqProofs := false) [↓callI, vopsN, vopsG, ↓step_slice, ↓Am.A.step, ↓binInt, ↓binStr, vopsE0, vopsE1, -vops])))
  refine CallS.pure (len64_ok x hx) (by first | exact plain_d _ | exact plain_tup2 _ _ | exact plain_tup3 _ _ _) rfl (fun _ => rfl) (Subs.refl _) ?_
  (try simp (implicitDefEqProofs := false) [↓callI, vopsN, vopsG, ↓step_slice, ↓Am.A.step, ↓binInt, ↓binStr, vopsE0, vopsE1, -vops]; try simp (disch := omega) only [w64, wu64])
  repeat (first | refine AW.seq ?_ | refine AW.block ?_ | (refine AW.reg mix ?_; (simp (implicitDefEqProofs := false) [↓callI, vopsN, vopsG, ↓step_slice, ↓Am.A.step, ↓binInt, ↓binStr, vopsE0, vopsE1, -vops]; try simp (disch := omega) only [w64, wu64])) | (refine need.of (by first | omega | kernel_rfl) ?_) | (refine AW.skip ?_; (try simp (implicitDefEqProofs := false) [↓callI, vopsN, vopsG, ↓step_slice, ↓Am.A.step, ↓binInt, ↓binStr, vopsE0, vopsE1, -vops])) | (refine AW.ret ?_; (try simp (implicitDefEqProofs := false) [↓callI, vopsN, vopsG, ↓step_slice, ↓Am.A.step, ↓binInt, ↓binStr, vopsE0, vopsE1, -vops])) | (refine AW.exit ?_; (try simp (implicitDefEqProofs := false) [↓callI, vopsN, vopsG, ↓step_slice, ↓Am.A.step, ↓binInt, ↓binStr, vopsE0, vopsE1, -vops])))

theorem check_m (a w : Nat) (h1 : 1 ≤ a) (h2 : a ≤ 4096) (w1 : 1 ≤ w) (w2 : w ≤ 10) (hm : bitsN (a + 1) * (2 ^ w - 1) ≤ 8192) : Eqn Tryz.prog n_chain_Param_Check [.d (.agg [.int .i64 1, .int .i64 a, .int .i64 w])] [] (.d (.int .i64 0)) [] := by
  refine Eqn.pure r_chain_Param_Check (plain_d _) ?_
  simp only [c_chain_Param_Check]
  have hk := kind_ok 1 a w
  rw [kindD, if_pos rfl] at hk
  have hg := cmgood_ok a
  rw [show decide (1 ≤ (a : Int) ∧ (a : Int) ≤ 4096) = true by simp; omega] at hg
  have g1 : ¬ (w : Int) < 1 := by omega
  have g2 : ¬ (10 : Int) < w := by omega
  repeat (first | refine AW.seq ?_ | refine AW.block ?_ | (refine AW.reg mix ?_; (simp (implicitDefEqProofs := false) [↓callI, vopsN, vopsG, ↓step_slice, ↓Am.A.step, ↓binInt, ↓binStr, vopsE0, vopsE1, -vops]; try simp (disch := omega) only [w64, wu64])) | (refine need.of (by first | omega | kernel_rfl) ?_) | (refine AW.skip ?_; (try simp (implicitDefEqProofs := false) [↓callI, vopsN, vopsG, ↓step_slice, ↓Am.A.step, ↓binInt, ↓binStr, vopsE0, vopsE1, -vops])) | (refine AW.ret ?_; (try simp (implicitDefEqProofs := false) [↓callI, vopsN, vopsG, ↓step_slice, ↓Am.A.step, ↓binInt, ↓binStr, vopsE0, vopsE1, -vops])) | (refine AW.exit ?_; (try simp (implicitDefEqProofs := false) [↓callI, vopsN, vopsG, ↓step_slice, ↓Am.A.step, ↓binInt, ↓binStr, vopsE0, vopsE1, -vops])))
  refine CallS.pure (hk) (by first | exact plain_d _ | exact plain_tup2 _ _ | exact plain_tup3 _ _ _) rfl (fun _ => rfl) (Subs.refl _) ?_
  (try simp (implicitDefEqProofs := false) [↓callI, vopsN, vopsG, ↓step_slice, ↓Am.A.step, ↓binInt, ↓binStr, vopsE0, vopsE1, -vops, g1, g2]; try simp (disch := omega) only [w64, wu64])
  repeat (first | refine AW.seq ?_ | refine AW.block ?_ | (refine AW.reg mix ?_; (simp (implicitDefEqProofs := false) [↓callI, vopsN, vopsG, ↓step_slice, ↓Am.A.step, ↓binInt, ↓binStr, vopsE0, vopsE1, -vops, g1, g2]; try simp (disch := omega) only [w64, wu64])) | (refine need.of (by first | omega | kernel_rfl) ?_) | (refine AW.skip ?_; (try simp (implicitDefEqProofs := false) [↓callI, vopsN, vopsG, ↓step_slice, ↓Am.A.step, ↓binInt, ↓binStr, vopsE0, vopsE1, -vops, g1, g2])) | (refine AW.ret ?_; (try simp (implicitDefEqProofs := false) [↓callI, vopsN, vopsG, ↓step_slice, ↓Am.A.step, ↓binInt, ↓binStr, vopsE0, vopsE1, -vops, g1, g2])) | (refine AW.exit ?_; (try simp (implicitDefEqProofs := false) [↓callI, vopsN, vopsG, ↓step_slice, ↓Am.A.step, ↓binInt, ↓binStr, vopsE0, vopsE1, -vops, g1, g2])))
  refine ⟨_, meth_mgood, ?_⟩
  refine CallS.pure (hg) (by first | exact plain_d _ | exact plain_tup2 _ _ | exact plain_tup3 _ _ _) rfl (fun _ => rfl) (Subs.refl _) ?_
  (try simp (implicitDefEqProofs := false) [↓callI, vopsN, vopsG, ↓step_slice, ↓Am.A.step, ↓binInt, ↓binStr, vopsE0, vopsE1, -vops, g1, g2]; try simp (disch := omega) only [w64, wu64])
  repeat (first | refine AW.seq ?_ | refine AW.block ?_ | (refine AW.reg mix ?_; (simp (implicitDefEqProofs := false) [↓callI, vopsN, vopsG, ↓step_slice, ↓Am.A.step, ↓binInt, ↓binStr, vopsE0, vopsE1, -vops, g1, g2]; try simp (disch := omega) only [w64, wu64])) | (refine need.of (by first | omega | kernel_rfl) ?_) | (refine AW.skip ?_; (try simp (implicitDefEqProofs := false) [↓callI, vopsN, vopsG, ↓step_slice, ↓Am.A.step, ↓binInt, ↓binStr, vopsE0, vopsE1, -vops, g1, g2])) | (refine AW.ret ?_; (try simp (implicitDefEqProofs := false) [↓callI, vopsN, vopsG, ↓step_slice, ↓Am.A.step, ↓binInt, ↓binStr, vopsE0, vopsE1, -vops, g1, g2])) | (refine AW.exit ?_; (try simp (implicitDefEqProofs := false) [↓callI, vopsN, vopsG, ↓step_slice, ↓Am.A.step, ↓binInt, ↓binStr, vopsE0, vopsE1, -vops, g1, g2])))
  refine AW.cond rfl (fun h => ?_) (fun h => ?_)
  · simp [g1, g2] at h
  clear h
  have e1 : IntKind.i64.wrap ((a : Int) + 1) = ((a + 1 : Nat) : Int) := w64 (by omega) (by omega)
  have e2 : IntKind.u64.wrap ((a + 1 : Nat) : Int) = ((a + 1 : Nat) : Int) := wu64 (by omega) (by omega)
  have hb := blen_ok (a + 1) (by omega)
  have hbl : bitsN (a + 1) ≤ 8192 := by
    refine Nat.le_trans (Nat.le_mul_of_pos_right _ ?_) hm
    have := Nat.pow_le_pow_right (n := 2) (by omega) w1
    omega
  have h2' : 0 < 2 ^ w := Nat.two_pow_pos w
  have h2 : 2 ^ w ≤ 1024 := Nat.pow_le_pow_right (n := 2) (by omega) w2
  have e0 : (2 : Int) ^ w = (2 ^ w : Nat) := by rw [Int.natCast_pow]; rfl
  generalize 2 ^ w = S at *
  generalize bitsN (a + 1) = B at *
  generalize a + 1 = a1 at *
  have e3 : IntKind.i64.wrap (S : Int) = S := w64 (by omega) (by omega)
  have e4 : IntKind.i64.wrap ((S : Int) - 1) = ((S - 1 : Nat) : Int) := by rw [w64 (by omega) (by omega)]; omega
  have e5 : IntKind.i64.wrap ((B : Int) * ((S - 1 : Nat) : Int)) = ((B * (S - 1) : Nat) : Int) := by
    rw [← Int.natCast_mul]
    generalize B * (S - 1) = x at *
    exact w64 (by omega) (by omega)
  have g3 : ¬ (8192 : Int) < ((B * (S - 1) : Nat) : Int) := by omega
  generalize hS1 : S - 1 = S1 at *
  obtain ⟨x, hx⟩ : ∃ x, x = B * S1 := ⟨_, rfl⟩
  rw [← hx] at e5 g3
  repeat (first | refine AW.seq ?_ | refine AW.block ?_ | (refine AW.reg mix ?_; (simp (implicitDefEqProofs := false) [↓callI, vopsN, vopsG, ↓step_slice, ↓Am.A.step, ↓binInt, ↓binStr, vopsE0, vopsE1, -vops, e1, e2]; try simp (disch := omega) only [w64, wu64])) | (refine need.of (by first | omega | kernel_rfl) ?_) | (refine AW.skip ?_; (try simp (implicitDefEqProofs := false) [↓callI, vopsN, vopsG, ↓step_slice, ↓Am.A.step, ↓binInt, ↓binStr, vopsE0, vopsE1, -vops, e1, e2])) | (refine AW.ret ?_; (try simp (implicitDefEqProofs := false) [↓callI, vopsN, vopsG, ↓step_slice, ↓Am.A.step, ↓binInt, ↓binStr, vopsE0, vopsE1, -vops, e1, e2])) | (refine AW.exit ?_; (try simp (implicitDefEqProofs := false) [↓callI, vopsN, vopsG, ↓step_slice, ↓Am.A.step, ↓binInt, ↓binStr, vopsE0, vopsE1, -vops, e1, e2])))
  refine CallS.pure (hb) (by first | exact plain_d _ | exact plain_tup2 _ _ | exact plain_tup3 _ _ _) rfl (fun _ => rfl) (Subs.refl _) ?_
  (try simp (implicitDefEqProofs := false) [↓callI, vopsN, vopsG, ↓step_slice, ↓Am.A.step, ↓binInt, ↓binStr, vopsE0, vopsE1, -vops, e0, e3, e4, e5, g3]; try simp (disch := omega) only [w64, wu64])
  repeat (first | refine AW.seq ?_ | refine AW.block ?_ | (refine AW.reg mix ?_; (simp (implicitDefEqProofs := false) [↓callI, vopsN, vopsG, ↓step_slice, ↓Am.A.step, ↓binInt, ↓binStr, vopsE0, vopsE1, -vops, e0, e3, e4, e5, g3]; try simp (disch := omega) only [w64, wu64])) | (refine need.of (by first | omega | kernel_rfl) ?_) | (refine AW.skip ?_; (try simp (implicitDefEqProofs := false) [↓callI, vopsN, vopsG, ↓step_slice, ↓Am.A.step, ↓binInt, ↓binStr, vopsE0, vopsE1, -vops, e0, e3, e4, e5, g3])) | (refine AW.ret ?_; (try simp (implicitDefEqProofs := false) [↓callI, vopsN, vopsG, ↓step_slice, ↓Am.A.step, ↓binInt, ↓binStr, vopsE0, vopsE1, -vops, e0, e3, e4, e5, g3])) | (refine AW.exit ?_; (try simp (implicitDefEqProofs := false) [↓callI, vopsN, vopsG, ↓step_slice, ↓Am.A.step, ↓binInt, ↓binStr, vopsE0, vopsE1, -vops, e0, e3, e4, e5, g3])))
  refine AW.cond rfl (fun h => ?_) (fun h => ?_)
  · simp [g3] at h
  repeat (first | refine AW.seq ?_ | refine AW.block ?_ | (refine AW.reg mix ?_; (simp (implicitDefEqProofs := false) [↓callI, vopsN, vopsG, ↓step_slice, ↓Am.A.step, ↓binInt, ↓binStr, vopsE0, vopsE1, -vops]; try simp (disch := omega) only [w64, wu64])) | (refine need.of (by first | omega | kernel_rfl) ?_) | (refine AW.skip ?_; (try simp (implicitDefEqProofs := false) [↓callI, vopsN, vopsG, ↓step_slice, ↓Am.A.step, ↓binInt, ↓binStr, vopsE0, vopsE1, -vops])) | (refine AW.ret ?_; (try simp (implicitDefEqProofs := false) [↓callI, vopsN, vopsG, ↓step_slice, ↓Am.A.step, ↓binInt, ↓binStr, vopsE0, vopsE1, -vops])) | (refine AW.exit ?_; (try simp (implicitDefEqProofs := false) [↓callI, vopsN, vopsG, ↓step_slice, ↓Am.A.step, ↓binInt, ↓binStr, vopsE0, vopsE1, -vops])))

theorem cygood_ok (a : Int) : Eqn Tryz.prog n_chain_aYu_good [.d (.int .i64 a)] [] (.d (.bool (decide (1 ≤ a ∧ a ≤ 5)))) [] := by
  refine Eqn.pure r_chain_aYu_good (plain_d _) ?_
  simp only [c_chain_aYu_good]
  repeat (first | refine AW.seq ?_ | refine AW.block ?_ | (refine AW.reg mix ?_; (simp (implicitDefEqProofs := false) [↓callI, vopsN, vopsG, ↓step_slice, ↓Am.A.step, ↓binInt, ↓binStr, vopsE0, vopsE1, -vops]; try simp (disch := omega) only [w64, wu64])) | (refine need.of (by first | omega | kernel_rfl) ?_) | (refine AW.skip ?_; (try simp (implicitDefEqProofs := false) [↓callI, vopsN, vopsG, ↓step_slice, ↓Am.A.step, ↓binInt, ↓binStr, vopsE0, vopsE1, -vops])) | (refine AW.ret ?_; (try simp (implicitDefEqProofs := false) [↓callI, vopsN, vopsG, ↓step_slice, ↓Am.A.step, ↓binInt, ↓binStr, vopsE0, vopsE1, -vops])) | (refine AW.exit ?_; (try simp (implicitDefEqProofs := false) [↓callI, vopsN, vopsG, ↓step_slice, ↓Am.A.step, ↓binInt, ↓binStr, vopsE0, vopsE1, -vops])))
  refine CallS.pure (ygood_ok a) (by first | exact plain_d _ | exact plain_tup2 _ _ | exact plain_tup3 _ _ _) rfl (fun _ => rfl) (Subs.refl _) ?_
  (try simp (implicitDefEqProofs := false) [↓callI, vopsN, vopsG, ↓step_slice, ↓Am.A.step, ↓binInt, ↓binStr, vopsE0, vopsE1, -vops]; try simp (disch := omega) only [w64, wu64])
  repeat (first | refine AW.seq ?_ | refine AW.block ?_ | (refine AW.reg mix ?_; (simp (implicitDefEqProofs := false) [↓callI, vopsN, vopsG, ↓step_slice, ↓Am.A.step, ↓binInt, ↓binStr, vopsE0, vopsE1, -vops]; try simp (disch := omega) only [w64, wu64])) | (refine need.of (by first | omega | kernel_rfl) ?_) | (refine AW.skip ?_; (try simp (implicitDefEqProofs := false) [↓callI, vopsN, vopsG, ↓step_slice, ↓Am.A.step, ↓binInt, ↓binStr, vopsE0, vopsE1, -vops])) | (refine AW.ret ?_; (try simp (implicitDefEqProofs := false) [↓callI, vopsN, vopsG, ↓step_slice, ↓Am.A.step, ↓binInt, ↓binStr, vopsE0, vopsE1, -vops])) | (refine AW.exit ?_; (try simp (implicitDefEqProofs := false) [↓callI, vopsN, vopsG, ↓step_slice, ↓Am.A.step, ↓binInt, ↓binStr, vopsE0, vopsE1, -vops])))

theorem check_f (a w : Nat) (h2 : a ≤ 8) (w1 : 1 ≤ w) (w2 : w ≤ 10) : Eqn Tryz.prog n_chain_Param_Check [.d (.agg [.int .i64 2, .int .i64 a, .int .i64 w])] [] (.d (.int .i64 0)) [] := by
  refine Eqn.pure r_chain_Param_Check (plain_d _) ?_
  simp only [c_chain_Param_Check]
  have hk := kind_ok 2 a w
  rw [kindD, if_neg (by omega), if_pos rfl] at hk
  have hg := cfgood_ok a
  rw [show decide (0 ≤ (a : Int) ∧ (a : Int) ≤ 8) = true by simp; omega] at hg
  have g1 : ¬ (w : Int) < 1 := by omega
  have g2 : ¬ (10 : Int) < w := by omega
  repeat (first | refine AW.seq ?_ | refine AW.block ?_ | (refine AW.reg mix ?_; (simp (implicitDefEqProofs := false) [↓callI, vopsN, vopsG, ↓step_slice, ↓Am.A.step, ↓binInt, ↓binStr, vopsE0, vopsE1, -vops]; try simp (disch := omega) only [w64, wu64])) | (refine need.of (by first | omega | kernel_rfl) ?_) | (refine AW.skip ?_; (try simp (implicitDefEqProofs := false) [↓callI, vopsN, vopsG, ↓step_slice, ↓Am.A.step, ↓binInt, ↓binStr, vopsE0, vopsE1, -vops])) | (refine AW.ret ?_; (try simp (implicitDefEqProofs := false) [↓callI, vopsN, vopsG, ↓step_slice, ↓Am.A.step, ↓binInt, ↓binStr, vopsE0, vopsE1, -vops])) | (refine AW.exit ?_; (try simp (implicitDefEqProofs := false) [↓callI, vopsN, vopsG, ↓step_slice, ↓Am.A.step, ↓binInt, ↓binStr, vopsE0, vopsE1, -vops])))
  refine CallS.pure (hk) (by first | exact plain_d _ | exact plain_tup2 _ _ | exact plain_tup3 _ _ _) rfl (fun _ => rfl) (Subs.refl _) ?_
  (try simp (implicitDefEqProofs := false) [↓callI, vopsN, vopsG, ↓step_slice, ↓Am.A.step, ↓binInt, ↓binStr, vopsE0, vopsE1, -vops, g1, g2]; try simp (disch := omega) only [w64, wu64])
  repeat (first | refine AW.seq ?_ | refine AW.block ?_ | (refine AW.reg mix ?_; (simp (implicitDefEqProofs := false) [↓callI, vopsN, vopsG, ↓step_slice, ↓Am.A.step, ↓binInt, ↓binStr, vopsE0, vopsE1, -vops, g1, g2]; try simp (disch := omega) only [w64, wu64])) | (refine need.of (by first | omega | kernel_rfl) ?_) | (refine AW.skip ?_; (try simp (implicitDefEqProofs := false) [↓callI, vopsN, vopsG, ↓step_slice, ↓Am.A.step, ↓binInt, ↓binStr, vopsE0, vopsE1, -vops, g1, g2])) | (refine AW.ret ?_; (try simp (implicitDefEqProofs := false) [↓callI, vopsN, vopsG, ↓step_slice, ↓Am.A.step, ↓binInt, ↓binStr, vopsE0, vopsE1, -vops, g1, g2])) | (refine AW.exit ?_; (try simp (implicitDefEqProofs := false) [↓callI, vopsN, vopsG, ↓step_slice, ↓Am.A.step, ↓binInt, ↓binStr, vopsE0, vopsE1, -vops, g1, g2])))
  refine ⟨_, meth_fgood, ?_⟩
  refine CallS.pure (hg) (by first | exact plain_d _ | exact plain_tup2 _ _ | exact plain_tup3 _ _ _) rfl (fun _ => rfl) (Subs.refl _) ?_
  (try simp (implicitDefEqProofs := false) [↓callI, vopsN, vopsG, ↓step_slice, ↓Am.A.step, ↓binInt, ↓binStr, vopsE0, vopsE1, -vops, g1, g2]; try simp (disch := omega) only [w64, wu64])
  repeat (first | refine AW.seq ?_ | refine AW.block ?_ | (refine AW.reg mix ?_; (simp (implicitDefEqProofs := false) [↓callI, vopsN, vopsG, ↓step_slice, ↓Am.A.step, ↓binInt, ↓binStr, vopsE0, vopsE1, -vops, g1, g2]; try simp (disch := omega) only [w64, wu64])) | (refine need.of (by first | omega | kernel_rfl) ?_) | (refine AW.skip ?_; (try simp (implicitDefEqProofs := false) [↓callI, vopsN, vopsG, ↓step_slice, ↓Am.A.step, ↓binInt, ↓binStr, vopsE0, vopsE1, -vops, g1, g2])) | (refine AW.ret ?_; (try simp (implicitDefEqProofs := false) [↓callI, vopsN, vopsG, ↓step_slice, ↓Am.A.step, ↓binInt, ↓binStr, vopsE0, vopsE1, -vops, g1, g2])) | (refine AW.exit ?_; (try simp (implicitDefEqProofs := false) [↓callI, vopsN, vopsG, ↓step_slice, ↓Am.A.step, ↓binInt, ↓binStr, vopsE0, vopsE1, -vops, g1, g2])))
  refine AW.cond rfl (fun h => ?_) (fun h => ?_)
  · simp [g1, g2] at h
  clear h
  repeat (first | refine AW.seq ?_ | refine AW.block ?_ | (refine AW.reg mix ?_; (simp (implicitDefEqProofs := false) [↓callI, vopsN, vopsG, ↓step_slice, ↓Am.A.step, ↓binInt, ↓binStr, vopsE0, vopsE1, -vops]; try simp (disch := omega) only [w64, wu64])) | (refine need.of (by first | omega | kernel_rfl) ?_) | (refine AW.skip ?_; (try simp (implicitDefEqProofs := false) [↓callI, vopsN, vopsG, ↓step_slice, ↓Am.A.step, ↓binInt, ↓binStr, vopsE0, vopsE1, -vops])) | (refine AW.ret ?_; (try simp (implicitDefEqProofs := false) [↓callI, vopsN, vopsG, ↓step_slice, ↓Am.A.step, ↓binInt, ↓binStr, vopsE0, vopsE1, -vops])) | (refine AW.exit ?_; (try simp (implicitDefEqProofs := false) [↓callI, vopsN, vopsG, ↓step_slice, ↓Am.A.step, ↓binInt, ↓binStr, vopsE0, vopsE1, -vops])))
  refine AW.cond rfl (fun h => ?_) (fun h => ?_)
  · simp at h
  repeat (first | refine AW.seq ?_ | refine AW.block ?_ | (refine AW.reg mix ?_; (simp (implicitDefEqProofs := false) [↓callI, vopsN, vopsG, ↓step_slice, ↓Am.A.step, ↓binInt, ↓binStr, vopsE0, vopsE1, -vops]; try simp (disch := omega) only [w64, wu64])) | (refine need.of (by first | omega | kernel_rfl) ?_) | (refine AW.skip ?_; (try simp (implicitDefEqProofs := false) [↓callI, vopsN, vopsG, ↓step_slice, ↓Am.A.step, ↓binInt, ↓binStr, vopsE0, vopsE1, -vops])) | (refine AW.ret ?_; (try simp (implicitDefEqProofs := false) [↓callI, vopsN, vopsG, ↓step_slice, ↓Am.A.step, ↓binInt, ↓binStr, vopsE0, vopsE1, -vops])) | (refine AW.exit ?_; (try simp (implicitDefEqProofs := false) [↓callI, vopsN, vopsG, ↓step_slice, ↓Am.A.step, ↓binInt, ↓binStr, vopsE0, vopsE1, -vops])))
theorem check_y (a w : Nat) (h1 : 1 ≤ a) (h2 : a ≤ 5) (w1 : 1 ≤ w) (w2 : w ≤ 10) : Eqn Tryz.prog n_chain_Param_Check [.d (.agg [.int .i64 3, .int .i64 a, .int .i64 w])] [] (.d (.int .i64 0)) [] := by
  refine Eqn.pure r_chain_Param_Check (plain_d _) ?_
  simp only [c_chain_Param_Check]
  have hk := kind_ok 3 a w
  rw [kindD, if_neg (by omega), if_neg (by omega), if_pos rfl] at hk
  have hg := cygood_ok a
  rw [show decide (1 ≤ (a : Int) ∧ (a : Int) ≤ 5) = true by simp; omega] at hg
  have g1 : ¬ (w : Int) < 1 := by omega
  have g2 : ¬ (10 : Int) < w := by omega
  repeat (first | refine AW.seq ?_ | refine AW.block ?_ | (refine AW.reg mix ?_; (simp (implicitDefEqProofs := false) [↓callI, vopsN, vopsG, ↓step_slice, ↓Am.A.step, ↓binInt, ↓binStr, vopsE0, vopsE1, -vops]; try simp (disch := omega) only [w64, wu64])) | (refine need.of (by first | omega | kernel_rfl) ?_) | (refine AW.skip ?_; (try simp (implicitDefEqProofs := false) [↓callI, vopsN, vopsG, ↓step_slice, ↓Am.A.step, ↓binInt, ↓binStr, vopsE0, vopsE1, -vops])) | (refine AW.ret ?_; (try simp (implicitDefEqProofs := false) [↓callI, vopsN, vopsG, ↓step_slice, ↓Am.A.step, ↓binInt, ↓binStr, vopsE0, vopsE1, -vops])) | (refine AW.exit ?_; (try simp (implicitDefEqProofs := false) [↓callI, vopsN, vopsG, ↓step_slice, ↓Am.A.step, ↓binInt, ↓binStr, vopsE0, vopsE1, -vops])))
  refine CallS.pure (hk) (by first | exact plain_d _ | exact plain_tup2 _ _ | exact plain_tup3 _ _ _) rfl (fun _ => rfl) (Subs.refl _) ?_
  (try simp (implicitDefEqProofs := false) [↓callI, vopsN, vopsG, ↓step_slice, ↓Am.A.step, ↓binInt, ↓binStr, vopsE0, vopsE1, -vops, g1, g2]; try simp (disch := omega) only [w64, wu64])
  repeat (first | refine AW.seq ?_ | refine AW.block ?_ | (refine AW.reg mix ?_; (simp (implicitDefEqProofs := false) [↓callI, vopsN, vopsG, ↓step_slice, ↓Am.A.step, ↓binInt, ↓binStr, vopsE0, vopsE1, -vops, g1, g2]; try simp (disch := omega) only [w64, wu64])) | (refine need.of (by first | omega | kernel_rfl) ?_) | (refine AW.skip ?_; (try simp (implicitDefEqProofs := false) [↓callI, vopsN, vopsG, ↓step_slice, ↓Am.A.step, ↓binInt, ↓binStr, vopsE0, vopsE1, -vops, g1, g2])) | (refine AW.ret ?_; (try simp (implicitDefEqProofs := false) [↓callI, vopsN, vopsG, ↓step_slice, ↓Am.A.step, ↓binInt, ↓binStr, vopsE0, vopsE1, -vops, g1, g2])) | (refine AW.exit ?_; (try simp (implicitDefEqProofs := false) [↓callI, vopsN, vopsG, ↓step_slice, ↓Am.A.step, ↓binInt, ↓binStr, vopsE0, vopsE1, -vops, g1, g2])))
  refine ⟨_, meth_ygood, ?_⟩
  refine CallS.pure (hg) (by first | exact plain_d _ | exact plain_tup2 _ _ | exact plain_tup3 _ _ _) rfl (fun _ => rfl) (Subs.refl _) ?_
  (try simp (implicitDefEqProofs := false) [↓callI, vopsN, vopsG, ↓step_slice, ↓Am.A.step, ↓binInt, ↓binStr, vopsE0, vopsE1, -vops, g1, g2]; try simp (disch := omega) only [w64, wu64])
  repeat (first | refine AW.seq ?_ | refine AW.block ?_ | (refine AW.reg mix ?_; (simp (implicitDefEqProofs := false) [↓callI, vopsN, vopsG, ↓step_slice, ↓Am.A.step, ↓binInt, ↓binStr, vopsE0, vopsE1, -vops, g1, g2]; try simp (disch := omega) only [w64, wu64])) | (refine need.of (by first | omega | kernel_rfl) ?_) | (refine AW.skip ?_; (try simp (implicitDefEqProofs := false) [↓callI, vopsN, vopsG, ↓step_slice, ↓Am.A.step, ↓binInt, ↓binStr, vopsE0, vopsE1, -vops, g1, g2])) | (refine AW.ret ?_; (try simp (implicitDefEqProofs := false) [↓callI, vopsN, vopsG, ↓step_slice, ↓Am.A.step, ↓binInt, ↓binStr, vopsE0, vopsE1, -vops, g1, g2])) | (refine AW.exit ?_; (try simp (implicitDefEqProofs := false) [↓callI, vopsN, vopsG, ↓step_slice, ↓Am.A.step, ↓binInt, ↓binStr, vopsE0, vopsE1, -vops, g1, g2])))
  refine AW.cond rfl (fun h => ?_) (fun h => ?_)
  · simp [g1, g2] at h
  clear h
  repeat (first | refine AW.seq ?_ | refine AW.block ?_ | (refine AW.reg mix ?_; (simp (implicitDefEqProofs := false) [↓callI, vopsN, vopsG, ↓step_slice, ↓Am.A.step, ↓binInt, ↓binStr, vopsE0, vopsE1, -vops]; try simp (disch := omega) only [w64, wu64])) | (refine need.of (by first | omega | kernel_rfl) ?_) | (refine AW.skip ?_; (try simp (implicitDefEqProofs := false) [↓callI, vopsN, vopsG, ↓step_slice, ↓Am.A.step, ↓binInt, ↓binStr, vopsE0, vopsE1, -vops])) | (refine AW.ret ?_; (try simp (implicitDefEqProofs := false) [↓callI, vopsN, vopsG, ↓step_slice, ↓Am.A.step, ↓binInt, ↓binStr, vopsE0, vopsE1, -vops])) | (refine AW.exit ?_; (try simp (implicitDefEqProofs := false) [↓callI, vopsN, vopsG, ↓step_slice, ↓Am.A.step, ↓binInt, ↓binStr, vopsE0, vopsE1, -vops])))
  refine AW.cond rfl (fun h => ?_) (fun h => ?_)
  · simp at h
  repeat (first | refine AW.seq ?_ | refine AW.block ?_ | (refine AW.reg mix ?_; (simp (implicitDefEqProofs := false) [↓callI, vopsN, vopsG, ↓step_slice, ↓Am.A.step, ↓binInt, ↓binStr, vopsE0, vopsE1, -vops]; try simp (disch := omega) only [w64, wu64])) | (refine need.of (by first | omega | kernel_rfl) ?_) | (refine AW.skip ?_; (try simp (implicitDefEqProofs := false) [↓callI, vopsN, vopsG, ↓step_slice, ↓Am.A.step, ↓binInt, ↓binStr, vopsE0, vopsE1, -vops])) | (refine AW.ret ?_; (try simp (implicitDefEqProofs := false) [↓callI, vopsN, vopsG, ↓step_slice, ↓Am.A.step, ↓binInt, ↓binStr, vopsE0, vopsE1, -vops])) | (refine AW.exit ?_; (try simp (implicitDefEqProofs := false) [↓callI, vopsN, vopsG, ↓step_slice, ↓Am.A.step, ↓binInt, ↓binStr, vopsE0, vopsE1, -vops])))
end
end Go.Proofs.YtakjegcjeffmgaaGreat.Am
namespace Go.Proofs.YtakjegcjeffmgaaGreat.Am
section
open Go.RowKit
set_option maxRecDepth 100000
set_option linter.unusedSimpArgs false
set_option linter.unusedVariables false

def parD (k a w : Int) : D := .agg [.int .i64 k, .int .i64 a, .int .i64 w]
theorem top_ok (k a : Int) (w : Nat) (w2 : w ≤ 10) (hc : Eqn Tryz.prog n_chain_Param_Check [.d (parD k a w)] [] (.d (.int .i64 0)) []) : Eqn Tryz.prog n_chain_Param_Top [.d (parD k a w)] [] (.d (.int .i64 (2 ^ w - 1 : Nat))) [] := by
  refine Eqn.pure r_chain_Param_Top (plain_d _) ?_
  simp only [c_chain_Param_Top, parD] at hc ⊢
  have h2' : 0 < 2 ^ w := Nat.two_pow_pos w
  have h2 : 2 ^ w ≤ 1024 := Nat.pow_le_pow_right (n := 2) (by omega) w2
  have e0 : (2 : Int) ^ w = (2 ^ w : Nat) := by rw [Int.natCast_pow]; rfl
  generalize 2 ^ w = S at *
  have e3 : IntKind.i64.wrap (S : Int) = S := w64 (by omega) (by omega)
  have e4 : IntKind.i64.wrap ((S : Int) - 1) = ((S - 1 : Nat) : Int) := by rw [w64 (by omega) (by omega)]; omega
  generalize S - 1 = S1 at *
  repeat (first | refine AW.seq ?_ | refine AW.block ?_ | (refine AW.reg mix ?_; (simp (implicitDefEqProofs := false) [↓callI, vopsN, vopsG, ↓step_slice, ↓Am.A.step, ↓binInt, ↓binStr, vopsE0, vopsE1, -vops]; try simp (disch := omega) only [w64, wu64])) | (refine need.of (by first | omega | kernel_rfl) ?_) | (refine AW.skip ?_; (try simp (implicitDefEqProofs := false) [↓callI, vopsN, vopsG, ↓step_slice, ↓Am.A.step, ↓binInt, ↓binStr, vopsE0, vopsE1, -vops])) | (refine AW.ret ?_; (try simp (implicitDefEqProofs := false) [↓callI, vopsN, vopsG, ↓step_slice, ↓Am.A.step, ↓binInt, ↓binStr, vopsE0, vopsE1, -vops])) | (refine AW.exit ?_; (try simp (implicitDefEqProofs := false) [↓callI, vopsN, vopsG, ↓step_slice, ↓Am.A.step, ↓binInt, ↓binStr, vopsE0, vopsE1, -vops])))
  refine CallS.pure (hc) (by first | exact plain_d _ | exact plain_tup2 _ _ | exact plain_tup3 _ _ _) rfl (fun _ => rfl) (Subs.refl _) ?_
  (try simp (implicitDefEqProofs := false) [↓callI, vopsN, vopsG, ↓step_slice, ↓Am.A.step, ↓binInt, ↓binStr, vopsE0, vopsE1, -vops]; try simp (disch := omega) only [w64, wu64])
  repeat (first | refine AW.seq ?_ | refine AW.block ?_ | (refine AW.reg mix ?_; (simp (implicitDefEqProofs := false) [↓callI, vopsN, vopsG, ↓step_slice, ↓Am.A.step, ↓binInt, ↓binStr, vopsE0, vopsE1, -vops]; try simp (disch := omega) only [w64, wu64])) | (refine need.of (by first | omega | kernel_rfl) ?_) | (refine AW.skip ?_; (try simp (implicitDefEqProofs := false) [↓callI, vopsN, vopsG, ↓step_slice, ↓Am.A.step, ↓binInt, ↓binStr, vopsE0, vopsE1, -vops])) | (refine AW.ret ?_; (try simp (implicitDefEqProofs := false) [↓callI, vopsN, vopsG, ↓step_slice, ↓Am.A.step, ↓binInt, ↓binStr, vopsE0, vopsE1, -vops])) | (refine AW.exit ?_; (try simp (implicitDefEqProofs := false) [↓callI, vopsN, vopsG, ↓step_slice, ↓Am.A.step, ↓binInt, ↓binStr, vopsE0, vopsE1, -vops])))
  refine AW.cond rfl (fun h => ?_) (fun h => ?_)
  · simp at h
  repeat (first | refine AW.seq ?_ | refine AW.block ?_ | (refine AW.reg mix ?_; (simp (implicitDefEqProofs := false) [↓callI, vopsN, vopsG, ↓step_slice, ↓Am.A.step, ↓binInt, ↓binStr, vopsE0, vopsE1, -vops, e0, e3, e4]; try simp (disch := omega) only [w64, wu64])) | (refine need.of (by first | omega | kernel_rfl) ?_) | (refine AW.skip ?_; (try simp (implicitDefEqProofs := false) [↓callI, vopsN, vopsG, ↓step_slice, ↓Am.A.step, ↓binInt, ↓binStr, vopsE0, vopsE1, -vops, e0, e3, e4])) | (refine AW.ret ?_; (try simp (implicitDefEqProofs := false) [↓callI, vopsN, vopsG, ↓step_slice, ↓Am.A.step, ↓binInt, ↓binStr, vopsE0, vopsE1, -vops, e0, e3, e4])) | (refine AW.exit ?_; (try simp (implicitDefEqProofs := false) [↓callI, vopsN, vopsG, ↓step_slice, ↓Am.A.step, ↓binInt, ↓binStr, vopsE0, vopsE1, -vops, e0, e3, e4])))

theorem at_ok1 (k a : Int) (w : Nat) (w2 : w ≤ 10) (x : Int) (h0 : 0 ≤ x) (h1 : x ≤ (2 ^ w - 1 : Nat)) (hc : Eqn Tryz.prog n_chain_Param_Check [.d (parD k a w)] [] (.d (.int .i64 0)) []) : Eqn Tryz.prog n_chain_Param_at [.d (parD k a w), .d (.sl 1 [.int .i64 x])] [] (.d (.int .i64 0)) [] := by
  refine Eqn.pure r_chain_Param_at (plain_d _) ?_
  have ht := top_ok k a w w2 hc
  simp only [c_chain_Param_at, parD] at hc ht ⊢
  generalize 2 ^ w - 1 = S at *
  repeat (first | refine AW.seq ?_ | refine AW.block ?_ | (refine AW.reg mix ?_; (simp (implicitDefEqProofs := false) [↓callI, vopsN, vopsG, ↓step_slice, ↓Am.A.step, ↓binInt, ↓binStr, vopsE0, vopsE1, -vops]; try simp (disch := omega) only [w64, wu64])) | (refine need.of (by first | omega | kernel_rfl) ?_) | (refine AW.skip ?_; (try simp (implicitDefEqProofs := false) [↓callI, vopsN, vopsG, ↓step_slice, ↓Am.A.step, ↓binInt, ↓binStr, vopsE0, vopsE1, -vops])) | (refine AW.ret ?_; (try simp (implicitDefEqProofs := false) [↓callI, vopsN, vopsG, ↓step_slice, ↓Am.A.step, ↓binInt, ↓binStr, vopsE0, vopsE1, -vops])) | (refine AW.exit ?_; (try simp (implicitDefEqProofs := false) [↓callI, vopsN, vopsG, ↓step_slice, ↓Am.A.step, ↓binInt, ↓binStr, vopsE0, vopsE1, -vops])))
  refine CallS.pure (hc) (by first | exact plain_d _ | exact plain_tup2 _ _ | exact plain_tup3 _ _ _) rfl (fun _ => rfl) (Subs.refl _) ?_
  (try simp (implicitDefEqProofs := false) [↓callI, vopsN, vopsG, ↓step_slice, ↓Am.A.step, ↓binInt, ↓binStr, vopsE0, vopsE1, -vops]; try simp (disch := omega) only [w64, wu64])
  repeat (first | refine AW.seq ?_ | refine AW.block ?_ | (refine AW.reg mix ?_; (simp (implicitDefEqProofs := false) [↓callI, vopsN, vopsG, ↓step_slice, ↓Am.A.step, ↓binInt, ↓binStr, vopsE0, vopsE1, -vops]; try simp (disch := omega) only [w64, wu64])) | (refine need.of (by first | omega | kernel_rfl) ?_) | (refine AW.skip ?_; (try simp (implicitDefEqProofs := false) [↓callI, vopsN, vopsG, ↓step_slice, ↓Am.A.step, ↓binInt, ↓binStr, vopsE0, vopsE1, -vops])) | (refine AW.ret ?_; (try simp (implicitDefEqProofs := false) [↓callI, vopsN, vopsG, ↓step_slice, ↓Am.A.step, ↓binInt, ↓binStr, vopsE0, vopsE1, -vops])) | (refine AW.exit ?_; (try simp (implicitDefEqProofs := false) [↓callI, vopsN, vopsG, ↓step_slice, ↓Am.A.step, ↓binInt, ↓binStr, vopsE0, vopsE1, -vops])))
  refine AW.cond rfl (fun h => ?_) (fun h => ?_)
  · simp at h
  repeat (first | refine AW.seq ?_ | refine AW.block ?_ | (refine AW.reg mix ?_; (simp (implicitDefEqProofs := false) [↓callI, vopsN, vopsG, ↓step_slice, ↓Am.A.step, ↓binInt, ↓binStr, vopsE0, vopsE1, -vops]; try simp (disch := omega) only [w64, wu64])) | (refine need.of (by first | omega | kernel_rfl) ?_) | (refine AW.skip ?_; (try simp (implicitDefEqProofs := false) [↓callI, vopsN, vopsG, ↓step_slice, ↓Am.A.step, ↓binInt, ↓binStr, vopsE0, vopsE1, -vops])) | (refine AW.ret ?_; (try simp (implicitDefEqProofs := false) [↓callI, vopsN, vopsG, ↓step_slice, ↓Am.A.step, ↓binInt, ↓binStr, vopsE0, vopsE1, -vops])) | (refine AW.exit ?_; (try simp (implicitDefEqProofs := false) [↓callI, vopsN, vopsG, ↓step_slice, ↓Am.A.step, ↓binInt, ↓binStr, vopsE0, vopsE1, -vops])))
  refine AW.loopT (α := Nat) 1 (fun i => [(15, .d (.int .i64 (i : Int)))]) (fun i => []) (fun i => i ≤ 1) (fun i => 1 - i) 0 ?_ ?_ (Nat.zero_le _) ?_ ?_ ?_
  · simp
  · simp
  · simp
  · simp
  rintro i hi
  simp
  have g1 : ¬ x < 0 := by omega
  have g2 : ¬ (S : Int) < x := by omega
  by_cases h : i = 1
  · subst h
    repeat (first | refine AW.seq ?_ | refine AW.block ?_ | (refine AW.reg mix ?_; (simp (implicitDefEqProofs := false) [↓callI, vopsN, vopsG, ↓step_slice, ↓Am.A.step, ↓binInt, ↓binStr, vopsE0, vopsE1, -vops]; try simp (disch := omega) only [w64, wu64])) | (refine need.of (by first | omega | kernel_rfl) ?_) | (refine AW.skip ?_; (try simp (implicitDefEqProofs := false) [↓callI, vopsN, vopsG, ↓step_slice, ↓Am.A.step, ↓binInt, ↓binStr, vopsE0, vopsE1, -vops])) | (refine AW.ret ?_; (try simp (implicitDefEqProofs := false) [↓callI, vopsN, vopsG, ↓step_slice, ↓Am.A.step, ↓binInt, ↓binStr, vopsE0, vopsE1, -vops])) | (refine AW.exit ?_; (try simp (implicitDefEqProofs := false) [↓callI, vopsN, vopsG, ↓step_slice, ↓Am.A.step, ↓binInt, ↓binStr, vopsE0, vopsE1, -vops])))
    refine AW.cond rfl (fun h => ?_) (fun h => ?_)
    · simp at h
    refine AW.exit ?_
    (try simp (implicitDefEqProofs := false) [↓callI, vopsN, vopsG, ↓step_slice, ↓Am.A.step, ↓binInt, ↓binStr, vopsE0, vopsE1, -vops]; try simp (disch := omega) only [w64, wu64])
    repeat (first | refine AW.seq ?_ | refine AW.block ?_ | (refine AW.reg mix ?_; (simp (implicitDefEqProofs := false) [↓callI, vopsN, vopsG, ↓step_slice, ↓Am.A.step, ↓binInt, ↓binStr, vopsE0, vopsE1, -vops]; try simp (disch := omega) only [w64, wu64])) | (refine need.of (by first | omega | kernel_rfl) ?_) | (refine AW.skip ?_; (try simp (implicitDefEqProofs := false) [↓callI, vopsN, vopsG, ↓step_slice, ↓Am.A.step, ↓binInt, ↓binStr, vopsE0, vopsE1, -vops])) | (refine AW.ret ?_; (try simp (implicitDefEqProofs := false) [↓callI, vopsN, vopsG, ↓step_slice, ↓Am.A.step, ↓binInt, ↓binStr, vopsE0, vopsE1, -vops])) | (refine AW.exit ?_; (try simp (implicitDefEqProofs := false) [↓callI, vopsN, vopsG, ↓step_slice, ↓Am.A.step, ↓binInt, ↓binStr, vopsE0, vopsE1, -vops])))
  · obtain rfl : i = 0 := by omega
    repeat (first | refine AW.seq ?_ | refine AW.block ?_ | (refine AW.reg mix ?_; (simp (implicitDefEqProofs := false) [↓callI, vopsN, vopsG, ↓step_slice, ↓Am.A.step, ↓binInt, ↓binStr, vopsE0, vopsE1, -vops]; try simp (disch := omega) only [w64, wu64])) | (refine need.of (by first | omega | kernel_rfl) ?_) | (refine AW.skip ?_; (try simp (implicitDefEqProofs := false) [↓callI, vopsN, vopsG, ↓step_slice, ↓Am.A.step, ↓binInt, ↓binStr, vopsE0, vopsE1, -vops])) | (refine AW.ret ?_; (try simp (implicitDefEqProofs := false) [↓callI, vopsN, vopsG, ↓step_slice, ↓Am.A.step, ↓binInt, ↓binStr, vopsE0, vopsE1, -vops])) | (refine AW.exit ?_; (try simp (implicitDefEqProofs := false) [↓callI, vopsN, vopsG, ↓step_slice, ↓Am.A.step, ↓binInt, ↓binStr, vopsE0, vopsE1, -vops])))
    refine AW.cond rfl (fun h => ?_) (fun h => ?_)
    · repeat (first | refine AW.seq ?_ | refine AW.block ?_ | (refine AW.reg mix ?_; (simp (implicitDefEqProofs := false) [↓callI, vopsN, vopsG, ↓step_slice, ↓Am.A.step, ↓binInt, ↓binStr, vopsE0, vopsE1, -vops, g1, g2]; try simp (disch := omega) only [w64, wu64])) | (refine need.of (by first | omega | kernel_rfl) ?_) | (refine AW.skip ?_; (try simp (implicitDefEqProofs := false) [↓callI, vopsN, vopsG, ↓step_slice, ↓Am.A.step, ↓binInt, ↓binStr, vopsE0, vopsE1, -vops, g1, g2])) | (refine AW.ret ?_; (try simp (implicitDefEqProofs := false) [↓callI, vopsN, vopsG, ↓step_slice, ↓Am.A.step, ↓binInt, ↓binStr, vopsE0, vopsE1, -vops, g1, g2])) | (refine AW.exit ?_; (try simp (implicitDefEqProofs := false) [↓callI, vopsN, vopsG, ↓step_slice, ↓Am.A.step, ↓binInt, ↓binStr, vopsE0, vopsE1, -vops, g1, g2])))
      refine CallS.pure (ht) (by first | exact plain_d _ | exact plain_tup2 _ _ | exact plain_tup3 _ _ _) rfl (fun _ => rfl) (Subs.refl _) ?_
      (try simp (implicitDefEqProofs := false) [↓callI, vopsN, vopsG, ↓step_slice, ↓Am.A.step, ↓binInt, ↓binStr, vopsE0, vopsE1, -vops, g1, g2]; try simp (disch := omega) only [w64, wu64])
      repeat (first | refine AW.seq ?_ | refine AW.block ?_ | (refine AW.reg mix ?_; (simp (implicitDefEqProofs := false) [↓callI, vopsN, vopsG, ↓step_slice, ↓Am.A.step, ↓binInt, ↓binStr, vopsE0, vopsE1, -vops, g1, g2]; try simp (disch := omega) only [w64, wu64])) | (refine need.of (by first | omega | kernel_rfl) ?_) | (refine AW.skip ?_; (try simp (implicitDefEqProofs := false) [↓callI, vopsN, vopsG, ↓step_slice, ↓Am.A.step, ↓binInt, ↓binStr, vopsE0, vopsE1, -vops, g1, g2])) | (refine AW.ret ?_; (try simp (implicitDefEqProofs := false) [↓callI, vopsN, vopsG, ↓step_slice, ↓Am.A.step, ↓binInt, ↓binStr, vopsE0, vopsE1, -vops, g1, g2])) | (refine AW.exit ?_; (try simp (implicitDefEqProofs := false) [↓callI, vopsN, vopsG, ↓step_slice, ↓Am.A.step, ↓binInt, ↓binStr, vopsE0, vopsE1, -vops, g1, g2])))
      refine AW.cond rfl (fun h => ?_) (fun h => ?_)
      · simp [g1, g2] at h
      have ew : IntKind.i64.wrap 1 = 1 := w64 (by omega) (by omega)
      repeat (first | refine AW.seq ?_ | refine AW.block ?_ | (refine AW.reg mix ?_; (simp (implicitDefEqProofs := false) [↓callI, vopsN, vopsG, ↓step_slice, ↓Am.A.step, ↓binInt, ↓binStr, vopsE0, vopsE1, -vops, ew]; try simp (disch := omega) only [w64, wu64])) | (refine need.of (by first | omega | kernel_rfl) ?_) | (refine AW.skip ?_; (try simp (implicitDefEqProofs := false) [↓callI, vopsN, vopsG, ↓step_slice, ↓Am.A.step, ↓binInt, ↓binStr, vopsE0, vopsE1, -vops, ew])) | (refine AW.ret ?_; (try simp (implicitDefEqProofs := false) [↓callI, vopsN, vopsG, ↓step_slice, ↓Am.A.step, ↓binInt, ↓binStr, vopsE0, vopsE1, -vops, ew])) | (refine AW.exit ?_; (try simp (implicitDefEqProofs := false) [↓callI, vopsN, vopsG, ↓step_slice, ↓Am.A.step, ↓binInt, ↓binStr, vopsE0, vopsE1, -vops, ew])))
      exact ⟨1, by omega, by omega, by simp⟩
    · simp at h
end
end Go.Proofs.YtakjegcjeffmgaaGreat.Am
namespace Go.Proofs.YtakjegcjeffmgaaGreat.Am
section
open Go.RowKit
set_option linter.unusedVariables false
set_option linter.unusedSimpArgs false

def obIs (H : List (Option Ob)) (n : Nat) (ob : Ob) : Prop := ∃ ob1, H.getD n none = some ob1 ∧ ob1.T = ob.T ∧ Subs ob1.c ob.c
def retO3 (rs : List RV) (X : V) (a b c : Ob) : Exit → List V → List (Option Ob) → Prop
  | .normal, T, H | .ret, T, H => (∃ x, outV T H rs = some x ∧ Sub1 x X) ∧ obIs H 0 a ∧ obIs H 1 b ∧ obIs H 2 c
  | _, _, _ => False
attribute [simp] retO3 obIs

/-- three variables: the first is plain and turns, the second is plain, the third names the first -/
theorem Eqn.obj3 {P : Program} {f : FuncId} {c : C} {rs : List RV} {nt : Nat} {args : List V} {X : V} {a a' b : Ob} {t : TypeId} (hf : fnOf P f = some (c, rs, nt, false)) (hX : X.plain) (hO : plainL a'.c) (hb : plainL b.c)
    (h : AW P 3 c (retO3 rs X a' b ⟨t, [.p 0 0]⟩) (args ++ List.replicate (nt - args.length) .junk) [some a, some b, some ⟨t, [.p 0 0]⟩]) : Eqn P f args [a, b, ⟨t, [.p 0 0]⟩] X [a', b, ⟨t, [.p 0 0]⟩] := by
  refine Eqn.of_fn hf (Nat.le_refl _) (by simp) (V.low_mono (by simp) _ hX.1) (fun ob hob => ?_) ?_
  · simp at hob
    rcases hob with rfl | rfl | rfl
    · exact V.lowl_mono (by simp) _ hO.1
    · exact V.lowl_mono (by simp) _ hb.1
    · rfl
  intro code hc m0 m s sat hle htop hL
  refine wp_mono (h code hc m0 m s sat hle htop hL) ?_
  rintro e s' w' ⟨T', H', m', rfl, hq, rest⟩
  refine ⟨T', H', m', rfl, ?_, rest⟩
  cases e <;> first
    | exact hq.elim
    | (obtain ⟨⟨x, h1, h2⟩, ⟨ob0, h3, h4, h5⟩, ⟨ob1, k3, k4, k5⟩, ⟨ob2, l3, l4, l5⟩⟩ := hq
       refine ⟨[0, 1, 2], rfl, fun i hi => ?_, .of (by simp), ⟨x, h1, by rw [hX.2]; exact h2⟩, fun i ob _ hi => ?_⟩
       · simp at hi
         rcases i with _ | _ | _ | i
         · rfl
         · rfl
         · rfl
         · omega
       · rcases i with _ | _ | _ | i
         · simp at hi; subst hi; exact ⟨ob0, h3, h4, by rw [hO.2]; exact h5⟩
         · simp at hi; subst hi; exact ⟨ob1, k3, k4, by rw [hb.2]; exact k5⟩
         · simp at hi; subst hi; exact ⟨ob2, l3, l4, l5⟩
         · simp at hi)

theorem CallS.obj3 {P : Program} {f : FuncId} {args argsC : List V} {H : List (Option Ob)} {K : V → List (Option Ob) → List Nat → List Nat → Prop} {X : V} {a a' b : Ob} {t : TypeId} (n0 n1 n2 : Nat) (E : Eqn P f argsC [a, b, ⟨t, [.p 0 0]⟩] X [a', b, ⟨t, [.p 0 0]⟩]) (hX : X.plain) (hO : plainL a.c) (hO' : plainL a'.c) (hb : plainL b.c)
    (hl : V.lowl 3 argsC = true) (hn0 : H.getD n0 none = some a) (hn1 : H.getD n1 none = some b) (hn2 : H.getD n2 none = some ⟨t, [.p n0 0]⟩) (hd : [n0, n1, n2].Nodup) (hs : Subs args (V.rens (nameOf [n0, n1, n2] H.length) argsC))
    (h : K X (((H.set n0 (some a')).set n1 (some b)).set n2 (some ⟨t, [.p n0 0]⟩)) [] [n0, n1, n2]) : CallS P f args H K := by
  have hlt : ∀ {n : Nat} {o : Ob}, H.getD n none = some o → n < H.length := fun {n o} hn => by
    rcases Nat.lt_or_ge n H.length with h | h
    · exact h
    · rw [List.getD_eq_getElem?_getD, List.getElem?_eq_none h] at hn; cases hn
  refine .inl ⟨[n0, n1, n2], argsC, [a, b, ⟨t, [.p 0 0]⟩], X, [a', b, ⟨t, [.p 0 0]⟩], [], E, rfl, hd, ?_, fun i o hi => ?_, hl, hs, ?_⟩
  · intro n hn
    simp at hn
    rcases hn with rfl | rfl | rfl
    · exact hlt hn0
    · exact hlt hn1
    · exact hlt hn2
  · rcases i with _ | _ | _ | i
    · simp at hi; subst hi; exact ⟨V.lowl_mono (by simp) _ hO.1, by rw [hO.2]; exact hn0⟩
    · simp at hi; subst hi; exact ⟨V.lowl_mono (by simp) _ hb.1, by rw [hb.2]; exact hn1⟩
    · simp at hi; subst hi; exact ⟨rfl, by simpa [V.rens, V.ren, nameOf] using hn2⟩
    · simp at hi
  · simpa [hX.2, hO'.2, hb.2, putAll, killAll, V.rens, V.ren, nameOf] using h
end
end Go.Proofs.YtakjegcjeffmgaaGreat.Am
namespace Go.Proofs.YtakjegcjeffmgaaGreat.Am
section
open Go.RowKit
set_option maxRecDepth 100000
set_option linter.unusedSimpArgs false
set_option linter.unusedVariables false

theorem cmstep_ok (cs : List Bool) (a k : Int) (p : Nat) (dd : Bool) (hp : p ≤ cs.length) (hn : cs.length ≤ 4000000) :
    Eqn Tryz.prog n_chain_aMorris_step [.d (.int .i64 a), .p 0 0, .d (.int .i64 k)] [tapeO cs p dd] (.tup [.d (.bool (stepM cs a k p dd).1), .d (.int .i64 (stepM cs a k p dd).2.1)]) [tapeO cs (stepM cs a k p dd).2.2.1 (stepM cs a k p dd).2.2.2] := by
  refine Eqn.obj1 r_chain_aMorris_step (plain_tup2 _ _) ⟨rfl, fun _ => rfl⟩ ?_
  simp only [c_chain_aMorris_step]
  have hh := mstep_ok cs a k p dd hp hn
  generalize stepM cs a k p dd = R at *
  obtain ⟨R1, R2, R3, R4⟩ := R
  simp only at hh ⊢
  repeat (first | refine AW.seq ?_ | refine AW.block ?_ | (refine AW.reg mix ?_; (simp (implicitDefEqProofs := false) [↓callI, vopsN, vopsG, ↓step_slice, ↓Am.A.step, ↓binInt, ↓binStr, vopsE0, vopsE1, -vops, -Bool.exists_bool]; try simp (disch := omega) only [w64, wu64])) | (refine need.of (by first | omega | kernel_rfl) ?_) | (refine AW.skip ?_; (try simp (implicitDefEqProofs := false) [↓callI, vopsN, vopsG, ↓step_slice, ↓Am.A.step, ↓binInt, ↓binStr, vopsE0, vopsE1, -vops, -Bool.exists_bool])) | (refine AW.ret ?_; (try simp (implicitDefEqProofs := false) [↓callI, vopsN, vopsG, ↓step_slice, ↓Am.A.step, ↓binInt, ↓binStr, vopsE0, vopsE1, -vops, -Bool.exists_bool])) | (refine AW.exit ?_; (try simp (implicitDefEqProofs := false) [↓callI, vopsN, vopsG, ↓step_slice, ↓Am.A.step, ↓binInt, ↓binStr, vopsE0, vopsE1, -vops, -Bool.exists_bool])))
  refine CallS.obj1 0 (hh) (by first | exact plain_d _ | exact plain_tup2 _ _ | exact plain_tup3 _ _ _) ⟨rfl, fun _ => rfl⟩ ⟨rfl, fun _ => rfl⟩ rfl (by rfl) (Subs.of (by simp)) ?_
  (try simp (implicitDefEqProofs := false) [↓callI, vopsN, vopsG, ↓step_slice, ↓Am.A.step, ↓binInt, ↓binStr, vopsE0, vopsE1, -vops, -Bool.exists_bool]; try simp (disch := omega) only [w64, wu64])
  repeat (first | refine AW.seq ?_ | refine AW.block ?_ | (refine AW.reg mix ?_; (simp (implicitDefEqProofs := false) [↓callI, vopsN, vopsG, ↓step_slice, ↓Am.A.step, ↓binInt, ↓binStr, vopsE0, vopsE1, -vops, -Bool.exists_bool]; try simp (disch := omega) only [w64, wu64])) | (refine need.of (by first | omega | kernel_rfl) ?_) | (refine AW.skip ?_; (try simp (implicitDefEqProofs := false) [↓callI, vopsN, vopsG, ↓step_slice, ↓Am.A.step, ↓binInt, ↓binStr, vopsE0, vopsE1, -vops, -Bool.exists_bool])) | (refine AW.ret ?_; (try simp (implicitDefEqProofs := false) [↓callI, vopsN, vopsG, ↓step_slice, ↓Am.A.step, ↓binInt, ↓binStr, vopsE0, vopsE1, -vops, -Bool.exists_bool])) | (refine AW.exit ?_; (try simp (implicitDefEqProofs := false) [↓callI, vopsN, vopsG, ↓step_slice, ↓Am.A.step, ↓binInt, ↓binStr, vopsE0, vopsE1, -vops, -Bool.exists_bool])))

/-- the closure that asks for a step -/
theorem ask_ok {T1 t2 ti : TypeId} {d : D} {g : FuncId} {cs : List Bool} {k : Int} {p : Nat} {dd r1 : Bool} {r2 : Int} {r3 : Nat} {r4 : Bool} (hm : MethOK Tryz.prog ti "tallymark/chain.step" g)
    (E : Eqn Tryz.prog g [.d d, .p 0 0, .d (.int .i64 k)] [tapeO cs p dd] (.tup [.d (.bool r1), .d (.int .i64 r2)]) [tapeO cs r3 r4]) :
    Eqn Tryz.prog n_chain_Param_Add_1 [.d (.int .i64 k), .p 1 0, .p 2 0] [tapeO cs p dd, ⟨T1, [.d (.ifc ti d)]⟩, ⟨t2, [.p 0 0]⟩] (.tup [.d (.bool r1), .d (.int .i64 r2)]) [tapeO cs r3 r4, ⟨T1, [.d (.ifc ti d)]⟩, ⟨t2, [.p 0 0]⟩] := by
  refine Eqn.obj3 r_chain_Param_Add_1 (plain_tup2 _ _) ⟨rfl, fun _ => rfl⟩ ⟨rfl, fun _ => rfl⟩ ?_
  simp only [c_chain_Param_Add_1]
  repeat (first | refine AW.seq ?_ | refine AW.block ?_ | (refine AW.reg mix ?_; (simp (implicitDefEqProofs := false) [↓callI, vopsN, vopsG, ↓step_slice, ↓Am.A.step, ↓binInt, ↓binStr, vopsE0, vopsE1, -vops, -Bool.exists_bool]; try simp (disch := omega) only [w64, wu64])) | (refine need.of (by first | omega | kernel_rfl) ?_) | (refine AW.skip ?_; (try simp (implicitDefEqProofs := false) [↓callI, vopsN, vopsG, ↓step_slice, ↓Am.A.step, ↓binInt, ↓binStr, vopsE0, vopsE1, -vops, -Bool.exists_bool])) | (refine AW.ret ?_; (try simp (implicitDefEqProofs := false) [↓callI, vopsN, vopsG, ↓step_slice, ↓Am.A.step, ↓binInt, ↓binStr, vopsE0, vopsE1, -vops, -Bool.exists_bool])) | (refine AW.exit ?_; (try simp (implicitDefEqProofs := false) [↓callI, vopsN, vopsG, ↓step_slice, ↓Am.A.step, ↓binInt, ↓binStr, vopsE0, vopsE1, -vops, -Bool.exists_bool])))
  refine ⟨_, hm, ?_⟩
  refine CallS.obj1 0 (E) (by first | exact plain_d _ | exact plain_tup2 _ _ | exact plain_tup3 _ _ _) ⟨rfl, fun _ => rfl⟩ ⟨rfl, fun _ => rfl⟩ rfl (by rfl) (Subs.of (by simp)) ?_
  (try simp (implicitDefEqProofs := false) [↓callI, vopsN, vopsG, ↓step_slice, ↓Am.A.step, ↓binInt, ↓binStr, vopsE0, vopsE1, -vops, -Bool.exists_bool]; try simp (disch := omega) only [w64, wu64])
  repeat (first | refine AW.seq ?_ | refine AW.block ?_ | (refine AW.reg mix ?_; (simp (implicitDefEqProofs := false) [↓callI, vopsN, vopsG, ↓step_slice, ↓Am.A.step, ↓binInt, ↓binStr, vopsE0, vopsE1, -vops, -Bool.exists_bool]; try simp (disch := omega) only [w64, wu64])) | (refine need.of (by first | omega | kernel_rfl) ?_) | (refine AW.skip ?_; (try simp (implicitDefEqProofs := false) [↓callI, vopsN, vopsG, ↓step_slice, ↓Am.A.step, ↓binInt, ↓binStr, vopsE0, vopsE1, -vops, -Bool.exists_bool])) | (refine AW.ret ?_; (try simp (implicitDefEqProofs := false) [↓callI, vopsN, vopsG, ↓step_slice, ↓Am.A.step, ↓binInt, ↓binStr, vopsE0, vopsE1, -vops, -Bool.exists_bool])) | (refine AW.exit ?_; (try simp (implicitDefEqProofs := false) [↓callI, vopsN, vopsG, ↓step_slice, ↓Am.A.step, ↓binInt, ↓binStr, vopsE0, vopsE1, -vops, -Bool.exists_bool])))
end
end Go.Proofs.YtakjegcjeffmgaaGreat.Am
namespace Go.Proofs.YtakjegcjeffmgaaGreat.Am
section
open Go.RowKit
set_option maxRecDepth 100000
set_option linter.unusedSimpArgs false
set_option linter.unusedVariables false

/-- one place on: at the top it is full -/
theorem on_top {T1 t2 ti : TypeId} {d : D} {cs : List Bool} {p : Nat} {dd : Bool} (k a : Int) (w : Nat) (w2 : w ≤ 10) (full : Bool) (hc : Eqn Tryz.prog n_chain_Param_Check [.d (parD k a w)] [] (.d (.int .i64 0)) []) :
    Eqn Tryz.prog n_chain_Param_on [.d (parD k a w), .d (.agg [.int .i64 (2 ^ w - 1 : Nat), .bool full]), .fn (.func n_chain_Param_Add_1) [.p 1 0, .p 2 0]] [tapeO cs p dd, ⟨T1, [.d (.ifc ti d)]⟩, ⟨t2, [.p 0 0]⟩] (.tup [.d (.agg [.int .i64 (2 ^ w - 1 : Nat), .bool true]), .d (.int .i64 0)]) [tapeO cs p dd, ⟨T1, [.d (.ifc ti d)]⟩, ⟨t2, [.p 0 0]⟩] := by
  refine Eqn.obj3 r_chain_Param_on (plain_tup2 _ _) ⟨rfl, fun _ => rfl⟩ ⟨rfl, fun _ => rfl⟩ ?_
  have ht := top_ok k a w w2 hc
  simp only [c_chain_Param_on, parD] at ht ⊢
  generalize 2 ^ w - 1 = S at *
  repeat (first | refine AW.seq ?_ | refine AW.block ?_ | (refine AW.reg mix ?_; (simp (implicitDefEqProofs := false) [↓callI, vopsN, vopsG, ↓step_slice, ↓Am.A.step, ↓binInt, ↓binStr, vopsE0, vopsE1, -vops, -Bool.exists_bool]; try simp (disch := omega) only [w64, wu64])) | (refine need.of (by first | omega | kernel_rfl) ?_) | (refine AW.skip ?_; (try simp (implicitDefEqProofs := false) [↓callI, vopsN, vopsG, ↓step_slice, ↓Am.A.step, ↓binInt, ↓binStr, vopsE0, vopsE1, -vops, -Bool.exists_bool])) | (refine AW.ret ?_; (try simp (implicitDefEqProofs := false) [↓callI, vopsN, vopsG, ↓step_slice, ↓Am.A.step, ↓binInt, ↓binStr, vopsE0, vopsE1, -vops, -Bool.exists_bool])) | (refine AW.exit ?_; (try simp (implicitDefEqProofs := false) [↓callI, vopsN, vopsG, ↓step_slice, ↓Am.A.step, ↓binInt, ↓binStr, vopsE0, vopsE1, -vops, -Bool.exists_bool])))
  refine CallS.pure (ht) (by first | exact plain_d _ | exact plain_tup2 _ _ | exact plain_tup3 _ _ _) rfl (fun _ => rfl) (Subs.refl _) ?_
  (try simp (implicitDefEqProofs := false) [↓callI, vopsN, vopsG, ↓step_slice, ↓Am.A.step, ↓binInt, ↓binStr, vopsE0, vopsE1, -vops, -Bool.exists_bool]; try simp (disch := omega) only [w64, wu64])
  repeat (first | refine AW.seq ?_ | refine AW.block ?_ | (refine AW.reg mix ?_; (simp (implicitDefEqProofs := false) [↓callI, vopsN, vopsG, ↓step_slice, ↓Am.A.step, ↓binInt, ↓binStr, vopsE0, vopsE1, -vops, -Bool.exists_bool]; try simp (disch := omega) only [w64, wu64])) | (refine need.of (by first | omega | kernel_rfl) ?_) | (refine AW.skip ?_; (try simp (implicitDefEqProofs := false) [↓callI, vopsN, vopsG, ↓step_slice, ↓Am.A.step, ↓binInt, ↓binStr, vopsE0, vopsE1, -vops, -Bool.exists_bool])) | (refine AW.ret ?_; (try simp (implicitDefEqProofs := false) [↓callI, vopsN, vopsG, ↓step_slice, ↓Am.A.step, ↓binInt, ↓binStr, vopsE0, vopsE1, -vops, -Bool.exists_bool])) | (refine AW.exit ?_; (try simp (implicitDefEqProofs := false) [↓callI, vopsN, vopsG, ↓step_slice, ↓Am.A.step, ↓binInt, ↓binStr, vopsE0, vopsE1, -vops, -Bool.exists_bool])))
  refine AW.cond rfl (fun h => ?_) (fun h => ?_)
  · clear h
    repeat (first | refine AW.seq ?_ | refine AW.block ?_ | (refine AW.reg mix ?_; (simp (implicitDefEqProofs := false) [↓callI, vopsN, vopsG, ↓step_slice, ↓Am.A.step, ↓binInt, ↓binStr, vopsE0, vopsE1, -vops, -Bool.exists_bool]; try simp (disch := omega) only [w64, wu64])) | (refine need.of (by first | omega | kernel_rfl) ?_) | (refine AW.skip ?_; (try simp (implicitDefEqProofs := false) [↓callI, vopsN, vopsG, ↓step_slice, ↓Am.A.step, ↓binInt, ↓binStr, vopsE0, vopsE1, -vops, -Bool.exists_bool])) | (refine AW.ret ?_; (try simp (implicitDefEqProofs := false) [↓callI, vopsN, vopsG, ↓step_slice, ↓Am.A.step, ↓binInt, ↓binStr, vopsE0, vopsE1, -vops, -Bool.exists_bool])) | (refine AW.exit ?_; (try simp (implicitDefEqProofs := false) [↓callI, vopsN, vopsG, ↓step_slice, ↓Am.A.step, ↓binInt, ↓binStr, vopsE0, vopsE1, -vops, -Bool.exists_bool])))
  · simp at h

theorem on_step {T1 t2 ti : TypeId} {d : D} {g : FuncId} {cs : List Bool} {x p : Nat} {dd r1 : Bool} {r2 : Int} {r3 : Nat} {r4 : Bool} (k a : Int) (w : Nat) (w2 : w ≤ 10) (full : Bool) (hx : x < 2 ^ w - 1) (hc : Eqn Tryz.prog n_chain_Param_Check [.d (parD k a w)] [] (.d (.int .i64 0)) [])
    (hm : MethOK Tryz.prog ti "tallymark/chain.step" g) (E : Eqn Tryz.prog g [.d d, .p 0 0, .d (.int .i64 x)] [tapeO cs p dd] (.tup [.d (.bool r1), .d (.int .i64 r2)]) [tapeO cs r3 r4]) :
    Eqn Tryz.prog n_chain_Param_on [.d (parD k a w), .d (.agg [.int .i64 x, .bool full]), .fn (.func n_chain_Param_Add_1) [.p 1 0, .p 2 0]] [tapeO cs p dd, ⟨T1, [.d (.ifc ti d)]⟩, ⟨t2, [.p 0 0]⟩] (.tup [.d (.agg [.int .i64 (if r1 then x + 1 else x : Nat), .bool full]), .d (.int .i64 r2)]) [tapeO cs r3 r4, ⟨T1, [.d (.ifc ti d)]⟩, ⟨t2, [.p 0 0]⟩] := by
  refine Eqn.obj3 r_chain_Param_on (plain_tup2 _ _) ⟨rfl, fun _ => rfl⟩ ⟨rfl, fun _ => rfl⟩ ?_
  have ht := top_ok k a w w2 hc
  have h2 : 2 ^ w - 1 ≤ 1023 := by have := Nat.pow_le_pow_right (n := 2) (by omega) w2; omega
  simp only [c_chain_Param_on, parD] at ht ⊢
  generalize 2 ^ w - 1 = S at *
  have g1 : ¬ x = S := by omega
  have g2 : ¬ (x : Int) = S := by omega
  have ew : IntKind.i64.wrap ((x : Int) + 1) = (x : Int) + 1 := w64 (by omega) (by omega)
  have ha := ask_ok (T1 := T1) (t2 := t2) hm E
  repeat (first | refine AW.seq ?_ | refine AW.block ?_ | (refine AW.reg mix ?_; (simp (implicitDefEqProofs := false) [↓callI, vopsN, vopsG, ↓step_slice, ↓Am.A.step, ↓binInt, ↓binStr, vopsE0, vopsE1, -vops, -Bool.exists_bool]; try simp (disch := omega) only [w64, wu64])) | (refine need.of (by first | omega | kernel_rfl) ?_) | (refine AW.skip ?_; (try simp (implicitDefEqProofs := false) [↓callI, vopsN, vopsG, ↓step_slice, ↓Am.A.step, ↓binInt, ↓binStr, vopsE0, vopsE1, -vops, -Bool.exists_bool])) | (refine AW.ret ?_; (try simp (implicitDefEqProofs := false) [↓callI, vopsN, vopsG, ↓step_slice, ↓Am.A.step, ↓binInt, ↓binStr, vopsE0, vopsE1, -vops, -Bool.exists_bool])) | (refine AW.exit ?_; (try simp (implicitDefEqProofs := false) [↓callI, vopsN, vopsG, ↓step_slice, ↓Am.A.step, ↓binInt, ↓binStr, vopsE0, vopsE1, -vops, -Bool.exists_bool])))
  refine CallS.pure (ht) (by first | exact plain_d _ | exact plain_tup2 _ _ | exact plain_tup3 _ _ _) rfl (fun _ => rfl) (Subs.refl _) ?_
  (try simp (implicitDefEqProofs := false) [↓callI, vopsN, vopsG, ↓step_slice, ↓Am.A.step, ↓binInt, ↓binStr, vopsE0, vopsE1, -vops, -Bool.exists_bool]; try simp (disch := omega) only [w64, wu64])
  repeat (first | refine AW.seq ?_ | refine AW.block ?_ | (refine AW.reg mix ?_; (simp (implicitDefEqProofs := false) [↓callI, vopsN, vopsG, ↓step_slice, ↓Am.A.step, ↓binInt, ↓binStr, vopsE0, vopsE1, -vops, -Bool.exists_bool]; try simp (disch := omega) only [w64, wu64])) | (refine need.of (by first | omega | kernel_rfl) ?_) | (refine AW.skip ?_; (try simp (implicitDefEqProofs := false) [↓callI, vopsN, vopsG, ↓step_slice, ↓Am.A.step, ↓binInt, ↓binStr, vopsE0, vopsE1, -vops, -Bool.exists_bool])) | (refine AW.ret ?_; (try simp (implicitDefEqProofs := false) [↓callI, vopsN, vopsG, ↓step_slice, ↓Am.A.step, ↓binInt, ↓binStr, vopsE0, vopsE1, -vops, -Bool.exists_bool])) | (refine AW.exit ?_; (try simp (implicitDefEqProofs := false) [↓callI, vopsN, vopsG, ↓step_slice, ↓Am.A.step, ↓binInt, ↓binStr, vopsE0, vopsE1, -vops, -Bool.exists_bool])))
  refine AW.cond rfl (fun h => ?_) (fun h => ?_)
  · simp [g1, g2] at h
  clear h
  repeat (first | refine AW.seq ?_ | refine AW.block ?_ | (refine AW.reg mix ?_; (simp (implicitDefEqProofs := false) [↓callI, vopsN, vopsG, ↓step_slice, ↓Am.A.step, ↓binInt, ↓binStr, vopsE0, vopsE1, -vops, -Bool.exists_bool]; try simp (disch := omega) only [w64, wu64])) | (refine need.of (by first | omega | kernel_rfl) ?_) | (refine AW.skip ?_; (try simp (implicitDefEqProofs := false) [↓callI, vopsN, vopsG, ↓step_slice, ↓Am.A.step, ↓binInt, ↓binStr, vopsE0, vopsE1, -vops, -Bool.exists_bool])) | (refine AW.ret ?_; (try simp (implicitDefEqProofs := false) [↓callI, vopsN, vopsG, ↓step_slice, ↓Am.A.step, ↓binInt, ↓binStr, vopsE0, vopsE1, -vops, -Bool.exists_bool])) | (refine AW.exit ?_; (try simp (implicitDefEqProofs := false) [↓callI, vopsN, vopsG, ↓step_slice, ↓Am.A.step, ↓binInt, ↓binStr, vopsE0, vopsE1, -vops, -Bool.exists_bool])))
  refine CallS.obj3 0 1 2 (ha) (by first | exact plain_d _ | exact plain_tup2 _ _ | exact plain_tup3 _ _ _) ⟨rfl, fun _ => rfl⟩ ⟨rfl, fun _ => rfl⟩ ⟨rfl, fun _ => rfl⟩ rfl (by rfl) (by rfl) (by rfl) (by decide) (Subs.of (by simp)) ?_
  (try simp (implicitDefEqProofs := false) [↓callI, vopsN, vopsG, ↓step_slice, ↓Am.A.step, ↓binInt, ↓binStr, vopsE0, vopsE1, -vops, -Bool.exists_bool]; try simp (disch := omega) only [w64, wu64])
  repeat (first | refine AW.seq ?_ | refine AW.block ?_ | (refine AW.reg mix ?_; (simp (implicitDefEqProofs := false) [↓callI, vopsN, vopsG, ↓step_slice, ↓Am.A.step, ↓binInt, ↓binStr, vopsE0, vopsE1, -vops, -Bool.exists_bool]; try simp (disch := omega) only [w64, wu64])) | (refine need.of (by first | omega | kernel_rfl) ?_) | (refine AW.skip ?_; (try simp (implicitDefEqProofs := false) [↓callI, vopsN, vopsG, ↓step_slice, ↓Am.A.step, ↓binInt, ↓binStr, vopsE0, vopsE1, -vops, -Bool.exists_bool])) | (refine AW.ret ?_; (try simp (implicitDefEqProofs := false) [↓callI, vopsN, vopsG, ↓step_slice, ↓Am.A.step, ↓binInt, ↓binStr, vopsE0, vopsE1, -vops, -Bool.exists_bool])) | (refine AW.exit ?_; (try simp (implicitDefEqProofs := false) [↓callI, vopsN, vopsG, ↓step_slice, ↓Am.A.step, ↓binInt, ↓binStr, vopsE0, vopsE1, -vops, -Bool.exists_bool])))
  cases r1 with
  | true =>
    refine AW.cond rfl (fun h => ?_) (fun h => ?_)
    · repeat (first | refine AW.seq ?_ | refine AW.block ?_ | (refine AW.reg mix ?_; (simp (implicitDefEqProofs := false) [↓callI, vopsN, vopsG, ↓step_slice, ↓Am.A.step, ↓binInt, ↓binStr, vopsE0, vopsE1, -vops, ew, -Bool.exists_bool]; try simp (disch := omega) only [w64, wu64])) | (refine need.of (by first | omega | kernel_rfl) ?_) | (refine AW.skip ?_; (try simp (implicitDefEqProofs := false) [↓callI, vopsN, vopsG, ↓step_slice, ↓Am.A.step, ↓binInt, ↓binStr, vopsE0, vopsE1, -vops, ew, -Bool.exists_bool])) | (refine AW.ret ?_; (try simp (implicitDefEqProofs := false) [↓callI, vopsN, vopsG, ↓step_slice, ↓Am.A.step, ↓binInt, ↓binStr, vopsE0, vopsE1, -vops, ew, -Bool.exists_bool])) | (refine AW.exit ?_; (try simp (implicitDefEqProofs := false) [↓callI, vopsN, vopsG, ↓step_slice, ↓Am.A.step, ↓binInt, ↓binStr, vopsE0, vopsE1, -vops, ew, -Bool.exists_bool])))
    · simp at h
  | false =>
    refine AW.cond rfl (fun h => ?_) (fun h => ?_)
    · simp at h
    · repeat (first | refine AW.seq ?_ | refine AW.block ?_ | (refine AW.reg mix ?_; (simp (implicitDefEqProofs := false) [↓callI, vopsN, vopsG, ↓step_slice, ↓Am.A.step, ↓binInt, ↓binStr, vopsE0, vopsE1, -vops, ew, -Bool.exists_bool]; try simp (disch := omega) only [w64, wu64])) | (refine need.of (by first | omega | kernel_rfl) ?_) | (refine AW.skip ?_; (try simp (implicitDefEqProofs := false) [↓callI, vopsN, vopsG, ↓step_slice, ↓Am.A.step, ↓binInt, ↓binStr, vopsE0, vopsE1, -vops, ew, -Bool.exists_bool])) | (refine AW.ret ?_; (try simp (implicitDefEqProofs := false) [↓callI, vopsN, vopsG, ↓step_slice, ↓Am.A.step, ↓binInt, ↓binStr, vopsE0, vopsE1, -vops, ew, -Bool.exists_bool])) | (refine AW.exit ?_; (try simp (implicitDefEqProofs := false) [↓callI, vopsN, vopsG, ↓step_slice, ↓Am.A.step, ↓binInt, ↓binStr, vopsE0, vopsE1, -vops, ew, -Bool.exists_bool])))
end
end Go.Proofs.YtakjegcjeffmgaaGreat.Am
namespace Go.Proofs.YtakjegcjeffmgaaGreat.Am
section
open Go.RowKit
set_option maxRecDepth 100000
set_option linter.unusedSimpArgs false
set_option linter.unusedVariables false

/-- a step at a place -/
def stepG (cs : List Bool) (d k : Int) (p : Nat) (dd : Bool) : Bool × Int × Nat × Bool := if wrongZ d [k] = 0 then halfR cs (k.toNat / 2 ^ d.toNat) p dd else (false, wrongZ d [k], p, dd)

theorem fstepG_ok (cs : List Bool) (d k : Int) (p : Nat) (dd : Bool) (hp0 : p ≤ cs.length) (hn : cs.length ≤ 4000000) :
    Eqn Tryz.prog n_float_Step [.p 0 0, .d (.int .i64 d), .d (.int .i64 k)] [tapeO cs p dd] (.tup [.d (.bool (stepG cs d k p dd).1), .d (.int .i64 (stepG cs d k p dd).2.1)]) [tapeO cs (stepG cs d k p dd).2.2.1 (stepG cs d k p dd).2.2.2] := by
  refine Eqn.obj1 r_float_Step (plain_tup2 _ _) ⟨rfl, fun _ => rfl⟩ ?_
  simp only [c_float_Step]
  repeat (first | refine AW.seq ?_ | refine AW.block ?_ | (refine AW.reg mix ?_; (simp [-Bool.exists_bool]; try simp (disch := omega) only [w64, wu64])) | (refine need.of (by first | omega | kernel_rfl) ?_) | (refine AW.skip ?_; (try simp [-Bool.exists_bool])) | (refine AW.ret ?_; (try simp [-Bool.exists_bool])) | (refine AW.exit ?_; (try simp [-Bool.exists_bool])))
  refine CallS.pureF 1 1 ⟨3, _⟩ [.int .i64 k] (wrong1_ok d k) (by first | exact plain_d _ | exact plain_tup2 _ _ | exact plain_tup3 _ _ _) rfl (fun _ => rfl) (by rfl) (by simp) (Subs.of ?_) ?_
  focus first | rfl | (simp; done) | skip
  rotate_left
  (try simp; try simp (disch := omega) only [w64, wu64])
  repeat (first | refine AW.seq ?_ | refine AW.block ?_ | (refine AW.reg mix ?_; (simp; try simp (disch := omega) only [w64, wu64])) | (refine need.of (by first | omega | kernel_rfl) ?_) | (refine AW.skip ?_; (try simp)) | (refine AW.ret ?_; (try simp)) | (refine AW.exit ?_; (try simp)))
  by_cases h : wrongZ d [k] = 0
  · obtain ⟨h1, h2, h3, h4⟩ := wrong_zero h
    obtain ⟨d, rfl⟩ : ∃ n : Nat, d = n := ⟨d.toNat, by omega⟩
    obtain ⟨k, rfl⟩ : ∃ n : Nat, k = n := ⟨k.toNat, by omega⟩
    simp only [stepG, h, if_true]
    have hpt := parts_ok d k (by omega) (by omega)
    have hu : k / 2 ^ d ≤ k := Nat.div_le_self _ _
    simp only [Int.toNat_natCast]
    generalize k / 2 ^ d = u at hpt hu ⊢
    generalize partV d k = v at hpt
    refine AW.cond rfl (fun h => ?_) (fun h => ?_)
    · simp [*] at h
    repeat (first | refine AW.seq ?_ | refine AW.block ?_ | (refine AW.reg mix ?_; (simp; try simp (disch := omega) only [w64, wu64])) | (refine need.of (by first | omega | kernel_rfl) ?_) | (refine AW.skip ?_; (try simp)) | (refine AW.ret ?_; (try simp)) | (refine AW.exit ?_; (try simp)))
    refine CallS.pure (hpt) (by first | exact plain_d _ | exact plain_tup2 _ _ | exact plain_tup3 _ _ _) rfl (fun _ => rfl) (Subs.refl _) ?_
    (try simp; try simp (disch := omega) only [w64, wu64])
    repeat (first | refine AW.seq ?_ | refine AW.block ?_ | (refine AW.reg mix ?_; (simp; try simp (disch := omega) only [w64, wu64])) | (refine need.of (by first | omega | kernel_rfl) ?_) | (refine AW.skip ?_; (try simp)) | (refine AW.ret ?_; (try simp)) | (refine AW.exit ?_; (try simp)))
    have hh := half_ok cs p dd u (by omega) hp0 hn
    rw [Int.toNat_natCast] at hh
    generalize halfR cs u p dd = r at hh ⊢
    obtain ⟨r1, r2, r3, r4⟩ := r
    simp only at hh ⊢
    refine CallS.obj1 0 (hh) (by first | exact plain_d _ | exact plain_tup2 _ _ | exact plain_tup3 _ _ _) ⟨rfl, fun _ => rfl⟩ ⟨rfl, fun _ => rfl⟩ rfl (by rfl) (Subs.of (by simp)) ?_
    (try simp; try simp (disch := omega) only [w64, wu64])
    repeat (first | refine AW.seq ?_ | refine AW.block ?_ | (refine AW.reg mix ?_; (simp; try simp (disch := omega) only [w64, wu64])) | (refine need.of (by first | omega | kernel_rfl) ?_) | (refine AW.skip ?_; (try simp)) | (refine AW.ret ?_; (try simp)) | (refine AW.exit ?_; (try simp)))
  · simp only [stepG, h, if_false]
    refine AW.cond rfl (fun h => ?_) (fun h => ?_)
    · repeat (first | refine AW.seq ?_ | refine AW.block ?_ | (refine AW.reg mix ?_; (simp; try simp (disch := omega) only [w64, wu64])) | (refine need.of (by first | omega | kernel_rfl) ?_) | (refine AW.skip ?_; (try simp)) | (refine AW.ret ?_; (try simp)) | (refine AW.exit ?_; (try simp)))
    · simp [*] at h


theorem cfstep_ok (cs : List Bool) (a k : Int) (p : Nat) (dd : Bool) (hp : p ≤ cs.length) (hn : cs.length ≤ 4000000) :
    Eqn Tryz.prog n_chain_aFloat_step [.d (.int .i64 a), .p 0 0, .d (.int .i64 k)] [tapeO cs p dd] (.tup [.d (.bool (stepG cs a k p dd).1), .d (.int .i64 (stepG cs a k p dd).2.1)]) [tapeO cs (stepG cs a k p dd).2.2.1 (stepG cs a k p dd).2.2.2] := by
  refine Eqn.obj1 r_chain_aFloat_step (plain_tup2 _ _) ⟨rfl, fun _ => rfl⟩ ?_
  simp only [c_chain_aFloat_step]
  have hh := fstepG_ok cs a k p dd hp hn
  generalize stepG cs a k p dd = R at *
  obtain ⟨R1, R2, R3, R4⟩ := R
  simp only at hh ⊢
  repeat (first | refine AW.seq ?_ | refine AW.block ?_ | (refine AW.reg mix ?_; (simp (implicitDefEqProofs := false) [↓callI, vopsN, vopsG, ↓step_slice, ↓Am.A.step, ↓binInt, ↓binStr, vopsE0, vopsE1, -vops, -Bool.exists_bool]; try simp (disch := omega) only [w64, wu64])) | (refine need.of (by first | omega | kernel_rfl) ?_) | (refine AW.skip ?_; (try simp (implicitDefEqProofs := false) [↓callI, vopsN, vopsG, ↓step_slice, ↓Am.A.step, ↓binInt, ↓binStr, vopsE0, vopsE1, -vops, -Bool.exists_bool])) | (refine AW.ret ?_; (try simp (implicitDefEqProofs := false) [↓callI, vopsN, vopsG, ↓step_slice, ↓Am.A.step, ↓binInt, ↓binStr, vopsE0, vopsE1, -vops, -Bool.exists_bool])) | (refine AW.exit ?_; (try simp (implicitDefEqProofs := false) [↓callI, vopsN, vopsG, ↓step_slice, ↓Am.A.step, ↓binInt, ↓binStr, vopsE0, vopsE1, -vops, -Bool.exists_bool])))
  refine CallS.obj1 0 (hh) (by first | exact plain_d _ | exact plain_tup2 _ _ | exact plain_tup3 _ _ _) ⟨rfl, fun _ => rfl⟩ ⟨rfl, fun _ => rfl⟩ rfl (by rfl) (Subs.of (by simp)) ?_
  (try simp (implicitDefEqProofs := false) [↓callI, vopsN, vopsG, ↓step_slice, ↓Am.A.step, ↓binInt, ↓binStr, vopsE0, vopsE1, -vops, -Bool.exists_bool]; try simp (disch := omega) only [w64, wu64])
  repeat (first | refine AW.seq ?_ | refine AW.block ?_ | (refine AW.reg mix ?_; (simp (implicitDefEqProofs := false) [↓callI, vopsN, vopsG, ↓step_slice, ↓Am.A.step, ↓binInt, ↓binStr, vopsE0, vopsE1, -vops, -Bool.exists_bool]; try simp (disch := omega) only [w64, wu64])) | (refine need.of (by first | omega | kernel_rfl) ?_) | (refine AW.skip ?_; (try simp (implicitDefEqProofs := false) [↓callI, vopsN, vopsG, ↓step_slice, ↓Am.A.step, ↓binInt, ↓binStr, vopsE0, vopsE1, -vops, -Bool.exists_bool])) | (refine AW.ret ?_; (try simp (implicitDefEqProofs := false) [↓callI, vopsN, vopsG, ↓step_slice, ↓Am.A.step, ↓binInt, ↓binStr, vopsE0, vopsE1, -vops, -Bool.exists_bool])) | (refine AW.exit ?_; (try simp (implicitDefEqProofs := false) [↓callI, vopsN, vopsG, ↓step_slice, ↓Am.A.step, ↓binInt, ↓binStr, vopsE0, vopsE1, -vops, -Bool.exists_bool])))
/-- a step at a place -/
def stepYG (cs : List Bool) (s k : Int) (q : Nat) (dd : Bool) : Bool × Int × Nat × Bool := if atE s k = 0 then halfR cs (atP s k).shift q dd else (false, atE s k, q, dd)
theorem ystepG_ok (cs : List Bool) (s k : Int) (q : Nat) (dd : Bool) (hp0 : q ≤ cs.length) (hn : cs.length ≤ 4000000) :
    Eqn Tryz.prog n_yu_Step [.p 0 0, .d (.int .i64 s), .d (.int .i64 k)] [tapeO cs q dd] (.tup [.d (.bool (stepYG cs s k q dd).1), .d (.int .i64 (stepYG cs s k q dd).2.1)]) [tapeO cs (stepYG cs s k q dd).2.2.1 (stepYG cs s k q dd).2.2.2] := by
  refine Eqn.obj1 r_yu_Step (plain_tup2 _ _) ⟨rfl, fun _ => rfl⟩ ?_
  simp only [c_yu_Step]
  have ha := at_ok s k
  have hsh := atP_shift (s := s) (k := k)
  have hst : stepYG cs s k q dd = if atE s k = 0 then halfR cs (atP s k).shift q dd else (false, atE s k, q, dd) := rfl
  rw [hst]
  clear hst
  generalize atP s k = p at *
  obtain ⟨px, ps, pv, pr⟩ := p
  simp only [plD] at ha hsh ⊢
  generalize atE s k = e at *
  repeat (first | refine AW.seq ?_ | refine AW.block ?_ | (refine AW.reg mix ?_; (simp (implicitDefEqProofs := false) [↓callI, vopsN, vopsG, ↓step_slice, ↓Am.A.step, ↓binInt, ↓binStr, vopsE0, vopsE1, -vops]; try simp (disch := omega) only [w64, wu64])) | (refine need.of (by first | omega | kernel_rfl) ?_) | (refine AW.skip ?_; (try simp (implicitDefEqProofs := false) [↓callI, vopsN, vopsG, ↓step_slice, ↓Am.A.step, ↓binInt, ↓binStr, vopsE0, vopsE1, -vops])) | (refine AW.ret ?_; (try simp (implicitDefEqProofs := false) [↓callI, vopsN, vopsG, ↓step_slice, ↓Am.A.step, ↓binInt, ↓binStr, vopsE0, vopsE1, -vops])) | (refine AW.exit ?_; (try simp (implicitDefEqProofs := false) [↓callI, vopsN, vopsG, ↓step_slice, ↓Am.A.step, ↓binInt, ↓binStr, vopsE0, vopsE1, -vops])))
  refine CallS.pure (ha) (by first | exact plain_d _ | exact plain_tup2 _ _ | exact plain_tup3 _ _ _) rfl (fun _ => rfl) (Subs.refl _) ?_
  (try simp (implicitDefEqProofs := false) [↓callI, vopsN, vopsG, ↓step_slice, ↓Am.A.step, ↓binInt, ↓binStr, vopsE0, vopsE1, -vops]; try simp (disch := omega) only [w64, wu64])
  repeat (first | refine AW.seq ?_ | refine AW.block ?_ | (refine AW.reg mix ?_; (simp (implicitDefEqProofs := false) [↓callI, vopsN, vopsG, ↓step_slice, ↓Am.A.step, ↓binInt, ↓binStr, vopsE0, vopsE1, -vops]; try simp (disch := omega) only [w64, wu64])) | (refine need.of (by first | omega | kernel_rfl) ?_) | (refine AW.skip ?_; (try simp (implicitDefEqProofs := false) [↓callI, vopsN, vopsG, ↓step_slice, ↓Am.A.step, ↓binInt, ↓binStr, vopsE0, vopsE1, -vops])) | (refine AW.ret ?_; (try simp (implicitDefEqProofs := false) [↓callI, vopsN, vopsG, ↓step_slice, ↓Am.A.step, ↓binInt, ↓binStr, vopsE0, vopsE1, -vops])) | (refine AW.exit ?_; (try simp (implicitDefEqProofs := false) [↓callI, vopsN, vopsG, ↓step_slice, ↓Am.A.step, ↓binInt, ↓binStr, vopsE0, vopsE1, -vops])))
  by_cases h : e = 0
  · subst h
    refine AW.cond rfl (fun h => ?_) (fun h => ?_)
    · simp at h
    have hh := half_ok cs q dd ps (by have := hsh rfl; omega) hp0 hn
    rw [Int.toNat_natCast] at hh
    simp only [if_true]
    generalize halfR cs ps q dd = r at hh ⊢
    obtain ⟨r1, r2, r3, r4⟩ := r
    simp only at hh ⊢
    repeat (first | refine AW.seq ?_ | refine AW.block ?_ | (refine AW.reg mix ?_; (simp (implicitDefEqProofs := false) [↓callI, vopsN, vopsG, ↓step_slice, ↓Am.A.step, ↓binInt, ↓binStr, vopsE0, vopsE1, -vops, -Bool.exists_bool]; try simp (disch := omega) only [w64, wu64])) | (refine need.of (by first | omega | kernel_rfl) ?_) | (refine AW.skip ?_; (try simp (implicitDefEqProofs := false) [↓callI, vopsN, vopsG, ↓step_slice, ↓Am.A.step, ↓binInt, ↓binStr, vopsE0, vopsE1, -vops, -Bool.exists_bool])) | (refine AW.ret ?_; (try simp (implicitDefEqProofs := false) [↓callI, vopsN, vopsG, ↓step_slice, ↓Am.A.step, ↓binInt, ↓binStr, vopsE0, vopsE1, -vops, -Bool.exists_bool])) | (refine AW.exit ?_; (try simp (implicitDefEqProofs := false) [↓callI, vopsN, vopsG, ↓step_slice, ↓Am.A.step, ↓binInt, ↓binStr, vopsE0, vopsE1, -vops, -Bool.exists_bool])))
    refine CallS.obj1 0 (hh) (by first | exact plain_d _ | exact plain_tup2 _ _ | exact plain_tup3 _ _ _) ⟨rfl, fun _ => rfl⟩ ⟨rfl, fun _ => rfl⟩ rfl (by rfl) (Subs.of (by simp)) ?_
    (try simp (implicitDefEqProofs := false) [↓callI, vopsN, vopsG, ↓step_slice, ↓Am.A.step, ↓binInt, ↓binStr, vopsE0, vopsE1, -vops, -Bool.exists_bool]; try simp (disch := omega) only [w64, wu64])
    repeat (first | refine AW.seq ?_ | refine AW.block ?_ | (refine AW.reg mix ?_; (simp (implicitDefEqProofs := false) [↓callI, vopsN, vopsG, ↓step_slice, ↓Am.A.step, ↓binInt, ↓binStr, vopsE0, vopsE1, -vops, -Bool.exists_bool]; try simp (disch := omega) only [w64, wu64])) | (refine need.of (by first | omega | kernel_rfl) ?_) | (refine AW.skip ?_; (try simp (implicitDefEqProofs := false) [↓callI, vopsN, vopsG, ↓step_slice, ↓Am.A.step, ↓binInt, ↓binStr, vopsE0, vopsE1, -vops, -Bool.exists_bool])) | (refine AW.ret ?_; (try simp (implicitDefEqProofs := false) [↓callI, vopsN, vopsG, ↓step_slice, ↓Am.A.step, ↓binInt, ↓binStr, vopsE0, vopsE1, -vops, -Bool.exists_bool])) | (refine AW.exit ?_; (try simp (implicitDefEqProofs := false) [↓callI, vopsN, vopsG, ↓step_slice, ↓Am.A.step, ↓binInt, ↓binStr, vopsE0, vopsE1, -vops, -Bool.exists_bool])))
  · simp only [if_neg h]
    refine AW.cond rfl (fun h => ?_) (fun h => ?_)
    · repeat (first | refine AW.seq ?_ | refine AW.block ?_ | (refine AW.reg mix ?_; (simp (implicitDefEqProofs := false) [↓callI, vopsN, vopsG, ↓step_slice, ↓Am.A.step, ↓binInt, ↓binStr, vopsE0, vopsE1, -vops]; try simp (disch := omega) only [w64, wu64])) | (refine need.of (by first | omega | kernel_rfl) ?_) | (refine AW.skip ?_; (try simp (implicitDefEqProofs := false) [↓callI, vopsN, vopsG, ↓step_slice, ↓Am.A.step, ↓binInt, ↓binStr, vopsE0, vopsE1, -vops])) | (refine AW.ret ?_; (try simp (implicitDefEqProofs := false) [↓callI, vopsN, vopsG, ↓step_slice, ↓Am.A.step, ↓binInt, ↓binStr, vopsE0, vopsE1, -vops])) | (refine AW.exit ?_; (try simp (implicitDefEqProofs := false) [↓callI, vopsN, vopsG, ↓step_slice, ↓Am.A.step, ↓binInt, ↓binStr, vopsE0, vopsE1, -vops])))
    · simp [*] at h


theorem cystep_ok (cs : List Bool) (a k : Int) (p : Nat) (dd : Bool) (hp : p ≤ cs.length) (hn : cs.length ≤ 4000000) :
    Eqn Tryz.prog n_chain_aYu_step [.d (.int .i64 a), .p 0 0, .d (.int .i64 k)] [tapeO cs p dd] (.tup [.d (.bool (stepYG cs a k p dd).1), .d (.int .i64 (stepYG cs a k p dd).2.1)]) [tapeO cs (stepYG cs a k p dd).2.2.1 (stepYG cs a k p dd).2.2.2] := by
  refine Eqn.obj1 r_chain_aYu_step (plain_tup2 _ _) ⟨rfl, fun _ => rfl⟩ ?_
  simp only [c_chain_aYu_step]
  have hh := ystepG_ok cs a k p dd hp hn
  generalize stepYG cs a k p dd = R at *
  obtain ⟨R1, R2, R3, R4⟩ := R
  simp only at hh ⊢
  repeat (first | refine AW.seq ?_ | refine AW.block ?_ | (refine AW.reg mix ?_; (simp (implicitDefEqProofs := false) [↓callI, vopsN, vopsG, ↓step_slice, ↓Am.A.step, ↓binInt, ↓binStr, vopsE0, vopsE1, -vops, -Bool.exists_bool]; try simp (disch := omega) only [w64, wu64])) | (refine need.of (by first | omega | kernel_rfl) ?_) | (refine AW.skip ?_; (try simp (implicitDefEqProofs := false) [↓callI, vopsN, vopsG, ↓step_slice, ↓Am.A.step, ↓binInt, ↓binStr, vopsE0, vopsE1, -vops, -Bool.exists_bool])) | (refine AW.ret ?_; (try simp (implicitDefEqProofs := false) [↓callI, vopsN, vopsG, ↓step_slice, ↓Am.A.step, ↓binInt, ↓binStr, vopsE0, vopsE1, -vops, -Bool.exists_bool])) | (refine AW.exit ?_; (try simp (implicitDefEqProofs := false) [↓callI, vopsN, vopsG, ↓step_slice, ↓Am.A.step, ↓binInt, ↓binStr, vopsE0, vopsE1, -vops, -Bool.exists_bool])))
  refine CallS.obj1 0 (hh) (by first | exact plain_d _ | exact plain_tup2 _ _ | exact plain_tup3 _ _ _) ⟨rfl, fun _ => rfl⟩ ⟨rfl, fun _ => rfl⟩ rfl (by rfl) (Subs.of (by simp)) ?_
  (try simp (implicitDefEqProofs := false) [↓callI, vopsN, vopsG, ↓step_slice, ↓Am.A.step, ↓binInt, ↓binStr, vopsE0, vopsE1, -vops, -Bool.exists_bool]; try simp (disch := omega) only [w64, wu64])
  repeat (first | refine AW.seq ?_ | refine AW.block ?_ | (refine AW.reg mix ?_; (simp (implicitDefEqProofs := false) [↓callI, vopsN, vopsG, ↓step_slice, ↓Am.A.step, ↓binInt, ↓binStr, vopsE0, vopsE1, -vops, -Bool.exists_bool]; try simp (disch := omega) only [w64, wu64])) | (refine need.of (by first | omega | kernel_rfl) ?_) | (refine AW.skip ?_; (try simp (implicitDefEqProofs := false) [↓callI, vopsN, vopsG, ↓step_slice, ↓Am.A.step, ↓binInt, ↓binStr, vopsE0, vopsE1, -vops, -Bool.exists_bool])) | (refine AW.ret ?_; (try simp (implicitDefEqProofs := false) [↓callI, vopsN, vopsG, ↓step_slice, ↓Am.A.step, ↓binInt, ↓binStr, vopsE0, vopsE1, -vops, -Bool.exists_bool])) | (refine AW.exit ?_; (try simp (implicitDefEqProofs := false) [↓callI, vopsN, vopsG, ↓step_slice, ↓Am.A.step, ↓binInt, ↓binStr, vopsE0, vopsE1, -vops, -Bool.exists_bool])))
end
end Go.Proofs.YtakjegcjeffmgaaGreat.Am
namespace Go.Proofs.YtakjegcjeffmgaaGreat.Am
section
open Go.RowKit
set_option linter.unusedVariables false
set_option linter.unusedSimpArgs false

def obsIs (H : List (Option Ob)) (ρ : Nat → Nat) (dead : List Nat) : Nat → List Nat → List Ob → Prop
  | i, n :: θ, ob :: r => (i ∈ dead ∨ obIs H n ⟨ob.T, V.rens ρ ob.c⟩) ∧ obsIs H ρ dead (i + 1) θ r
  | _, [], [] => True
  | _, _, _ => False
theorem obsIs.get {H : List (Option Ob)} {ρ : Nat → Nat} {dead : List Nat} : ∀ {j : Nat} {θ : List Nat} {l : List Ob}, obsIs H ρ dead j θ l → θ.length = l.length ∧ ∀ i ob, i + j ∉ dead → l[i]? = some ob → obIs H (θ.getD i 0) ⟨ob.T, V.rens ρ ob.c⟩
  | _, [], [], _ => ⟨rfl, by simp⟩
  | _, [], _ :: _, h => h.elim
  | _, _ :: _, [], h => h.elim
  | j, n :: θ, ob :: r, h => by
    obtain ⟨h1, h2⟩ := h
    obtain ⟨h3, h4⟩ := obsIs.get h2
    refine ⟨by simp [h3], fun i o hd hi => ?_⟩
    cases i with
    | zero => simp at hi hd; subst hi; exact h1.resolve_left hd
    | succ i => simpa using h4 i o (by rw [show i + (j + 1) = i + 1 + j by omega]; exact hd) (by simpa using hi)
/-- at the end: the variables handed in and out are those of θ -/
def retG (rs : List RV) (θ : List Nat) (X : V) (Hs' : List Ob) (dead : List Nat) : Exit → List V → List (Option Ob) → Prop
  | .normal, T, H | .ret, T, H => (∃ x, outV T H rs = some x ∧ Sub1 x (X.ren fun i => θ.getD i 0)) ∧ obsIs H (fun i => θ.getD i 0) dead 0 θ Hs'
  | _, _, _ => False
attribute [simp] retG obsIs

def apartB (θ dead : List Nat) : Bool := (List.range θ.length).all fun i => (List.range θ.length).all fun j => dead.contains i || dead.contains j || i == j || θ.getD i 0 != θ.getD j 0
theorem apartB_spec {θ dead : List Nat} (h : apartB θ dead = true) : apartN θ dead := fun i j hi hj li lj he => by
  have h1 := List.all_eq_true.1 h i (List.mem_range.2 li)
  have h2 := List.all_eq_true.1 h1 j (List.mem_range.2 lj)
  have e1 : dead.contains i = false := by simpa using hi
  have e2 : dead.contains j = false := by simpa using hj
  rw [e1, e2, he] at h2
  simpa using h2

/-- k variables in (names 0 .. k-1), more out -/
theorem Eqn.gen {P : Program} {f : FuncId} {c : C} {rs : List RV} {nt : Nat} {args : List V} {Hs : List Ob} {X : V} {Hs' : List Ob} {dead : List Nat} (θ : List Nat) (hf : fnOf P f = some (c, rs, nt, false)) (hlen : Hs.length ≤ Hs'.length) (hold : ∀ n ∈ dead, n < Hs.length) (hθ : θ.take Hs.length = List.range Hs.length) (hnd : apartB θ dead = true)
    (lowx : X.low Hs'.length = true) (lowo : ∀ ob ∈ Hs', V.lowl Hs'.length ob.c = true)
    (h : AW P Hs.length c (retG rs θ X Hs' dead) (args ++ List.replicate (nt - args.length) .junk) (Hs.map some)) : EqnD P f args Hs X Hs' dead := by
  have hθ' : ∀ i, i < Hs.length → θ.getD i 0 = i := fun i hi => by
    have h1 : (θ.take Hs.length)[i]? = (List.range Hs.length)[i]? := by rw [hθ]
    rw [List.getElem?_take, if_pos hi, List.getElem?_range hi] at h1
    rw [List.getD_eq_getElem?_getD, h1]; rfl
  refine Eqn.of_fn hf hlen hold lowx lowo ?_
  intro code hc m0 m s sat hle htop hL
  refine wp_mono (h code hc m0 m s sat hle htop hL) ?_
  rintro e s' w' ⟨T', H', m', rfl, hq, rest⟩
  refine ⟨T', H', m', rfl, ?_, rest⟩
  cases e <;> first
    | exact hq.elim
    | (obtain ⟨hx, ho⟩ := hq
       obtain ⟨h3, h4⟩ := ho.get
       exact ⟨θ, h3, hθ', apartB_spec hnd, hx, h4⟩)

def obsAt (k : Nat) (H : List (Option Ob)) (ρ : Nat → Nat) : List Nat → List Ob → Prop
  | n :: θ, ob :: r => (V.lowl k ob.c = true ∧ H.getD n none = some ⟨ob.T, V.rens ρ ob.c⟩) ∧ obsAt k H ρ θ r
  | [], [] => True
  | _, _ => False
attribute [simp] obsAt
theorem obsAt_nil {k : Nat} {H : List (Option Ob)} {ρ : Nat → Nat} : obsAt k H ρ [] [] := trivial
theorem obsAt_cons {k n : Nat} {H : List (Option Ob)} {ρ : Nat → Nat} {θ : List Nat} {ob : Ob} {r : List Ob} (h1 : V.lowl k ob.c = true) (h2 : H.getD n none = some ⟨ob.T, V.rens ρ ob.c⟩) (h3 : obsAt k H ρ θ r) : obsAt k H ρ (n :: θ) (ob :: r) := ⟨⟨h1, h2⟩, h3⟩
theorem obsAt.get {k : Nat} {H : List (Option Ob)} {ρ : Nat → Nat} : ∀ {θ : List Nat} {l : List Ob}, obsAt k H ρ θ l → θ.length = l.length ∧ (∀ n ∈ θ, n < H.length) ∧ ∀ i ob, l[i]? = some ob → V.lowl k ob.c = true ∧ H.getD (θ.getD i 0) none = some ⟨ob.T, V.rens ρ ob.c⟩
  | [], [], _ => ⟨rfl, by simp, by simp⟩
  | [], _ :: _, h => h.elim
  | _ :: _, [], h => h.elim
  | n :: θ, ob :: r, h => by
    obtain ⟨h1, h2⟩ := h
    obtain ⟨h3, h5, h4⟩ := obsAt.get h2
    refine ⟨by simp [h3], fun m hm => ?_, fun i o hi => ?_⟩
    · rcases List.mem_cons.1 hm with rfl | hm
      · rcases Nat.lt_or_ge m H.length with hlt | hge
        · exact hlt
        · have := h1.2
          rw [List.getD_eq_getElem?_getD, List.getElem?_eq_none hge] at this; cases this
      · exact h5 m hm
    · cases i with
      | zero => simp at hi; subst hi; exact h1
      | succ i => simpa using h4 i o (by simpa using hi)

theorem CallS.gen {P : Program} {f : FuncId} {args argsC : List V} {H : List (Option Ob)} {K : V → List (Option Ob) → List Nat → List Nat → Prop} {X : V} {Hs Hs' : List Ob} {dead : List Nat} (θ : List Nat) (E : EqnD P f argsC Hs X Hs' dead) (hnd : θ.Nodup) (hat : obsAt Hs.length H (nameOf θ H.length) θ Hs)
    (hl : V.lowl Hs.length argsC = true) (hs : Subs args (V.rens (nameOf θ H.length) argsC))
    (h : K (X.ren (nameOf θ H.length)) (killAll (putAll H θ (Hs'.map fun ob => ⟨ob.T, V.rens (nameOf θ H.length) ob.c⟩)) θ dead) [] (θ ++ (List.range (Hs'.length - Hs.length)).map (H.length + ·))) : CallS P f args H K := by
  obtain ⟨h1, h2, h3⟩ := hat.get
  exact .inl ⟨θ, argsC, Hs, X, Hs', dead, E, h1, hnd, h2, h3, hl, hs, h⟩
/-- Two variables change their names. -/
theorem AW.swap {P : Program} {L : Nat} {Q : Exit → List V → List (Option Ob) → Prop} {T : List V} {H : List (Option Ob)} {c : C} (i j : Nat) (hi : i < H.length) (hj : j < H.length) (hLi : L ≤ i) (hLj : L ≤ j) (h : AW P L c Q (swT i j T) (swH i j H)) : AW P L c Q T H := by
  intro code hc m0 m a sat hle htop hL
  obtain ⟨m1, hm1, s1, l1⟩ := Sat.swap sat hi hj hLi hLj hle htop
  rw [← hm1]
  exact h code hc m0 m1 a s1 l1 htop (by rw [swH_len]; exact hL)
end
end Go.Proofs.YtakjegcjeffmgaaGreat.Am
namespace Go.Proofs.YtakjegcjeffmgaaGreat.Am
section
/-- what a kind's step does: of a place, of the tape's place; is it, the error, the tape behind it -/
abbrev StepT := Nat → Nat → Bool → Bool × Int × Nat × Bool
/-- so many steps: error, place, full, tape -/
def addL (st : StepT) (top : Nat) : Nat → Nat → Bool → Nat → Bool → Int × Nat × Bool × Nat × Bool
  | 0, x, f, p, d => (0, x, f, p, d)
  | n + 1, x, f, p, d =>
    if x = top then (0, x, true, p, d)
    else if (st x p d).2.1 = 0 then
      if f = true ∧ (if (st x p d).1 then x + 1 else x) = top then (0, top, f, (st x p d).2.2.1, (st x p d).2.2.2)
      else addL st top n (if (st x p d).1 then x + 1 else x) f (st x p d).2.2.1 (st x p d).2.2.2
    else ((st x p d).2.1, x, f, (st x p d).2.2.1, (st x p d).2.2.2)

theorem addL_top {st : StepT} {top : Nat} (m : Nat) (p : Nat) (d : Bool) : addL st top m top true p d = (0, top, true, p, d) := by
  cases m <;> simp [addL]
end
end Go.Proofs.YtakjegcjeffmgaaGreat.Am
namespace Go.Proofs.YtakjegcjeffmgaaGreat.Am
section
open Go.RowKit
set_option maxRecDepth 100000
set_option linter.unusedSimpArgs false
set_option linter.unusedVariables false

/-- a kind's steps are so -/
structure StepOf (cs : List Bool) (ti : TypeId) (d : D) (g : FuncId) (st : StepT) : Prop where
  meth : MethOK Tryz.prog ti "tallymark/chain.step" g
  run : ∀ (x p : Nat) (dd : Bool), p ≤ cs.length → Eqn Tryz.prog g [.d d, .p 0 0, .d (.int .i64 x)] [tapeO cs p dd] (.tup [.d (.bool (st x p dd).1), .d (.int .i64 (st x p dd).2.1)]) [tapeO cs (st x p dd).2.2.1 (st x p dd).2.2.2]
  le : ∀ (x p : Nat) (dd : Bool), p ≤ cs.length → (st x p dd).2.2.1 ≤ cs.length

theorem add_start (cs : List Bool) (k a : Int) (w : Nat) (w2 : w ≤ 10) (ti : TypeId) (d : D) (g : FuncId) (st : StepT) (hst : StepOf cs ti d g st) (hk : kindD k a = .ifc ti d) (hc : Eqn Tryz.prog n_chain_Param_Check [.d (parD k a w)] [] (.d (.int .i64 0)) [])
    (x : Nat) (hx : x ≤ 2 ^ w - 1) (f : Bool) (n : Nat) (hn : n ≤ 1048576) (p : Nat) (dd : Bool) (hp : p ≤ cs.length) (S : Int × Nat × Bool × Nat × Bool) (hS : S = addL st (2 ^ w - 1) n x f p dd) :
    Eqn Tryz.prog n_chain_Param_Add [.d (parD k a w), .p 0 0, .d (.agg [.int .i64 x, .bool f]), .d (.int .i64 n)] [tapeO cs p dd] (.tup [.d (.agg [.int .i64 (if S.1 = 0 then S.2.1 else x : Nat), .bool (if S.1 = 0 then S.2.2.1 else f)]), .d (.int .i64 S.1)]) [tapeO cs S.2.2.2.1 S.2.2.2.2] := by
  refine Eqn.obj1 r_chain_Param_Add (plain_tup2 _ _) ⟨rfl, fun _ => rfl⟩ ?_
  have hat := at_ok1 k a w w2 x (by omega) (by omega) hc
  have hkd := kind_ok k a w
  rw [hk] at hkd
  simp only [c_chain_Param_Add, parD] at hat ⊢
  repeat (first | refine AW.seq ?_ | refine AW.block ?_ | (refine AW.reg mix ?_; (simp (implicitDefEqProofs := false) [↓callI, vopsN, vopsG, ↓step_slice, ↓Am.A.step, ↓binInt, ↓binStr, vopsE0, vopsE1, -vops, -Bool.exists_bool]; try simp (disch := omega) only [w64, wu64])) | (refine need.of (by first | omega | kernel_rfl) ?_) | (refine AW.skip ?_; (try simp (implicitDefEqProofs := false) [↓callI, vopsN, vopsG, ↓step_slice, ↓Am.A.step, ↓binInt, ↓binStr, vopsE0, vopsE1, -vops, -Bool.exists_bool])) | (refine AW.ret ?_; (try simp (implicitDefEqProofs := false) [↓callI, vopsN, vopsG, ↓step_slice, ↓Am.A.step, ↓binInt, ↓binStr, vopsE0, vopsE1, -vops, -Bool.exists_bool])) | (refine AW.exit ?_; (try simp (implicitDefEqProofs := false) [↓callI, vopsN, vopsG, ↓step_slice, ↓Am.A.step, ↓binInt, ↓binStr, vopsE0, vopsE1, -vops, -Bool.exists_bool])))
  refine CallS.pureF 5 1 ⟨3, _⟩ [.int .i64 x] (hat) (by first | exact plain_d _ | exact plain_tup2 _ _ | exact plain_tup3 _ _ _) rfl (fun _ => rfl) (by rfl) (by simp) (Subs.of ?_) ?_
  focus first | rfl | (simp [-Bool.exists_bool]; done) | skip
  rotate_left
  (try simp (implicitDefEqProofs := false) [↓callI, vopsN, vopsG, ↓step_slice, ↓Am.A.step, ↓binInt, ↓binStr, vopsE0, vopsE1, -vops, -Bool.exists_bool]; try simp (disch := omega) only [w64, wu64])
  repeat (first | refine AW.seq ?_ | refine AW.block ?_ | (refine AW.reg mix ?_; (simp (implicitDefEqProofs := false) [↓callI, vopsN, vopsG, ↓step_slice, ↓Am.A.step, ↓binInt, ↓binStr, vopsE0, vopsE1, -vops, -Bool.exists_bool]; try simp (disch := omega) only [w64, wu64])) | (refine need.of (by first | omega | kernel_rfl) ?_) | (refine AW.skip ?_; (try simp (implicitDefEqProofs := false) [↓callI, vopsN, vopsG, ↓step_slice, ↓Am.A.step, ↓binInt, ↓binStr, vopsE0, vopsE1, -vops, -Bool.exists_bool])) | (refine AW.ret ?_; (try simp (implicitDefEqProofs := false) [↓callI, vopsN, vopsG, ↓step_slice, ↓Am.A.step, ↓binInt, ↓binStr, vopsE0, vopsE1, -vops, -Bool.exists_bool])) | (refine AW.exit ?_; (try simp (implicitDefEqProofs := false) [↓callI, vopsN, vopsG, ↓step_slice, ↓Am.A.step, ↓binInt, ↓binStr, vopsE0, vopsE1, -vops, -Bool.exists_bool])))
  refine AW.cond rfl (fun h => ?_) (fun h => ?_)
  · simp at h
  clear h
  have g1 : ¬ (1048576 : Int) < n := by omega
  repeat (first | refine AW.seq ?_ | refine AW.block ?_ | (refine AW.reg mix ?_; (simp (implicitDefEqProofs := false) [↓callI, vopsN, vopsG, ↓step_slice, ↓Am.A.step, ↓binInt, ↓binStr, vopsE0, vopsE1, -vops, g1, -Bool.exists_bool]; try simp (disch := omega) only [w64, wu64])) | (refine need.of (by first | omega | kernel_rfl) ?_) | (refine AW.skip ?_; (try simp (implicitDefEqProofs := false) [↓callI, vopsN, vopsG, ↓step_slice, ↓Am.A.step, ↓binInt, ↓binStr, vopsE0, vopsE1, -vops, g1, -Bool.exists_bool])) | (refine AW.ret ?_; (try simp (implicitDefEqProofs := false) [↓callI, vopsN, vopsG, ↓step_slice, ↓Am.A.step, ↓binInt, ↓binStr, vopsE0, vopsE1, -vops, g1, -Bool.exists_bool])) | (refine AW.exit ?_; (try simp (implicitDefEqProofs := false) [↓callI, vopsN, vopsG, ↓step_slice, ↓Am.A.step, ↓binInt, ↓binStr, vopsE0, vopsE1, -vops, g1, -Bool.exists_bool])))
  refine AW.cond rfl (fun h => ?_) (fun h => ?_)
  · simp [g1] at h
  clear h
  have hmx : max 0 (n : Int) = n := by omega
  repeat (first | refine AW.seq ?_ | refine AW.block ?_ | (refine AW.reg mix ?_; (simp (implicitDefEqProofs := false) [↓callI, vopsN, vopsG, ↓step_slice, ↓Am.A.step, ↓binInt, ↓binStr, vopsE0, vopsE1, -vops, -Bool.exists_bool]; try simp (disch := omega) only [w64, wu64])) | (refine need.of (by first | omega | kernel_rfl) ?_) | (refine AW.skip ?_; (try simp (implicitDefEqProofs := false) [↓callI, vopsN, vopsG, ↓step_slice, ↓Am.A.step, ↓binInt, ↓binStr, vopsE0, vopsE1, -vops, -Bool.exists_bool])) | (refine AW.ret ?_; (try simp (implicitDefEqProofs := false) [↓callI, vopsN, vopsG, ↓step_slice, ↓Am.A.step, ↓binInt, ↓binStr, vopsE0, vopsE1, -vops, -Bool.exists_bool])) | (refine AW.exit ?_; (try simp (implicitDefEqProofs := false) [↓callI, vopsN, vopsG, ↓step_slice, ↓Am.A.step, ↓binInt, ↓binStr, vopsE0, vopsE1, -vops, -Bool.exists_bool])))
  refine CallS.pure (hkd) (by first | exact plain_d _ | exact plain_tup2 _ _ | exact plain_tup3 _ _ _) rfl (fun _ => rfl) (Subs.refl _) ?_
  (try simp (implicitDefEqProofs := false) [↓callI, vopsN, vopsG, ↓step_slice, ↓Am.A.step, ↓binInt, ↓binStr, vopsE0, vopsE1, -vops, hmx, -Bool.exists_bool]; try simp (disch := omega) only [w64, wu64])
  repeat (first | refine AW.seq ?_ | refine AW.block ?_ | (refine AW.reg mix ?_; (simp (implicitDefEqProofs := false) [↓callI, vopsN, vopsG, ↓step_slice, ↓Am.A.step, ↓binInt, ↓binStr, vopsE0, vopsE1, -vops, hmx, -Bool.exists_bool]; try simp (disch := omega) only [w64, wu64])) | (refine need.of (by first | omega | kernel_rfl) ?_) | (refine AW.skip ?_; (try simp (implicitDefEqProofs := false) [↓callI, vopsN, vopsG, ↓step_slice, ↓Am.A.step, ↓binInt, ↓binStr, vopsE0, vopsE1, -vops, hmx, -Bool.exists_bool])) | (refine AW.ret ?_; (try simp (implicitDefEqProofs := false) [↓callI, vopsN, vopsG, ↓step_slice, ↓Am.A.step, ↓binInt, ↓binStr, vopsE0, vopsE1, -vops, hmx, -Bool.exists_bool])) | (refine AW.exit ?_; (try simp (implicitDefEqProofs := false) [↓callI, vopsN, vopsG, ↓step_slice, ↓Am.A.step, ↓binInt, ↓binStr, vopsE0, vopsE1, -vops, hmx, -Bool.exists_bool])))
  refine AW.loopT (α := Nat × Nat × Nat × Bool) 8 (fun s => [(31, .d (.int .i64 (s.1 : Int)))]) (fun s => [(0, tapeO cs s.2.2.1 s.2.2.2), (7, ⟨35, [.d (.int .i64 (s.2.1 : Nat)), .d (.bool f)]⟩)]) (fun s => s.1 ≤ n ∧ s.2.1 ≤ 2 ^ w - 1 ∧ s.2.2.1 ≤ cs.length ∧ S = addL st (2 ^ w - 1) (n - s.1) s.2.1 f s.2.2.1 s.2.2.2) (fun s => n - s.1) (0, x, p, dd) ?_ ?_ ⟨Nat.zero_le _, hx, hp, hS⟩ ?_ ?_ ?_
  · simp
  · simp
  · simp
  · simp
  rintro ⟨i, z, q, b⟩ ⟨hi, hz, hq, hS⟩
  simp only at hi hz hq hS
  simp [-Bool.exists_bool]
  have htop := top_ok k a w w2 hc
  have ho1 := fun T1 t2 => on_top (T1 := T1) (t2 := t2) (ti := ti) (d := d) (cs := cs) (p := q) (dd := b) k a w w2 f hc
  have ho2 := fun T1 t2 (hlt : z < 2 ^ w - 1) => on_step (T1 := T1) (t2 := t2) k a w w2 f hlt hc hst.meth (hst.run z q b hq)
  have hle := hst.le z q b hq
  have h2 : 2 ^ w - 1 ≤ 1023 := by have := Nat.pow_le_pow_right (n := 2) (by omega) w2; omega
  simp only [parD] at ho1 ho2 htop
  generalize 2 ^ w - 1 = W at *
  by_cases h : i = n
  · subst h
    rw [Nat.sub_self, addL] at hS
    repeat (first | refine AW.seq ?_ | refine AW.block ?_ | (refine AW.reg mix ?_; (simp (implicitDefEqProofs := false) [↓callI, vopsN, vopsG, ↓step_slice, ↓Am.A.step, ↓binInt, ↓binStr, vopsE0, vopsE1, -vops, -Bool.exists_bool]; try simp (disch := omega) only [w64, wu64])) | (refine need.of (by first | omega | kernel_rfl) ?_) | (refine AW.skip ?_; (try simp (implicitDefEqProofs := false) [↓callI, vopsN, vopsG, ↓step_slice, ↓Am.A.step, ↓binInt, ↓binStr, vopsE0, vopsE1, -vops, -Bool.exists_bool])) | (refine AW.ret ?_; (try simp (implicitDefEqProofs := false) [↓callI, vopsN, vopsG, ↓step_slice, ↓Am.A.step, ↓binInt, ↓binStr, vopsE0, vopsE1, -vops, -Bool.exists_bool])) | (refine AW.exit ?_; (try simp (implicitDefEqProofs := false) [↓callI, vopsN, vopsG, ↓step_slice, ↓Am.A.step, ↓binInt, ↓binStr, vopsE0, vopsE1, -vops, -Bool.exists_bool])))
    refine AW.cond rfl (fun h => ?_) (fun h => ?_)
    · simp at h
    refine AW.exit ?_
    (try simp (implicitDefEqProofs := false) [↓callI, vopsN, vopsG, ↓step_slice, ↓Am.A.step, ↓binInt, ↓binStr, vopsE0, vopsE1, -vops, -Bool.exists_bool]; try simp (disch := omega) only [w64, wu64])
    repeat (first | refine AW.seq ?_ | refine AW.block ?_ | (refine AW.reg mix ?_; (simp (implicitDefEqProofs := false) [↓callI, vopsN, vopsG, ↓step_slice, ↓Am.A.step, ↓binInt, ↓binStr, vopsE0, vopsE1, -vops, -Bool.exists_bool]; try simp (disch := omega) only [w64, wu64])) | (refine need.of (by first | omega | kernel_rfl) ?_) | (refine AW.skip ?_; (try simp (implicitDefEqProofs := false) [↓callI, vopsN, vopsG, ↓step_slice, ↓Am.A.step, ↓binInt, ↓binStr, vopsE0, vopsE1, -vops, -Bool.exists_bool])) | (refine AW.ret ?_; (try simp (implicitDefEqProofs := false) [↓callI, vopsN, vopsG, ↓step_slice, ↓Am.A.step, ↓binInt, ↓binStr, vopsE0, vopsE1, -vops, -Bool.exists_bool])) | (refine AW.exit ?_; (try simp (implicitDefEqProofs := false) [↓callI, vopsN, vopsG, ↓step_slice, ↓Am.A.step, ↓binInt, ↓binStr, vopsE0, vopsE1, -vops, -Bool.exists_bool])))
    simp [hS]
  · have hlt : (i : Int) < n := by omega
    have hlt' : i < n := by omega
    obtain ⟨r, hr⟩ : ∃ r, n - i = r + 1 := ⟨n - i - 1, by omega⟩
    have ew : IntKind.i64.wrap ((i : Int) + 1) = (i : Int) + 1 := w64 (by omega) (by omega)
    rw [hr, addL] at hS
    repeat (first | refine AW.seq ?_ | refine AW.block ?_ | (refine AW.reg mix ?_; (simp (implicitDefEqProofs := false) [↓callI, vopsN, vopsG, ↓step_slice, ↓Am.A.step, ↓binInt, ↓binStr, vopsE0, vopsE1, -vops, hlt, hlt', -Bool.exists_bool]; try simp (disch := omega) only [w64, wu64])) | (refine need.of (by first | omega | kernel_rfl) ?_) | (refine AW.skip ?_; (try simp (implicitDefEqProofs := false) [↓callI, vopsN, vopsG, ↓step_slice, ↓Am.A.step, ↓binInt, ↓binStr, vopsE0, vopsE1, -vops, hlt, hlt', -Bool.exists_bool])) | (refine AW.ret ?_; (try simp (implicitDefEqProofs := false) [↓callI, vopsN, vopsG, ↓step_slice, ↓Am.A.step, ↓binInt, ↓binStr, vopsE0, vopsE1, -vops, hlt, hlt', -Bool.exists_bool])) | (refine AW.exit ?_; (try simp (implicitDefEqProofs := false) [↓callI, vopsN, vopsG, ↓step_slice, ↓Am.A.step, ↓binInt, ↓binStr, vopsE0, vopsE1, -vops, hlt, hlt', -Bool.exists_bool])))
    refine AW.cond rfl (fun h => ?_) (fun h => ?_)
    · clear h
      by_cases hzt : z = W
      · subst hzt
        rw [if_pos rfl] at hS
        repeat (first | refine AW.seq ?_ | refine AW.block ?_ | (refine AW.reg mix ?_; (simp (implicitDefEqProofs := false) [↓callI, vopsN, vopsG, ↓step_slice, ↓Am.A.step, ↓binInt, ↓binStr, vopsE0, vopsE1, -vops, -Bool.exists_bool]; try simp (disch := omega) only [w64, wu64])) | (refine need.of (by first | omega | kernel_rfl) ?_) | (refine AW.skip ?_; (try simp (implicitDefEqProofs := false) [↓callI, vopsN, vopsG, ↓step_slice, ↓Am.A.step, ↓binInt, ↓binStr, vopsE0, vopsE1, -vops, -Bool.exists_bool])) | (refine AW.ret ?_; (try simp (implicitDefEqProofs := false) [↓callI, vopsN, vopsG, ↓step_slice, ↓Am.A.step, ↓binInt, ↓binStr, vopsE0, vopsE1, -vops, -Bool.exists_bool])) | (refine AW.exit ?_; (try simp (implicitDefEqProofs := false) [↓callI, vopsN, vopsG, ↓step_slice, ↓Am.A.step, ↓binInt, ↓binStr, vopsE0, vopsE1, -vops, -Bool.exists_bool])))
        refine CallS.obj3 0 6 2 (ho1 _ _) (by first | exact plain_d _ | exact plain_tup2 _ _ | exact plain_tup3 _ _ _) ⟨rfl, fun _ => rfl⟩ ⟨rfl, fun _ => rfl⟩ ⟨rfl, fun _ => rfl⟩ rfl (by rfl) (by rfl) (by rfl) (by decide) (Subs.of (by simp)) ?_
        (try simp (implicitDefEqProofs := false) [↓callI, vopsN, vopsG, ↓step_slice, ↓Am.A.step, ↓binInt, ↓binStr, vopsE0, vopsE1, -vops, -Bool.exists_bool]; try simp (disch := omega) only [w64, wu64])
        repeat (first | refine AW.seq ?_ | refine AW.block ?_ | (refine AW.reg mix ?_; (simp (implicitDefEqProofs := false) [↓callI, vopsN, vopsG, ↓step_slice, ↓Am.A.step, ↓binInt, ↓binStr, vopsE0, vopsE1, -vops, -Bool.exists_bool]; try simp (disch := omega) only [w64, wu64])) | (refine need.of (by first | omega | kernel_rfl) ?_) | (refine AW.skip ?_; (try simp (implicitDefEqProofs := false) [↓callI, vopsN, vopsG, ↓step_slice, ↓Am.A.step, ↓binInt, ↓binStr, vopsE0, vopsE1, -vops, -Bool.exists_bool])) | (refine AW.ret ?_; (try simp (implicitDefEqProofs := false) [↓callI, vopsN, vopsG, ↓step_slice, ↓Am.A.step, ↓binInt, ↓binStr, vopsE0, vopsE1, -vops, -Bool.exists_bool])) | (refine AW.exit ?_; (try simp (implicitDefEqProofs := false) [↓callI, vopsN, vopsG, ↓step_slice, ↓Am.A.step, ↓binInt, ↓binStr, vopsE0, vopsE1, -vops, -Bool.exists_bool])))
        refine AW.cond rfl (fun h => ?_) (fun h => ?_)
        · simp at h
        clear h
        repeat (first | refine AW.seq ?_ | refine AW.block ?_ | (refine AW.reg mix ?_; (simp (implicitDefEqProofs := false) [↓callI, vopsN, vopsG, ↓step_slice, ↓Am.A.step, ↓binInt, ↓binStr, vopsE0, vopsE1, -vops, -Bool.exists_bool]; try simp (disch := omega) only [w64, wu64])) | (refine need.of (by first | omega | kernel_rfl) ?_) | (refine AW.skip ?_; (try simp (implicitDefEqProofs := false) [↓callI, vopsN, vopsG, ↓step_slice, ↓Am.A.step, ↓binInt, ↓binStr, vopsE0, vopsE1, -vops, -Bool.exists_bool])) | (refine AW.ret ?_; (try simp (implicitDefEqProofs := false) [↓callI, vopsN, vopsG, ↓step_slice, ↓Am.A.step, ↓binInt, ↓binStr, vopsE0, vopsE1, -vops, -Bool.exists_bool])) | (refine AW.exit ?_; (try simp (implicitDefEqProofs := false) [↓callI, vopsN, vopsG, ↓step_slice, ↓Am.A.step, ↓binInt, ↓binStr, vopsE0, vopsE1, -vops, -Bool.exists_bool])))
        refine CallS.pure (htop) (by first | exact plain_d _ | exact plain_tup2 _ _ | exact plain_tup3 _ _ _) rfl (fun _ => rfl) (Subs.refl _) ?_
        (try simp (implicitDefEqProofs := false) [↓callI, vopsN, vopsG, ↓step_slice, ↓Am.A.step, ↓binInt, ↓binStr, vopsE0, vopsE1, -vops, -Bool.exists_bool]; try simp (disch := omega) only [w64, wu64])
        repeat (first | refine AW.seq ?_ | refine AW.block ?_ | (refine AW.reg mix ?_; (simp (implicitDefEqProofs := false) [↓callI, vopsN, vopsG, ↓step_slice, ↓Am.A.step, ↓binInt, ↓binStr, vopsE0, vopsE1, -vops, -Bool.exists_bool]; try simp (disch := omega) only [w64, wu64])) | (refine need.of (by first | omega | kernel_rfl) ?_) | (refine AW.skip ?_; (try simp (implicitDefEqProofs := false) [↓callI, vopsN, vopsG, ↓step_slice, ↓Am.A.step, ↓binInt, ↓binStr, vopsE0, vopsE1, -vops, -Bool.exists_bool])) | (refine AW.ret ?_; (try simp (implicitDefEqProofs := false) [↓callI, vopsN, vopsG, ↓step_slice, ↓Am.A.step, ↓binInt, ↓binStr, vopsE0, vopsE1, -vops, -Bool.exists_bool])) | (refine AW.exit ?_; (try simp (implicitDefEqProofs := false) [↓callI, vopsN, vopsG, ↓step_slice, ↓Am.A.step, ↓binInt, ↓binStr, vopsE0, vopsE1, -vops, -Bool.exists_bool])))
        refine AW.cond rfl (fun h => ?_) (fun h => ?_)
        · refine AW.exit ?_
          (try simp (implicitDefEqProofs := false) [↓callI, vopsN, vopsG, ↓step_slice, ↓Am.A.step, ↓binInt, ↓binStr, vopsE0, vopsE1, -vops, -Bool.exists_bool]; try simp (disch := omega) only [w64, wu64])
          repeat (first | refine AW.seq ?_ | refine AW.block ?_ | (refine AW.reg mix ?_; (simp (implicitDefEqProofs := false) [↓callI, vopsN, vopsG, ↓step_slice, ↓Am.A.step, ↓binInt, ↓binStr, vopsE0, vopsE1, -vops, -Bool.exists_bool]; try simp (disch := omega) only [w64, wu64])) | (refine need.of (by first | omega | kernel_rfl) ?_) | (refine AW.skip ?_; (try simp (implicitDefEqProofs := false) [↓callI, vopsN, vopsG, ↓step_slice, ↓Am.A.step, ↓binInt, ↓binStr, vopsE0, vopsE1, -vops, -Bool.exists_bool])) | (refine AW.ret ?_; (try simp (implicitDefEqProofs := false) [↓callI, vopsN, vopsG, ↓step_slice, ↓Am.A.step, ↓binInt, ↓binStr, vopsE0, vopsE1, -vops, -Bool.exists_bool])) | (refine AW.exit ?_; (try simp (implicitDefEqProofs := false) [↓callI, vopsN, vopsG, ↓step_slice, ↓Am.A.step, ↓binInt, ↓binStr, vopsE0, vopsE1, -vops, -Bool.exists_bool])))
          simp [hS]
        · simp at h
      · rw [if_neg hzt] at hS
        have ho2 := fun T1 t2 => ho2 T1 t2 (by omega)
        generalize st z q b = R at *
        obtain ⟨r1, r2, r3, r4⟩ := R
        simp only at hS ho2 hle
        have hz' : (if r1 = true then z + 1 else z) ≤ W := by split <;> omega
        generalize (if r1 = true then z + 1 else z) = z' at *
        repeat (first | refine AW.seq ?_ | refine AW.block ?_ | (refine AW.reg mix ?_; (simp (implicitDefEqProofs := false) [↓callI, vopsN, vopsG, ↓step_slice, ↓Am.A.step, ↓binInt, ↓binStr, vopsE0, vopsE1, -vops, -Bool.exists_bool]; try simp (disch := omega) only [w64, wu64])) | (refine need.of (by first | omega | kernel_rfl) ?_) | (refine AW.skip ?_; (try simp (implicitDefEqProofs := false) [↓callI, vopsN, vopsG, ↓step_slice, ↓Am.A.step, ↓binInt, ↓binStr, vopsE0, vopsE1, -vops, -Bool.exists_bool])) | (refine AW.ret ?_; (try simp (implicitDefEqProofs := false) [↓callI, vopsN, vopsG, ↓step_slice, ↓Am.A.step, ↓binInt, ↓binStr, vopsE0, vopsE1, -vops, -Bool.exists_bool])) | (refine AW.exit ?_; (try simp (implicitDefEqProofs := false) [↓callI, vopsN, vopsG, ↓step_slice, ↓Am.A.step, ↓binInt, ↓binStr, vopsE0, vopsE1, -vops, -Bool.exists_bool])))
        refine CallS.obj3 0 6 2 (ho2 _ _) (by first | exact plain_d _ | exact plain_tup2 _ _ | exact plain_tup3 _ _ _) ⟨rfl, fun _ => rfl⟩ ⟨rfl, fun _ => rfl⟩ ⟨rfl, fun _ => rfl⟩ rfl (by rfl) (by rfl) (by rfl) (by decide) (Subs.of (by simp)) ?_
        (try simp (implicitDefEqProofs := false) [↓callI, vopsN, vopsG, ↓step_slice, ↓Am.A.step, ↓binInt, ↓binStr, vopsE0, vopsE1, -vops, -Bool.exists_bool]; try simp (disch := omega) only [w64, wu64])
        repeat (first | refine AW.seq ?_ | refine AW.block ?_ | (refine AW.reg mix ?_; (simp (implicitDefEqProofs := false) [↓callI, vopsN, vopsG, ↓step_slice, ↓Am.A.step, ↓binInt, ↓binStr, vopsE0, vopsE1, -vops, -Bool.exists_bool]; try simp (disch := omega) only [w64, wu64])) | (refine need.of (by first | omega | kernel_rfl) ?_) | (refine AW.skip ?_; (try simp (implicitDefEqProofs := false) [↓callI, vopsN, vopsG, ↓step_slice, ↓Am.A.step, ↓binInt, ↓binStr, vopsE0, vopsE1, -vops, -Bool.exists_bool])) | (refine AW.ret ?_; (try simp (implicitDefEqProofs := false) [↓callI, vopsN, vopsG, ↓step_slice, ↓Am.A.step, ↓binInt, ↓binStr, vopsE0, vopsE1, -vops, -Bool.exists_bool])) | (refine AW.exit ?_; (try simp (implicitDefEqProofs := false) [↓callI, vopsN, vopsG, ↓step_slice, ↓Am.A.step, ↓binInt, ↓binStr, vopsE0, vopsE1, -vops, -Bool.exists_bool])))
        by_cases hr2 : r2 = 0
        · subst hr2
          rw [if_pos rfl] at hS
          refine AW.cond rfl (fun h => ?_) (fun h => ?_)
          · simp at h
          clear h
          cases f with
          | false =>
            rw [if_neg (by simp)] at hS
            repeat (first | refine AW.seq ?_ | refine AW.block ?_ | (refine AW.reg mix ?_; (simp (implicitDefEqProofs := false) [↓callI, vopsN, vopsG, ↓step_slice, ↓Am.A.step, ↓binInt, ↓binStr, vopsE0, vopsE1, -vops, -Bool.exists_bool]; try simp (disch := omega) only [w64, wu64])) | (refine need.of (by first | omega | kernel_rfl) ?_) | (refine AW.skip ?_; (try simp (implicitDefEqProofs := false) [↓callI, vopsN, vopsG, ↓step_slice, ↓Am.A.step, ↓binInt, ↓binStr, vopsE0, vopsE1, -vops, -Bool.exists_bool])) | (refine AW.ret ?_; (try simp (implicitDefEqProofs := false) [↓callI, vopsN, vopsG, ↓step_slice, ↓Am.A.step, ↓binInt, ↓binStr, vopsE0, vopsE1, -vops, -Bool.exists_bool])) | (refine AW.exit ?_; (try simp (implicitDefEqProofs := false) [↓callI, vopsN, vopsG, ↓step_slice, ↓Am.A.step, ↓binInt, ↓binStr, vopsE0, vopsE1, -vops, -Bool.exists_bool])))
            refine AW.cond rfl (fun h => ?_) (fun h => ?_)
            · simp at h
            repeat (first | refine AW.seq ?_ | refine AW.block ?_ | (refine AW.reg mix ?_; (simp (implicitDefEqProofs := false) [↓callI, vopsN, vopsG, ↓step_slice, ↓Am.A.step, ↓binInt, ↓binStr, vopsE0, vopsE1, -vops, ew, -Bool.exists_bool]; try simp (disch := omega) only [w64, wu64])) | (refine need.of (by first | omega | kernel_rfl) ?_) | (refine AW.skip ?_; (try simp (implicitDefEqProofs := false) [↓callI, vopsN, vopsG, ↓step_slice, ↓Am.A.step, ↓binInt, ↓binStr, vopsE0, vopsE1, -vops, ew, -Bool.exists_bool])) | (refine AW.ret ?_; (try simp (implicitDefEqProofs := false) [↓callI, vopsN, vopsG, ↓step_slice, ↓Am.A.step, ↓binInt, ↓binStr, vopsE0, vopsE1, -vops, ew, -Bool.exists_bool])) | (refine AW.exit ?_; (try simp (implicitDefEqProofs := false) [↓callI, vopsN, vopsG, ↓step_slice, ↓Am.A.step, ↓binInt, ↓binStr, vopsE0, vopsE1, -vops, ew, -Bool.exists_bool])))
            exact ⟨i + 1, z', r3, r4, ⟨by omega, hz', hle, by rw [hS]; congr 1; omega⟩, by omega, by simp⟩
          | true =>
            repeat (first | refine AW.seq ?_ | refine AW.block ?_ | (refine AW.reg mix ?_; (simp (implicitDefEqProofs := false) [↓callI, vopsN, vopsG, ↓step_slice, ↓Am.A.step, ↓binInt, ↓binStr, vopsE0, vopsE1, -vops, -Bool.exists_bool]; try simp (disch := omega) only [w64, wu64])) | (refine need.of (by first | omega | kernel_rfl) ?_) | (refine AW.skip ?_; (try simp (implicitDefEqProofs := false) [↓callI, vopsN, vopsG, ↓step_slice, ↓Am.A.step, ↓binInt, ↓binStr, vopsE0, vopsE1, -vops, -Bool.exists_bool])) | (refine AW.ret ?_; (try simp (implicitDefEqProofs := false) [↓callI, vopsN, vopsG, ↓step_slice, ↓Am.A.step, ↓binInt, ↓binStr, vopsE0, vopsE1, -vops, -Bool.exists_bool])) | (refine AW.exit ?_; (try simp (implicitDefEqProofs := false) [↓callI, vopsN, vopsG, ↓step_slice, ↓Am.A.step, ↓binInt, ↓binStr, vopsE0, vopsE1, -vops, -Bool.exists_bool])))
            refine CallS.pure (htop) (by first | exact plain_d _ | exact plain_tup2 _ _ | exact plain_tup3 _ _ _) rfl (fun _ => rfl) (Subs.refl _) ?_
            (try simp (implicitDefEqProofs := false) [↓callI, vopsN, vopsG, ↓step_slice, ↓Am.A.step, ↓binInt, ↓binStr, vopsE0, vopsE1, -vops, -Bool.exists_bool]; try simp (disch := omega) only [w64, wu64])
            repeat (first | refine AW.seq ?_ | refine AW.block ?_ | (refine AW.reg mix ?_; (simp (implicitDefEqProofs := false) [↓callI, vopsN, vopsG, ↓step_slice, ↓Am.A.step, ↓binInt, ↓binStr, vopsE0, vopsE1, -vops, -Bool.exists_bool]; try simp (disch := omega) only [w64, wu64])) | (refine need.of (by first | omega | kernel_rfl) ?_) | (refine AW.skip ?_; (try simp (implicitDefEqProofs := false) [↓callI, vopsN, vopsG, ↓step_slice, ↓Am.A.step, ↓binInt, ↓binStr, vopsE0, vopsE1, -vops, -Bool.exists_bool])) | (refine AW.ret ?_; (try simp (implicitDefEqProofs := false) [↓callI, vopsN, vopsG, ↓step_slice, ↓Am.A.step, ↓binInt, ↓binStr, vopsE0, vopsE1, -vops, -Bool.exists_bool])) | (refine AW.exit ?_; (try simp (implicitDefEqProofs := false) [↓callI, vopsN, vopsG, ↓step_slice, ↓Am.A.step, ↓binInt, ↓binStr, vopsE0, vopsE1, -vops, -Bool.exists_bool])))
            by_cases hb : z' = W
            · rw [if_pos ⟨rfl, hb⟩] at hS
              subst hb
              refine AW.cond rfl (fun h => ?_) (fun h => ?_)
              · refine AW.exit ?_
                (try simp (implicitDefEqProofs := false) [↓callI, vopsN, vopsG, ↓step_slice, ↓Am.A.step, ↓binInt, ↓binStr, vopsE0, vopsE1, -vops, -Bool.exists_bool]; try simp (disch := omega) only [w64, wu64])
                repeat (first | refine AW.seq ?_ | refine AW.block ?_ | (refine AW.reg mix ?_; (simp (implicitDefEqProofs := false) [↓callI, vopsN, vopsG, ↓step_slice, ↓Am.A.step, ↓binInt, ↓binStr, vopsE0, vopsE1, -vops, -Bool.exists_bool]; try simp (disch := omega) only [w64, wu64])) | (refine need.of (by first | omega | kernel_rfl) ?_) | (refine AW.skip ?_; (try simp (implicitDefEqProofs := false) [↓callI, vopsN, vopsG, ↓step_slice, ↓Am.A.step, ↓binInt, ↓binStr, vopsE0, vopsE1, -vops, -Bool.exists_bool])) | (refine AW.ret ?_; (try simp (implicitDefEqProofs := false) [↓callI, vopsN, vopsG, ↓step_slice, ↓Am.A.step, ↓binInt, ↓binStr, vopsE0, vopsE1, -vops, -Bool.exists_bool])) | (refine AW.exit ?_; (try simp (implicitDefEqProofs := false) [↓callI, vopsN, vopsG, ↓step_slice, ↓Am.A.step, ↓binInt, ↓binStr, vopsE0, vopsE1, -vops, -Bool.exists_bool])))
                simp [hS]
              · simp at h
            · rw [if_neg (by simp [hb])] at hS
              have hb' : ¬ (z' : Int) = W := by omega
              refine AW.cond rfl (fun h => ?_) (fun h => ?_)
              · simp [hb, hb'] at h
              repeat (first | refine AW.seq ?_ | refine AW.block ?_ | (refine AW.reg mix ?_; (simp (implicitDefEqProofs := false) [↓callI, vopsN, vopsG, ↓step_slice, ↓Am.A.step, ↓binInt, ↓binStr, vopsE0, vopsE1, -vops, ew, -Bool.exists_bool]; try simp (disch := omega) only [w64, wu64])) | (refine need.of (by first | omega | kernel_rfl) ?_) | (refine AW.skip ?_; (try simp (implicitDefEqProofs := false) [↓callI, vopsN, vopsG, ↓step_slice, ↓Am.A.step, ↓binInt, ↓binStr, vopsE0, vopsE1, -vops, ew, -Bool.exists_bool])) | (refine AW.ret ?_; (try simp (implicitDefEqProofs := false) [↓callI, vopsN, vopsG, ↓step_slice, ↓Am.A.step, ↓binInt, ↓binStr, vopsE0, vopsE1, -vops, ew, -Bool.exists_bool])) | (refine AW.exit ?_; (try simp (implicitDefEqProofs := false) [↓callI, vopsN, vopsG, ↓step_slice, ↓Am.A.step, ↓binInt, ↓binStr, vopsE0, vopsE1, -vops, ew, -Bool.exists_bool])))
              exact ⟨i + 1, z', r3, r4, ⟨by omega, hz', hle, by rw [hS]; congr 1; omega⟩, by omega, by simp⟩
        · rw [if_neg hr2] at hS
          refine AW.cond rfl (fun h => ?_) (fun h => ?_)
          · repeat (first | refine AW.seq ?_ | refine AW.block ?_ | (refine AW.reg mix ?_; (simp (implicitDefEqProofs := false) [↓callI, vopsN, vopsG, ↓step_slice, ↓Am.A.step, ↓binInt, ↓binStr, vopsE0, vopsE1, -vops, -Bool.exists_bool]; try simp (disch := omega) only [w64, wu64])) | (refine need.of (by first | omega | kernel_rfl) ?_) | (refine AW.skip ?_; (try simp (implicitDefEqProofs := false) [↓callI, vopsN, vopsG, ↓step_slice, ↓Am.A.step, ↓binInt, ↓binStr, vopsE0, vopsE1, -vops, -Bool.exists_bool])) | (refine AW.ret ?_; (try simp (implicitDefEqProofs := false) [↓callI, vopsN, vopsG, ↓step_slice, ↓Am.A.step, ↓binInt, ↓binStr, vopsE0, vopsE1, -vops, -Bool.exists_bool])) | (refine AW.exit ?_; (try simp (implicitDefEqProofs := false) [↓callI, vopsN, vopsG, ↓step_slice, ↓Am.A.step, ↓binInt, ↓binStr, vopsE0, vopsE1, -vops, -Bool.exists_bool])))
            simp [hS, hr2]
          · simp [hr2] at h
    · simp [hlt'] at h
end
end Go.Proofs.YtakjegcjeffmgaaGreat.Am
