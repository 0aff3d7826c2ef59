/- Parts of the proof: Bits1, Bits2, Bits3, Reg2, Reg3, Val2, Reg4, Reg5, ChainG, ChainH, AmLaw, Reg6, Val3, Rise2, ValM, RegS, ChainI, ChainJ, RegSL. -/
import Derived.Test.YtdbfenhaljmbfaaGreatPf
namespace Go.Proofs.YtdbfenhaljmbfaaGreat.Am
section
set_option linter.unusedVariables false
set_option linter.unusedSimpArgs false
open Go.RowKit
set_option maxRecDepth 100000
set_option linter.unusedSimpArgs false
set_option linter.unusedVariables false

/-- bytes in cells -/
def u8s (ws : List Nat) : List V := ws.map fun x : Nat => V.d (.int .u8 x)
/-- bytes, as data -/
def BY (ws : List Nat) : D := .sl ws.length (ws.map fun x : Nat => .int .u8 x)
theorem u8s_length (ws : List Nat) : (u8s ws).length = ws.length := by simp [u8s]
theorem u8s_get {ws : List Nat} {j : Nat} (h : j < ws.length) : (u8s ws)[j]? = some (.d (.int .u8 (ws.getD j 0 : Nat))) := by simp [u8s, h]
theorem u8s_set (ws : List Nat) (j v : Nat) : (u8s ws).set j (.d (.int .u8 v)) = u8s (ws.set j v) := by simp [u8s, List.map_set]
theorem u8s_snoc (ws : List Nat) (v : Nat) : u8s ws ++ [.d (.int .u8 v)] = u8s (ws ++ [v]) := by simp [u8s]
@[simp] theorem u8s_low (n : Nat) (ws : List Nat) : V.lowl n (u8s ws) = true := by induction ws <;> simp_all [u8s]
@[simp] theorem u8s_ren (θ : Nat → Nat) (ws : List Nat) : V.rens θ (u8s ws) = u8s ws := by induction ws <;> simp_all [u8s]
/-- a writer's variable, its bytes -/
def wrO (m : Nat) (bs : List Bool) : Ob := ⟨138, [.own m 1 ((bs.length + 7) / 8), .d (.int .i64 bs.length)]⟩
def wrB (bs : List Bool) : Ob := ⟨5, u8s (bytesOf bs)⟩

theorem or_u8 (x y : Nat) (hx : x < 256) (hy : y < 256) : bits BinOp.or IntKind.u8 (x : Int) (y : Int) = ((x ||| y : Nat) : Int) := by
  show IntKind.u8.wrap (((BitVec.ofInt 8 (x : Int)) ||| (BitVec.ofInt 8 (y : Int))).toNat : Int) = _
  rw [BitVec.toNat_or, BitVec.ofInt_natCast, BitVec.ofInt_natCast, BitVec.toNat_ofNat, BitVec.toNat_ofNat, Nat.mod_eq_of_lt (by omega), Nat.mod_eq_of_lt (by omega)]
  have := Nat.or_lt_two_pow (n := 8) (x := x) (y := y) hx hy
  rw [IntKind.wrap_u8]
  omega
theorem or_step {c r : Nat} (hr : r < 8) (h : c * 2 ^ (8 - r) < 256) : bits BinOp.or IntKind.u8 ((c * 2 ^ (8 - r) : Nat) : Int) ((2 ^ (7 - r) : Nat) : Int) = ((c * 2 ^ (8 - r) + 2 ^ (7 - r) : Nat) : Int) := by
  have h2 : 2 ^ (7 - r) < 2 ^ (8 - r) := Nat.pow_lt_pow_right (by omega) (by omega)
  have h3 : 2 ^ (7 - r) ≤ 2 ^ 7 := Nat.pow_le_pow_right (by omega) (by omega)
  rw [or_u8 _ _ h (by omega), Nat.mul_comm c, Nat.two_pow_add_eq_or_of_lt h2]

theorem wbit0_ok (b : Bool) : Eqn Tryz.prog n_bits_Writer_Bit [.p 0 0, .d (.bool b)] [⟨138, [.d .nilsl, .d (.int .i64 0)]⟩] (.tup []) [wrO 1 [b], wrB [b]] := by
  refine Eqn.gen [0, 2] r_bits_Writer_Bit (by simp) (by simp) (by rfl) (by decide) (by simp) (by simp [wrO, wrB, u8s_low]) ?_
  simp only [c_bits_Writer_Bit]
  have e1 : IntKind.i64.wrap 1 = 1 := w64 (by omega) (by omega)
  have e2 : bits BinOp.or IntKind.u8 0 (IntKind.u8.wrap 128) = 128 := by decide
  repeat (first | refine AW.seq ?_ | refine AW.block ?_ | (refine AW.reg mix ?_; simp -implicitDefEqProofs; try simp (disch := omega) only [w64, wu64]) | (refine need.of (by first | omega | kernel_rfl) ?_) | (refine AW.fin ?_; try simp -implicitDefEqProofs))
  refine AW.cond rfl (fun h => ?_) (fun h => ?_)
  · repeat (first | refine AW.seq ?_ | refine AW.block ?_ | (refine AW.reg mix ?_; simp -implicitDefEqProofs; try simp (disch := omega) only [w64, wu64]) | (refine need.of (by first | omega | kernel_rfl) ?_) | (refine AW.fin ?_; try simp -implicitDefEqProofs))
    cases b with
    | true =>
      refine AW.cond rfl (fun h => ?_) (fun h => ?_)
      · repeat (first | refine AW.seq ?_ | refine AW.block ?_ | (refine AW.reg mix ?_; simp -implicitDefEqProofs [e1, e2]; try simp (disch := omega) only [w64, wu64]) | (refine need.of (by first | omega | kernel_rfl) ?_) | (refine AW.fin ?_; try simp -implicitDefEqProofs [e1, e2]))
        simp [wrO, wrB, u8s, bytesOf, byteAt, bit, b2n, List.range_succ]
      · simp at h
    | false =>
      refine AW.cond rfl (fun h => ?_) (fun h => ?_)
      · simp at h
      · repeat (first | refine AW.seq ?_ | refine AW.block ?_ | (refine AW.reg mix ?_; simp -implicitDefEqProofs [e1, e2]; try simp (disch := omega) only [w64, wu64]) | (refine need.of (by first | omega | kernel_rfl) ?_) | (refine AW.fin ?_; try simp -implicitDefEqProofs [e1, e2]))
        simp [wrO, wrB, u8s, bytesOf, byteAt, bit, b2n, List.range_succ]
  · simp at h

theorem wbit_ok (bs : List Bool) (b : Bool) (h0 : bs ≠ []) (hn : bs.length ≤ 1000000) : EqnD Tryz.prog n_bits_Writer_Bit [.p 0 0, .d (.bool b)] [wrO 1 bs, wrB bs] (.tup []) [wrO 2 (bs ++ [b]), wrB bs, wrB (bs ++ [b])] [1] := by
  have e1 : IntKind.i64.wrap ((bs.length : Int) + 1) = (bs.length : Int) + 1 := w64 (by omega) (by omega)
  have e2 : ((bs.length : Nat) : Int).tmod 8 = ((bs.length % 8 : Nat) : Int) := by rw [Int.tmod_eq_emod_of_nonneg (by omega)]; rfl
  have e2' : ((bs.length : Nat) : Int) % 8 = ((bs.length % 8 : Nat) : Int) := rfl
  have e3 : IntKind.i64.wrap (((bs.length : Nat) : Int) / 8) = ((bs.length / 8 : Nat) : Int) := by rw [w64 (by omega) (by omega)]; rfl
  by_cases hr : bs.length % 8 = 0
  · refine Eqn.gen [0, 1, 3] r_bits_Writer_Bit (by simp) (by simp) (by rfl) (by decide) (by simp) (by simp [wrO, wrB, u8s_low]) ?_
    have hb := bytesOf_snoc0 (b := b) hr
    have hl : (bytesOf bs).length = bs.length / 8 := by rw [bytesOf_len]; omega
    simp only [c_bits_Writer_Bit, wrO, wrB, hb, List.length_append, List.length_singleton]
    rw [show (bs.length + 7) / 8 = bs.length / 8 by omega, show (bs.length + 1 + 7) / 8 = bs.length / 8 + 1 by omega]
    rw [hr] at e2 e2'
    have hg : (u8s (bytesOf bs ++ [0]))[bs.length / 8]? = some (.d (.int .u8 0)) := by rw [u8s_get (by simp; omega)]; simp [List.getD, ← hl]
    have hs : ∀ v, (u8s (bytesOf bs ++ [0])).set (bs.length / 8) (.d (.int .u8 v)) = u8s (bytesOf bs) ++ [.d (.int .u8 v)] := fun v => by simp [u8s, ← hl]
    have hu := u8s_snoc (bytesOf bs) 0
    have hu2 := u8s_snoc (bytesOf bs) (b2n b * 128)
    have hlen := u8s_length (bytesOf bs)
    rw [hl] at hlen
    generalize bytesOf bs = ws at *
    have hq : bs.length / 8 ≤ 1000000 := by omega
    generalize bs.length / 8 = q at *
    generalize bs.length = n at *
    have e4 : bits BinOp.or IntKind.u8 0 (IntKind.u8.wrap 128) = 128 := by decide
    simp at hu
    have hlen2 : (u8s (ws ++ [0])).length = q + 1 := by rw [u8s_length]; simp; omega
    repeat (first | refine AW.seq ?_ | refine AW.block ?_ | (refine AW.reg mix ?_; simp -implicitDefEqProofs [e2, e2', hu]; try simp (disch := omega) only [w64, wu64]) | (refine need.of (by first | omega | kernel_rfl) ?_) | (refine AW.fin ?_; try simp -implicitDefEqProofs [e2, e2', hu]))
    refine AW.cond rfl (fun h => ?_) (fun h => ?_)
    · repeat (first | refine AW.seq ?_ | refine AW.block ?_ | (refine AW.reg mix ?_; simp -implicitDefEqProofs [e2, e2', hu]; try simp (disch := omega) only [w64, wu64]) | (refine need.of (by first | omega | kernel_rfl) ?_) | (refine AW.fin ?_; try simp -implicitDefEqProofs [e2, e2', hu]))
      cases b with
      | true =>
        simp [b2n] at hu2
        refine AW.cond rfl (fun h => ?_) (fun h => ?_)
        · repeat (first | refine AW.seq ?_ | refine AW.block ?_ | (refine AW.reg mix ?_; simp -implicitDefEqProofs [e1, e2, e2', e3, e4, hg, hs]; try simp (disch := omega) only [w64, wu64]) | (refine need.of (by first | omega | kernel_rfl) ?_) | (refine AW.fin ?_; try simp -implicitDefEqProofs [e1, e2, e2', e3, e4, hg, hs]))
          simp [hu2, b2n]
        · simp at h
      | false =>
        simp [b2n] at hu2
        refine AW.cond rfl (fun h => ?_) (fun h => ?_)
        · simp at h
        · repeat (first | refine AW.seq ?_ | refine AW.block ?_ | (refine AW.reg mix ?_; simp -implicitDefEqProofs [e1]; try simp (disch := omega) only [w64, wu64]) | (refine need.of (by first | omega | kernel_rfl) ?_) | (refine AW.fin ?_; try simp -implicitDefEqProofs [e1]))
          simp [hu2, b2n]
    · simp at h
  · refine Eqn.gen [0, 1, 1] r_bits_Writer_Bit (by simp) (by simp) (by rfl) (by decide) (by simp) (by simp [wrO, wrB, u8s_low]) ?_
    obtain ⟨c, hc, hb⟩ := bytesOf_snoc (b := b) hr
    have hlt : c * 2 ^ (8 - bs.length % 8) < 256 := by
      rw [← hc]
      have : (bytesOf bs).getD (bs.length / 8) 0 = byteAt bs (bs.length / 8) := by
        unfold bytesOf
        rw [List.getD_eq_getElem?_getD, List.getElem?_map, List.getElem?_range (by omega)]; rfl
      rw [this]; exact byteAt_lt _ _
    have hor := or_step (r := bs.length % 8) (Nat.mod_lt _ (by omega)) hlt
    have hR : bs.length % 8 < 8 := Nat.mod_lt _ (by omega)
    have hl : (bytesOf bs).length = bs.length / 8 + 1 := by rw [bytesOf_len]; omega
    have hg := u8s_get (ws := bytesOf bs) (j := bs.length / 8) (by omega)
    rw [hc] at hg
    have hs := u8s_set (bytesOf bs) (bs.length / 8)
    have hset : c * 2 ^ (8 - bs.length % 8) = (bytesOf bs).getD (bs.length / 8) 0 := hc.symm
    have hkeep : (bytesOf bs).set (bs.length / 8) (c * 2 ^ (8 - bs.length % 8)) = bytesOf bs := by
      rw [hset]
      apply List.ext_getElem?
      intro i
      rw [List.getElem?_set]
      split
      · rename_i h; subst h
        rw [if_pos (by omega), List.getD_eq_getElem?_getD, List.getElem?_eq_getElem (by omega)]; rfl
      · rfl
    have h7 : 2 ^ (7 - bs.length % 8) ≤ 2 ^ 7 := Nat.pow_le_pow_right (by omega) (by omega)
    simp only [c_bits_Writer_Bit, wrO, wrB, hb, List.length_append, List.length_singleton]
    rw [show (bs.length + 7) / 8 = bs.length / 8 + 1 by omega, show (bs.length + 1 + 7) / 8 = bs.length / 8 + 1 by omega]
    have e5 : IntKind.i64.wrap (7 - ((bs.length % 8 : Nat) : Int)) = ((7 - bs.length % 8 : Nat) : Int) := by rw [w64 (by omega) (by omega)]; omega
    have e6 : IntKind.u8.wrap (2 ^ (7 - bs.length % 8)) = ((2 ^ (7 - bs.length % 8) : Nat) : Int) := by
      have : ((2 : Int) ^ (7 - bs.length % 8)) = ((2 ^ (7 - bs.length % 8) : Nat) : Int) := by rw [Int.natCast_pow]; rfl
      rw [IntKind.wrap_u8, this]
      exact Int.emod_eq_of_lt (Int.natCast_nonneg _) (by exact_mod_cast Nat.lt_of_le_of_lt h7 (by decide))
    have e7 : 7 - bs.length % 8 ≤ 7 := by omega
    have hlen := u8s_length (bytesOf bs)
    rw [hl] at hlen
    clear hset hc hl hb
    generalize bytesOf bs = ws at *
    generalize bs.length / 8 = q at *
    generalize bs.length % 8 = r at *
    generalize bs.length = n at *
    generalize 2 ^ (7 - r) = P at *
    generalize c * 2 ^ (8 - r) = C at *
    have hCP : C + b2n b * P = if b then C + P else C := by cases b <;> simp [b2n]
    rw [hCP]
    have hr' : ¬ (r : Int) = 0 := by omega
    repeat (first | refine AW.seq ?_ | refine AW.block ?_ | (refine AW.reg mix ?_; simp -implicitDefEqProofs [e2, e2', hr, hr']; try simp (disch := omega) only [w64, wu64]) | (refine need.of (by first | omega | kernel_rfl) ?_) | (refine AW.fin ?_; try simp -implicitDefEqProofs [e2, e2', hr, hr']))
    refine AW.cond rfl (fun h => ?_) (fun h => ?_)
    · simp [hr, hr'] at h
    · repeat (first | refine AW.seq ?_ | refine AW.block ?_ | (refine AW.reg mix ?_; simp -implicitDefEqProofs; try simp (disch := omega) only [w64, wu64]) | (refine need.of (by first | omega | kernel_rfl) ?_) | (refine AW.fin ?_; try simp -implicitDefEqProofs))
      cases b with
      | true =>
        refine AW.cond rfl (fun h => ?_) (fun h => ?_)
        · repeat (first | refine AW.seq ?_ | refine AW.block ?_ | (refine AW.reg mix ?_; simp -implicitDefEqProofs [e1, e2, e2', e3, e5, e6, e7, hg, hor, hs]; try simp (disch := omega) only [w64, wu64]) | (refine need.of (by first | omega | kernel_rfl) ?_) | (refine AW.fin ?_; try simp -implicitDefEqProofs [e1, e2, e2', e3, e5, e6, e7, hg, hor, hs]))
          exact Subs.of (by rw [← hs]; simp)
        · simp at h
      | false =>
        refine AW.cond rfl (fun h => ?_) (fun h => ?_)
        · simp at h
        · repeat (first | refine AW.seq ?_ | refine AW.block ?_ | (refine AW.reg mix ?_; simp -implicitDefEqProofs [e1]; try simp (disch := omega) only [w64, wu64]) | (refine need.of (by first | omega | kernel_rfl) ?_) | (refine AW.fin ?_; try simp -implicitDefEqProofs [e1]))
          simp [hkeep]

theorem wlen_ok (m : Nat) (bs : List Bool) : Eqn Tryz.prog n_bits_Writer_Len [.p 0 0] [wrO 1 bs, wrB bs] (.d (.int .i64 bs.length)) [wrO 1 bs, wrB bs] := by
  refine Eqn.gen [0, 1] r_bits_Writer_Len (by simp) (by simp) (by rfl) (by decide) (by simp) (by simp [wrO, wrB]) ?_
  simp only [c_bits_Writer_Len, wrO, wrB]
  repeat (first | refine AW.seq ?_ | refine AW.block ?_ | (refine AW.reg mix ?_; simp -implicitDefEqProofs; try simp (disch := omega) only [w64, wu64]) | (refine need.of (by first | omega | kernel_rfl) ?_) | (refine AW.fin ?_; try simp -implicitDefEqProofs))

theorem bgood_ok (w : Int) : Eqn Tryz.prog n_bits_good [.d (.int .i64 w)] [] (.d (.bool (decide (0 ≤ w ∧ w ≤ 64)))) [] := by
  refine Eqn.pure r_bits_good (plain_d _) ?_
  simp only [c_bits_good]
  by_cases h : 0 ≤ w
  · repeat (first | refine AW.seq ?_ | refine AW.block ?_ | (refine AW.reg mix ?_; simp -implicitDefEqProofs [h]; try simp (disch := omega) only [w64, wu64]) | (refine need.of (by first | omega | kernel_rfl) ?_) | (refine AW.fin ?_; try simp -implicitDefEqProofs [h]))
  · have h' : w < 0 := by omega
    repeat (first | refine AW.seq ?_ | refine AW.block ?_ | (refine AW.reg mix ?_; simp -implicitDefEqProofs [h, h']; try simp (disch := omega) only [w64, wu64]) | (refine need.of (by first | omega | kernel_rfl) ?_) | (refine AW.fin ?_; try simp -implicitDefEqProofs [h, h']))

/-- it fits into so many bits -/
theorem bfits_ok (n w : Nat) (hw : w ≤ 64) (h : n < 2 ^ w) : Eqn Tryz.prog n_bits_fits [.d (.int .u64 n), .d (.int .i64 w)] [] (.d (.bool true)) [] := by
  refine Eqn.pure r_bits_fits (plain_d _) ?_
  simp only [c_bits_fits]
  by_cases h64 : w = 64
  · subst h64
    repeat (first | refine AW.seq ?_ | refine AW.block ?_ | (refine AW.reg mix ?_; simp -implicitDefEqProofs; try simp (disch := omega) only [w64, wu64]) | (refine need.of (by first | omega | kernel_rfl) ?_) | (refine AW.fin ?_; try simp -implicitDefEqProofs))
  · have h1 : ¬ (w : Int) = 64 := by omega
    have h2 : ((n : Int) / 2 ^ w) = 0 := by
      have : ((2 : Int) ^ w) = ((2 ^ w : Nat) : Int) := by rw [Int.natCast_pow]; rfl
      rw [this, ← Int.natCast_ediv, Nat.div_eq_of_lt h]; rfl
    have h3 : w < 64 := by omega
    repeat (first | refine AW.seq ?_ | refine AW.block ?_ | (refine AW.reg mix ?_; simp -implicitDefEqProofs [h64, h1, h2, h3]; try simp (disch := omega) only [w64, wu64]) | (refine need.of (by first | omega | kernel_rfl) ?_) | (refine AW.fin ?_; try simp -implicitDefEqProofs [h64, h1, h2, h3]))

theorem bits_and1 (x : Nat) (hx : x < 18446744073709551616) : bits BinOp.and IntKind.u64 (x : Int) 1 = ((x % 2 : Nat) : Int) := by
  show IntKind.u64.wrap (((BitVec.ofInt 64 (x : Int)) &&& (BitVec.ofInt 64 (1 : Int))).toNat : Int) = _
  have h1 : (BitVec.ofInt 64 (1 : Int)).toNat = 1 := by decide
  rw [BitVec.toNat_and, h1, BitVec.ofInt_natCast, BitVec.toNat_ofNat, Nat.mod_eq_of_lt (by omega), Nat.and_one_is_mod, IntKind.wrap_u64]
  omega

theorem bitsW_take (n w i : Nat) (h : i < w) : (bitsW n w).take (i + 1) = (bitsW n w).take i ++ [decide (n / 2 ^ (w - 1 - i) % 2 = 1)] := by
  rw [List.take_add_one, List.getElem?_eq_getElem (by simpa using h)]
  simp [bitsW]

set_option maxHeartbeats 1000000 in
theorem wnum0_ok (n w : Nat) (h0 : 0 < w) (hw : w ≤ 64) (h : n < 2 ^ w) (hn : n < 18446744073709551616) : Eqn Tryz.prog n_bits_Writer_Num [.p 0 0, .d (.int .u64 n), .d (.int .i64 w)] [⟨138, [.d .nilsl, .d (.int .i64 0)]⟩] (.d (.int .i64 0)) [wrO 1 (bitsW n w), wrB (bitsW n w)] := by
  refine Eqn.gen [0, 1] r_bits_Writer_Num (by simp) (by simp) (by rfl) (by decide) (by simp) (by simp [wrO, wrB]) ?_
  simp only [c_bits_Writer_Num]
  have hg := bgood_ok w
  rw [show decide (0 ≤ (w : Int) ∧ (w : Int) ≤ 64) = true by simp; omega] at hg
  repeat (first | refine AW.seq ?_ | refine AW.block ?_ | (refine AW.reg mix ?_; simp -implicitDefEqProofs; try simp (disch := omega) only [w64, wu64]) | (refine need.of (by first | omega | kernel_rfl) ?_) | (refine AW.fin ?_; try simp -implicitDefEqProofs))
  refine CallS.pu (hg) ?_
  (try (simp -implicitDefEqProofs; try simp (disch := omega) only [w64, wu64]))
  repeat (first | refine AW.seq ?_ | refine AW.block ?_ | (refine AW.reg mix ?_; simp -implicitDefEqProofs; try simp (disch := omega) only [w64, wu64]) | (refine need.of (by first | omega | kernel_rfl) ?_) | (refine AW.fin ?_; try simp -implicitDefEqProofs))
  refine CallS.pu (bfits_ok n w hw h) ?_
  (try (simp -implicitDefEqProofs; try simp (disch := omega) only [w64, wu64]))
  repeat (first | refine AW.seq ?_ | refine AW.block ?_ | (refine AW.reg mix ?_; simp -implicitDefEqProofs; try simp (disch := omega) only [w64, wu64]) | (refine need.of (by first | omega | kernel_rfl) ?_) | (refine AW.fin ?_; try simp -implicitDefEqProofs))
  refine AW.cond rfl (fun h => ?_) (fun h => ?_)
  · simp at h
  clear h
  repeat (first | refine AW.seq ?_ | refine AW.block ?_ | (refine AW.reg mix ?_; simp -implicitDefEqProofs; try simp (disch := omega) only [w64, wu64]) | (refine need.of (by first | omega | kernel_rfl) ?_) | (refine AW.fin ?_; try simp -implicitDefEqProofs))
  refine AW.loopG (α := Nat) (fun i => [.p 0 0, .d (.int .u64 n), .d (.int .i64 w)] ++ List.replicate 3 .junk ++ [.d (.int .i64 0)] ++ List.replicate 10 .junk ++ [.d (.int .i64 w), .d (.int .i64 (i : Int))] ++ List.replicate 13 .junk) (fun i => if i = 0 then [some ⟨138, [.d .nilsl, .d (.int .i64 0)]⟩] else [some (wrO 1 ((bitsW n w).take i)), some (wrB ((bitsW n w).take i))]) (fun i => i ≤ w) (fun i => w - i) 0 ?_ (Nat.zero_le _) ?_ ?_ ?_
  · intro i hi; split <;> simp
  · simp
  · simp
  rintro i hi
  obtain ⟨W, hW⟩ : ∃ W, W = w - 1 := ⟨_, rfl⟩
  have e2 : IntKind.i64.wrap ((w : Int) - 1) = (W : Int) := by rw [w64 (by omega) (by omega)]; omega
  have hnum : i < w → ∃ (S X : Nat) (b : Bool), IntKind.i64.wrap ((W : Int) - i) = (S : Int) ∧ S = W - i ∧ (n : Int) / 2 ^ S = (X : Int) ∧ bits BinOp.and IntKind.u64 (X : Int) 1 = (X : Int) % 2 ∧ ((X : Int) % 2 == 1) = b ∧ (bitsW n w).take (i + 1) = (bitsW n w).take i ++ [b] := by
    intro h
    refine ⟨W - i, n / 2 ^ (W - i), decide (n / 2 ^ (W - i) % 2 = 1), by rw [w64 (by omega) (by omega)]; omega, rfl, ?_, ?_, ?_, by rw [hW]; exact bitsW_take n w i h⟩
    · rw [Int.natCast_ediv, Int.natCast_pow]; rfl
    · exact bits_and1 _ (Nat.lt_of_le_of_lt (Nat.div_le_self _ _) hn)
    · generalize n / 2 ^ (W - i) = z; rw [Bool.eq_iff_iff]; simp; omega
  have hend : (bitsW n w).take w = bitsW n w := List.take_of_length_le (by simp)
  have htl : ∀ k, k ≤ w → ((bitsW n w).take k).length = k := fun k h => by rw [List.length_take, bitsW_len]; omega
  have e1 : IntKind.i64.wrap ((i : Int) + 1) = ((i + 1 : Nat) : Int) := by rw [w64 (by omega) (by omega)]; omega
  by_cases hiw : i = w
  · subst hiw
    rw [if_neg (by omega), hend]
    generalize bitsW n i = bs at *
    simp [wrO, wrB]
    repeat (first | refine AW.seq ?_ | refine AW.block ?_ | (refine AW.reg mix ?_; simp -implicitDefEqProofs; try simp (disch := omega) only [w64, wu64]) | (refine need.of (by first | omega | kernel_rfl) ?_) | (refine AW.fin ?_; try simp -implicitDefEqProofs))
    refine AW.cond rfl (fun h => ?_) (fun h => ?_)
    · simp at h
    repeat (first | refine AW.seq ?_ | refine AW.block ?_ | (refine AW.reg mix ?_; simp -implicitDefEqProofs; try simp (disch := omega) only [w64, wu64]) | (refine need.of (by first | omega | kernel_rfl) ?_) | (refine AW.fin ?_; try simp -implicitDefEqProofs))
  · have hlt : i < w := by omega
    have hlt' : (i : Int) < w := by omega
    obtain ⟨S, X, b, e3, e4, e5, e6, e7, e8⟩ := hnum hlt
    have e4' : (S : Int) ≤ 64 := by omega
    have e4w : (W : Int) ≤ 64 := by omega
    by_cases hi0 : i = 0
    · subst hi0
      rw [if_pos rfl]
      rw [Nat.sub_zero] at e4
      subst e4
      simp
      repeat (first | refine AW.seq ?_ | refine AW.block ?_ | (refine AW.reg mix ?_; simp -implicitDefEqProofs [hlt, hlt']; try simp (disch := omega) only [w64, wu64]) | (refine need.of (by first | omega | kernel_rfl) ?_) | (refine AW.fin ?_; try simp -implicitDefEqProofs [hlt, hlt']))
      refine AW.cond rfl (fun h => ?_) (fun h => ?_)
      · repeat (first | refine AW.seq ?_ | refine AW.block ?_ | (refine AW.reg mix ?_; simp -implicitDefEqProofs [e2, e4w, e5, e6, e7]; try simp (disch := omega) only [w64, wu64]) | (refine need.of (by first | omega | kernel_rfl) ?_) | (refine AW.fin ?_; try simp -implicitDefEqProofs [e2, e4w, e5, e6, e7]))
        simp only [Int.toNat_natCast, e5, e6, e7]
        refine CallS.g [0] (wbit0_ok b) ?_
        (try (simp -implicitDefEqProofs; try simp (disch := omega) only [w64, wu64]))
        repeat (first | refine AW.seq ?_ | refine AW.block ?_ | (refine AW.reg mix ?_; simp -implicitDefEqProofs; try simp (disch := omega) only [w64, wu64]) | (refine need.of (by first | omega | kernel_rfl) ?_) | (refine AW.fin ?_; try simp -implicitDefEqProofs))
        refine ⟨1, 1, 1, by simp, by omega, by omega, ?_, ?_⟩
        · simp [swT, sw, V.ren, V.rens]
        · simp at e8
          simp [swH, sw, Ob.sw, V.ren, V.rens, e8, wrO, wrB]
      · simp [hlt'] at h
    · rw [if_neg hi0]
      have hne : (bitsW n w).take i ≠ [] := fun h => by have := htl i hi; rw [h] at this; simp at this; omega
      have hB := wbit_ok ((bitsW n w).take i) b hne (by have := htl i hi; omega)
      rw [← e8] at hB
      have hk := htl (i + 1) (by omega)
      have hk0 := htl i hi
      simp only [wrO, wrB, hk, hk0] at hB ⊢
      simp
      repeat (first | refine AW.seq ?_ | refine AW.block ?_ | (refine AW.reg mix ?_; simp -implicitDefEqProofs [hlt, hlt']; try simp (disch := omega) only [w64, wu64]) | (refine need.of (by first | omega | kernel_rfl) ?_) | (refine AW.fin ?_; try simp -implicitDefEqProofs [hlt, hlt']))
      refine AW.cond rfl (fun h => ?_) (fun h => ?_)
      · repeat (first | refine AW.seq ?_ | refine AW.block ?_ | (refine AW.reg mix ?_; simp -implicitDefEqProofs [e2, e3, e4', e5, e6, e7]; try simp (disch := omega) only [w64, wu64]) | (refine need.of (by first | omega | kernel_rfl) ?_) | (refine AW.fin ?_; try simp -implicitDefEqProofs [e2, e3, e4', e5, e6, e7]))
        refine CallS.g [0, 1] (hB) ?_
        (try (simp -implicitDefEqProofs [e1]; try simp (disch := omega) only [w64, wu64]))
        repeat (first | refine AW.seq ?_ | refine AW.block ?_ | (refine AW.reg mix ?_; simp -implicitDefEqProofs [e1]; try simp (disch := omega) only [w64, wu64]) | (refine need.of (by first | omega | kernel_rfl) ?_) | (refine AW.fin ?_; try simp -implicitDefEqProofs [e1]))
        refine ⟨i + 1, 1, 2, by simp, by omega, by omega, ?_, ?_⟩
        · simp [swT, sw, V.ren, V.rens, e1]
        · have hmin : min (i + 1) w = i + 1 := Nat.min_eq_left (by omega)
          simp [swH, sw, Ob.sw, V.ren, V.rens, hk, hmin]
      · simp [hlt'] at h
end
end Go.Proofs.YtdbfenhaljmbfaaGreat.Am
namespace Go.Proofs.YtdbfenhaljmbfaaGreat.Am
section
set_option linter.unusedVariables false
set_option linter.unusedSimpArgs false
open Go.RowKit
set_option maxRecDepth 100000
set_option linter.unusedSimpArgs false
set_option linter.unusedVariables false

set_option maxHeartbeats 1000000 in
theorem wnum_ok (bs : List Bool) (n w : Nat) (hbs : bs ≠ []) (hbl : bs.length ≤ 900000) (hw : w ≤ 64) (h : n < 2 ^ w) (hn : n < 18446744073709551616) : EqnD Tryz.prog n_bits_Writer_Num [.p 0 0, .d (.int .u64 n), .d (.int .i64 w)] [wrO 1 bs, wrB bs] (.d (.int .i64 0)) [wrO 2 (bs ++ bitsW n w), wrB bs, wrB (bs ++ bitsW n w)] [1] := by
  have hg := bgood_ok w
  rw [show decide (0 ≤ (w : Int) ∧ (w : Int) ≤ 64) = true by simp; omega] at hg
  by_cases hw0 : w = 0
  · subst hw0
    refine Eqn.gen [0, 1, 1] r_bits_Writer_Num (by simp) (by simp) (by rfl) (by decide) (by simp) (by simp [wrO, wrB]) ?_
    rw [show bitsW n 0 = [] by rfl, List.append_nil]
    simp only [c_bits_Writer_Num, wrO, wrB]
    have hf := bfits_ok n 0 hw h
    simp at hg hf
    repeat (first | refine AW.seq ?_ | refine AW.block ?_ | (refine AW.reg mix ?_; simp -implicitDefEqProofs; try simp (disch := omega) only [w64, wu64]) | (refine need.of (by first | omega | kernel_rfl) ?_) | (refine AW.fin ?_; try simp -implicitDefEqProofs))
    refine CallS.pu (hg) ?_
    (try (simp -implicitDefEqProofs; try simp (disch := omega) only [w64, wu64]))
    repeat (first | refine AW.seq ?_ | refine AW.block ?_ | (refine AW.reg mix ?_; simp -implicitDefEqProofs; try simp (disch := omega) only [w64, wu64]) | (refine need.of (by first | omega | kernel_rfl) ?_) | (refine AW.fin ?_; try simp -implicitDefEqProofs))
    refine CallS.pu (hf) ?_
    (try (simp -implicitDefEqProofs; try simp (disch := omega) only [w64, wu64]))
    repeat (first | refine AW.seq ?_ | refine AW.block ?_ | (refine AW.reg mix ?_; simp -implicitDefEqProofs; try simp (disch := omega) only [w64, wu64]) | (refine need.of (by first | omega | kernel_rfl) ?_) | (refine AW.fin ?_; try simp -implicitDefEqProofs))
    refine AW.cond rfl (fun h => ?_) (fun h => ?_)
    · simp at h
    clear h
    repeat (first | refine AW.seq ?_ | refine AW.block ?_ | (refine AW.reg mix ?_; simp -implicitDefEqProofs; try simp (disch := omega) only [w64, wu64]) | (refine need.of (by first | omega | kernel_rfl) ?_) | (refine AW.fin ?_; try simp -implicitDefEqProofs))
    refine AW.loopT (α := Nat) 2 (fun i => [(18, .d (.int .i64 0))]) (fun i => []) (fun i => i = 0) (fun i => i) 0 ?_ ?_ rfl ?_ ?_ ?_
    · simp
    · simp
    · simp
    · simp
    rintro i rfl
    simp
    repeat (first | refine AW.seq ?_ | refine AW.block ?_ | (refine AW.reg mix ?_; simp -implicitDefEqProofs; try simp (disch := omega) only [w64, wu64]) | (refine need.of (by first | omega | kernel_rfl) ?_) | (refine AW.fin ?_; try simp -implicitDefEqProofs))
    refine AW.cond rfl (fun h => ?_) (fun h => ?_)
    · simp at h
    repeat (first | refine AW.seq ?_ | refine AW.block ?_ | (refine AW.reg mix ?_; simp -implicitDefEqProofs; try simp (disch := omega) only [w64, wu64]) | (refine need.of (by first | omega | kernel_rfl) ?_) | (refine AW.fin ?_; try simp -implicitDefEqProofs))
  have h0 : 0 < w := by omega
  refine Eqn.gen [0, 1, 2] r_bits_Writer_Num (by simp) (by simp) (by rfl) (by decide) (by simp) (by simp [wrO, wrB]) ?_
  simp only [c_bits_Writer_Num]
  repeat (first | refine AW.seq ?_ | refine AW.block ?_ | (refine AW.reg mix ?_; simp -implicitDefEqProofs; try simp (disch := omega) only [w64, wu64]) | (refine need.of (by first | omega | kernel_rfl) ?_) | (refine AW.fin ?_; try simp -implicitDefEqProofs))
  refine CallS.pu (hg) ?_
  (try (simp -implicitDefEqProofs; try simp (disch := omega) only [w64, wu64]))
  repeat (first | refine AW.seq ?_ | refine AW.block ?_ | (refine AW.reg mix ?_; simp -implicitDefEqProofs; try simp (disch := omega) only [w64, wu64]) | (refine need.of (by first | omega | kernel_rfl) ?_) | (refine AW.fin ?_; try simp -implicitDefEqProofs))
  refine CallS.pu (bfits_ok n w hw h) ?_
  (try (simp -implicitDefEqProofs; try simp (disch := omega) only [w64, wu64]))
  repeat (first | refine AW.seq ?_ | refine AW.block ?_ | (refine AW.reg mix ?_; simp -implicitDefEqProofs; try simp (disch := omega) only [w64, wu64]) | (refine need.of (by first | omega | kernel_rfl) ?_) | (refine AW.fin ?_; try simp -implicitDefEqProofs))
  refine AW.cond rfl (fun h => ?_) (fun h => ?_)
  · simp at h
  clear h
  repeat (first | refine AW.seq ?_ | refine AW.block ?_ | (refine AW.reg mix ?_; simp -implicitDefEqProofs; try simp (disch := omega) only [w64, wu64]) | (refine need.of (by first | omega | kernel_rfl) ?_) | (refine AW.fin ?_; try simp -implicitDefEqProofs))
  refine AW.loopG (α := Nat) (fun i => [.p 0 0, .d (.int .u64 n), .d (.int .i64 w)] ++ List.replicate 3 .junk ++ [.d (.int .i64 0)] ++ List.replicate 10 .junk ++ [.d (.int .i64 w), .d (.int .i64 (i : Int))] ++ List.replicate 13 .junk) (fun i => if i = 0 then [some (wrO 1 bs), some (wrB bs)] else [some (wrO 2 (bs ++ (bitsW n w).take i)), none, some (wrB (bs ++ (bitsW n w).take i))]) (fun i => i ≤ w) (fun i => w - i) 0 ?_ (Nat.zero_le _) ?_ ?_ ?_
  · intro i hi; split <;> simp
  · simp
  · simp [wrO, wrB]
  rintro i hi
  obtain ⟨W, hW⟩ : ∃ W, W = w - 1 := ⟨_, rfl⟩
  have e2 : IntKind.i64.wrap ((w : Int) - 1) = (W : Int) := by rw [w64 (by omega) (by omega)]; omega
  have hnum : i < w → ∃ (S X : Nat) (b : Bool), IntKind.i64.wrap ((W : Int) - i) = (S : Int) ∧ S = W - i ∧ (n : Int) / 2 ^ S = (X : Int) ∧ bits BinOp.and IntKind.u64 (X : Int) 1 = (X : Int) % 2 ∧ ((X : Int) % 2 == 1) = b ∧ bs ++ (bitsW n w).take (i + 1) = (bs ++ (bitsW n w).take i) ++ [b] := by
    intro h
    refine ⟨W - i, n / 2 ^ (W - i), decide (n / 2 ^ (W - i) % 2 = 1), by rw [w64 (by omega) (by omega)]; omega, rfl, ?_, ?_, ?_, by rw [hW, List.append_assoc]; congr 1; exact bitsW_take n w i h⟩
    · rw [Int.natCast_ediv, Int.natCast_pow]; rfl
    · exact bits_and1 _ (Nat.lt_of_le_of_lt (Nat.div_le_self _ _) hn)
    · generalize n / 2 ^ (W - i) = z; rw [Bool.eq_iff_iff]; simp; omega
  have hend : (bitsW n w).take w = bitsW n w := List.take_of_length_le (by simp)
  have htl : ∀ k, k ≤ w → (bs ++ (bitsW n w).take k).length = bs.length + k := fun k h => by rw [List.length_append, List.length_take, bitsW_len]; omega
  have e1 : IntKind.i64.wrap ((i : Int) + 1) = ((i + 1 : Nat) : Int) := by rw [w64 (by omega) (by omega)]; omega
  by_cases hiw : i = w
  · subst hiw
    rw [if_neg (by omega), hend]
    generalize bs ++ bitsW n i = cs at *
    simp [wrO, wrB]
    repeat (first | refine AW.seq ?_ | refine AW.block ?_ | (refine AW.reg mix ?_; simp -implicitDefEqProofs; try simp (disch := omega) only [w64, wu64]) | (refine need.of (by first | omega | kernel_rfl) ?_) | (refine AW.fin ?_; try simp -implicitDefEqProofs))
    refine AW.cond rfl (fun h => ?_) (fun h => ?_)
    · simp at h
    repeat (first | refine AW.seq ?_ | refine AW.block ?_ | (refine AW.reg mix ?_; simp -implicitDefEqProofs; try simp (disch := omega) only [w64, wu64]) | (refine need.of (by first | omega | kernel_rfl) ?_) | (refine AW.fin ?_; try simp -implicitDefEqProofs))
  · have hlt : i < w := by omega
    have hlt' : (i : Int) < w := by omega
    obtain ⟨S, X, b, e3, e4, e5, e6, e7, e8⟩ := hnum hlt
    have e4' : (S : Int) ≤ 64 := by omega
    have e4w : (W : Int) ≤ 64 := by omega
    have hne : bs ++ (bitsW n w).take i ≠ [] := fun h => hbs (List.append_eq_nil_iff.1 h).1
    have hB := wbit_ok (bs ++ (bitsW n w).take i) b hne (by have := htl i hi; omega)
    rw [← e8] at hB
    have hk := htl (i + 1) (by omega)
    have hk0 := htl i hi
    have hmin : min (i + 1) w = i + 1 := Nat.min_eq_left (by omega)
    generalize hX1 : bs ++ (bitsW n w).take (i + 1) = X1 at *
    by_cases hi0 : i = 0
    · subst hi0
      rw [if_pos rfl]
      rw [Nat.sub_zero] at e4
      subst e4
      simp only [List.take_zero, List.append_nil] at hB
      simp only [wrO, wrB, hk] at hB ⊢
      simp
      repeat (first | refine AW.seq ?_ | refine AW.block ?_ | (refine AW.reg mix ?_; simp -implicitDefEqProofs [hlt, hlt']; try simp (disch := omega) only [w64, wu64]) | (refine need.of (by first | omega | kernel_rfl) ?_) | (refine AW.fin ?_; try simp -implicitDefEqProofs [hlt, hlt']))
      refine AW.cond rfl (fun h => ?_) (fun h => ?_)
      · repeat (first | refine AW.seq ?_ | refine AW.block ?_ | (refine AW.reg mix ?_; simp -implicitDefEqProofs [e2, e4w, e5, e6, e7]; try simp (disch := omega) only [w64, wu64]) | (refine need.of (by first | omega | kernel_rfl) ?_) | (refine AW.fin ?_; try simp -implicitDefEqProofs [e2, e4w, e5, e6, e7]))
        simp only [Int.toNat_natCast, e5, e6, e7]
        refine CallS.g [0, 1] (hB) ?_
        (try (simp -implicitDefEqProofs [e1]; try simp (disch := omega) only [w64, wu64]))
        repeat (first | refine AW.seq ?_ | refine AW.block ?_ | (refine AW.reg mix ?_; simp -implicitDefEqProofs [e1]; try simp (disch := omega) only [w64, wu64]) | (refine need.of (by first | omega | kernel_rfl) ?_) | (refine AW.fin ?_; try simp -implicitDefEqProofs [e1]))
        refine ⟨1, 2, 2, by simp, by omega, by omega, ?_, ?_⟩
        · simp [swT, sw, V.ren, V.rens]
        · simp at hX1
          have hmin1 : min 1 w = 1 := Nat.min_eq_left (by omega)
          simp [swH, sw, Ob.sw, V.ren, V.rens, hX1, hk, hmin1]
      · simp [hlt'] at h
    · rw [if_neg hi0]
      simp only [wrO, wrB, hk, hk0] at hB ⊢
      simp
      repeat (first | refine AW.seq ?_ | refine AW.block ?_ | (refine AW.reg mix ?_; simp -implicitDefEqProofs [hlt, hlt']; try simp (disch := omega) only [w64, wu64]) | (refine need.of (by first | omega | kernel_rfl) ?_) | (refine AW.fin ?_; try simp -implicitDefEqProofs [hlt, hlt']))
      refine AW.cond rfl (fun h => ?_) (fun h => ?_)
      · repeat (first | refine AW.seq ?_ | refine AW.block ?_ | (refine AW.reg mix ?_; simp -implicitDefEqProofs [e2, e3, e4', e5, e6, e7]; try simp (disch := omega) only [w64, wu64]) | (refine need.of (by first | omega | kernel_rfl) ?_) | (refine AW.fin ?_; try simp -implicitDefEqProofs [e2, e3, e4', e5, e6, e7]))
        refine CallS.g [0, 2] (hB) ?_
        (try (simp -implicitDefEqProofs [e1]; try simp (disch := omega) only [w64, wu64]))
        repeat (first | refine AW.seq ?_ | refine AW.block ?_ | (refine AW.reg mix ?_; simp -implicitDefEqProofs [e1]; try simp (disch := omega) only [w64, wu64]) | (refine need.of (by first | omega | kernel_rfl) ?_) | (refine AW.fin ?_; try simp -implicitDefEqProofs [e1]))
        refine ⟨i + 1, 2, 3, by simp, by omega, by omega, ?_, ?_⟩
        · simp [swT, sw, V.ren, V.rens, e1]
        · simp [swH, sw, Ob.sw, V.ren, V.rens, hX1, hk, hmin]
      · simp [hlt'] at h

/-- a reader's variable -/
def rdO (ws : List Nat) (at_ : Nat) : Ob := ⟨190, [.d (BY ws), .d (.int .i64 at_)]⟩

def smallB (ws : List Nat) : Prop := ∀ x ∈ ws, x < 256
end
end Go.Proofs.YtdbfenhaljmbfaaGreat.Am
namespace Go.Proofs.YtdbfenhaljmbfaaGreat.Am
section
set_option linter.unusedVariables false
set_option linter.unusedSimpArgs false
open Go.RowKit
set_option maxRecDepth 100000
set_option linter.unusedSimpArgs false
set_option linter.unusedVariables false

/-- so many bits from a place on, as a number -/
def numAt (ws : List Nat) (a w : Nat) : Nat := numB (((bitsOf ws).drop a).take w) 0
end
end Go.Proofs.YtdbfenhaljmbfaaGreat.Am
namespace Go.Proofs.YtdbfenhaljmbfaaGreat.Am
section
set_option linter.unusedVariables false
set_option linter.unusedSimpArgs false
open Go.RowKit
set_option maxRecDepth 100000
set_option linter.unusedSimpArgs false
set_option linter.unusedVariables false

def wellTB (a b y t : Nat) (f : Bool) : Bool := decide (y ≤ a) && (decide (t ≤ b) && (!f || t == b))
theorem twellB_ok {a b : Nat} (h : GoodT a b) (y t : Nat) (f : Bool) : Eqn Tryz.prog n_thin_Param_Well [.d (tpD a b), .d (tsD y t f)] [] (.d (.bool (wellTB a b y t f))) [] := by
  refine Eqn.pure r_thin_Param_Well Plain.ok ?_
  have hc := tcheck_ok h
  have g3 : (0 : Int) ≤ y := by omega
  have g4 : (0 : Int) ≤ t := by omega
  simp only [c_thin_Param_Well, tpD, tsD, wellTB] at hc ⊢
  by_cases h1 : y ≤ a
  · have h1' : (y : Int) ≤ a := by omega
    by_cases h2 : t ≤ b
    · have h2' : (t : Int) ≤ b := by omega
      cases f with
      | true =>
        by_cases h3 : t = b
        · subst h3
          repeat (first | refine AW.seq ?_ | refine AW.block ?_ | (refine AW.reg mix ?_; simp -implicitDefEqProofs [g3, g4, h1, h1', h2, h2']; try simp (disch := omega) only [w64, wu64]) | (refine need.of (by first | omega | kernel_rfl) ?_) | (refine AW.fin ?_; try simp -implicitDefEqProofs [g3, g4, h1, h1', h2, h2']))
          refine CallS.pu (hc) ?_
          (try (simp -implicitDefEqProofs [g3, g4, h1, h1', h2, h2']; try simp (disch := omega) only [w64, wu64]))
          repeat (first | refine AW.seq ?_ | refine AW.block ?_ | (refine AW.reg mix ?_; simp -implicitDefEqProofs [g3, g4, h1, h1', h2, h2']; try simp (disch := omega) only [w64, wu64]) | (refine need.of (by first | omega | kernel_rfl) ?_) | (refine AW.fin ?_; try simp -implicitDefEqProofs [g3, g4, h1, h1', h2, h2']))
        · have h3' : ¬ (t : Int) = b := by omega
          repeat (first | refine AW.seq ?_ | refine AW.block ?_ | (refine AW.reg mix ?_; simp -implicitDefEqProofs [g3, g4, h1, h1', h2, h2', h3, h3']; try simp (disch := omega) only [w64, wu64]) | (refine need.of (by first | omega | kernel_rfl) ?_) | (refine AW.fin ?_; try simp -implicitDefEqProofs [g3, g4, h1, h1', h2, h2', h3, h3']))
          refine CallS.pu (hc) ?_
          (try (simp -implicitDefEqProofs [g3, g4, h1, h1', h2, h2', h3, h3']; try simp (disch := omega) only [w64, wu64]))
          repeat (first | refine AW.seq ?_ | refine AW.block ?_ | (refine AW.reg mix ?_; simp -implicitDefEqProofs [g3, g4, h1, h1', h2, h2', h3, h3']; try simp (disch := omega) only [w64, wu64]) | (refine need.of (by first | omega | kernel_rfl) ?_) | (refine AW.fin ?_; try simp -implicitDefEqProofs [g3, g4, h1, h1', h2, h2', h3, h3']))
          exact Sub1.bool (by rw [Bool.eq_iff_iff]; simp; omega)
      | false =>
        repeat (first | refine AW.seq ?_ | refine AW.block ?_ | (refine AW.reg mix ?_; simp -implicitDefEqProofs [g3, g4, h1, h1', h2, h2']; try simp (disch := omega) only [w64, wu64]) | (refine need.of (by first | omega | kernel_rfl) ?_) | (refine AW.fin ?_; try simp -implicitDefEqProofs [g3, g4, h1, h1', h2, h2']))
        refine CallS.pu (hc) ?_
        (try (simp -implicitDefEqProofs [g3, g4, h1, h1', h2, h2']; try simp (disch := omega) only [w64, wu64]))
        repeat (first | refine AW.seq ?_ | refine AW.block ?_ | (refine AW.reg mix ?_; simp -implicitDefEqProofs [g3, g4, h1, h1', h2, h2']; try simp (disch := omega) only [w64, wu64]) | (refine need.of (by first | omega | kernel_rfl) ?_) | (refine AW.fin ?_; try simp -implicitDefEqProofs [g3, g4, h1, h1', h2, h2']))
    · have h2' : ¬ (t : Int) ≤ b := by omega
      repeat (first | refine AW.seq ?_ | refine AW.block ?_ | (refine AW.reg mix ?_; simp -implicitDefEqProofs [g3, g4, h1, h1', h2, h2']; try simp (disch := omega) only [w64, wu64]) | (refine need.of (by first | omega | kernel_rfl) ?_) | (refine AW.fin ?_; try simp -implicitDefEqProofs [g3, g4, h1, h1', h2, h2']))
      refine CallS.pu (hc) ?_
      (try (simp -implicitDefEqProofs [g3, g4, h1, h1', h2, h2']; try simp (disch := omega) only [w64, wu64]))
      repeat (first | refine AW.seq ?_ | refine AW.block ?_ | (refine AW.reg mix ?_; simp -implicitDefEqProofs [g3, g4, h1, h1', h2, h2']; try simp (disch := omega) only [w64, wu64]) | (refine need.of (by first | omega | kernel_rfl) ?_) | (refine AW.fin ?_; try simp -implicitDefEqProofs [g3, g4, h1, h1', h2, h2']))
  · have h1' : ¬ (y : Int) ≤ a := by omega
    repeat (first | refine AW.seq ?_ | refine AW.block ?_ | (refine AW.reg mix ?_; simp -implicitDefEqProofs [g3, g4, h1, h1']; try simp (disch := omega) only [w64, wu64]) | (refine need.of (by first | omega | kernel_rfl) ?_) | (refine AW.fin ?_; try simp -implicitDefEqProofs [g3, g4, h1, h1']))
    refine CallS.pu (hc) ?_
    (try (simp -implicitDefEqProofs [g3, g4, h1, h1']; try simp (disch := omega) only [w64, wu64]))
    repeat (first | refine AW.seq ?_ | refine AW.block ?_ | (refine AW.reg mix ?_; simp -implicitDefEqProofs [g3, g4, h1, h1']; try simp (disch := omega) only [w64, wu64]) | (refine need.of (by first | omega | kernel_rfl) ?_) | (refine AW.fin ?_; try simp -implicitDefEqProofs [g3, g4, h1, h1']))

theorem rthin_ok (k a b : Int) : Eqn Tryz.prog n_reg_Param_thin [.d (parD k a b)] [] (.d (tpD a b)) [] := by
  refine Eqn.pure r_reg_Param_thin Plain.ok ?_
  simp only [c_reg_Param_thin, parD, tpD]
  repeat (first | refine AW.seq ?_ | refine AW.block ?_ | (refine AW.reg mix ?_; simp -implicitDefEqProofs; try simp (disch := omega) only [w64, wu64]) | (refine need.of (by first | omega | kernel_rfl) ?_) | (refine AW.fin ?_; try simp -implicitDefEqProofs))
theorem rchain_ok (k a b : Int) : Eqn Tryz.prog n_reg_Param_chain [.d (parD k a b)] [] (.d (parD k a b)) [] := by
  refine Eqn.pure r_reg_Param_chain Plain.ok ?_
  simp only [c_reg_Param_chain, parD]
  repeat (first | refine AW.seq ?_ | refine AW.block ?_ | (refine AW.reg mix ?_; simp -implicitDefEqProofs; try simp (disch := omega) only [w64, wu64]) | (refine need.of (by first | omega | kernel_rfl) ?_) | (refine AW.fin ?_; try simp -implicitDefEqProofs))
theorem rthinned_ok (y t : Int) (f : Bool) : Eqn Tryz.prog n_reg_State_thinned [.d (.agg [.int .i64 y, .int .i64 t, .bool f])] [] (.d (.agg [.int .i64 y, .int .i64 t, .bool f])) [] := by
  refine Eqn.pure r_reg_State_thinned Plain.ok ?_
  simp only [c_reg_State_thinned]
  repeat (first | refine AW.seq ?_ | refine AW.block ?_ | (refine AW.reg mix ?_; simp -implicitDefEqProofs; try simp (disch := omega) only [w64, wu64]) | (refine need.of (by first | omega | kernel_rfl) ?_) | (refine AW.fin ?_; try simp -implicitDefEqProofs))
theorem runthinned_ok (y t : Int) (f : Bool) : Eqn Tryz.prog n_reg_unthinned [.d (.agg [.int .i64 y, .int .i64 t, .bool f])] [] (.d (.agg [.int .i64 y, .int .i64 t, .bool f])) [] := by
  refine Eqn.pure r_reg_unthinned Plain.ok ?_
  simp only [c_reg_unthinned]
  repeat (first | refine AW.seq ?_ | refine AW.block ?_ | (refine AW.reg mix ?_; simp -implicitDefEqProofs; try simp (disch := omega) only [w64, wu64]) | (refine need.of (by first | omega | kernel_rfl) ?_) | (refine AW.fin ?_; try simp -implicitDefEqProofs))
theorem rlink_ok (y t : Int) (f : Bool) : Eqn Tryz.prog n_reg_State_link [.d (.agg [.int .i64 y, .int .i64 t, .bool f])] [] (.d (.agg [.int .i64 y, .bool f])) [] := by
  refine Eqn.pure r_reg_State_link Plain.ok ?_
  simp only [c_reg_State_link]
  repeat (first | refine AW.seq ?_ | refine AW.block ?_ | (refine AW.reg mix ?_; simp -implicitDefEqProofs; try simp (disch := omega) only [w64, wu64]) | (refine need.of (by first | omega | kernel_rfl) ?_) | (refine AW.fin ?_; try simp -implicitDefEqProofs))
theorem rlinked_ok (y : Int) (f : Bool) : Eqn Tryz.prog n_reg_linked [.d (.agg [.int .i64 y, .bool f])] [] (.d (.agg [.int .i64 y, .int .i64 0, .bool f])) [] := by
  refine Eqn.pure r_reg_linked Plain.ok ?_
  simp only [c_reg_linked]
  repeat (first | refine AW.seq ?_ | refine AW.block ?_ | (refine AW.reg mix ?_; simp -implicitDefEqProofs; try simp (disch := omega) only [w64, wu64]) | (refine need.of (by first | omega | kernel_rfl) ?_) | (refine AW.fin ?_; try simp -implicitDefEqProofs))

theorem rcheck_ok {k a b : Nat} (h : GoodR k a b) : Eqn Tryz.prog n_reg_Param_Check [.d (parD k a b)] [] (.d (.int .i64 0)) [] := by
  refine Eqn.pure r_reg_Param_Check Plain.ok ?_
  rcases h with ⟨rfl, h⟩ | ⟨hk, h⟩
  · have h1 := rthin_ok 4 a b
    have h2 := tcheck_ok h
    simp only [c_reg_Param_Check, parD, tpD] at h1 h2 ⊢
    repeat (first | refine AW.seq ?_ | refine AW.block ?_ | (refine AW.reg mix ?_; simp -implicitDefEqProofs; try simp (disch := omega) only [w64, wu64]) | (refine need.of (by first | omega | kernel_rfl) ?_) | (refine AW.fin ?_; try simp -implicitDefEqProofs))
    refine AW.cond rfl (fun h => ?_) (fun h => ?_)
    · repeat (first | refine AW.seq ?_ | refine AW.block ?_ | (refine AW.reg mix ?_; simp -implicitDefEqProofs; try simp (disch := omega) only [w64, wu64]) | (refine need.of (by first | omega | kernel_rfl) ?_) | (refine AW.fin ?_; try simp -implicitDefEqProofs))
      refine CallS.pu (h1) ?_
      (try (simp -implicitDefEqProofs; try simp (disch := omega) only [w64, wu64]))
      repeat (first | refine AW.seq ?_ | refine AW.block ?_ | (refine AW.reg mix ?_; simp -implicitDefEqProofs; try simp (disch := omega) only [w64, wu64]) | (refine need.of (by first | omega | kernel_rfl) ?_) | (refine AW.fin ?_; try simp -implicitDefEqProofs))
      refine CallS.pu (h2) ?_
      (try (simp -implicitDefEqProofs; try simp (disch := omega) only [w64, wu64]))
      repeat (first | refine AW.seq ?_ | refine AW.block ?_ | (refine AW.reg mix ?_; simp -implicitDefEqProofs; try simp (disch := omega) only [w64, wu64]) | (refine need.of (by first | omega | kernel_rfl) ?_) | (refine AW.fin ?_; try simp -implicitDefEqProofs))
    · simp at h
  · have h1 := rchain_ok k a b
    have h2 := goodC_check h
    have hk' : ¬ (k : Int) = 4 := by omega
    simp only [c_reg_Param_Check, parD] at h1 h2 ⊢
    repeat (first | refine AW.seq ?_ | refine AW.block ?_ | (refine AW.reg mix ?_; simp -implicitDefEqProofs [hk, hk']; try simp (disch := omega) only [w64, wu64]) | (refine need.of (by first | omega | kernel_rfl) ?_) | (refine AW.fin ?_; try simp -implicitDefEqProofs [hk, hk']))
    refine AW.cond rfl (fun h => ?_) (fun h => ?_)
    · simp [hk'] at h
    · repeat (first | refine AW.seq ?_ | refine AW.block ?_ | (refine AW.reg mix ?_; simp -implicitDefEqProofs; try simp (disch := omega) only [w64, wu64]) | (refine need.of (by first | omega | kernel_rfl) ?_) | (refine AW.fin ?_; try simp -implicitDefEqProofs))
      refine CallS.pu (h1) ?_
      (try (simp -implicitDefEqProofs; try simp (disch := omega) only [w64, wu64]))
      repeat (first | refine AW.seq ?_ | refine AW.block ?_ | (refine AW.reg mix ?_; simp -implicitDefEqProofs; try simp (disch := omega) only [w64, wu64]) | (refine need.of (by first | omega | kernel_rfl) ?_) | (refine AW.fin ?_; try simp -implicitDefEqProofs))
      refine CallS.pu (h2) ?_
      (try (simp -implicitDefEqProofs; try simp (disch := omega) only [w64, wu64]))
      repeat (first | refine AW.seq ?_ | refine AW.block ?_ | (refine AW.reg mix ?_; simp -implicitDefEqProofs; try simp (disch := omega) only [w64, wu64]) | (refine need.of (by first | omega | kernel_rfl) ?_) | (refine AW.fin ?_; try simp -implicitDefEqProofs))

def wellRB (k a b y t : Nat) (f : Bool) : Bool := if k = 4 then wellTB a b y t f else (t == 0) && (decide (y ≤ 2 ^ b - 1) && (!f || y == 2 ^ b - 1))
theorem wellRB_iff {k a b y t : Nat} {f : Bool} : wellRB k a b y t f = true ↔ WellR k a b y t f := by
  unfold wellRB WellR wellTB WellT
  by_cases hk : k = 4
  · subst hk
    simp
    intro _ _
    cases f <;> simp
  · simp [hk]
    intro _ _
    cases f <;> simp

theorem rwell_ok {k a b : Nat} (h : GoodR k a b) (y t : Nat) (f : Bool) : Eqn Tryz.prog n_reg_Param_Well [.d (parD k a b), .d (tsD y t f)] [] (.d (.bool (wellRB k a b y t f))) [] := by
  refine Eqn.pure r_reg_Param_Well Plain.ok ?_
  have hc := rcheck_ok h
  rcases h with ⟨rfl, h⟩ | ⟨hk, h⟩
  · have h1 := rthin_ok 4 a b
    have h2 := twellB_ok h y t f
    have h3 := rthinned_ok y t f
    simp only [c_reg_Param_Well, parD, tpD, tsD, wellRB, if_true] at hc h1 h2 h3 ⊢
    generalize wellTB a b y t f = w at *
    repeat (first | refine AW.seq ?_ | refine AW.block ?_ | (refine AW.reg mix ?_; simp -implicitDefEqProofs; try simp (disch := omega) only [w64, wu64]) | (refine need.of (by first | omega | kernel_rfl) ?_) | (refine AW.fin ?_; try simp -implicitDefEqProofs))
    refine CallS.pu (hc) ?_
    (try (simp -implicitDefEqProofs; try simp (disch := omega) only [w64, wu64]))
    repeat (first | refine AW.seq ?_ | refine AW.block ?_ | (refine AW.reg mix ?_; simp -implicitDefEqProofs; try simp (disch := omega) only [w64, wu64]) | (refine need.of (by first | omega | kernel_rfl) ?_) | (refine AW.fin ?_; try simp -implicitDefEqProofs))
    refine AW.cond rfl (fun h => ?_) (fun h => ?_)
    · simp at h
    repeat (first | refine AW.seq ?_ | refine AW.block ?_ | (refine AW.reg mix ?_; simp -implicitDefEqProofs; try simp (disch := omega) only [w64, wu64]) | (refine need.of (by first | omega | kernel_rfl) ?_) | (refine AW.fin ?_; try simp -implicitDefEqProofs))
    refine AW.cond rfl (fun h => ?_) (fun h => ?_)
    · repeat (first | refine AW.seq ?_ | refine AW.block ?_ | (refine AW.reg mix ?_; simp -implicitDefEqProofs; try simp (disch := omega) only [w64, wu64]) | (refine need.of (by first | omega | kernel_rfl) ?_) | (refine AW.fin ?_; try simp -implicitDefEqProofs))
      refine CallS.pu (h1) ?_
      (try (simp -implicitDefEqProofs; try simp (disch := omega) only [w64, wu64]))
      repeat (first | refine AW.seq ?_ | refine AW.block ?_ | (refine AW.reg mix ?_; simp -implicitDefEqProofs; try simp (disch := omega) only [w64, wu64]) | (refine need.of (by first | omega | kernel_rfl) ?_) | (refine AW.fin ?_; try simp -implicitDefEqProofs))
      refine CallS.pu (h3) ?_
      (try (simp -implicitDefEqProofs; try simp (disch := omega) only [w64, wu64]))
      repeat (first | refine AW.seq ?_ | refine AW.block ?_ | (refine AW.reg mix ?_; simp -implicitDefEqProofs; try simp (disch := omega) only [w64, wu64]) | (refine need.of (by first | omega | kernel_rfl) ?_) | (refine AW.fin ?_; try simp -implicitDefEqProofs))
      refine CallS.pu (h2) ?_
      (try (simp -implicitDefEqProofs; try simp (disch := omega) only [w64, wu64]))
      repeat (first | refine AW.seq ?_ | refine AW.block ?_ | (refine AW.reg mix ?_; simp -implicitDefEqProofs; try simp (disch := omega) only [w64, wu64]) | (refine need.of (by first | omega | kernel_rfl) ?_) | (refine AW.fin ?_; try simp -implicitDefEqProofs))
    · simp at h
  · have h1 := rchain_ok k a b
    have h2 := top_ok k a b h.2.2 (goodC_check h)
    have hk' : ¬ (k : Int) = 4 := by omega
    have g : (0 : Int) ≤ y := by omega
    simp only [c_reg_Param_Well, parD, tsD, wellRB, if_neg hk] at hc h1 h2 ⊢
    generalize 2 ^ b - 1 = S at *
    by_cases ht : t = 0
    · subst ht
      by_cases hy : y ≤ S
      · have hy' : (y : Int) ≤ S := by omega
        cases f with
        | true =>
          by_cases hs : y = S
          · subst hs
            repeat (first | refine AW.seq ?_ | refine AW.block ?_ | (refine AW.reg mix ?_; simp -implicitDefEqProofs [g, hk, hk']; try simp (disch := omega) only [w64, wu64]) | (refine need.of (by first | omega | kernel_rfl) ?_) | (refine AW.fin ?_; try simp -implicitDefEqProofs [g, hk, hk']))
            refine CallS.pu (hc) ?_
            (try (simp -implicitDefEqProofs [g, hk, hk']; try simp (disch := omega) only [w64, wu64]))
            repeat (first | refine AW.seq ?_ | refine AW.block ?_ | (refine AW.reg mix ?_; simp -implicitDefEqProofs [g, hk, hk']; try simp (disch := omega) only [w64, wu64]) | (refine need.of (by first | omega | kernel_rfl) ?_) | (refine AW.fin ?_; try simp -implicitDefEqProofs [g, hk, hk']))
            refine AW.cond rfl (fun h => ?_) (fun h => ?_)
            · simp at h
            repeat (first | refine AW.seq ?_ | refine AW.block ?_ | (refine AW.reg mix ?_; simp -implicitDefEqProofs [g, hk, hk']; try simp (disch := omega) only [w64, wu64]) | (refine need.of (by first | omega | kernel_rfl) ?_) | (refine AW.fin ?_; try simp -implicitDefEqProofs [g, hk, hk']))
            refine AW.cond rfl (fun h => ?_) (fun h => ?_)
            · simp [hk'] at h
            repeat (first | refine AW.seq ?_ | refine AW.block ?_ | (refine AW.reg mix ?_; simp -implicitDefEqProofs [g]; try simp (disch := omega) only [w64, wu64]) | (refine need.of (by first | omega | kernel_rfl) ?_) | (refine AW.fin ?_; try simp -implicitDefEqProofs [g]))
            refine CallS.pu (h1) ?_
            (try (simp -implicitDefEqProofs [g]; try simp (disch := omega) only [w64, wu64]))
            repeat (first | refine AW.seq ?_ | refine AW.block ?_ | (refine AW.reg mix ?_; simp -implicitDefEqProofs [g]; try simp (disch := omega) only [w64, wu64]) | (refine need.of (by first | omega | kernel_rfl) ?_) | (refine AW.fin ?_; try simp -implicitDefEqProofs [g]))
            refine CallS.pu (h2) ?_
            (try (simp -implicitDefEqProofs [g]; try simp (disch := omega) only [w64, wu64]))
            repeat (first | refine AW.seq ?_ | refine AW.block ?_ | (refine AW.reg mix ?_; simp -implicitDefEqProofs [g]; try simp (disch := omega) only [w64, wu64]) | (refine need.of (by first | omega | kernel_rfl) ?_) | (refine AW.fin ?_; try simp -implicitDefEqProofs [g]))
          · have hs' : ¬ (y : Int) = S := by omega
            repeat (first | refine AW.seq ?_ | refine AW.block ?_ | (refine AW.reg mix ?_; simp -implicitDefEqProofs [g, hk, hk', hy, hy', hs, hs']; try simp (disch := omega) only [w64, wu64]) | (refine need.of (by first | omega | kernel_rfl) ?_) | (refine AW.fin ?_; try simp -implicitDefEqProofs [g, hk, hk', hy, hy', hs, hs']))
            refine CallS.pu (hc) ?_
            (try (simp -implicitDefEqProofs [g, hk, hk', hy, hy', hs, hs']; try simp (disch := omega) only [w64, wu64]))
            repeat (first | refine AW.seq ?_ | refine AW.block ?_ | (refine AW.reg mix ?_; simp -implicitDefEqProofs [g, hk, hk', hy, hy', hs, hs']; try simp (disch := omega) only [w64, wu64]) | (refine need.of (by first | omega | kernel_rfl) ?_) | (refine AW.fin ?_; try simp -implicitDefEqProofs [g, hk, hk', hy, hy', hs, hs']))
            refine AW.cond rfl (fun h => ?_) (fun h => ?_)
            · simp at h
            repeat (first | refine AW.seq ?_ | refine AW.block ?_ | (refine AW.reg mix ?_; simp -implicitDefEqProofs [g, hk, hk', hy, hy', hs, hs']; try simp (disch := omega) only [w64, wu64]) | (refine need.of (by first | omega | kernel_rfl) ?_) | (refine AW.fin ?_; try simp -implicitDefEqProofs [g, hk, hk', hy, hy', hs, hs']))
            refine AW.cond rfl (fun h => ?_) (fun h => ?_)
            · simp [hk'] at h
            repeat (first | refine AW.seq ?_ | refine AW.block ?_ | (refine AW.reg mix ?_; simp -implicitDefEqProofs [g]; try simp (disch := omega) only [w64, wu64]) | (refine need.of (by first | omega | kernel_rfl) ?_) | (refine AW.fin ?_; try simp -implicitDefEqProofs [g]))
            refine CallS.pu (h1) ?_
            (try (simp -implicitDefEqProofs [g]; try simp (disch := omega) only [w64, wu64]))
            repeat (first | refine AW.seq ?_ | refine AW.block ?_ | (refine AW.reg mix ?_; simp -implicitDefEqProofs [g]; try simp (disch := omega) only [w64, wu64]) | (refine need.of (by first | omega | kernel_rfl) ?_) | (refine AW.fin ?_; try simp -implicitDefEqProofs [g]))
            refine CallS.pu (h2) ?_
            (try (simp -implicitDefEqProofs [g, hy, hy', hs, hs']; try simp (disch := omega) only [w64, wu64]))
            repeat (first | refine AW.seq ?_ | refine AW.block ?_ | (refine AW.reg mix ?_; simp -implicitDefEqProofs [g, hy, hy', hs, hs']; try simp (disch := omega) only [w64, wu64]) | (refine need.of (by first | omega | kernel_rfl) ?_) | (refine AW.fin ?_; try simp -implicitDefEqProofs [g, hy, hy', hs, hs']))
            exact Sub1.bool (by rw [Bool.eq_iff_iff]; simp; omega)
        | false =>
          repeat (first | refine AW.seq ?_ | refine AW.block ?_ | (refine AW.reg mix ?_; simp -implicitDefEqProofs [g, hk, hk', hy, hy']; try simp (disch := omega) only [w64, wu64]) | (refine need.of (by first | omega | kernel_rfl) ?_) | (refine AW.fin ?_; try simp -implicitDefEqProofs [g, hk, hk', hy, hy']))
          refine CallS.pu (hc) ?_
          (try (simp -implicitDefEqProofs [g, hk, hk', hy, hy']; try simp (disch := omega) only [w64, wu64]))
          repeat (first | refine AW.seq ?_ | refine AW.block ?_ | (refine AW.reg mix ?_; simp -implicitDefEqProofs [g, hk, hk', hy, hy']; try simp (disch := omega) only [w64, wu64]) | (refine need.of (by first | omega | kernel_rfl) ?_) | (refine AW.fin ?_; try simp -implicitDefEqProofs [g, hk, hk', hy, hy']))
          refine AW.cond rfl (fun h => ?_) (fun h => ?_)
          · simp at h
          repeat (first | refine AW.seq ?_ | refine AW.block ?_ | (refine AW.reg mix ?_; simp -implicitDefEqProofs [g, hk, hk', hy, hy']; try simp (disch := omega) only [w64, wu64]) | (refine need.of (by first | omega | kernel_rfl) ?_) | (refine AW.fin ?_; try simp -implicitDefEqProofs [g, hk, hk', hy, hy']))
          refine AW.cond rfl (fun h => ?_) (fun h => ?_)
          · simp [hk'] at h
          repeat (first | refine AW.seq ?_ | refine AW.block ?_ | (refine AW.reg mix ?_; simp -implicitDefEqProofs [g]; try simp (disch := omega) only [w64, wu64]) | (refine need.of (by first | omega | kernel_rfl) ?_) | (refine AW.fin ?_; try simp -implicitDefEqProofs [g]))
          refine CallS.pu (h1) ?_
          (try (simp -implicitDefEqProofs [g]; try simp (disch := omega) only [w64, wu64]))
          repeat (first | refine AW.seq ?_ | refine AW.block ?_ | (refine AW.reg mix ?_; simp -implicitDefEqProofs [g]; try simp (disch := omega) only [w64, wu64]) | (refine need.of (by first | omega | kernel_rfl) ?_) | (refine AW.fin ?_; try simp -implicitDefEqProofs [g]))
          refine CallS.pu (h2) ?_
          (try (simp -implicitDefEqProofs [g, hy, hy']; try simp (disch := omega) only [w64, wu64]))
          repeat (first | refine AW.seq ?_ | refine AW.block ?_ | (refine AW.reg mix ?_; simp -implicitDefEqProofs [g, hy, hy']; try simp (disch := omega) only [w64, wu64]) | (refine need.of (by first | omega | kernel_rfl) ?_) | (refine AW.fin ?_; try simp -implicitDefEqProofs [g, hy, hy']))
      · have hy' : ¬ (y : Int) ≤ S := by omega
        repeat (first | refine AW.seq ?_ | refine AW.block ?_ | (refine AW.reg mix ?_; simp -implicitDefEqProofs [g, hk, hk', hy, hy']; try simp (disch := omega) only [w64, wu64]) | (refine need.of (by first | omega | kernel_rfl) ?_) | (refine AW.fin ?_; try simp -implicitDefEqProofs [g, hk, hk', hy, hy']))
        refine CallS.pu (hc) ?_
        (try (simp -implicitDefEqProofs [g, hk, hk', hy, hy']; try simp (disch := omega) only [w64, wu64]))
        repeat (first | refine AW.seq ?_ | refine AW.block ?_ | (refine AW.reg mix ?_; simp -implicitDefEqProofs [g, hk, hk', hy, hy']; try simp (disch := omega) only [w64, wu64]) | (refine need.of (by first | omega | kernel_rfl) ?_) | (refine AW.fin ?_; try simp -implicitDefEqProofs [g, hk, hk', hy, hy']))
        refine AW.cond rfl (fun h => ?_) (fun h => ?_)
        · simp at h
        repeat (first | refine AW.seq ?_ | refine AW.block ?_ | (refine AW.reg mix ?_; simp -implicitDefEqProofs [g, hk, hk', hy, hy']; try simp (disch := omega) only [w64, wu64]) | (refine need.of (by first | omega | kernel_rfl) ?_) | (refine AW.fin ?_; try simp -implicitDefEqProofs [g, hk, hk', hy, hy']))
        refine AW.cond rfl (fun h => ?_) (fun h => ?_)
        · simp [hk'] at h
        repeat (first | refine AW.seq ?_ | refine AW.block ?_ | (refine AW.reg mix ?_; simp -implicitDefEqProofs [g]; try simp (disch := omega) only [w64, wu64]) | (refine need.of (by first | omega | kernel_rfl) ?_) | (refine AW.fin ?_; try simp -implicitDefEqProofs [g]))
        refine CallS.pu (h1) ?_
        (try (simp -implicitDefEqProofs [g]; try simp (disch := omega) only [w64, wu64]))
        repeat (first | refine AW.seq ?_ | refine AW.block ?_ | (refine AW.reg mix ?_; simp -implicitDefEqProofs [g]; try simp (disch := omega) only [w64, wu64]) | (refine need.of (by first | omega | kernel_rfl) ?_) | (refine AW.fin ?_; try simp -implicitDefEqProofs [g]))
        refine CallS.pu (h2) ?_
        (try (simp -implicitDefEqProofs [g, hy, hy']; try simp (disch := omega) only [w64, wu64]))
        repeat (first | refine AW.seq ?_ | refine AW.block ?_ | (refine AW.reg mix ?_; simp -implicitDefEqProofs [g, hy, hy']; try simp (disch := omega) only [w64, wu64]) | (refine need.of (by first | omega | kernel_rfl) ?_) | (refine AW.fin ?_; try simp -implicitDefEqProofs [g, hy, hy']))
    · have ht' : ¬ (t : Int) = 0 := by omega
      repeat (first | refine AW.seq ?_ | refine AW.block ?_ | (refine AW.reg mix ?_; simp -implicitDefEqProofs [g, hk, hk', ht, ht']; try simp (disch := omega) only [w64, wu64]) | (refine need.of (by first | omega | kernel_rfl) ?_) | (refine AW.fin ?_; try simp -implicitDefEqProofs [g, hk, hk', ht, ht']))
      refine CallS.pu (hc) ?_
      (try (simp -implicitDefEqProofs [g, hk, hk', ht, ht']; try simp (disch := omega) only [w64, wu64]))
      repeat (first | refine AW.seq ?_ | refine AW.block ?_ | (refine AW.reg mix ?_; simp -implicitDefEqProofs [g, hk, hk', ht, ht']; try simp (disch := omega) only [w64, wu64]) | (refine need.of (by first | omega | kernel_rfl) ?_) | (refine AW.fin ?_; try simp -implicitDefEqProofs [g, hk, hk', ht, ht']))
      refine AW.cond rfl (fun h => ?_) (fun h => ?_)
      · simp at h
      repeat (first | refine AW.seq ?_ | refine AW.block ?_ | (refine AW.reg mix ?_; simp -implicitDefEqProofs [g, hk, hk', ht, ht']; try simp (disch := omega) only [w64, wu64]) | (refine need.of (by first | omega | kernel_rfl) ?_) | (refine AW.fin ?_; try simp -implicitDefEqProofs [g, hk, hk', ht, ht']))
      refine AW.cond rfl (fun h => ?_) (fun h => ?_)
      · simp [hk'] at h
      repeat (first | refine AW.seq ?_ | refine AW.block ?_ | (refine AW.reg mix ?_; simp -implicitDefEqProofs [g]; try simp (disch := omega) only [w64, wu64]) | (refine need.of (by first | omega | kernel_rfl) ?_) | (refine AW.fin ?_; try simp -implicitDefEqProofs [g]))
      refine CallS.pu (h1) ?_
      (try (simp -implicitDefEqProofs [g]; try simp (disch := omega) only [w64, wu64]))
      repeat (first | refine AW.seq ?_ | refine AW.block ?_ | (refine AW.reg mix ?_; simp -implicitDefEqProofs [g]; try simp (disch := omega) only [w64, wu64]) | (refine need.of (by first | omega | kernel_rfl) ?_) | (refine AW.fin ?_; try simp -implicitDefEqProofs [g]))
      refine CallS.pu (h2) ?_
      (try (simp -implicitDefEqProofs [g, ht, ht']; try simp (disch := omega) only [w64, wu64]))
      repeat (first | refine AW.seq ?_ | refine AW.block ?_ | (refine AW.reg mix ?_; simp -implicitDefEqProofs [g, ht, ht']; try simp (disch := omega) only [w64, wu64]) | (refine need.of (by first | omega | kernel_rfl) ?_) | (refine AW.fin ?_; try simp -implicitDefEqProofs [g, ht, ht']))
      exact Sub1.bool (by simp [ht])

theorem rwrong1_ok {k a b y t : Nat} {f : Bool} (h : GoodR k a b) (hw : WellR k a b y t f) : Eqn Tryz.prog n_reg_Param_wrong [.d (parD k a b), .d (.sl 1 [.int .i64 y, .int .i64 t, .bool f])] [] (.d (.int .i64 0)) [] := by
  refine Eqn.pure r_reg_Param_wrong Plain.ok ?_
  have hc := rcheck_ok h
  have hw1 := rwell_ok h y t f
  rw [wellRB_iff.2 hw] at hw1
  simp only [c_reg_Param_wrong, parD, tsD] at hc hw1 ⊢
  repeat (first | refine AW.seq ?_ | refine AW.block ?_ | (refine AW.reg mix ?_; simp -implicitDefEqProofs; try simp (disch := omega) only [w64, wu64]) | (refine need.of (by first | omega | kernel_rfl) ?_) | (refine AW.fin ?_; try simp -implicitDefEqProofs))
  refine CallS.pu (hc) ?_
  (try (simp -implicitDefEqProofs; try simp (disch := omega) only [w64, wu64]))
  repeat (first | refine AW.seq ?_ | refine AW.block ?_ | (refine AW.reg mix ?_; simp -implicitDefEqProofs; try simp (disch := omega) only [w64, wu64]) | (refine need.of (by first | omega | kernel_rfl) ?_) | (refine AW.fin ?_; try simp -implicitDefEqProofs))
  refine AW.cond rfl (fun h => ?_) (fun h => ?_)
  · simp at h
  repeat (first | refine AW.seq ?_ | refine AW.block ?_ | (refine AW.reg mix ?_; simp -implicitDefEqProofs; try simp (disch := omega) only [w64, wu64]) | (refine need.of (by first | omega | kernel_rfl) ?_) | (refine AW.fin ?_; try simp -implicitDefEqProofs))
  refine AW.loopT (α := Nat) 1 (fun i => [(15, .d (.int .i64 (i : Int)))]) (fun i => []) (fun i => i ≤ 1) (fun i => 1 - i) 0 ?_ ?_ (Nat.zero_le _) ?_ ?_ ?_
  · simp
  · simp
  · simp
  · simp
  rintro i hi
  simp
  have hi' : i = 0 ∨ i = 1 := by omega
  rcases hi' with rfl | rfl
  · repeat (first | refine AW.seq ?_ | refine AW.block ?_ | (refine AW.reg mix ?_; simp -implicitDefEqProofs; try simp (disch := omega) only [w64, wu64]) | (refine need.of (by first | omega | kernel_rfl) ?_) | (refine AW.fin ?_; try simp -implicitDefEqProofs))
    refine AW.cond rfl (fun h => ?_) (fun h => ?_)
    · repeat (first | refine AW.seq ?_ | refine AW.block ?_ | (refine AW.reg mix ?_; simp -implicitDefEqProofs; try simp (disch := omega) only [w64, wu64]) | (refine need.of (by first | omega | kernel_rfl) ?_) | (refine AW.fin ?_; try simp -implicitDefEqProofs))
      refine CallS.pu (hw1) ?_
      (try (simp -implicitDefEqProofs; try simp (disch := omega) only [w64, wu64]))
      repeat (first | refine AW.seq ?_ | refine AW.block ?_ | (refine AW.reg mix ?_; simp -implicitDefEqProofs; try simp (disch := omega) only [w64, wu64]) | (refine need.of (by first | omega | kernel_rfl) ?_) | (refine AW.fin ?_; try simp -implicitDefEqProofs))
      refine AW.cond rfl (fun h => ?_) (fun h => ?_)
      · simp at h
      have ew : IntKind.i64.wrap 1 = 1 := w64 (by omega) (by omega)
      repeat (first | refine AW.seq ?_ | refine AW.block ?_ | (refine AW.reg mix ?_; simp -implicitDefEqProofs [ew]; try simp (disch := omega) only [w64, wu64]) | (refine need.of (by first | omega | kernel_rfl) ?_) | (refine AW.fin ?_; try simp -implicitDefEqProofs [ew]))
      exact ⟨1, by omega, by omega, by simp⟩
    · simp at h
  · repeat (first | refine AW.seq ?_ | refine AW.block ?_ | (refine AW.reg mix ?_; simp -implicitDefEqProofs; try simp (disch := omega) only [w64, wu64]) | (refine need.of (by first | omega | kernel_rfl) ?_) | (refine AW.fin ?_; try simp -implicitDefEqProofs))
    refine AW.cond rfl (fun h => ?_) (fun h => ?_)
    · simp at h
    refine AW.exit ?_
    (try (simp -implicitDefEqProofs; try simp (disch := omega) only [w64, wu64]))
    repeat (first | refine AW.seq ?_ | refine AW.block ?_ | (refine AW.reg mix ?_; simp -implicitDefEqProofs; try simp (disch := omega) only [w64, wu64]) | (refine need.of (by first | omega | kernel_rfl) ?_) | (refine AW.fin ?_; try simp -implicitDefEqProofs))
end
end Go.Proofs.YtdbfenhaljmbfaaGreat.Am
namespace Go.Proofs.YtdbfenhaljmbfaaGreat.Am
section
set_option linter.unusedVariables false
set_option linter.unusedSimpArgs false
open Go.RowKit
set_option maxRecDepth 100000
set_option linter.unusedSimpArgs false
set_option linter.unusedVariables false

/-- what is handed back: with an error it is what it was -/
def stR (R : TR) (y t : Nat) (f : Bool) : D := if R.e = 0 then tsD R.y R.t R.f else tsD y t f

theorem radd_int (cs : List Bool) (k a b y t : Nat) (f : Bool) (n : Nat) (m : Int) (hmx : max 0 m = (n : Int)) (p : Nat) (d : Bool) (h : GoodR k a b) (hw : WellR k a b y t f) (hn : m ≤ 1048576) (hp : p ≤ cs.length) (hc : cs.length ≤ 4000000) (R : TR) (hR : R = addRM cs k a b n y t f p d) :
    Eqn Tryz.prog n_reg_Param_Add [.d (parD k a b), .p 0 0, .d (tsD y t f), .d (.int .i64 m)] [tapeO cs p d] (.tup [.d (stR R y t f), .d (.int .i64 R.e)]) [tapeO cs R.p R.d] := by
  refine Eqn.obj1 r_reg_Param_Add Plain.ok ⟨rfl, fun _ => rfl⟩ ?_
  have hwr := rwrong1_ok h hw
  rcases hw with ⟨rfl, hw⟩ | ⟨hk, rfl, hy, hf⟩
  · replace h : GoodT a b := by
      rcases h with ⟨-, h⟩ | ⟨hk, -⟩
      · exact h
      · exact absurd rfl hk
    rw [addRM, if_pos rfl] at hR
    have h1 := rthin_ok 4 a b
    have h2 := rthinned_ok y t f
    have h3 := tadd_ok cs a b y t f m p d h hw (by omega) hp hc R (by rw [hR]; congr 1; omega)
    clear hR
    obtain ⟨e, ry, rt, rf, rp, rd⟩ := R
    have h4 : ∀ y t f, _ := runthinned_ok
    simp only [c_reg_Param_Add, parD, tpD, tsD, stR, show ((4 : Nat) : Int) = 4 from rfl] at hwr h1 h2 h3 ⊢
    obtain ⟨Y, T, F, hS⟩ : ∃ (Y T : Nat) (F : Bool), (if e = 0 then D.agg [.int .i64 ry, .int .i64 rt, .bool rf] else D.agg [.int .i64 y, .int .i64 t, .bool f]) = D.agg [.int .i64 Y, .int .i64 T, .bool F] := by
      split
      · exact ⟨ry, rt, rf, rfl⟩
      · exact ⟨y, t, f, rfl⟩
    rw [hS] at h3 ⊢
    repeat (first | refine AW.seq ?_ | refine AW.block ?_ | (refine AW.reg mix ?_; simp -implicitDefEqProofs [-Bool.exists_bool]; try simp (disch := omega) only [w64, wu64]) | (refine need.of (by first | omega | kernel_rfl) ?_) | (refine AW.fin ?_; try simp -implicitDefEqProofs [-Bool.exists_bool]))
    refine CallS.pf 4 3 ⟨36, _⟩ [.int .i64 y, .int .i64 t, .bool f] (hwr) (by first | rfl | (simp [-Bool.exists_bool]; done)) ?_
    (try (simp -implicitDefEqProofs [-Bool.exists_bool]; try simp (disch := omega) only [w64, wu64]))
    repeat (first | refine AW.seq ?_ | refine AW.block ?_ | (refine AW.reg mix ?_; simp -implicitDefEqProofs [-Bool.exists_bool]; try simp (disch := omega) only [w64, wu64]) | (refine need.of (by first | omega | kernel_rfl) ?_) | (refine AW.fin ?_; try simp -implicitDefEqProofs [-Bool.exists_bool]))
    refine AW.cond rfl (fun h => ?_) (fun h => ?_)
    · simp at h
    repeat (first | refine AW.seq ?_ | refine AW.block ?_ | (refine AW.reg mix ?_; simp -implicitDefEqProofs [-Bool.exists_bool]; try simp (disch := omega) only [w64, wu64]) | (refine need.of (by first | omega | kernel_rfl) ?_) | (refine AW.fin ?_; try simp -implicitDefEqProofs [-Bool.exists_bool]))
    refine AW.cond rfl (fun h => ?_) (fun h => ?_)
    · repeat (first | refine AW.seq ?_ | refine AW.block ?_ | (refine AW.reg mix ?_; simp -implicitDefEqProofs [-Bool.exists_bool]; try simp (disch := omega) only [w64, wu64]) | (refine need.of (by first | omega | kernel_rfl) ?_) | (refine AW.fin ?_; try simp -implicitDefEqProofs [-Bool.exists_bool]))
      refine CallS.pu (h1) ?_
      (try (simp -implicitDefEqProofs [-Bool.exists_bool]; try simp (disch := omega) only [w64, wu64]))
      repeat (first | refine AW.seq ?_ | refine AW.block ?_ | (refine AW.reg mix ?_; simp -implicitDefEqProofs [-Bool.exists_bool]; try simp (disch := omega) only [w64, wu64]) | (refine need.of (by first | omega | kernel_rfl) ?_) | (refine AW.fin ?_; try simp -implicitDefEqProofs [-Bool.exists_bool]))
      refine CallS.pu (h2) ?_
      (try (simp -implicitDefEqProofs [-Bool.exists_bool]; try simp (disch := omega) only [w64, wu64]))
      repeat (first | refine AW.seq ?_ | refine AW.block ?_ | (refine AW.reg mix ?_; simp -implicitDefEqProofs [-Bool.exists_bool]; try simp (disch := omega) only [w64, wu64]) | (refine need.of (by first | omega | kernel_rfl) ?_) | (refine AW.fin ?_; try simp -implicitDefEqProofs [-Bool.exists_bool]))
      refine CallS.o1 0 (h3) ?_
      (try (simp -implicitDefEqProofs [-Bool.exists_bool]; try simp (disch := omega) only [w64, wu64]))
      repeat (first | refine AW.seq ?_ | refine AW.block ?_ | (refine AW.reg mix ?_; simp -implicitDefEqProofs [-Bool.exists_bool]; try simp (disch := omega) only [w64, wu64]) | (refine need.of (by first | omega | kernel_rfl) ?_) | (refine AW.fin ?_; try simp -implicitDefEqProofs [-Bool.exists_bool]))
      refine CallS.pu (h4 Y T F) ?_
      (try (simp -implicitDefEqProofs [-Bool.exists_bool]; try simp (disch := omega) only [w64, wu64]))
      repeat (first | refine AW.seq ?_ | refine AW.block ?_ | (refine AW.reg mix ?_; simp -implicitDefEqProofs [-Bool.exists_bool]; try simp (disch := omega) only [w64, wu64]) | (refine need.of (by first | omega | kernel_rfl) ?_) | (refine AW.fin ?_; try simp -implicitDefEqProofs [-Bool.exists_bool]))
    · simp at h
  · rcases h with ⟨rfl, -⟩ | ⟨-, h⟩
    · exact absurd rfl hk
    rw [addRM, if_neg hk] at hR
    have h1 := rchain_ok k a b
    have h2 := rlink_ok y 0 f
    have h3 := addC_int h cs hc y hy f n m hmx hn p d hp _ rfl
    have hk' : ¬ (k : Int) = 4 := by omega
    generalize addL (stOf cs k a) (2 ^ b - 1) n y f p d = S at *
    subst hR
    obtain ⟨e, sx, sf, sp, sd⟩ := S
    have h4 : ∀ y f, _ := rlinked_ok
    simp only [c_reg_Param_Add, parD, tsD, stR] at hwr h1 h2 h3 ⊢
    obtain ⟨Y, F, hS1, hS2, hS⟩ : ∃ (Y : Nat) (F : Bool), (if e = 0 then sx else y) = Y ∧ (if e = 0 then sf else f) = F ∧ (if e = 0 then D.agg [.int .i64 sx, .int .i64 (0 : Nat), .bool sf] else D.agg [.int .i64 y, .int .i64 (0 : Nat), .bool f]) = D.agg [.int .i64 Y, .int .i64 0, .bool F] := by
      by_cases he : e = 0
      · simp only [if_pos he]; exact ⟨sx, sf, rfl, rfl, rfl⟩
      · simp only [if_neg he]; exact ⟨y, f, rfl, rfl, rfl⟩
    rw [hS1, hS2] at h3
    rw [hS]
    simp only [Int.natCast_zero, show ((0 : Nat) : Int) = 0 by rfl] at hwr
    repeat (first | refine AW.seq ?_ | refine AW.block ?_ | (refine AW.reg mix ?_; simp -implicitDefEqProofs [-Bool.exists_bool]; try simp (disch := omega) only [w64, wu64]) | (refine need.of (by first | omega | kernel_rfl) ?_) | (refine AW.fin ?_; try simp -implicitDefEqProofs [-Bool.exists_bool]))
    refine CallS.pf 4 3 ⟨36, _⟩ [.int .i64 y, .int .i64 0, .bool f] (hwr) (by first | rfl | (simp [-Bool.exists_bool]; done)) ?_
    (try (simp -implicitDefEqProofs [-Bool.exists_bool]; try simp (disch := omega) only [w64, wu64]))
    repeat (first | refine AW.seq ?_ | refine AW.block ?_ | (refine AW.reg mix ?_; simp -implicitDefEqProofs [-Bool.exists_bool]; try simp (disch := omega) only [w64, wu64]) | (refine need.of (by first | omega | kernel_rfl) ?_) | (refine AW.fin ?_; try simp -implicitDefEqProofs [-Bool.exists_bool]))
    refine AW.cond rfl (fun h => ?_) (fun h => ?_)
    · simp at h
    repeat (first | refine AW.seq ?_ | refine AW.block ?_ | (refine AW.reg mix ?_; simp -implicitDefEqProofs [hk, hk', -Bool.exists_bool]; try simp (disch := omega) only [w64, wu64]) | (refine need.of (by first | omega | kernel_rfl) ?_) | (refine AW.fin ?_; try simp -implicitDefEqProofs [hk, hk', -Bool.exists_bool]))
    refine AW.cond rfl (fun h => ?_) (fun h => ?_)
    · simp [hk'] at h
    · repeat (first | refine AW.seq ?_ | refine AW.block ?_ | (refine AW.reg mix ?_; simp -implicitDefEqProofs [-Bool.exists_bool]; try simp (disch := omega) only [w64, wu64]) | (refine need.of (by first | omega | kernel_rfl) ?_) | (refine AW.fin ?_; try simp -implicitDefEqProofs [-Bool.exists_bool]))
      refine CallS.pu (h1) ?_
      (try (simp -implicitDefEqProofs [-Bool.exists_bool]; try simp (disch := omega) only [w64, wu64]))
      repeat (first | refine AW.seq ?_ | refine AW.block ?_ | (refine AW.reg mix ?_; simp -implicitDefEqProofs [-Bool.exists_bool]; try simp (disch := omega) only [w64, wu64]) | (refine need.of (by first | omega | kernel_rfl) ?_) | (refine AW.fin ?_; try simp -implicitDefEqProofs [-Bool.exists_bool]))
      refine CallS.pu (h2) ?_
      (try (simp -implicitDefEqProofs [-Bool.exists_bool]; try simp (disch := omega) only [w64, wu64]))
      repeat (first | refine AW.seq ?_ | refine AW.block ?_ | (refine AW.reg mix ?_; simp -implicitDefEqProofs [-Bool.exists_bool]; try simp (disch := omega) only [w64, wu64]) | (refine need.of (by first | omega | kernel_rfl) ?_) | (refine AW.fin ?_; try simp -implicitDefEqProofs [-Bool.exists_bool]))
      refine CallS.o1 0 (h3) ?_
      (try (simp -implicitDefEqProofs [-Bool.exists_bool]; try simp (disch := omega) only [w64, wu64]))
      repeat (first | refine AW.seq ?_ | refine AW.block ?_ | (refine AW.reg mix ?_; simp -implicitDefEqProofs [-Bool.exists_bool]; try simp (disch := omega) only [w64, wu64]) | (refine need.of (by first | omega | kernel_rfl) ?_) | (refine AW.fin ?_; try simp -implicitDefEqProofs [-Bool.exists_bool]))
      refine CallS.pu (h4 Y F) ?_
      (try (simp -implicitDefEqProofs [-Bool.exists_bool]; try simp (disch := omega) only [w64, wu64]))
      repeat (first | refine AW.seq ?_ | refine AW.block ?_ | (refine AW.reg mix ?_; simp -implicitDefEqProofs [-Bool.exists_bool]; try simp (disch := omega) only [w64, wu64]) | (refine need.of (by first | omega | kernel_rfl) ?_) | (refine AW.fin ?_; try simp -implicitDefEqProofs [-Bool.exists_bool]))


theorem radd_ok (cs : List Bool) (k a b y t : Nat) (f : Bool) (n : Nat) (p : Nat) (d : Bool) (h : GoodR k a b) (hw : WellR k a b y t f) (hn : n ≤ 1048576) (hp : p ≤ cs.length) (hc : cs.length ≤ 4000000) (R : TR) (hR : R = addRM cs k a b n y t f p d) :
    Eqn Tryz.prog n_reg_Param_Add [.d (parD k a b), .p 0 0, .d (tsD y t f), .d (.int .i64 n)] [tapeO cs p d] (.tup [.d (stR R y t f), .d (.int .i64 R.e)]) [tapeO cs R.p R.d] :=
  radd_int cs k a b y t f n n (by omega) p d h hw (by omega) hp hc R hR
end
end Go.Proofs.YtdbfenhaljmbfaaGreat.Am
namespace Go.Proofs.YtdbfenhaljmbfaaGreat.Am
section
set_option linter.unusedVariables false
set_option linter.unusedSimpArgs false
open Go.RowKit
set_option maxRecDepth 100000
set_option linter.unusedSimpArgs false
set_option linter.unusedVariables false

theorem meth_mvalue : MethOK Tryz.prog 206 "tallymark/chain.value" n_chain_aMorris_value := fun v w => by kernel_rfl
theorem meth_fvalue : MethOK Tryz.prog 207 "tallymark/chain.value" n_chain_aFloat_value := fun v w => by kernel_rfl
theorem meth_yvalue : MethOK Tryz.prog 208 "tallymark/chain.value" n_chain_aYu_value := fun v w => by kernel_rfl

/-- what a chain's place stands for -/
def valF (d k : Nat) : Nat := (2 ^ d + k % 2 ^ d) * 2 ^ (k / 2 ^ d) - 2 ^ d
def valC (k a y : Nat) : Rat := if k = 1 then valM a y else if k = 2 then ((valF a y : Nat) : Rat) else (((placeY a y).value : Nat) : Rat)

theorem cmvalue_ok (a k : Nat) (h1 : 1 ≤ a) (h2 : a ≤ 4096) (hk : k ≤ 1023) (hb : bitsN (a + 1) * k ≤ 8192) : Eqn Tryz.prog n_chain_aMorris_value [.d (.int .i64 a), .d (.int .i64 k)] [] (.tup [.d (rD (valM a k)), .d (.int .i64 0)]) [] := by
  refine Eqn.pure r_chain_aMorris_value Plain.ok ?_
  have h := (mvalue_ok a k h1 h2 hk hb).1
  simp only [c_chain_aMorris_value, rD] at h ⊢
  repeat (first | refine AW.seq ?_ | refine AW.block ?_ | (refine AW.reg mix ?_; simp -implicitDefEqProofs; try simp (disch := omega) only [w64, wu64]) | (refine need.of (by first | omega | kernel_rfl) ?_) | (refine AW.fin ?_; try simp -implicitDefEqProofs))
  refine CallS.pu (h) ?_
  (try (simp -implicitDefEqProofs; try simp (disch := omega) only [w64, wu64]))
  repeat (first | refine AW.seq ?_ | refine AW.block ?_ | (refine AW.reg mix ?_; simp -implicitDefEqProofs; try simp (disch := omega) only [w64, wu64]) | (refine need.of (by first | omega | kernel_rfl) ?_) | (refine AW.fin ?_; try simp -implicitDefEqProofs))
theorem cfvalue_ok (d k : Nat) (hd : d ≤ 8) (hk : k ≤ 1023) : Eqn Tryz.prog n_chain_aFloat_value [.d (.int .i64 d), .d (.int .i64 k)] [] (.tup [.d (rD ((valF d k : Nat) : Rat)), .d (.int .i64 0)]) [] := by
  refine Eqn.pure r_chain_aFloat_value Plain.ok ?_
  have h := value_big d k hd hk
  rw [show (2 ^ d + k % 2 ^ d) * 2 ^ (k / 2 ^ d) - 2 ^ d = valF d k from rfl] at h
  have h2 := rnat_rat (valF d k)
  generalize valF d k = v at *
  simp only [c_chain_aFloat_value, rD] at h2 ⊢
  repeat (first | refine AW.seq ?_ | refine AW.block ?_ | (refine AW.reg mix ?_; simp -implicitDefEqProofs; try simp (disch := omega) only [w64, wu64]) | (refine need.of (by first | omega | kernel_rfl) ?_) | (refine AW.fin ?_; try simp -implicitDefEqProofs))
  refine CallS.pu (h) ?_
  (try (simp -implicitDefEqProofs; try simp (disch := omega) only [w64, wu64]))
  repeat (first | refine AW.seq ?_ | refine AW.block ?_ | (refine AW.reg mix ?_; simp -implicitDefEqProofs; try simp (disch := omega) only [w64, wu64]) | (refine need.of (by first | omega | kernel_rfl) ?_) | (refine AW.fin ?_; try simp -implicitDefEqProofs))
  refine CallS.pu (h2) ?_
  (try (simp -implicitDefEqProofs; try simp (disch := omega) only [w64, wu64]))
  repeat (first | refine AW.seq ?_ | refine AW.block ?_ | (refine AW.reg mix ?_; simp -implicitDefEqProofs; try simp (disch := omega) only [w64, wu64]) | (refine need.of (by first | omega | kernel_rfl) ?_) | (refine AW.fin ?_; try simp -implicitDefEqProofs))
theorem cyvalue_ok (s k : Nat) (s1 : 1 ≤ s) (s5 : s ≤ 5) (hk : k ≤ 1023) : Eqn Tryz.prog n_chain_aYu_value [.d (.int .i64 s), .d (.int .i64 k)] [] (.tup [.d (rD (((placeY s k).value : Nat) : Rat)), .d (.int .i64 0)]) [] := by
  refine Eqn.pure r_chain_aYu_value Plain.ok ?_
  have h := at_good s k s1 s5 hk
  have h2 := rnat_rat (placeY s k).value
  generalize placeY s k = p at *
  simp only [c_chain_aYu_value, rD, plD] at h h2 ⊢
  repeat (first | refine AW.seq ?_ | refine AW.block ?_ | (refine AW.reg mix ?_; simp -implicitDefEqProofs; try simp (disch := omega) only [w64, wu64]) | (refine need.of (by first | omega | kernel_rfl) ?_) | (refine AW.fin ?_; try simp -implicitDefEqProofs))
  refine CallS.pu (h) ?_
  (try (simp -implicitDefEqProofs; try simp (disch := omega) only [w64, wu64]))
  repeat (first | refine AW.seq ?_ | refine AW.block ?_ | (refine AW.reg mix ?_; simp -implicitDefEqProofs; try simp (disch := omega) only [w64, wu64]) | (refine need.of (by first | omega | kernel_rfl) ?_) | (refine AW.fin ?_; try simp -implicitDefEqProofs))
  refine CallS.pu (h2) ?_
  (try (simp -implicitDefEqProofs; try simp (disch := omega) only [w64, wu64]))
  repeat (first | refine AW.seq ?_ | refine AW.block ?_ | (refine AW.reg mix ?_; simp -implicitDefEqProofs; try simp (disch := omega) only [w64, wu64]) | (refine need.of (by first | omega | kernel_rfl) ?_) | (refine AW.fin ?_; try simp -implicitDefEqProofs))

theorem goodC_bits {a w x : Nat} (h : GoodC 1 a w) (hx : x ≤ 2 ^ w - 1) : bitsN (a + 1) * x ≤ 8192 := by
  obtain ⟨h, -⟩ := h
  rcases h with ⟨-, -, -, h⟩ | ⟨h, -⟩ | ⟨h, -⟩
  · exact Nat.le_trans (Nat.mul_le_mul_left _ hx) h
  · omega
  · omega

theorem cvalue_ok {k a w : Nat} (h : GoodC k a w) (x : Nat) (hx : x ≤ 2 ^ w - 1) : Eqn Tryz.prog n_chain_Param_Value [.d (parD k a w), .d (.int .i64 x)] [] (.tup [.d (rD (valC k a x)), .d (.int .i64 0)]) [] := by
  refine Eqn.pure r_chain_Param_Value Plain.ok ?_
  have hat := at_ok1 k a w h.2.2 x (by omega) (by omega) (goodC_check h)
  have hkd := kind_ok k a w
  have h10 : 2 ^ w ≤ 2 ^ 10 := Nat.pow_le_pow_right (by omega) h.2.2
  have hx1 : x ≤ 1023 := by omega
  have hb := goodC_bits (a := a) (w := w) (x := x)
  obtain ⟨hc, -⟩ := h
  simp only [c_chain_Param_Value, parD] at hat ⊢
  rcases hc with ⟨rfl, a1, a2, a3⟩ | ⟨rfl, a1⟩ | ⟨rfl, a1, a2⟩
  · have hv := cmvalue_ok a x a1 a2 hx1 (Nat.le_trans (Nat.mul_le_mul_left _ hx) a3)
    rw [show kindD ((1 : Nat) : Int) a = .ifc 206 (.int .i64 a) from rfl] at hkd
    rw [show valC 1 a x = valM a x from rfl]
    generalize valM a x = v at *
    simp only [rD] at hv ⊢
    repeat (first | refine AW.seq ?_ | refine AW.block ?_ | (refine AW.reg mix ?_; simp -implicitDefEqProofs; try simp (disch := omega) only [w64, wu64]) | (refine need.of (by first | omega | kernel_rfl) ?_) | (refine AW.fin ?_; try simp -implicitDefEqProofs))
    refine CallS.pf 2 1 ⟨3, _⟩ [.int .i64 x] (hat) (by first | rfl | (simp; done)) ?_
    (try (simp -implicitDefEqProofs; try simp (disch := omega) only [w64, wu64]))
    repeat (first | refine AW.seq ?_ | refine AW.block ?_ | (refine AW.reg mix ?_; simp -implicitDefEqProofs; try simp (disch := omega) only [w64, wu64]) | (refine need.of (by first | omega | kernel_rfl) ?_) | (refine AW.fin ?_; try simp -implicitDefEqProofs))
    refine AW.cond rfl (fun h => ?_) (fun h => ?_)
    · simp at h
    repeat (first | refine AW.seq ?_ | refine AW.block ?_ | (refine AW.reg mix ?_; simp -implicitDefEqProofs; try simp (disch := omega) only [w64, wu64]) | (refine need.of (by first | omega | kernel_rfl) ?_) | (refine AW.fin ?_; try simp -implicitDefEqProofs))
    refine CallS.pu (hkd) ?_
    (try (simp -implicitDefEqProofs; try simp (disch := omega) only [w64, wu64]))
    repeat (first | refine AW.seq ?_ | refine AW.block ?_ | (refine AW.reg mix ?_; simp -implicitDefEqProofs; try simp (disch := omega) only [w64, wu64]) | (refine need.of (by first | omega | kernel_rfl) ?_) | (refine AW.fin ?_; try simp -implicitDefEqProofs))
    refine ⟨_, meth_mvalue, ?_⟩
    refine CallS.pu (hv) ?_
    (try (simp -implicitDefEqProofs; try simp (disch := omega) only [w64, wu64]))
    repeat (first | refine AW.seq ?_ | refine AW.block ?_ | (refine AW.reg mix ?_; simp -implicitDefEqProofs; try simp (disch := omega) only [w64, wu64]) | (refine need.of (by first | omega | kernel_rfl) ?_) | (refine AW.fin ?_; try simp -implicitDefEqProofs))
    trace_state
  · have hv := cfvalue_ok a x a1 hx1
    rw [show kindD ((2 : Nat) : Int) a = .ifc 207 (.int .i64 a) from rfl] at hkd
    rw [show valC 2 a x = ((valF a x : Nat) : Rat) from rfl]
    generalize ((valF a x : Nat) : Rat) = v at *
    simp only [rD] at hv ⊢
    repeat (first | refine AW.seq ?_ | refine AW.block ?_ | (refine AW.reg mix ?_; simp -implicitDefEqProofs; try simp (disch := omega) only [w64, wu64]) | (refine need.of (by first | omega | kernel_rfl) ?_) | (refine AW.fin ?_; try simp -implicitDefEqProofs))
    refine CallS.pf 2 1 ⟨3, _⟩ [.int .i64 x] (hat) (by first | rfl | (simp; done)) ?_
    (try (simp -implicitDefEqProofs; try simp (disch := omega) only [w64, wu64]))
    repeat (first | refine AW.seq ?_ | refine AW.block ?_ | (refine AW.reg mix ?_; simp -implicitDefEqProofs; try simp (disch := omega) only [w64, wu64]) | (refine need.of (by first | omega | kernel_rfl) ?_) | (refine AW.fin ?_; try simp -implicitDefEqProofs))
    refine AW.cond rfl (fun h => ?_) (fun h => ?_)
    · simp at h
    repeat (first | refine AW.seq ?_ | refine AW.block ?_ | (refine AW.reg mix ?_; simp -implicitDefEqProofs; try simp (disch := omega) only [w64, wu64]) | (refine need.of (by first | omega | kernel_rfl) ?_) | (refine AW.fin ?_; try simp -implicitDefEqProofs))
    refine CallS.pu (hkd) ?_
    (try (simp -implicitDefEqProofs; try simp (disch := omega) only [w64, wu64]))
    repeat (first | refine AW.seq ?_ | refine AW.block ?_ | (refine AW.reg mix ?_; simp -implicitDefEqProofs; try simp (disch := omega) only [w64, wu64]) | (refine need.of (by first | omega | kernel_rfl) ?_) | (refine AW.fin ?_; try simp -implicitDefEqProofs))
    refine ⟨_, meth_fvalue, ?_⟩
    refine CallS.pu (hv) ?_
    (try (simp -implicitDefEqProofs; try simp (disch := omega) only [w64, wu64]))
    repeat (first | refine AW.seq ?_ | refine AW.block ?_ | (refine AW.reg mix ?_; simp -implicitDefEqProofs; try simp (disch := omega) only [w64, wu64]) | (refine need.of (by first | omega | kernel_rfl) ?_) | (refine AW.fin ?_; try simp -implicitDefEqProofs))
  · have hv := cyvalue_ok a x a1 a2 hx1
    rw [show kindD ((3 : Nat) : Int) a = .ifc 208 (.int .i64 a) from rfl] at hkd
    rw [show valC 3 a x = (((placeY a x).value : Nat) : Rat) from rfl]
    generalize (((placeY a x).value : Nat) : Rat) = v at *
    simp only [rD] at hv ⊢
    repeat (first | refine AW.seq ?_ | refine AW.block ?_ | (refine AW.reg mix ?_; simp -implicitDefEqProofs; try simp (disch := omega) only [w64, wu64]) | (refine need.of (by first | omega | kernel_rfl) ?_) | (refine AW.fin ?_; try simp -implicitDefEqProofs))
    refine CallS.pf 2 1 ⟨3, _⟩ [.int .i64 x] (hat) (by first | rfl | (simp; done)) ?_
    (try (simp -implicitDefEqProofs; try simp (disch := omega) only [w64, wu64]))
    repeat (first | refine AW.seq ?_ | refine AW.block ?_ | (refine AW.reg mix ?_; simp -implicitDefEqProofs; try simp (disch := omega) only [w64, wu64]) | (refine need.of (by first | omega | kernel_rfl) ?_) | (refine AW.fin ?_; try simp -implicitDefEqProofs))
    refine AW.cond rfl (fun h => ?_) (fun h => ?_)
    · simp at h
    repeat (first | refine AW.seq ?_ | refine AW.block ?_ | (refine AW.reg mix ?_; simp -implicitDefEqProofs; try simp (disch := omega) only [w64, wu64]) | (refine need.of (by first | omega | kernel_rfl) ?_) | (refine AW.fin ?_; try simp -implicitDefEqProofs))
    refine CallS.pu (hkd) ?_
    (try (simp -implicitDefEqProofs; try simp (disch := omega) only [w64, wu64]))
    repeat (first | refine AW.seq ?_ | refine AW.block ?_ | (refine AW.reg mix ?_; simp -implicitDefEqProofs; try simp (disch := omega) only [w64, wu64]) | (refine need.of (by first | omega | kernel_rfl) ?_) | (refine AW.fin ?_; try simp -implicitDefEqProofs))
    refine ⟨_, meth_yvalue, ?_⟩
    refine CallS.pu (hv) ?_
    (try (simp -implicitDefEqProofs; try simp (disch := omega) only [w64, wu64]))
    repeat (first | refine AW.seq ?_ | refine AW.block ?_ | (refine AW.reg mix ?_; simp -implicitDefEqProofs; try simp (disch := omega) only [w64, wu64]) | (refine need.of (by first | omega | kernel_rfl) ?_) | (refine AW.fin ?_; try simp -implicitDefEqProofs))
end
end Go.Proofs.YtdbfenhaljmbfaaGreat.Am
namespace Go.Proofs.YtdbfenhaljmbfaaGreat.Am
section
set_option linter.unusedVariables false
set_option linter.unusedSimpArgs false
open Go.RowKit
set_option maxRecDepth 100000
set_option linter.unusedSimpArgs false
set_option linter.unusedVariables false

/-- widths of the two numbers -/
def kwR (k a b : Nat) : Nat := if k = 4 then bitsN a else b
def twR (k b : Nat) : Nat := if k = 4 then bitsN b else 0
theorem kwR_pos {k a b : Nat} (h : GoodR k a b) : 0 < kwR k a b ∧ kwR k a b ≤ 10 := by
  unfold kwR
  rcases h with ⟨rfl, h⟩ | ⟨hk, h⟩
  · rw [if_pos rfl]
    refine ⟨?_, bitsN_le (by have := h.2.1; omega)⟩
    unfold bitsN; rw [if_neg (by have := h.1; omega)]; omega
  · rw [if_neg hk]; exact ⟨h.2.1, h.2.2⟩
theorem twR_le {k a b : Nat} (h : GoodR k a b) : twR k b ≤ 5 := by
  unfold twR
  rcases h with ⟨rfl, h⟩ | ⟨hk, h⟩
  · rw [if_pos rfl]; exact bitsN_le (by have := h.2.2; omega)
  · rw [if_neg hk]; omega
theorem well_fits {k a b y t : Nat} {f : Bool} (hg : GoodR k a b) (h : WellR k a b y t f) : y < 2 ^ kwR k a b ∧ t < 2 ^ twR k b := by
  unfold kwR twR
  rcases h with ⟨rfl, h1, h2, -⟩ | ⟨hk, rfl, h1, -⟩
  · rw [if_pos rfl, if_pos rfl]
    exact ⟨Nat.lt_of_le_of_lt h1 (lt_bitsN a), Nat.lt_of_le_of_lt h2 (lt_bitsN b)⟩
  · rw [if_neg hk, if_neg hk]
    have := Nat.two_pow_pos b
    omega

theorem mlen_ok (x : Nat) (hx : x < 18446744073709551616) : Eqn Tryz.prog n_math_bits_Len [.d (.int .u64 x)] [] (.d (.int .i64 (bitsN x))) [] := by
  refine Eqn.pure r_math_bits_Len Plain.ok ?_
  have hl := len64_ok x hx
  simp only [c_math_bits_Len]
  repeat (first | refine AW.seq ?_ | refine AW.block ?_ | (refine AW.reg mix ?_; simp -implicitDefEqProofs; try simp (disch := omega) only [w64, wu64]) | (refine need.of (by first | omega | kernel_rfl) ?_) | (refine AW.fin ?_; try simp -implicitDefEqProofs))
  refine AW.cond rfl (fun h => ?_) (fun h => ?_)
  · simp at h
  · repeat (first | refine AW.seq ?_ | refine AW.block ?_ | (refine AW.reg mix ?_; simp -implicitDefEqProofs; try simp (disch := omega) only [w64, wu64]) | (refine need.of (by first | omega | kernel_rfl) ?_) | (refine AW.fin ?_; try simp -implicitDefEqProofs))
    refine CallS.pu (hl) ?_
    (try (simp -implicitDefEqProofs; try simp (disch := omega) only [w64, wu64]))
    repeat (first | refine AW.seq ?_ | refine AW.block ?_ | (refine AW.reg mix ?_; simp -implicitDefEqProofs; try simp (disch := omega) only [w64, wu64]) | (refine need.of (by first | omega | kernel_rfl) ?_) | (refine AW.fin ?_; try simp -implicitDefEqProofs))

theorem widths_ok {k a b : Nat} (h : GoodR k a b) : Eqn Tryz.prog n_reg_Param_widths [.d (parD k a b)] [] (.tup [.d (.int .i64 (kwR k a b)), .d (.int .i64 (twR k b))]) [] := by
  refine Eqn.pure r_reg_Param_widths Plain.ok ?_
  unfold kwR twR
  rcases h with ⟨rfl, h⟩ | ⟨hk, h⟩
  · rw [if_pos rfl, if_pos rfl]
    have h1 := mlen_ok a (by have := h.2.1; omega)
    have h2 := mlen_ok b (by have := h.2.2; omega)
    have e1 : IntKind.u64.wrap (a : Int) = a := wu64 (by omega) (by have := h.2.1; omega)
    have e2 : IntKind.u64.wrap (b : Int) = b := wu64 (by omega) (by have := h.2.2; omega)
    simp only [c_reg_Param_widths, parD]
    repeat (first | refine AW.seq ?_ | refine AW.block ?_ | (refine AW.reg mix ?_; simp -implicitDefEqProofs; try simp (disch := omega) only [w64, wu64]) | (refine need.of (by first | omega | kernel_rfl) ?_) | (refine AW.fin ?_; try simp -implicitDefEqProofs))
    refine AW.cond rfl (fun h => ?_) (fun h => ?_)
    · repeat (first | refine AW.seq ?_ | refine AW.block ?_ | (refine AW.reg mix ?_; simp -implicitDefEqProofs [e1, e2]; try simp (disch := omega) only [w64, wu64]) | (refine need.of (by first | omega | kernel_rfl) ?_) | (refine AW.fin ?_; try simp -implicitDefEqProofs [e1, e2]))
      refine CallS.pu (h1) ?_
      (try (simp -implicitDefEqProofs [e1, e2]; try simp (disch := omega) only [w64, wu64]))
      repeat (first | refine AW.seq ?_ | refine AW.block ?_ | (refine AW.reg mix ?_; simp -implicitDefEqProofs [e1, e2]; try simp (disch := omega) only [w64, wu64]) | (refine need.of (by first | omega | kernel_rfl) ?_) | (refine AW.fin ?_; try simp -implicitDefEqProofs [e1, e2]))
      refine CallS.pu (h2) ?_
      (try (simp -implicitDefEqProofs; try simp (disch := omega) only [w64, wu64]))
      repeat (first | refine AW.seq ?_ | refine AW.block ?_ | (refine AW.reg mix ?_; simp -implicitDefEqProofs; try simp (disch := omega) only [w64, wu64]) | (refine need.of (by first | omega | kernel_rfl) ?_) | (refine AW.fin ?_; try simp -implicitDefEqProofs))
    · simp at h
  · rw [if_neg hk, if_neg hk]
    have hk' : ¬ (k : Int) = 4 := by omega
    simp only [c_reg_Param_widths, parD]
    repeat (first | refine AW.seq ?_ | refine AW.block ?_ | (refine AW.reg mix ?_; simp -implicitDefEqProofs [hk, hk']; try simp (disch := omega) only [w64, wu64]) | (refine need.of (by first | omega | kernel_rfl) ?_) | (refine AW.fin ?_; try simp -implicitDefEqProofs [hk, hk']))
    refine AW.cond rfl (fun h => ?_) (fun h => ?_)
    · simp [hk'] at h
    · repeat (first | refine AW.seq ?_ | refine AW.block ?_ | (refine AW.reg mix ?_; simp -implicitDefEqProofs; try simp (disch := omega) only [w64, wu64]) | (refine need.of (by first | omega | kernel_rfl) ?_) | (refine AW.fin ?_; try simp -implicitDefEqProofs))

theorem rbits_ok {k a b : Nat} (h : GoodR k a b) : Eqn Tryz.prog n_reg_Param_Bits [.d (parD k a b)] [] (.d (.int .i64 (kwR k a b + twR k b + 1 : Nat))) [] := by
  refine Eqn.pure r_reg_Param_Bits Plain.ok ?_
  have h1 := rcheck_ok h
  have h2 := widths_ok h
  have b1 := (kwR_pos h).2
  have b2 := twR_le h
  simp only [c_reg_Param_Bits, parD] at h1 h2 ⊢
  generalize kwR k a b = K at *
  generalize twR k b = T at *
  have e1 : IntKind.i64.wrap ((K : Int) + T) = (K : Int) + T := w64 (by omega) (by omega)
  have e2 : IntKind.i64.wrap ((K : Int) + T + 1) = (K : Int) + T + 1 := w64 (by omega) (by omega)
  repeat (first | refine AW.seq ?_ | refine AW.block ?_ | (refine AW.reg mix ?_; simp -implicitDefEqProofs; try simp (disch := omega) only [w64, wu64]) | (refine need.of (by first | omega | kernel_rfl) ?_) | (refine AW.fin ?_; try simp -implicitDefEqProofs))
  refine CallS.pu (h1) ?_
  (try (simp -implicitDefEqProofs; try simp (disch := omega) only [w64, wu64]))
  repeat (first | refine AW.seq ?_ | refine AW.block ?_ | (refine AW.reg mix ?_; simp -implicitDefEqProofs; try simp (disch := omega) only [w64, wu64]) | (refine need.of (by first | omega | kernel_rfl) ?_) | (refine AW.fin ?_; try simp -implicitDefEqProofs))
  refine AW.cond rfl (fun h => ?_) (fun h => ?_)
  · simp at h
  repeat (first | refine AW.seq ?_ | refine AW.block ?_ | (refine AW.reg mix ?_; simp -implicitDefEqProofs; try simp (disch := omega) only [w64, wu64]) | (refine need.of (by first | omega | kernel_rfl) ?_) | (refine AW.fin ?_; try simp -implicitDefEqProofs))
  refine CallS.pu (h2) ?_
  (try (simp -implicitDefEqProofs [e1, e2]; try simp (disch := omega) only [w64, wu64]))
  repeat (first | refine AW.seq ?_ | refine AW.block ?_ | (refine AW.reg mix ?_; simp -implicitDefEqProofs [e1, e2]; try simp (disch := omega) only [w64, wu64]) | (refine need.of (by first | omega | kernel_rfl) ?_) | (refine AW.fin ?_; try simp -implicitDefEqProofs [e1, e2]))

/-- a register's bits -/
def encR (k a b y t : Nat) (f : Bool) : List Bool := bitsW y (kwR k a b) ++ bitsW t (twR k b) ++ [f]
theorem encR_len (k a b y t : Nat) (f : Bool) : (encR k a b y t f).length = kwR k a b + twR k b + 1 := by simp [encR]; omega

theorem rwrite0_ok {k a b y t : Nat} {f : Bool} (h : GoodR k a b) (hw : WellR k a b y t f) : Eqn Tryz.prog n_reg_Param_Write [.d (parD k a b), .p 0 0, .d (tsD y t f)] [⟨138, [.d .nilsl, .d (.int .i64 0)]⟩] (.d (.int .i64 0)) [wrO 1 (encR k a b y t f), wrB (encR k a b y t f)] := by
  refine Eqn.gen [0, 6] r_reg_Param_Write (by simp) (by simp) (by rfl) (by decide) (by simp) (by simp [wrO, wrB]) ?_
  have hwr := rwrong1_ok h hw
  have h2 := widths_ok h
  have hkp := kwR_pos h
  have htl := twR_le h
  have hfit := well_fits h hw
  have h2k : 2 ^ kwR k a b ≤ 2 ^ 10 := Nat.pow_le_pow_right (by omega) hkp.2
  have h2t : 2 ^ twR k b ≤ 2 ^ 5 := Nat.pow_le_pow_right (by omega) htl
  have h3 := wnum0_ok y (kwR k a b) hkp.1 (by omega) hfit.1 (by omega)
  have hne : bitsW y (kwR k a b) ≠ [] := fun he => by have := bitsW_len y (kwR k a b); rw [he] at this; simp at this; omega
  have h4 := wnum_ok (bitsW y (kwR k a b)) t (twR k b) hne (by rw [bitsW_len]; omega) (by omega) hfit.2 (by omega)
  have h5 := wbit_ok (bitsW y (kwR k a b) ++ bitsW t (twR k b)) f (fun he => hne (List.append_eq_nil_iff.1 he).1) (by rw [List.length_append, bitsW_len, bitsW_len]; omega)
  have e1 : IntKind.u64.wrap (y : Int) = y := wu64 (by omega) (by omega)
  have e2 : IntKind.u64.wrap (t : Int) = t := wu64 (by omega) (by omega)
  simp only [c_reg_Param_Write, parD, tsD, encR] at hwr h2 ⊢
  generalize bitsW y (kwR k a b) = X1 at *
  generalize X1 ++ bitsW t (twR k b) = X2 at *
  generalize hX3 : X2 ++ [f] = X3 at *
  generalize kwR k a b = K at *
  generalize twR k b = T at *
  simp only [wrO, wrB] at h3 h4 h5 ⊢
  repeat (first | refine AW.seq ?_ | refine AW.block ?_ | (refine AW.reg mix ?_; simp -implicitDefEqProofs; try simp (disch := omega) only [w64, wu64]) | (refine need.of (by first | omega | kernel_rfl) ?_) | (refine AW.fin ?_; try simp -implicitDefEqProofs))
  refine CallS.pf 3 3 ⟨36, _⟩ [.int .i64 y, .int .i64 t, .bool f] (hwr) (by first | rfl | (simp; done)) ?_
  (try (simp -implicitDefEqProofs; try simp (disch := omega) only [w64, wu64]))
  repeat (first | refine AW.seq ?_ | refine AW.block ?_ | (refine AW.reg mix ?_; simp -implicitDefEqProofs; try simp (disch := omega) only [w64, wu64]) | (refine need.of (by first | omega | kernel_rfl) ?_) | (refine AW.fin ?_; try simp -implicitDefEqProofs))
  refine AW.cond rfl (fun h => ?_) (fun h => ?_)
  · simp at h
  repeat (first | refine AW.seq ?_ | refine AW.block ?_ | (refine AW.reg mix ?_; simp -implicitDefEqProofs; try simp (disch := omega) only [w64, wu64]) | (refine need.of (by first | omega | kernel_rfl) ?_) | (refine AW.fin ?_; try simp -implicitDefEqProofs))
  refine CallS.pu (h2) ?_
  (try (simp -implicitDefEqProofs [e1, e2]; try simp (disch := omega) only [w64, wu64]))
  repeat (first | refine AW.seq ?_ | refine AW.block ?_ | (refine AW.reg mix ?_; simp -implicitDefEqProofs [e1, e2]; try simp (disch := omega) only [w64, wu64]) | (refine need.of (by first | omega | kernel_rfl) ?_) | (refine AW.fin ?_; try simp -implicitDefEqProofs [e1, e2]))
  refine CallS.g [0] (h3) ?_
  (try (simp -implicitDefEqProofs [e1, e2]; try simp (disch := omega) only [w64, wu64]))
  repeat (first | refine AW.seq ?_ | refine AW.block ?_ | (refine AW.reg mix ?_; simp -implicitDefEqProofs [e1, e2]; try simp (disch := omega) only [w64, wu64]) | (refine need.of (by first | omega | kernel_rfl) ?_) | (refine AW.fin ?_; try simp -implicitDefEqProofs [e1, e2]))
  refine CallS.g [0, 4] (h4) ?_
  (try (simp -implicitDefEqProofs [e1, e2]; try simp (disch := omega) only [w64, wu64]))
  repeat (first | refine AW.seq ?_ | refine AW.block ?_ | (refine AW.reg mix ?_; simp -implicitDefEqProofs [e1, e2]; try simp (disch := omega) only [w64, wu64]) | (refine need.of (by first | omega | kernel_rfl) ?_) | (refine AW.fin ?_; try simp -implicitDefEqProofs [e1, e2]))
  refine CallS.g [0, 5] (h5) ?_
  (try (simp -implicitDefEqProofs [e1, e2]; try simp (disch := omega) only [w64, wu64]))
  repeat (first | refine AW.seq ?_ | refine AW.block ?_ | (refine AW.reg mix ?_; simp -implicitDefEqProofs [e1, e2]; try simp (disch := omega) only [w64, wu64]) | (refine need.of (by first | omega | kernel_rfl) ?_) | (refine AW.fin ?_; try simp -implicitDefEqProofs [e1, e2]))

/-- what is read: state, error, the place behind -/
def readR (ws : List Nat) (k a b at_ : Nat) : (Nat × Nat × Bool) × Int × Nat :=
  if 8 * ws.length - at_ < kwR k a b + twR k b + 1 then ((0, 0, false), 5, at_)
  else if wellRB k a b (numAt ws at_ (kwR k a b)) (numAt ws (at_ + kwR k a b) (twR k b)) ((bitsOf ws).getD (at_ + kwR k a b + twR k b) false) then ((numAt ws at_ (kwR k a b), numAt ws (at_ + kwR k a b) (twR k b), (bitsOf ws).getD (at_ + kwR k a b + twR k b) false), 0, at_ + kwR k a b + twR k b + 1)
  else ((0, 0, false), 4, at_ + kwR k a b + twR k b + 1)
end
end Go.Proofs.YtdbfenhaljmbfaaGreat.Am
namespace Go.Proofs.YtdbfenhaljmbfaaGreat.Am
section
set_option linter.unusedVariables false
set_option linter.unusedSimpArgs false
open Go.RowKit
set_option maxRecDepth 100000
set_option linter.unusedSimpArgs false
set_option linter.unusedVariables false

/-- a small parameter that may be -/
def SmallR (k a b : Nat) : Prop := k = 4 ∧ 1 ≤ a ∧ a ≤ 8 ∧ b ≤ 3 ∨ k ≠ 4 ∧ GoodS k a b
theorem goodR_of {k a b : Nat} (h : SmallR k a b) : GoodR k a b := by
  rcases h with ⟨rfl, h1, h2, h3⟩ | ⟨hk, h⟩
  · exact .inl ⟨rfl, h1, by omega, by omega⟩
  · exact .inr ⟨hk, goodC_of h⟩

theorem lown_ok (k a b : Int) : Eqn Tryz.prog n_Tlaw17_Own [.d (parD k a b)] [] (.d (parD k a b)) [] := by
  refine Eqn.pure r_Tlaw17_Own Plain.ok ?_
  simp only [c_Tlaw17_Own, parD]
  repeat (first | refine AW.seq ?_ | refine AW.block ?_ | (refine AW.reg mix ?_; simp -implicitDefEqProofs; try simp (disch := omega) only [w64, wu64]) | (refine need.of (by first | omega | kernel_rfl) ?_) | (refine AW.fin ?_; try simp -implicitDefEqProofs))
theorem lstate_ok (y t : Int) (f : Bool) : Eqn Tryz.prog n_Tlaw17_State [.d (.agg [.int .i64 y, .int .i64 t, .bool f])] [] (.d (.agg [.int .i64 y, .int .i64 t, .bool f])) [] := by
  refine Eqn.pure r_Tlaw17_State Plain.ok ?_
  simp only [c_Tlaw17_State]
  repeat (first | refine AW.seq ?_ | refine AW.block ?_ | (refine AW.reg mix ?_; simp -implicitDefEqProofs; try simp (disch := omega) only [w64, wu64]) | (refine need.of (by first | omega | kernel_rfl) ?_) | (refine AW.fin ?_; try simp -implicitDefEqProofs))

theorem and_tmod (y : Int) (m n : Nat) (hm : m ≤ 1000000) (hn : n ≤ 1000000) : ∃ (N Y : Nat), bits BinOp.and IntKind.i64 y (m : Int) = N ∧ IntKind.i64.wrap ((n : Int) + 1) = (n : Int) + 1 ∧ (N : Int).tmod ((n : Int) + 1) = Y ∧ Y ≤ n := by
  obtain ⟨N, h1, h2, h3⟩ := and_b y m (by omega)
  have hY : N % (n + 1) ≤ n := by have := Nat.mod_lt N (show 0 < n + 1 by omega); omega
  refine ⟨N, N % (n + 1), h1, w64 (by omega) (by omega), ?_, hY⟩
  rw [Int.tmod_eq_emod_of_nonneg (by omega)]; norm_cast

theorem lwithin_ok {k a b : Nat} (h : SmallR k a b) (y t : Int) (f : Bool) : ∃ (Y T : Nat) (F : Bool), WellR k a b Y T F ∧ Eqn Tryz.prog n_Tlaw17_Within [.d (parD k a b), .d (.agg [.int .i64 y, .int .i64 t, .bool f])] [] (.d (tsD Y T F)) [] := by
  rcases h with ⟨rfl, h1, h2, h3⟩ | ⟨hk, h⟩
  · obtain ⟨N1, Y, a1, a2, a3, a4⟩ := and_tmod y 7 a (by omega) (by omega)
    obtain ⟨N2, T, b1, b2, b3, b4⟩ := and_tmod t 3 b (by omega) (by omega)
    replace a1 : bits BinOp.and IntKind.i64 y 7 = N1 := a1
    replace b1 : bits BinOp.and IntKind.i64 t 3 = N2 := b1
    refine ⟨Y, T, f && (T == b), .inl ⟨rfl, a4, b4, by simp⟩, ?_⟩
    refine Eqn.pure r_Tlaw17_Within Plain.ok ?_
    have hF : ((T : Int) == (b : Int)) = (T == b) := by rw [Bool.eq_iff_iff]; simp; omega
    simp only [c_Tlaw17_Within, parD, tsD]
    generalize (T == b) = F at *
    cases f with
    | true =>
      repeat (first | refine AW.seq ?_ | refine AW.block ?_ | (refine AW.reg mix ?_; simp -implicitDefEqProofs [-Bool.exists_bool]; try simp (disch := omega) only [w64, wu64]) | (refine need.of (by first | omega | kernel_rfl) ?_) | (refine AW.fin ?_; try simp -implicitDefEqProofs [-Bool.exists_bool]))
      refine AW.cond rfl (fun h => ?_) (fun h => ?_)
      · repeat (first | refine AW.seq ?_ | refine AW.block ?_ | (refine AW.reg mix ?_; simp -implicitDefEqProofs [a1, a2, a3, b1, b2, b3, hF, -Bool.exists_bool]; try simp (disch := omega) only [w64, wu64]) | (refine need.of (by first | omega | kernel_rfl) ?_) | (refine AW.fin ?_; try simp -implicitDefEqProofs [a1, a2, a3, b1, b2, b3, hF, -Bool.exists_bool]))
      · simp at h
    | false =>
      repeat (first | refine AW.seq ?_ | refine AW.block ?_ | (refine AW.reg mix ?_; simp -implicitDefEqProofs [-Bool.exists_bool]; try simp (disch := omega) only [w64, wu64]) | (refine need.of (by first | omega | kernel_rfl) ?_) | (refine AW.fin ?_; try simp -implicitDefEqProofs [-Bool.exists_bool]))
      refine AW.cond rfl (fun h => ?_) (fun h => ?_)
      · repeat (first | refine AW.seq ?_ | refine AW.block ?_ | (refine AW.reg mix ?_; simp -implicitDefEqProofs [a1, a2, a3, b1, b2, b3, hF, -Bool.exists_bool]; try simp (disch := omega) only [w64, wu64]) | (refine need.of (by first | omega | kernel_rfl) ?_) | (refine AW.fin ?_; try simp -implicitDefEqProofs [a1, a2, a3, b1, b2, b3, hF, -Bool.exists_bool]))
      · simp at h
  · have hW : 2 ^ b - 1 ≤ 15 := by have := Nat.pow_le_pow_right (n := 2) (by omega) h.2.2; omega
    have hb2 : 0 < 2 ^ b := Nat.two_pow_pos b
    obtain ⟨N1, Y, a1, a2, a3, a4⟩ := and_tmod y 15 (2 ^ b - 1) (by omega) (by omega)
    replace a1 : bits BinOp.and IntKind.i64 y 15 = N1 := a1
    refine ⟨Y, 0, f && (Y == 2 ^ b - 1), .inr ⟨hk, rfl, a4, by simp⟩, ?_⟩
    refine Eqn.pure r_Tlaw17_Within Plain.ok ?_
    have hF : ((Y : Int) == ((2 ^ b - 1 : Nat) : Int)) = (Y == 2 ^ b - 1) := by rw [Bool.eq_iff_iff]; simp only [beq_iff_eq]; omega
    have e0 : (2 : Int) ^ b = (2 ^ b : Nat) := by rw [Int.natCast_pow]; rfl
    have hk' : ¬ (k : Int) = 4 := by omega
    have hb64 : b ≤ 64 := by have := h.2.2; omega
    simp only [c_Tlaw17_Within, parD, tsD]
    generalize (Y == 2 ^ b - 1) = F at *
    generalize 2 ^ b = S at *
    have e3 : IntKind.i64.wrap (S : Int) = S := w64 (by omega) (by omega)
    have e4 : IntKind.i64.wrap ((S : Int) - 1) = ((S - 1 : Nat) : Int) := by rw [w64 (by omega) (by omega)]; omega
    generalize S - 1 = S1 at *
    cases f with
    | true =>
      repeat (first | refine AW.seq ?_ | refine AW.block ?_ | (refine AW.reg mix ?_; simp -implicitDefEqProofs [hk, hk', -Bool.exists_bool]; try simp (disch := omega) only [w64, wu64]) | (refine need.of (by first | omega | kernel_rfl) ?_) | (refine AW.fin ?_; try simp -implicitDefEqProofs [hk, hk', -Bool.exists_bool]))
      refine AW.cond rfl (fun h => ?_) (fun h => ?_)
      · simp [hk'] at h
      · repeat (first | refine AW.seq ?_ | refine AW.block ?_ | (refine AW.reg mix ?_; simp -implicitDefEqProofs [a1, a2, a3, e0, e3, e4, hF, hb64, -Bool.exists_bool]; try simp (disch := omega) only [w64, wu64]) | (refine need.of (by first | omega | kernel_rfl) ?_) | (refine AW.fin ?_; try simp -implicitDefEqProofs [a1, a2, a3, e0, e3, e4, hF, hb64, -Bool.exists_bool]))
    | false =>
      repeat (first | refine AW.seq ?_ | refine AW.block ?_ | (refine AW.reg mix ?_; simp -implicitDefEqProofs [hk, hk', -Bool.exists_bool]; try simp (disch := omega) only [w64, wu64]) | (refine need.of (by first | omega | kernel_rfl) ?_) | (refine AW.fin ?_; try simp -implicitDefEqProofs [hk, hk', -Bool.exists_bool]))
      refine AW.cond rfl (fun h => ?_) (fun h => ?_)
      · simp [hk'] at h
      · repeat (first | refine AW.seq ?_ | refine AW.block ?_ | (refine AW.reg mix ?_; simp -implicitDefEqProofs [a1, a2, a3, e0, e3, e4, hF, hb64, -Bool.exists_bool]; try simp (disch := omega) only [w64, wu64]) | (refine need.of (by first | omega | kernel_rfl) ?_) | (refine AW.fin ?_; try simp -implicitDefEqProofs [a1, a2, a3, e0, e3, e4, hF, hb64, -Bool.exists_bool]))

/-- what a small parameter is made of -/
theorem lsmall_ok (k a b : Int) : ∃ K A B : Nat, SmallR K A B ∧ ∀ (y t : Int) (f : Bool), ∃ (Y T : Nat) (F : Bool), WellR K A B Y T F ∧ Eqn Tryz.prog n_Tlaw17_Small [.d (parD k a b), .d (.agg [.int .i64 y, .int .i64 t, .bool f])] [] (.tup [.d (parD K A B), .d (tsD Y T F)]) [] := by
  obtain ⟨e1, K, e2, hK, e3⟩ := tmod_r k 4 (by omega) (by omega)
  obtain ⟨B1, B2, b1, b2, b3, b4⟩ := and_tmod b 255 3 (by omega) (by omega)
  replace b1 : bits BinOp.and IntKind.i64 b 255 = B1 := b1
  replace b3 : (B1 : Int).tmod 4 = B2 := b3
  obtain ⟨B3, d1, d2, d3⟩ := and_b b 3 (by omega)
  obtain ⟨A1, a1, a2, a3⟩ := and_b a 3 (by omega)
  obtain ⟨A2, a4, a5, a6⟩ := and_b a 1 (by omega)
  obtain ⟨A3, a7, a8, a9⟩ := and_b a 7 (by omega)
  replace a1 : bits BinOp.and IntKind.i64 a 3 = A1 := a1
  replace a4 : bits BinOp.and IntKind.i64 a 1 = A2 := a4
  replace a7 : bits BinOp.and IntKind.i64 a 7 = A3 := a7
  replace d1 : bits BinOp.and IntKind.i64 b 3 = B3 := d1
  have e4 : IntKind.i64.wrap (1 + (B2 : Int)) = ((1 + B2 : Nat) : Int) := by rw [w64 (by omega) (by omega)]; omega
  have hK' : K = 0 ∨ K = 1 ∨ K = 2 ∨ K = 3 := by omega
  rcases hK' with rfl | rfl | rfl | rfl
  · refine ⟨1, 1 + A1, 1 + B2, .inr ⟨by omega, by omega, by omega, by omega⟩, fun y t f => ?_⟩
    obtain ⟨Y, T, F, hw, hE⟩ := lwithin_ok (k := 1) (a := 1 + A1) (b := 1 + B2) (.inr ⟨by omega, by omega, by omega, by omega⟩) y t f
    refine ⟨Y, T, F, hw, ?_⟩
    refine Eqn.pure r_Tlaw17_Small Plain.ok ?_
    simp only [c_Tlaw17_Small, parD, tsD] at hE ⊢
    generalize 1 + A1 = XA at *
    generalize 1 + B2 = XB at *
    repeat (first | refine AW.seq ?_ | refine AW.block ?_ | (refine AW.reg mix ?_; simp -implicitDefEqProofs [e1, e2, e3, -Bool.exists_bool]; try simp (disch := omega) only [w64, wu64]) | (refine need.of (by first | omega | kernel_rfl) ?_) | (refine AW.fin ?_; try simp -implicitDefEqProofs [e1, e2, e3, -Bool.exists_bool]))
    refine AW.cond rfl (fun h => ?_) (fun h => ?_)
    · repeat (first | refine AW.seq ?_ | refine AW.block ?_ | (refine AW.reg mix ?_; simp -implicitDefEqProofs [b1, b3, e4, a1, a3, -Bool.exists_bool]; try simp (disch := omega) only [w64, wu64]) | (refine need.of (by first | omega | kernel_rfl) ?_) | (refine AW.fin ?_; try simp -implicitDefEqProofs [b1, b3, e4, a1, a3, -Bool.exists_bool]))
      simp at hE
      refine CallS.pu (hE) ?_
      (try (simp -implicitDefEqProofs [-Bool.exists_bool]; try simp (disch := omega) only [w64, wu64]))
      repeat (first | refine AW.seq ?_ | refine AW.block ?_ | (refine AW.reg mix ?_; simp -implicitDefEqProofs [-Bool.exists_bool]; try simp (disch := omega) only [w64, wu64]) | (refine need.of (by first | omega | kernel_rfl) ?_) | (refine AW.fin ?_; try simp -implicitDefEqProofs [-Bool.exists_bool]))
    · simp at h
  · refine ⟨2, A2, 1 + B2, .inr ⟨by omega, by omega, by omega, by omega⟩, fun y t f => ?_⟩
    obtain ⟨Y, T, F, hw, hE⟩ := lwithin_ok (k := 2) (a := A2) (b := 1 + B2) (.inr ⟨by omega, by omega, by omega, by omega⟩) y t f
    refine ⟨Y, T, F, hw, ?_⟩
    refine Eqn.pure r_Tlaw17_Small Plain.ok ?_
    simp only [c_Tlaw17_Small, parD, tsD] at hE ⊢
    generalize 1 + B2 = XB at *
    repeat (first | refine AW.seq ?_ | refine AW.block ?_ | (refine AW.reg mix ?_; simp -implicitDefEqProofs [e1, e2, e3, -Bool.exists_bool]; try simp (disch := omega) only [w64, wu64]) | (refine need.of (by first | omega | kernel_rfl) ?_) | (refine AW.fin ?_; try simp -implicitDefEqProofs [e1, e2, e3, -Bool.exists_bool]))
    refine AW.cond rfl (fun h => ?_) (fun h => ?_)
    · simp at h
    repeat (first | refine AW.seq ?_ | refine AW.block ?_ | (refine AW.reg mix ?_; simp -implicitDefEqProofs [-Bool.exists_bool]; try simp (disch := omega) only [w64, wu64]) | (refine need.of (by first | omega | kernel_rfl) ?_) | (refine AW.fin ?_; try simp -implicitDefEqProofs [-Bool.exists_bool]))
    refine AW.cond rfl (fun h => ?_) (fun h => ?_)
    · repeat (first | refine AW.seq ?_ | refine AW.block ?_ | (refine AW.reg mix ?_; simp -implicitDefEqProofs [b1, b3, e4, a4, -Bool.exists_bool]; try simp (disch := omega) only [w64, wu64]) | (refine need.of (by first | omega | kernel_rfl) ?_) | (refine AW.fin ?_; try simp -implicitDefEqProofs [b1, b3, e4, a4, -Bool.exists_bool]))
      simp at hE
      refine CallS.pu (hE) ?_
      (try (simp -implicitDefEqProofs [-Bool.exists_bool]; try simp (disch := omega) only [w64, wu64]))
      repeat (first | refine AW.seq ?_ | refine AW.block ?_ | (refine AW.reg mix ?_; simp -implicitDefEqProofs [-Bool.exists_bool]; try simp (disch := omega) only [w64, wu64]) | (refine need.of (by first | omega | kernel_rfl) ?_) | (refine AW.fin ?_; try simp -implicitDefEqProofs [-Bool.exists_bool]))
    · simp at h
  · refine ⟨3, 1 + A2, 1 + B2, .inr ⟨by omega, by omega, by omega, by omega⟩, fun y t f => ?_⟩
    obtain ⟨Y, T, F, hw, hE⟩ := lwithin_ok (k := 3) (a := 1 + A2) (b := 1 + B2) (.inr ⟨by omega, by omega, by omega, by omega⟩) y t f
    refine ⟨Y, T, F, hw, ?_⟩
    refine Eqn.pure r_Tlaw17_Small Plain.ok ?_
    simp only [c_Tlaw17_Small, parD, tsD] at hE ⊢
    generalize 1 + A2 = XA at *
    generalize 1 + B2 = XB at *
    repeat (first | refine AW.seq ?_ | refine AW.block ?_ | (refine AW.reg mix ?_; simp -implicitDefEqProofs [e1, e2, e3, -Bool.exists_bool]; try simp (disch := omega) only [w64, wu64]) | (refine need.of (by first | omega | kernel_rfl) ?_) | (refine AW.fin ?_; try simp -implicitDefEqProofs [e1, e2, e3, -Bool.exists_bool]))
    refine AW.cond rfl (fun h => ?_) (fun h => ?_)
    · simp at h
    repeat (first | refine AW.seq ?_ | refine AW.block ?_ | (refine AW.reg mix ?_; simp -implicitDefEqProofs [-Bool.exists_bool]; try simp (disch := omega) only [w64, wu64]) | (refine need.of (by first | omega | kernel_rfl) ?_) | (refine AW.fin ?_; try simp -implicitDefEqProofs [-Bool.exists_bool]))
    refine AW.cond rfl (fun h => ?_) (fun h => ?_)
    · simp at h
    repeat (first | refine AW.seq ?_ | refine AW.block ?_ | (refine AW.reg mix ?_; simp -implicitDefEqProofs [-Bool.exists_bool]; try simp (disch := omega) only [w64, wu64]) | (refine need.of (by first | omega | kernel_rfl) ?_) | (refine AW.fin ?_; try simp -implicitDefEqProofs [-Bool.exists_bool]))
    refine AW.cond rfl (fun h => ?_) (fun h => ?_)
    · repeat (first | refine AW.seq ?_ | refine AW.block ?_ | (refine AW.reg mix ?_; simp -implicitDefEqProofs [b1, b3, e4, a4, a6, -Bool.exists_bool]; try simp (disch := omega) only [w64, wu64]) | (refine need.of (by first | omega | kernel_rfl) ?_) | (refine AW.fin ?_; try simp -implicitDefEqProofs [b1, b3, e4, a4, a6, -Bool.exists_bool]))
      simp at hE
      refine CallS.pu (hE) ?_
      (try (simp -implicitDefEqProofs [-Bool.exists_bool]; try simp (disch := omega) only [w64, wu64]))
      repeat (first | refine AW.seq ?_ | refine AW.block ?_ | (refine AW.reg mix ?_; simp -implicitDefEqProofs [-Bool.exists_bool]; try simp (disch := omega) only [w64, wu64]) | (refine need.of (by first | omega | kernel_rfl) ?_) | (refine AW.fin ?_; try simp -implicitDefEqProofs [-Bool.exists_bool]))
    · simp at h
  · refine ⟨4, 1 + A3, B3, .inl ⟨rfl, by omega, by omega, by omega⟩, fun y t f => ?_⟩
    obtain ⟨Y, T, F, hw, hE⟩ := lwithin_ok (k := 4) (a := 1 + A3) (b := B3) (.inl ⟨rfl, by omega, by omega, by omega⟩) y t f
    refine ⟨Y, T, F, hw, ?_⟩
    refine Eqn.pure r_Tlaw17_Small Plain.ok ?_
    simp only [c_Tlaw17_Small, parD, tsD] at hE ⊢
    generalize 1 + A3 = XA at *
    repeat (first | refine AW.seq ?_ | refine AW.block ?_ | (refine AW.reg mix ?_; simp -implicitDefEqProofs [e1, e2, e3, -Bool.exists_bool]; try simp (disch := omega) only [w64, wu64]) | (refine need.of (by first | omega | kernel_rfl) ?_) | (refine AW.fin ?_; try simp -implicitDefEqProofs [e1, e2, e3, -Bool.exists_bool]))
    refine AW.cond rfl (fun h => ?_) (fun h => ?_)
    · simp at h
    repeat (first | refine AW.seq ?_ | refine AW.block ?_ | (refine AW.reg mix ?_; simp -implicitDefEqProofs [-Bool.exists_bool]; try simp (disch := omega) only [w64, wu64]) | (refine need.of (by first | omega | kernel_rfl) ?_) | (refine AW.fin ?_; try simp -implicitDefEqProofs [-Bool.exists_bool]))
    refine AW.cond rfl (fun h => ?_) (fun h => ?_)
    · simp at h
    repeat (first | refine AW.seq ?_ | refine AW.block ?_ | (refine AW.reg mix ?_; simp -implicitDefEqProofs [-Bool.exists_bool]; try simp (disch := omega) only [w64, wu64]) | (refine need.of (by first | omega | kernel_rfl) ?_) | (refine AW.fin ?_; try simp -implicitDefEqProofs [-Bool.exists_bool]))
    refine AW.cond rfl (fun h => ?_) (fun h => ?_)
    · simp at h
    · repeat (first | refine AW.seq ?_ | refine AW.block ?_ | (refine AW.reg mix ?_; simp -implicitDefEqProofs [d1, a7, a9, -Bool.exists_bool]; try simp (disch := omega) only [w64, wu64]) | (refine need.of (by first | omega | kernel_rfl) ?_) | (refine AW.fin ?_; try simp -implicitDefEqProofs [d1, a7, a9, -Bool.exists_bool]))
      simp at hE
      refine CallS.pu (hE) ?_
      (try (simp -implicitDefEqProofs [-Bool.exists_bool]; try simp (disch := omega) only [w64, wu64]))
      repeat (first | refine AW.seq ?_ | refine AW.block ?_ | (refine AW.reg mix ?_; simp -implicitDefEqProofs [-Bool.exists_bool]; try simp (disch := omega) only [w64, wu64]) | (refine need.of (by first | omega | kernel_rfl) ?_) | (refine AW.fin ?_; try simp -implicitDefEqProofs [-Bool.exists_bool]))
end
end Go.Proofs.YtdbfenhaljmbfaaGreat.Am
namespace Go.Proofs.YtdbfenhaljmbfaaGreat.Am
section
set_option linter.unusedVariables false
set_option linter.unusedSimpArgs false
open Go.RowKit
set_option maxRecDepth 100000
set_option linter.unusedSimpArgs false
set_option linter.unusedVariables false
end
end Go.Proofs.YtdbfenhaljmbfaaGreat.Am
namespace Go.Proofs.YtdbfenhaljmbfaaGreat.Am
section
set_option linter.unusedVariables false
set_option linter.unusedSimpArgs false
open Go.RowKit
set_option maxRecDepth 100000
set_option linter.unusedSimpArgs false
set_option linter.unusedVariables false
end
end Go.Proofs.YtdbfenhaljmbfaaGreat.Am
namespace Go.Proofs.YtdbfenhaljmbfaaGreat.Am
section
set_option linter.unusedVariables false
set_option linter.unusedSimpArgs false
open Go.RowKit

theorem fnOf_enter {P : Program} {f : FuncId} {c : C} {rs : List RV} {nt : Nat} (hf : fnOf P f = some (c, rs, nt, false)) (vs : Array Value) (w : World) : (callFunc f vs).run P w = .ok (.enter f vs) w := by
  unfold fnOf at hf
  split at hf
  · rename_i fn hfn
    split at hf
    · rename_i b hb
      simp only [Option.some.injEq, Prod.mk.injEq] at hf
      obtain ⟨h1, h2, h3, h4⟩ := hf
      have h1 : ¬ fn.name = "runtime.NumGoroutine" := by simpa using h4
      simp [callFunc, hfn, h1, hb]
    · cases hf
  · cases hf

/-- the world that a law finds: nothing has a name, what is there stays -/
abbrev memW (W : World) : Mem := ⟨fun _ => none, fun b => b < W.heap.size, W⟩

theorem law_walk {P : Program} {f : FuncId} {args : List V} {c : C} {rs : List RV} {nt : Nat} (hf : fnOf P f = some (c, rs, nt, false)) (E : Eqn P f args [] (.d (.bool true)) []) {W : World} {vs : List Value} (h : V.reps (memW W) args vs) :
    Calls P f vs.toArray W (fun e W' => e = .returned (.bool true) ∧ Same W W') := by
  rcases E.run (memW W) vs ⟨fun b h => h, fun n b h => by cases h⟩ h (by simp) (fun n i b h => by simp at h) (fun _ _ => rfl) with ⟨v, h1, _⟩ | ⟨_, h2⟩
  · rw [fnOf_enter hf] at h1; cases h1
  · refine h2.mono ?_
    rintro e w' ⟨v, m', rfl, rfl, hE⟩
    have hv := hE.rep
    rw [V.rep_d] at hv
    unfold D.rep at hv
    subst hv
    exact ⟨rfl, hE.le.os, hE.le.tape, hE.le.output, hE.le.size, fun k hk _ => hE.le.imm k hk⟩

theorem reps_of {I : Nat → Prop} {w : World} {α : Type} (f : α → D) (g : α → Value) (h : ∀ a, D.rep I w (f a) (g a)) : ∀ l : List α, D.reps I w (l.map f) (l.map g)
  | [] => by simp
  | a :: l => by
    rw [List.map_cons, List.map_cons, D.reps_cons]
    exact ⟨h a, reps_of f g h l⟩

/-- a slice that came in, of cells that are data -/
theorem rep_cells {W : World} {v : Value} {α : Type} {l : List α} (f : α → D) (g : α → Value) (hg : ∀ a, (g a).oneCell' = true) (hr : ∀ a, D.rep (fun b => b < W.heap.size) W (f a) (g a)) (h : Cells W v 1 l.length (l.map g)) : V.rep (memW W) (.d (.sl l.length (l.map f))) v := by
  rw [V.rep_d]
  unfold D.rep
  obtain ⟨h1, p, cap, rfl, h2, h3, h4⟩ := h
  refine ⟨p, cap, rfl, h2, h3, l.map g, fun u hu => ?_, reps_of f g hr l, ?_⟩
  · obtain ⟨a, -, rfl⟩ := List.mem_map.1 hu
    exact hg a
  · rcases h4 with ⟨rfl, h5, h6⟩ | ⟨b, o, rfl, hb, hc⟩
    · left
      exact ⟨rfl, h6, by rw [List.eq_nil_of_length_eq_zero h5]; rfl⟩
    · exact .inr ⟨b, o, rfl, .inr hb, hc⟩

/-- bools that came in -/
theorem rep_bools {W : World} {v : Value} {cs : List Bool} (h : Bools W v cs) : V.rep (memW W) (.d (.sl cs.length (cs.map .bool))) v :=
  rep_cells D.bool Value.bool (fun _ => rfl) (fun _ => by unfold D.rep; rfl) h
theorem bools_len {W : World} {v : Value} {cs : List Bool} (h : Bools W v cs) : cs.length ≤ maxLen := h.len

/-- numbers and bools that came in -/
theorem rep_agg {W : World} {l : List D} {vs : List Value} (h1 : ∀ u ∈ vs, u.oneCell' = true) (h : D.reps (fun b => b < W.heap.size) W l vs) : V.rep (memW W) (.d (.agg l)) (.agg vs.toArray) := by
  rw [V.rep_d]
  unfold D.rep
  exact ⟨vs, rfl, h1, h⟩
end
end Go.Proofs.YtdbfenhaljmbfaaGreat.Am
namespace Go.Proofs.YtdbfenhaljmbfaaGreat.Am
section
set_option linter.unusedVariables false
set_option linter.unusedSimpArgs false
open Go.RowKit
set_option maxRecDepth 100000
set_option linter.unusedSimpArgs false
set_option linter.unusedVariables false

theorem lawake_ok : Eqn Tryz.prog n_Tlaw17_awake [] [] (.d (.bool true)) [] := by
  refine Eqn.pure r_Tlaw17_awake Plain.ok ?_
  simp only [c_Tlaw17_awake]
  have hg : GoodR 2 1 3 := goodR_of (.inr ⟨by omega, by omega, by omega, by omega⟩)
  have h1 := rcheck_ok hg
  have h2 := rbits_ok hg
  have h3 := rwrite0_ok (y := 5) (t := 0) (f := false) hg (.inr ⟨by omega, rfl, by omega, by simp⟩)
  have h4 := wlen_ok 0 (encR 2 1 3 5 0 false)
  have h5 := rwell_ok hg 7 0 true
  rw [show wellRB 2 1 3 7 0 true = true by decide] at h5
  rw [show kwR 2 1 3 + twR 2 3 + 1 = 4 by decide] at h2
  rw [encR_len, show kwR 2 1 3 + twR 2 3 + 1 = 4 by decide] at h4
  simp only [parD, tsD, wrO, wrB] at h1 h2 h3 h4 h5
  simp at h1 h2 h3 h4 h5
  repeat (first | refine AW.seq ?_ | refine AW.block ?_ | (refine AW.reg mix ?_; simp -implicitDefEqProofs [-Bool.exists_bool]; try simp (disch := omega) only [w64, wu64]) | (refine need.of (by first | omega | kernel_rfl) ?_) | (refine AW.fin ?_; try simp -implicitDefEqProofs [-Bool.exists_bool]))
  refine CallS.g [1] (h3) ?_
  (try (simp -implicitDefEqProofs [-Bool.exists_bool]; try simp (disch := omega) only [w64, wu64]))
  repeat (first | refine AW.seq ?_ | refine AW.block ?_ | (refine AW.reg mix ?_; simp -implicitDefEqProofs [-Bool.exists_bool]; try simp (disch := omega) only [w64, wu64]) | (refine need.of (by first | omega | kernel_rfl) ?_) | (refine AW.fin ?_; try simp -implicitDefEqProofs [-Bool.exists_bool]))
  refine CallS.pu (h1) ?_
  (try (simp -implicitDefEqProofs [-Bool.exists_bool]; try simp (disch := omega) only [w64, wu64]))
  repeat (first | refine AW.seq ?_ | refine AW.block ?_ | (refine AW.reg mix ?_; simp -implicitDefEqProofs [-Bool.exists_bool]; try simp (disch := omega) only [w64, wu64]) | (refine need.of (by first | omega | kernel_rfl) ?_) | (refine AW.fin ?_; try simp -implicitDefEqProofs [-Bool.exists_bool]))
  refine CallS.pu (h2) ?_
  (try (simp -implicitDefEqProofs [-Bool.exists_bool]; try simp (disch := omega) only [w64, wu64]))
  repeat (first | refine AW.seq ?_ | refine AW.block ?_ | (refine AW.reg mix ?_; simp -implicitDefEqProofs [-Bool.exists_bool]; try simp (disch := omega) only [w64, wu64]) | (refine need.of (by first | omega | kernel_rfl) ?_) | (refine AW.fin ?_; try simp -implicitDefEqProofs [-Bool.exists_bool]))
  refine CallS.g [1, 2] (h4) ?_
  (try (simp -implicitDefEqProofs [-Bool.exists_bool]; try simp (disch := omega) only [w64, wu64]))
  repeat (first | refine AW.seq ?_ | refine AW.block ?_ | (refine AW.reg mix ?_; simp -implicitDefEqProofs [-Bool.exists_bool]; try simp (disch := omega) only [w64, wu64]) | (refine need.of (by first | omega | kernel_rfl) ?_) | (refine AW.fin ?_; try simp -implicitDefEqProofs [-Bool.exists_bool]))
  refine CallS.pu (h5) ?_
  (try (simp -implicitDefEqProofs [-Bool.exists_bool]; try simp (disch := omega) only [w64, wu64]))
  repeat (first | refine AW.seq ?_ | refine AW.block ?_ | (refine AW.reg mix ?_; simp -implicitDefEqProofs [-Bool.exists_bool]; try simp (disch := omega) only [w64, wu64]) | (refine need.of (by first | omega | kernel_rfl) ?_) | (refine AW.fin ?_; try simp -implicitDefEqProofs [-Bool.exists_bool]))

/-- what an act comes to: n more, or another one merged into it -/
def actM (cs : List Bool) (k a b y t : Nat) (f : Bool) (z u : Nat) (g : Bool) (n : Nat) (m : Bool) (p : Nat) (d : Bool) : TR := if m then mergeRM cs k a b y t f z u g p d else addRM cs k a b n y t f p d
end
end Go.Proofs.YtdbfenhaljmbfaaGreat.Am
namespace Go.Proofs.YtdbfenhaljmbfaaGreat.Am
section
set_option linter.unusedVariables false
set_option linter.unusedSimpArgs false
open Go.RowKit
set_option maxRecDepth 100000
set_option linter.unusedSimpArgs false
set_option linter.unusedVariables false

theorem tvalue_ok {a b y t : Nat} {f : Bool} (h : GoodT a b) (hw : WellT a b y t f) : Eqn Tryz.prog n_thin_Param_Value [.d (tpD a b), .d (tsD y t f)] [] (.tup [.d (.agg [natW (y * 2 ^ t)]), .d (.int .i64 0)]) [] := by
  refine Eqn.pure r_thin_Param_Value Plain.ok ?_
  have hwr := twrong1_ok h hw
  have hy : y ≤ 1023 := Nat.le_trans hw.1 h.2.1
  have ht : t ≤ 20 := Nat.le_trans hw.2.1 h.2.2
  have hof : Eqn Tryz.prog n_nat_Of [.d (.sl 1 [.int .u64 y])] [] (.d (.agg [natW y])) [] := by
    have := of_ok [y] (small_one (by omega)) (by simp)
    simpa [W, wval] using this
  have hsh := shl_ok y t (Nat.le_trans (size_one (by omega)) (by omega)) (by omega)
  have e1 : IntKind.u64.wrap (y : Int) = y := wu64 (by omega) (by omega)
  generalize y * 2 ^ t = v at *
  simp only [c_thin_Param_Value, tpD, tsD] at hwr ⊢
  repeat (first | refine AW.seq ?_ | refine AW.block ?_ | (refine AW.reg mix ?_; simp -implicitDefEqProofs [-Bool.exists_bool]; try simp (disch := omega) only [w64, wu64]) | (refine need.of (by first | omega | kernel_rfl) ?_) | (refine AW.fin ?_; try simp -implicitDefEqProofs [-Bool.exists_bool]))
  refine CallS.pf 3 3 ⟨117, _⟩ [.int .i64 y, .int .i64 t, .bool f] (hwr) (by first | rfl | (simp [-Bool.exists_bool]; done)) ?_
  (try (simp -implicitDefEqProofs [-Bool.exists_bool]; try simp (disch := omega) only [w64, wu64]))
  repeat (first | refine AW.seq ?_ | refine AW.block ?_ | (refine AW.reg mix ?_; simp -implicitDefEqProofs [-Bool.exists_bool]; try simp (disch := omega) only [w64, wu64]) | (refine need.of (by first | omega | kernel_rfl) ?_) | (refine AW.fin ?_; try simp -implicitDefEqProofs [-Bool.exists_bool]))
  refine AW.cond rfl (fun h => ?_) (fun h => ?_)
  · simp at h
  repeat (first | refine AW.seq ?_ | refine AW.block ?_ | (refine AW.reg mix ?_; simp -implicitDefEqProofs [e1, -Bool.exists_bool]; try simp (disch := omega) only [w64, wu64]) | (refine need.of (by first | omega | kernel_rfl) ?_) | (refine AW.fin ?_; try simp -implicitDefEqProofs [e1, -Bool.exists_bool]))
  refine CallS.pf 4 1 ⟨80, _⟩ [.int .u64 (y : Nat)] (hof) (by first | rfl | (simp [-Bool.exists_bool]; done)) ?_
  (try (simp -implicitDefEqProofs [-Bool.exists_bool]; try simp (disch := omega) only [w64, wu64]))
  repeat (first | refine AW.seq ?_ | refine AW.block ?_ | (refine AW.reg mix ?_; simp -implicitDefEqProofs [-Bool.exists_bool]; try simp (disch := omega) only [w64, wu64]) | (refine need.of (by first | omega | kernel_rfl) ?_) | (refine AW.fin ?_; try simp -implicitDefEqProofs [-Bool.exists_bool]))
  refine CallS.pu (hsh) ?_
  (try (simp -implicitDefEqProofs [-Bool.exists_bool]; try simp (disch := omega) only [w64, wu64]))
  repeat (first | refine AW.seq ?_ | refine AW.block ?_ | (refine AW.reg mix ?_; simp -implicitDefEqProofs [-Bool.exists_bool]; try simp (disch := omega) only [w64, wu64]) | (refine need.of (by first | omega | kernel_rfl) ?_) | (refine AW.fin ?_; try simp -implicitDefEqProofs [-Bool.exists_bool]))

/-- what a register stands for -/
def valR (k a b y t : Nat) : Rat := if k = 4 then ((y * 2 ^ t : Nat) : Rat) else valC k a y
theorem rvalue_ok {k a b y t : Nat} {f : Bool} (h : GoodR k a b) (hw : WellR k a b y t f) : Eqn Tryz.prog n_reg_Param_Value [.d (parD k a b), .d (tsD y t f)] [] (.tup [.d (rD (valR k a b y t)), .d (.int .i64 0)]) [] := by
  refine Eqn.pure r_reg_Param_Value Plain.ok ?_
  have hwr := rwrong1_ok h hw
  rcases hw with ⟨rfl, hw⟩ | ⟨hk, rfl, hy, hf⟩
  · replace h : GoodT a b := by
      rcases h with ⟨-, h⟩ | ⟨hk, -⟩
      · exact h
      · exact absurd rfl hk
    have h1 := rthin_ok 4 a b
    have h2 := rthinned_ok y t f
    have h3 := tvalue_ok h hw
    have h4 := rnat_rat (y * 2 ^ t)
    rw [show valR 4 a b y t = ((y * 2 ^ t : Nat) : Rat) from rfl]
    generalize y * 2 ^ t = v at *
    generalize ((v : Nat) : Rat) = q at *
    simp only [c_reg_Param_Value, parD, tpD, tsD, rD, show ((4 : Nat) : Int) = 4 from rfl] at hwr h1 h2 h3 h4 ⊢
    repeat (first | refine AW.seq ?_ | refine AW.block ?_ | (refine AW.reg mix ?_; simp -implicitDefEqProofs [-Bool.exists_bool]; try simp (disch := omega) only [w64, wu64]) | (refine need.of (by first | omega | kernel_rfl) ?_) | (refine AW.fin ?_; try simp -implicitDefEqProofs [-Bool.exists_bool]))
    refine CallS.pf 3 3 ⟨36, _⟩ [.int .i64 y, .int .i64 t, .bool f] (hwr) (by first | rfl | (simp [-Bool.exists_bool]; done)) ?_
    (try (simp -implicitDefEqProofs [-Bool.exists_bool]; try simp (disch := omega) only [w64, wu64]))
    repeat (first | refine AW.seq ?_ | refine AW.block ?_ | (refine AW.reg mix ?_; simp -implicitDefEqProofs [-Bool.exists_bool]; try simp (disch := omega) only [w64, wu64]) | (refine need.of (by first | omega | kernel_rfl) ?_) | (refine AW.fin ?_; try simp -implicitDefEqProofs [-Bool.exists_bool]))
    refine AW.cond rfl (fun h => ?_) (fun h => ?_)
    · simp at h
    repeat (first | refine AW.seq ?_ | refine AW.block ?_ | (refine AW.reg mix ?_; simp -implicitDefEqProofs [-Bool.exists_bool]; try simp (disch := omega) only [w64, wu64]) | (refine need.of (by first | omega | kernel_rfl) ?_) | (refine AW.fin ?_; try simp -implicitDefEqProofs [-Bool.exists_bool]))
    refine AW.cond rfl (fun h => ?_) (fun h => ?_)
    · repeat (first | refine AW.seq ?_ | refine AW.block ?_ | (refine AW.reg mix ?_; simp -implicitDefEqProofs [-Bool.exists_bool]; try simp (disch := omega) only [w64, wu64]) | (refine need.of (by first | omega | kernel_rfl) ?_) | (refine AW.fin ?_; try simp -implicitDefEqProofs [-Bool.exists_bool]))
      refine CallS.pu (h1) ?_
      (try (simp -implicitDefEqProofs [-Bool.exists_bool]; try simp (disch := omega) only [w64, wu64]))
      repeat (first | refine AW.seq ?_ | refine AW.block ?_ | (refine AW.reg mix ?_; simp -implicitDefEqProofs [-Bool.exists_bool]; try simp (disch := omega) only [w64, wu64]) | (refine need.of (by first | omega | kernel_rfl) ?_) | (refine AW.fin ?_; try simp -implicitDefEqProofs [-Bool.exists_bool]))
      refine CallS.pu (h2) ?_
      (try (simp -implicitDefEqProofs [-Bool.exists_bool]; try simp (disch := omega) only [w64, wu64]))
      repeat (first | refine AW.seq ?_ | refine AW.block ?_ | (refine AW.reg mix ?_; simp -implicitDefEqProofs [-Bool.exists_bool]; try simp (disch := omega) only [w64, wu64]) | (refine need.of (by first | omega | kernel_rfl) ?_) | (refine AW.fin ?_; try simp -implicitDefEqProofs [-Bool.exists_bool]))
      refine CallS.pu (h3) ?_
      (try (simp -implicitDefEqProofs [-Bool.exists_bool]; try simp (disch := omega) only [w64, wu64]))
      repeat (first | refine AW.seq ?_ | refine AW.block ?_ | (refine AW.reg mix ?_; simp -implicitDefEqProofs [-Bool.exists_bool]; try simp (disch := omega) only [w64, wu64]) | (refine need.of (by first | omega | kernel_rfl) ?_) | (refine AW.fin ?_; try simp -implicitDefEqProofs [-Bool.exists_bool]))
      refine CallS.pu (h4) ?_
      (try (simp -implicitDefEqProofs [-Bool.exists_bool]; try simp (disch := omega) only [w64, wu64]))
      repeat (first | refine AW.seq ?_ | refine AW.block ?_ | (refine AW.reg mix ?_; simp -implicitDefEqProofs [-Bool.exists_bool]; try simp (disch := omega) only [w64, wu64]) | (refine need.of (by first | omega | kernel_rfl) ?_) | (refine AW.fin ?_; try simp -implicitDefEqProofs [-Bool.exists_bool]))
    · simp at h
  · rcases h with ⟨rfl, -⟩ | ⟨-, h⟩
    · exact absurd rfl hk
    have h1 := rchain_ok k a b
    have h3 := cvalue_ok h y hy
    have hk' : ¬ (k : Int) = 4 := by omega
    rw [show valR k a b y 0 = valC k a y from if_neg hk]
    generalize valC k a y = q at *
    simp only [c_reg_Param_Value, parD, tsD, rD] at hwr h1 h3 ⊢
    repeat (first | refine AW.seq ?_ | refine AW.block ?_ | (refine AW.reg mix ?_; simp -implicitDefEqProofs [-Bool.exists_bool]; try simp (disch := omega) only [w64, wu64]) | (refine need.of (by first | omega | kernel_rfl) ?_) | (refine AW.fin ?_; try simp -implicitDefEqProofs [-Bool.exists_bool]))
    refine CallS.pf 3 3 ⟨36, _⟩ [.int .i64 y, .int .i64 (0 : Nat), .bool f] (hwr) (by first | rfl | (simp [-Bool.exists_bool]; done)) ?_
    (try (simp -implicitDefEqProofs [-Bool.exists_bool]; try simp (disch := omega) only [w64, wu64]))
    repeat (first | refine AW.seq ?_ | refine AW.block ?_ | (refine AW.reg mix ?_; simp -implicitDefEqProofs [-Bool.exists_bool]; try simp (disch := omega) only [w64, wu64]) | (refine need.of (by first | omega | kernel_rfl) ?_) | (refine AW.fin ?_; try simp -implicitDefEqProofs [-Bool.exists_bool]))
    refine AW.cond rfl (fun h => ?_) (fun h => ?_)
    · simp at h
    repeat (first | refine AW.seq ?_ | refine AW.block ?_ | (refine AW.reg mix ?_; simp -implicitDefEqProofs [hk, hk', -Bool.exists_bool]; try simp (disch := omega) only [w64, wu64]) | (refine need.of (by first | omega | kernel_rfl) ?_) | (refine AW.fin ?_; try simp -implicitDefEqProofs [hk, hk', -Bool.exists_bool]))
    refine AW.cond rfl (fun h => ?_) (fun h => ?_)
    · simp [hk'] at h
    · repeat (first | refine AW.seq ?_ | refine AW.block ?_ | (refine AW.reg mix ?_; simp -implicitDefEqProofs [-Bool.exists_bool]; try simp (disch := omega) only [w64, wu64]) | (refine need.of (by first | omega | kernel_rfl) ?_) | (refine AW.fin ?_; try simp -implicitDefEqProofs [-Bool.exists_bool]))
      refine CallS.pu (h1) ?_
      (try (simp -implicitDefEqProofs [-Bool.exists_bool]; try simp (disch := omega) only [w64, wu64]))
      repeat (first | refine AW.seq ?_ | refine AW.block ?_ | (refine AW.reg mix ?_; simp -implicitDefEqProofs [-Bool.exists_bool]; try simp (disch := omega) only [w64, wu64]) | (refine need.of (by first | omega | kernel_rfl) ?_) | (refine AW.fin ?_; try simp -implicitDefEqProofs [-Bool.exists_bool]))
      refine CallS.pu (h3) ?_
      (try (simp -implicitDefEqProofs [-Bool.exists_bool]; try simp (disch := omega) only [w64, wu64]))
      repeat (first | refine AW.seq ?_ | refine AW.block ?_ | (refine AW.reg mix ?_; simp -implicitDefEqProofs [-Bool.exists_bool]; try simp (disch := omega) only [w64, wu64]) | (refine need.of (by first | omega | kernel_rfl) ?_) | (refine AW.fin ?_; try simp -implicitDefEqProofs [-Bool.exists_bool]))

theorem addTM_add {cs : List Bool} {a b : Nat} (m : Nat) : ∀ (n y t : Nat) (f : Bool) (p : Nat) (d : Bool), addTM cs a b (n + m) y t f p d = if (addTM cs a b n y t f p d).e = 0 then addTM cs a b m (addTM cs a b n y t f p d).y (addTM cs a b n y t f p d).t (addTM cs a b n y t f p d).f (addTM cs a b n y t f p d).p (addTM cs a b n y t f p d).d else addTM cs a b n y t f p d
  | 0, y, t, f, p, d => by simp [addTM]
  | n + 1, y, t, f, p, d => by
    rw [show n + 1 + m = (n + m) + 1 by omega, addTM, addTM]
    by_cases h : (oneM cs a b y t f p d).e = 0
    · rw [if_pos h, if_pos h]
      exact addTM_add m n _ _ _ _ _
    · rw [if_neg h, if_neg h, if_neg h]
/-- n more and m more are n + m more -/
theorem addRM_add {cs : List Bool} {k a b n m y t : Nat} {f : Bool} {p : Nat} {d : Bool} (h0 : k ≠ 4 → t = 0) : addRM cs k a b (n + m) y t f p d = if (addRM cs k a b n y t f p d).e = 0 then addRM cs k a b m (addRM cs k a b n y t f p d).y (addRM cs k a b n y t f p d).t (addRM cs k a b n y t f p d).f (addRM cs k a b n y t f p d).p (addRM cs k a b n y t f p d).d else addRM cs k a b n y t f p d := by
  unfold addRM
  by_cases hk : k = 4
  · simp only [if_pos hk]
    exact addTM_add m n y t f p d
  · simp only [if_neg hk]
    have := addL_add (st := stOf cs k a) (top := 2 ^ b - 1) m n y f p d
    rw [this]
    by_cases he : (addL (stOf cs k a) (2 ^ b - 1) n y f p d).1 = 0
    · simp only [if_pos he]
    · simp only [if_neg he]
end
end Go.Proofs.YtdbfenhaljmbfaaGreat.Am
namespace Go.Proofs.YtdbfenhaljmbfaaGreat.Am
section
set_option linter.unusedVariables false
set_option linter.unusedSimpArgs false
open Go.RowKit
set_option maxRecDepth 100000
set_option linter.unusedSimpArgs false
set_option linter.unusedVariables false

/-- values rise; a place and the size more is near to twice -/
theorem float_rises (S j : Nat) (hS : 0 < S) : S ≤ (S + j % S) * 2 ^ (j / S) ∧ (S + j % S) * 2 ^ (j / S) - S < (S + (j + 1) % S) * 2 ^ ((j + 1) / S) - S ∧
    (S + (j + S) % S) * 2 ^ ((j + S) / S) - S = ((S + j % S) * 2 ^ (j / S) - S) + ((S + j % S) * 2 ^ (j / S) - S) + S := by
  have hm := Nat.mod_lt j hS
  have hx : S ≤ (S + j % S) * 2 ^ (j / S) := Nat.le_trans (Nat.le_add_right _ _) (Nat.le_mul_of_pos_right _ (Nat.two_pow_pos _))
  refine ⟨hx, ?_, ?_⟩
  · rcases Nat.lt_or_ge (j % S + 1) S with h | h
    · have h1 : (j + 1) / S = j / S := by
        rw [show j + 1 = S * (j / S) + (j % S + 1) by have := Nat.div_add_mod j S; omega, Nat.mul_add_div hS, Nat.div_eq_of_lt h, Nat.add_zero]
      have h2 : (j + 1) % S = j % S + 1 := by
        rw [Nat.add_mod, Nat.mod_eq_of_lt (show 1 < S by omega), Nat.mod_eq_of_lt h]
      rw [h1, h2, ← Nat.add_assoc, Nat.add_mul _ 1, Nat.one_mul]
      have := Nat.two_pow_pos (j / S)
      generalize (S + j % S) * 2 ^ (j / S) = x at *
      generalize 2 ^ (j / S) = y at *
      omega
    · have h0 : j % S + 1 = S := by omega
      have hd := Nat.div_add_mod j S
      have e : j + 1 = S * (j / S + 1) := by rw [Nat.mul_add]; omega
      have h1 : (j + 1) / S = j / S + 1 := by rw [e, Nat.mul_div_cancel_left _ hS]
      have h2 : (j + 1) % S = 0 := by rw [e, Nat.mul_mod_right]
      rw [h1, h2, Nat.pow_succ, Nat.add_zero]
      have := Nat.mul_lt_mul_of_pos_right (show S + j % S < S * 2 by omega) (Nat.two_pow_pos (j / S))
      have e2 : S * (2 ^ (j / S) * 2) = S * 2 * 2 ^ (j / S) := by rw [Nat.mul_assoc S 2, Nat.mul_comm 2]
      rw [e2]
      omega
  · rw [Nat.add_mod_right, Nat.add_div_right _ hS, Nat.pow_succ, ← Nat.mul_assoc]
    omega
end
end Go.Proofs.YtdbfenhaljmbfaaGreat.Am
namespace Go.Proofs.YtdbfenhaljmbfaaGreat.Am
section
set_option linter.unusedVariables false
set_option linter.unusedSimpArgs false
open Go.RowKit
set_option linter.unusedSimpArgs false
set_option linter.unusedVariables false

theorem mono_of {f : Nat → Nat} (h : ∀ k, f k ≤ f (k + 1)) {i j : Nat} (hij : i ≤ j) : f i ≤ f j := by
  induction hij with
  | refl => exact Nat.le_refl _
  | step _ ih => exact Nat.le_trans ih (h _)
theorem valF_mono {d i j : Nat} (h : i ≤ j) : valF d i ≤ valF d j := by
  refine mono_of (fun k => ?_) h
  have := (float_rises (2 ^ d) k (Nat.two_pow_pos d)).2.1
  unfold valF
  omega
theorem placeV_mono {s i j : Nat} (hs : 1 ≤ s) (h : i ≤ j) : (placeY s i).value ≤ (placeY s j).value :=
  mono_of (f := fun k => (placeY s k).value) (fun k => Nat.le_of_lt (place_rises hs).1) h
theorem nat_not_lt {n m : Nat} (h : n ≤ m) : ¬ ((m : Nat) : Rat) < ((n : Nat) : Rat) := by
  rw [rat_lt, Rat.num_natCast, Rat.num_natCast, Rat.den_natCast, Rat.den_natCast]
  omega
theorem pow_pos' {x : Rat} (hx : 1 ≤ x) : ∀ n : Nat, 0 ≤ x ^ n
  | 0 => by rw [Rat.pow_zero]; decide
  | n + 1 => by
    rw [Rat.pow_succ]
    exact Rat.mul_nonneg (pow_pos' hx n) (Rat.le_trans (by decide) hx)
theorem pow_up {x : Rat} (hx : 1 ≤ x) (m : Nat) : x ^ m ≤ x ^ (m + 1) := by
  have h1 : 0 ≤ x ^ m * (x - 1) := Rat.mul_nonneg (pow_pos' hx m) (by grind)
  rw [Rat.pow_succ]
  generalize x ^ m = y at *
  grind
theorem pow_mono' {x : Rat} (hx : 1 ≤ x) {i j : Nat} (h : i ≤ j) : x ^ i ≤ x ^ j := by
  obtain ⟨k, rfl⟩ : ∃ k, j = i + k := ⟨j - i, by omega⟩
  clear h
  induction k with
  | zero => exact Rat.le_refl
  | succ k ih => exact Rat.le_trans ih (pow_up hx (i + k))
theorem step_ge {a : Nat} (ha : 1 ≤ a) : 1 ≤ mkRat ((a + 1 : Nat) : Int) a := by
  obtain ⟨q1, q2⟩ := step_frac ha
  rw [← Rat.not_lt, rat_lt, q1, q2]
  show ¬ ((a + 1 : Nat) : Int) * ((1 : Rat).den : Int) < (1 : Rat).num * (a : Int)
  simp
  omega
theorem valM_mono {a i j : Nat} (ha : 1 ≤ a) (h : i ≤ j) : valM a i ≤ valM a j := by
  have hp := pow_mono' (step_ge ha) h
  have h0 : (0 : Rat) ≤ (a : Rat) := by
    rw [← Rat.not_lt]
    have := nat_not_lt (Nat.zero_le a)
    simpa using this
  unfold valM
  have h1 : 0 ≤ (a : Rat) * (mkRat ((a + 1 : Nat) : Int) a ^ j - mkRat ((a + 1 : Nat) : Int) a ^ i) := Rat.mul_nonneg h0 (by grind)
  grind
theorem cmpQ_le {x y : Rat} (h : ¬ y < x) : cmpQ x y ≤ 0 := by
  unfold cmpQ
  rw [if_neg h]
  by_cases h2 : x < y
  · rw [if_pos h2]; decide
  · rw [if_neg h2]; decide
theorem valC_cmp {k a w i j : Nat} (h : GoodC k a w) (hij : i ≤ j) : cmpQ (valC k a i) (valC k a j) ≤ 0 := by
  obtain ⟨h, -⟩ := h
  refine cmpQ_le ?_
  unfold valC
  rcases h with ⟨rfl, h1, -⟩ | ⟨rfl, h1⟩ | ⟨rfl, h1, -⟩
  · rw [if_pos rfl, if_pos rfl, Rat.not_lt]
    exact valM_mono h1 hij
  · exact nat_not_lt (valF_mono hij)
  · exact nat_not_lt (placeV_mono h1 hij)
theorem nat_RS {n N : Nat} (h : size n ≤ N) (h1 : 1 ≤ N) : RS ((n : Nat) : Rat) N := by
  refine ⟨?_, ?_⟩
  · rw [Rat.num_natCast, Int.natAbs_natCast]; exact h
  · rw [Rat.den_natCast]; exact Nat.le_trans (size_one (by omega)) h1
theorem valC_RS {k a w x : Nat} (h : GoodC k a w) (hx : x ≤ 2 ^ w - 1) : RS (valC k a x) 1000 := by
  have h10 : 2 ^ w ≤ 2 ^ 10 := Nat.pow_le_pow_right (by omega) h.2.2
  have hb := goodC_bits (a := a) (w := w) (x := x)
  obtain ⟨h, -⟩ := id h
  unfold valC
  rcases h with ⟨rfl, h1, h2, h3⟩ | ⟨rfl, h1⟩ | ⟨rfl, h1, h2⟩
  · rw [if_pos rfl]
    exact (mvalue_ok a x h1 h2 (by omega) (Nat.le_trans (Nat.mul_le_mul_left _ hx) h3)).2.le (by omega)
  · refine nat_RS ?_ (by omega)
    have hd : 2 ^ a ≤ 2 ^ 8 := Nat.pow_le_pow_right (by omega) h1
    have hm := Nat.mod_lt x (Nat.two_pow_pos a)
    have hdv : x / 2 ^ a ≤ 1023 := Nat.le_trans (Nat.div_le_self _ _) (by omega)
    have hs := size_le (show valF a x ≤ (2 ^ a + x % 2 ^ a) * 2 ^ (x / 2 ^ a) from Nat.sub_le _ _)
    have h3 := size_mulR (2 ^ a + x % 2 ^ a) (2 ^ (x / 2 ^ a))
    have h4 := size_one (x := 2 ^ a + x % 2 ^ a) (by omega)
    have h5 := size_two (x / 2 ^ a) (by omega)
    omega
  · exact nat_RS (Nat.le_trans (placeY_size h1 h2 (by omega)).2.2.1 (by omega)) (by omega)
end
end Go.Proofs.YtdbfenhaljmbfaaGreat.Am
namespace Go.Proofs.YtdbfenhaljmbfaaGreat.Am
section
set_option linter.unusedVariables false
set_option linter.unusedSimpArgs false
open Go.RowKit
set_option maxRecDepth 100000
set_option linter.unusedSimpArgs false
set_option linter.unusedVariables false

set_option maxHeartbeats 4000000 in
theorem regSplits_ok (cs : List Bool) (k a b y t : Int) (f : Bool) (hn : cs.length ≤ 9223372036854775807) : Eqn Tryz.prog n_Tlaw17_RegSplits [.d (parD k a b), .d (.agg [.int .i64 y, .int .i64 t, .bool f]), .d (BL cs)] [] (.d (.bool true)) [] := by
  refine Eqn.pure r_Tlaw17_RegSplits Plain.ok ?_
  obtain ⟨K, A, B, hsr, hsm⟩ := lsmall_ok k a b
  obtain ⟨Y, T, F, hw, hs1⟩ := hsm y t f
  have hg := goodR_of hsr
  have hfew := few_ok cs 200 hn (by omega)
  have hl : (cs.take 200).length ≤ 200 := by rw [List.length_take]; omega
  generalize cs.take 200 = xs at hfew hl
  have hown := lown_ok K A B
  have hst := lstate_ok Y T F
  obtain ⟨n, hN, hn8⟩ : ∃ n : Nat, (xs.length : Int).tmod 8 = n ∧ n ≤ 7 := ⟨xs.length % 8, by rw [Int.tmod_eq_emod_of_nonneg (by omega)]; rfl, by omega⟩
  have h2n : IntKind.i64.wrap (2 * (n : Int)) = ((n + n : Nat) : Int) := by rw [w64 (by omega) (by omega)]; omega
  obtain ⟨R, hR⟩ : ∃ R, R = addRM xs K A B n Y T F 0 false := ⟨_, rfl⟩
  obtain ⟨Q, hQ⟩ : ∃ Q, Q = addRM xs K A B (n + n) Y T F 0 false := ⟨_, rfl⟩
  have hadd := addRM_add (cs := xs) (k := K) (a := A) (b := B) (n := n) (m := n) (y := Y) (t := T) (f := F) (p := 0) (d := false) (fun hk => by rcases hw with ⟨h, -⟩ | ⟨-, h, -⟩; exact absurd h hk; exact h)
  rw [← hR, ← hQ] at hadd
  have h1 := radd_ok xs K A B Y T F n 0 false hg hw (by omega) (Nat.zero_le _) (by omega) R hR
  have h2 := radd_ok xs K A B Y T F (n + n) 0 false hg hw (by omega) (Nat.zero_le _) (by omega) Q hQ
  have hmw := addRM_well (cs := xs) (n := n) (y := Y) (t := T) (f := F) (p := 0) (d := false) hg hw (Nat.zero_le _) (by omega)
  have hyl : K ≠ 4 → R.e = 0 → Y ≤ R.y := fun hk he => by
    rw [hR]
    unfold addRM
    rw [if_neg hk]
    rcases hg with ⟨h, -⟩ | ⟨-, hgc⟩
    · exact absurd h hk
    rcases hw with ⟨h, -⟩ | ⟨-, -, hy, -⟩
    · exact absurd h hk
    exact (addL_le (top := 2 ^ B - 1) (stOf_le hgc xs (by omega)) n Y F 0 false hy (Nat.zero_le _)).1
  rw [← hR] at hmw
  clear hR hQ
  have hnw : Eqn Tryz.prog n_tape_New [.d (.sl xs.length (xs.map .bool))] [] (.p 0 0) [tapeO xs 0 false] := new_ok xs (by omega)
  simp only [c_Tlaw17_RegSplits, parD, BL, tsD] at hs1 hown hfew ⊢
  repeat (first | refine AW.seq ?_ | refine AW.block ?_ | (refine AW.reg mix ?_; simp -implicitDefEqProofs [-Bool.exists_bool]; try simp (disch := omega) only [w64, wu64]) | (refine need.of (by first | omega | kernel_rfl) ?_) | (refine AW.fin ?_; try simp -implicitDefEqProofs [-Bool.exists_bool]))
  refine CallS.pu (lawake_ok) ?_
  (try (simp -implicitDefEqProofs [-Bool.exists_bool]; try simp (disch := omega) only [w64, wu64]))
  repeat (first | refine AW.seq ?_ | refine AW.block ?_ | (refine AW.reg mix ?_; simp -implicitDefEqProofs [-Bool.exists_bool]; try simp (disch := omega) only [w64, wu64]) | (refine need.of (by first | omega | kernel_rfl) ?_) | (refine AW.fin ?_; try simp -implicitDefEqProofs [-Bool.exists_bool]))
  refine AW.cond rfl (fun h => ?_) (fun h => ?_)
  · simp at h
  clear h
  repeat (first | refine AW.seq ?_ | refine AW.block ?_ | (refine AW.reg mix ?_; simp -implicitDefEqProofs [-Bool.exists_bool]; try simp (disch := omega) only [w64, wu64]) | (refine need.of (by first | omega | kernel_rfl) ?_) | (refine AW.fin ?_; try simp -implicitDefEqProofs [-Bool.exists_bool]))
  refine CallS.pu (hs1) ?_
  (try (simp -implicitDefEqProofs [-Bool.exists_bool]; try simp (disch := omega) only [w64, wu64]))
  repeat (first | refine AW.seq ?_ | refine AW.block ?_ | (refine AW.reg mix ?_; simp -implicitDefEqProofs [-Bool.exists_bool]; try simp (disch := omega) only [w64, wu64]) | (refine need.of (by first | omega | kernel_rfl) ?_) | (refine AW.fin ?_; try simp -implicitDefEqProofs [-Bool.exists_bool]))
  refine CallS.pu (hfew) ?_
  (try (simp -implicitDefEqProofs [hN, -Bool.exists_bool]; try simp (disch := omega) only [w64, wu64]))
  repeat (first | refine AW.seq ?_ | refine AW.block ?_ | (refine AW.reg mix ?_; simp -implicitDefEqProofs [hN, -Bool.exists_bool]; try simp (disch := omega) only [w64, wu64]) | (refine need.of (by first | omega | kernel_rfl) ?_) | (refine AW.fin ?_; try simp -implicitDefEqProofs [hN, -Bool.exists_bool]))
  refine CallS.pu (hown) ?_
  (try (simp -implicitDefEqProofs [hN, -Bool.exists_bool]; try simp (disch := omega) only [w64, wu64]))
  repeat (first | refine AW.seq ?_ | refine AW.block ?_ | (refine AW.reg mix ?_; simp -implicitDefEqProofs [hN, -Bool.exists_bool]; try simp (disch := omega) only [w64, wu64]) | (refine need.of (by first | omega | kernel_rfl) ?_) | (refine AW.fin ?_; try simp -implicitDefEqProofs [hN, -Bool.exists_bool]))
  refine CallS.n1 (hnw) ?_
  (try (simp -implicitDefEqProofs [hN, h2n, -Bool.exists_bool]; try simp (disch := omega) only [w64, wu64]))
  repeat (first | refine AW.seq ?_ | refine AW.block ?_ | (refine AW.reg mix ?_; simp -implicitDefEqProofs [hN, h2n, -Bool.exists_bool]; try simp (disch := omega) only [w64, wu64]) | (refine need.of (by first | omega | kernel_rfl) ?_) | (refine AW.fin ?_; try simp -implicitDefEqProofs [hN, h2n, -Bool.exists_bool]))
  refine CallS.n1 (hnw) ?_
  (try (simp -implicitDefEqProofs [hN, h2n, -Bool.exists_bool]; try simp (disch := omega) only [w64, wu64]))
  repeat (first | refine AW.seq ?_ | refine AW.block ?_ | (refine AW.reg mix ?_; simp -implicitDefEqProofs [hN, h2n, -Bool.exists_bool]; try simp (disch := omega) only [w64, wu64]) | (refine need.of (by first | omega | kernel_rfl) ?_) | (refine AW.fin ?_; try simp -implicitDefEqProofs [hN, h2n, -Bool.exists_bool]))
  refine CallS.pu (hst) ?_
  (try (simp -implicitDefEqProofs [hN, h2n, -Bool.exists_bool]; try simp (disch := omega) only [w64, wu64]))
  repeat (first | refine AW.seq ?_ | refine AW.block ?_ | (refine AW.reg mix ?_; simp -implicitDefEqProofs [hN, h2n, -Bool.exists_bool]; try simp (disch := omega) only [w64, wu64]) | (refine need.of (by first | omega | kernel_rfl) ?_) | (refine AW.fin ?_; try simp -implicitDefEqProofs [hN, h2n, -Bool.exists_bool]))
  by_cases he : R.e = 0
  · rw [if_pos he] at hadd
    obtain ⟨P, hP⟩ : ∃ P, P = addRM xs K A B n R.y R.t R.f R.p R.d := ⟨_, rfl⟩
    have hwR := hmw.2 he
    have h3 := radd_ok xs K A B R.y R.t R.f n R.p R.d hg hwR (by omega) hmw.1 (by omega) P hP
    have hmP := addRM_well (cs := xs) (n := n) (p := R.p) (d := R.d) hg hwR hmw.1 (by omega)
    have hyl2 : K ≠ 4 → R.y ≤ P.y := fun hk => by
      rw [hP]
      unfold addRM
      rw [if_neg hk]
      rcases hg with ⟨h, -⟩ | ⟨-, hgc⟩
      · exact absurd h hk
      rcases hwR with ⟨h, -⟩ | ⟨-, -, hy, -⟩
      · exact absurd h hk
      exact (addL_le (top := 2 ^ B - 1) (stOf_le hgc xs (by omega)) n R.y R.f R.p R.d hy hmw.1).1
    rw [← hP] at hmP hadd
    rw [hadd] at h2
    clear hP hadd
    obtain ⟨re, ry, rt, rf, rp, rd⟩ := R
    simp only at he
    subst he
    obtain ⟨e, py, pt, pf, pp, pd⟩ := P
    simp only [stR, if_true, parD, tsD] at h1 h3
    by_cases hpe : e = 0
    · subst hpe
      have hwP := hmP.2 rfl
      have hv1 := rvalue_ok hg hw
      have hv2 := rvalue_ok hg hwP
      simp only [stR, if_true, parD, tsD] at h2 hv1 hv2
      by_cases hk : K = 4
      · subst hk
        generalize valR 4 A B Y T = v1 at *
        generalize valR 4 A B py pt = v2 at *
        simp only [rD, show ((4 : Nat) : Int) = 4 from rfl] at hv1 hv2 h1 h2 h3 ⊢
        refine CallS.o1 3 (h2) ?_
        (try (simp -implicitDefEqProofs [-Bool.exists_bool]; try simp (disch := omega) only [w64, wu64]))
        repeat (first | refine AW.seq ?_ | refine AW.block ?_ | (refine AW.reg mix ?_; simp -implicitDefEqProofs [-Bool.exists_bool]; try simp (disch := omega) only [w64, wu64]) | (refine need.of (by first | omega | kernel_rfl) ?_) | (refine AW.fin ?_; try simp -implicitDefEqProofs [-Bool.exists_bool]))
        refine CallS.pu (hst) ?_
        (try (simp -implicitDefEqProofs [hN, h2n, -Bool.exists_bool]; try simp (disch := omega) only [w64, wu64]))
        repeat (first | refine AW.seq ?_ | refine AW.block ?_ | (refine AW.reg mix ?_; simp -implicitDefEqProofs [hN, h2n, -Bool.exists_bool]; try simp (disch := omega) only [w64, wu64]) | (refine need.of (by first | omega | kernel_rfl) ?_) | (refine AW.fin ?_; try simp -implicitDefEqProofs [hN, h2n, -Bool.exists_bool]))
        refine CallS.o1 4 (h1) ?_
        (try (simp -implicitDefEqProofs [-Bool.exists_bool]; try simp (disch := omega) only [w64, wu64]))
        repeat (first | refine AW.seq ?_ | refine AW.block ?_ | (refine AW.reg mix ?_; simp -implicitDefEqProofs [-Bool.exists_bool]; try simp (disch := omega) only [w64, wu64]) | (refine need.of (by first | omega | kernel_rfl) ?_) | (refine AW.fin ?_; try simp -implicitDefEqProofs [-Bool.exists_bool]))
        refine AW.cond rfl (fun h => ?_) (fun h => ?_)
        · simp at h
        repeat (first | refine AW.seq ?_ | refine AW.block ?_ | (refine AW.reg mix ?_; simp -implicitDefEqProofs [-Bool.exists_bool]; try simp (disch := omega) only [w64, wu64]) | (refine need.of (by first | omega | kernel_rfl) ?_) | (refine AW.fin ?_; try simp -implicitDefEqProofs [-Bool.exists_bool]))
        refine CallS.o1 4 (h3) ?_
        (try (simp -implicitDefEqProofs [-Bool.exists_bool]; try simp (disch := omega) only [w64, wu64]))
        repeat (first | refine AW.seq ?_ | refine AW.block ?_ | (refine AW.reg mix ?_; simp -implicitDefEqProofs [-Bool.exists_bool]; try simp (disch := omega) only [w64, wu64]) | (refine need.of (by first | omega | kernel_rfl) ?_) | (refine AW.fin ?_; try simp -implicitDefEqProofs [-Bool.exists_bool]))
        refine AW.cond rfl (fun h => ?_) (fun h => ?_)
        · simp at h
        repeat (first | refine AW.seq ?_ | refine AW.block ?_ | (refine AW.reg mix ?_; simp -implicitDefEqProofs [-Bool.exists_bool]; try simp (disch := omega) only [w64, wu64]) | (refine need.of (by first | omega | kernel_rfl) ?_) | (refine AW.fin ?_; try simp -implicitDefEqProofs [-Bool.exists_bool]))
        refine CallS.pu (hst) ?_
        (try (simp -implicitDefEqProofs [-Bool.exists_bool]; try simp (disch := omega) only [w64, wu64]))
        repeat (first | refine AW.seq ?_ | refine AW.block ?_ | (refine AW.reg mix ?_; simp -implicitDefEqProofs [-Bool.exists_bool]; try simp (disch := omega) only [w64, wu64]) | (refine need.of (by first | omega | kernel_rfl) ?_) | (refine AW.fin ?_; try simp -implicitDefEqProofs [-Bool.exists_bool]))
        refine CallS.pu (hv1) ?_
        (try (simp -implicitDefEqProofs [-Bool.exists_bool]; try simp (disch := omega) only [w64, wu64]))
        repeat (first | refine AW.seq ?_ | refine AW.block ?_ | (refine AW.reg mix ?_; simp -implicitDefEqProofs [-Bool.exists_bool]; try simp (disch := omega) only [w64, wu64]) | (refine need.of (by first | omega | kernel_rfl) ?_) | (refine AW.fin ?_; try simp -implicitDefEqProofs [-Bool.exists_bool]))
        refine CallS.pu (hv2) ?_
        (try (simp -implicitDefEqProofs [-Bool.exists_bool]; try simp (disch := omega) only [w64, wu64]))
        repeat (first | refine AW.seq ?_ | refine AW.block ?_ | (refine AW.reg mix ?_; simp -implicitDefEqProofs [-Bool.exists_bool]; try simp (disch := omega) only [w64, wu64]) | (refine need.of (by first | omega | kernel_rfl) ?_) | (refine AW.fin ?_; try simp -implicitDefEqProofs [-Bool.exists_bool]))
        refine CallS.o1 3 (read_ok xs pp pd) ?_
        (try (simp -implicitDefEqProofs [-Bool.exists_bool]; try simp (disch := omega) only [w64, wu64]))
        repeat (first | refine AW.seq ?_ | refine AW.block ?_ | (refine AW.reg mix ?_; simp -implicitDefEqProofs [-Bool.exists_bool]; try simp (disch := omega) only [w64, wu64]) | (refine need.of (by first | omega | kernel_rfl) ?_) | (refine AW.fin ?_; try simp -implicitDefEqProofs [-Bool.exists_bool]))
        refine CallS.o1 4 (read_ok xs pp pd) ?_
        (try (simp -implicitDefEqProofs [-Bool.exists_bool]; try simp (disch := omega) only [w64, wu64]))
        repeat (first | refine AW.seq ?_ | refine AW.block ?_ | (refine AW.reg mix ?_; simp -implicitDefEqProofs [-Bool.exists_bool]; try simp (disch := omega) only [w64, wu64]) | (refine need.of (by first | omega | kernel_rfl) ?_) | (refine AW.fin ?_; try simp -implicitDefEqProofs [-Bool.exists_bool]))
      · have hk' : ¬ (K : Int) = 4 := by omega
        have hgc : GoodC K A B := by
          rcases hg with ⟨h, -⟩ | ⟨-, h⟩
          · exact absurd h hk
          · exact h
        have hY : Y ≤ 2 ^ B - 1 := by
          rcases hw with ⟨h, -⟩ | ⟨-, -, h, -⟩
          · exact absurd h hk
          · exact h
        have hPy : py ≤ 2 ^ B - 1 := by
          rcases hwP with ⟨h, -⟩ | ⟨-, -, h, -⟩
          · exact absurd h hk
          · exact h
        have hle := valC_cmp hgc (Nat.le_trans (hyl hk rfl) (hyl2 hk))
        have hc := rcmp_rat (valC K A Y) (valC K A py) ((valC_RS hgc hY).le (by omega)) ((valC_RS hgc hPy).le (by omega))
        rw [show valR K A B Y T = valC K A Y from if_neg hk] at hv1
        rw [show valR K A B py pt = valC K A py from if_neg hk] at hv2
        generalize cmpQ (valC K A Y) (valC K A py) = c at *
        generalize valC K A Y = v1 at *
        generalize valC K A py = v2 at *
        simp only [rD] at hv1 hv2 hc
        refine CallS.o1 3 (h2) ?_
        (try (simp -implicitDefEqProofs [-Bool.exists_bool]; try simp (disch := omega) only [w64, wu64]))
        repeat (first | refine AW.seq ?_ | refine AW.block ?_ | (refine AW.reg mix ?_; simp -implicitDefEqProofs [-Bool.exists_bool]; try simp (disch := omega) only [w64, wu64]) | (refine need.of (by first | omega | kernel_rfl) ?_) | (refine AW.fin ?_; try simp -implicitDefEqProofs [-Bool.exists_bool]))
        refine CallS.pu (hst) ?_
        (try (simp -implicitDefEqProofs [hN, h2n, -Bool.exists_bool]; try simp (disch := omega) only [w64, wu64]))
        repeat (first | refine AW.seq ?_ | refine AW.block ?_ | (refine AW.reg mix ?_; simp -implicitDefEqProofs [hN, h2n, -Bool.exists_bool]; try simp (disch := omega) only [w64, wu64]) | (refine need.of (by first | omega | kernel_rfl) ?_) | (refine AW.fin ?_; try simp -implicitDefEqProofs [hN, h2n, -Bool.exists_bool]))
        refine CallS.o1 4 (h1) ?_
        (try (simp -implicitDefEqProofs [-Bool.exists_bool]; try simp (disch := omega) only [w64, wu64]))
        repeat (first | refine AW.seq ?_ | refine AW.block ?_ | (refine AW.reg mix ?_; simp -implicitDefEqProofs [-Bool.exists_bool]; try simp (disch := omega) only [w64, wu64]) | (refine need.of (by first | omega | kernel_rfl) ?_) | (refine AW.fin ?_; try simp -implicitDefEqProofs [-Bool.exists_bool]))
        refine AW.cond rfl (fun h => ?_) (fun h => ?_)
        · simp at h
        repeat (first | refine AW.seq ?_ | refine AW.block ?_ | (refine AW.reg mix ?_; simp -implicitDefEqProofs [-Bool.exists_bool]; try simp (disch := omega) only [w64, wu64]) | (refine need.of (by first | omega | kernel_rfl) ?_) | (refine AW.fin ?_; try simp -implicitDefEqProofs [-Bool.exists_bool]))
        refine CallS.o1 4 (h3) ?_
        (try (simp -implicitDefEqProofs [-Bool.exists_bool]; try simp (disch := omega) only [w64, wu64]))
        repeat (first | refine AW.seq ?_ | refine AW.block ?_ | (refine AW.reg mix ?_; simp -implicitDefEqProofs [-Bool.exists_bool]; try simp (disch := omega) only [w64, wu64]) | (refine need.of (by first | omega | kernel_rfl) ?_) | (refine AW.fin ?_; try simp -implicitDefEqProofs [-Bool.exists_bool]))
        refine AW.cond rfl (fun h => ?_) (fun h => ?_)
        · simp at h
        repeat (first | refine AW.seq ?_ | refine AW.block ?_ | (refine AW.reg mix ?_; simp -implicitDefEqProofs [-Bool.exists_bool]; try simp (disch := omega) only [w64, wu64]) | (refine need.of (by first | omega | kernel_rfl) ?_) | (refine AW.fin ?_; try simp -implicitDefEqProofs [-Bool.exists_bool]))
        refine CallS.pu (hst) ?_
        (try (simp -implicitDefEqProofs [-Bool.exists_bool]; try simp (disch := omega) only [w64, wu64]))
        repeat (first | refine AW.seq ?_ | refine AW.block ?_ | (refine AW.reg mix ?_; simp -implicitDefEqProofs [-Bool.exists_bool]; try simp (disch := omega) only [w64, wu64]) | (refine need.of (by first | omega | kernel_rfl) ?_) | (refine AW.fin ?_; try simp -implicitDefEqProofs [-Bool.exists_bool]))
        refine CallS.pu (hv1) ?_
        (try (simp -implicitDefEqProofs [-Bool.exists_bool]; try simp (disch := omega) only [w64, wu64]))
        repeat (first | refine AW.seq ?_ | refine AW.block ?_ | (refine AW.reg mix ?_; simp -implicitDefEqProofs [-Bool.exists_bool]; try simp (disch := omega) only [w64, wu64]) | (refine need.of (by first | omega | kernel_rfl) ?_) | (refine AW.fin ?_; try simp -implicitDefEqProofs [-Bool.exists_bool]))
        refine CallS.pu (hv2) ?_
        (try (simp -implicitDefEqProofs [-Bool.exists_bool]; try simp (disch := omega) only [w64, wu64]))
        repeat (first | refine AW.seq ?_ | refine AW.block ?_ | (refine AW.reg mix ?_; simp -implicitDefEqProofs [-Bool.exists_bool]; try simp (disch := omega) only [w64, wu64]) | (refine need.of (by first | omega | kernel_rfl) ?_) | (refine AW.fin ?_; try simp -implicitDefEqProofs [-Bool.exists_bool]))
        refine CallS.o1 3 (read_ok xs pp pd) ?_
        (try (simp -implicitDefEqProofs [-Bool.exists_bool]; try simp (disch := omega) only [w64, wu64]))
        repeat (first | refine AW.seq ?_ | refine AW.block ?_ | (refine AW.reg mix ?_; simp -implicitDefEqProofs [-Bool.exists_bool]; try simp (disch := omega) only [w64, wu64]) | (refine need.of (by first | omega | kernel_rfl) ?_) | (refine AW.fin ?_; try simp -implicitDefEqProofs [-Bool.exists_bool]))
        refine CallS.o1 4 (read_ok xs pp pd) ?_
        (try (simp -implicitDefEqProofs [hk', hk, -Bool.exists_bool]; try simp (disch := omega) only [w64, wu64]))
        repeat (first | refine AW.seq ?_ | refine AW.block ?_ | (refine AW.reg mix ?_; simp -implicitDefEqProofs [hk', hk, -Bool.exists_bool]; try simp (disch := omega) only [w64, wu64]) | (refine need.of (by first | omega | kernel_rfl) ?_) | (refine AW.fin ?_; try simp -implicitDefEqProofs [hk', hk, -Bool.exists_bool]))
        refine CallS.pu (hc) ?_
        (try (simp -implicitDefEqProofs [hle, hk', hk, -Bool.exists_bool]; try simp (disch := omega) only [w64, wu64]))
        repeat (first | refine AW.seq ?_ | refine AW.block ?_ | (refine AW.reg mix ?_; simp -implicitDefEqProofs [hle, hk', hk, -Bool.exists_bool]; try simp (disch := omega) only [w64, wu64]) | (refine need.of (by first | omega | kernel_rfl) ?_) | (refine AW.fin ?_; try simp -implicitDefEqProofs [hle, hk', hk, -Bool.exists_bool]))
    · simp only [stR, if_neg hpe, parD, tsD] at h2 h3
      refine CallS.o1 3 (h2) ?_
      (try (simp -implicitDefEqProofs [hpe, -Bool.exists_bool]; try simp (disch := omega) only [w64, wu64]))
      repeat (first | refine AW.seq ?_ | refine AW.block ?_ | (refine AW.reg mix ?_; simp -implicitDefEqProofs [hpe, -Bool.exists_bool]; try simp (disch := omega) only [w64, wu64]) | (refine need.of (by first | omega | kernel_rfl) ?_) | (refine AW.fin ?_; try simp -implicitDefEqProofs [hpe, -Bool.exists_bool]))
      refine CallS.pu (hst) ?_
      (try (simp -implicitDefEqProofs [hN, h2n, -Bool.exists_bool]; try simp (disch := omega) only [w64, wu64]))
      repeat (first | refine AW.seq ?_ | refine AW.block ?_ | (refine AW.reg mix ?_; simp -implicitDefEqProofs [hN, h2n, -Bool.exists_bool]; try simp (disch := omega) only [w64, wu64]) | (refine need.of (by first | omega | kernel_rfl) ?_) | (refine AW.fin ?_; try simp -implicitDefEqProofs [hN, h2n, -Bool.exists_bool]))
      refine CallS.o1 4 (h1) ?_
      (try (simp -implicitDefEqProofs [-Bool.exists_bool]; try simp (disch := omega) only [w64, wu64]))
      repeat (first | refine AW.seq ?_ | refine AW.block ?_ | (refine AW.reg mix ?_; simp -implicitDefEqProofs [-Bool.exists_bool]; try simp (disch := omega) only [w64, wu64]) | (refine need.of (by first | omega | kernel_rfl) ?_) | (refine AW.fin ?_; try simp -implicitDefEqProofs [-Bool.exists_bool]))
      refine AW.cond rfl (fun h => ?_) (fun h => ?_)
      · simp at h
      repeat (first | refine AW.seq ?_ | refine AW.block ?_ | (refine AW.reg mix ?_; simp -implicitDefEqProofs [-Bool.exists_bool]; try simp (disch := omega) only [w64, wu64]) | (refine need.of (by first | omega | kernel_rfl) ?_) | (refine AW.fin ?_; try simp -implicitDefEqProofs [-Bool.exists_bool]))
      refine CallS.o1 4 (h3) ?_
      (try (simp -implicitDefEqProofs [hpe, -Bool.exists_bool]; try simp (disch := omega) only [w64, wu64]))
      repeat (first | refine AW.seq ?_ | refine AW.block ?_ | (refine AW.reg mix ?_; simp -implicitDefEqProofs [hpe, -Bool.exists_bool]; try simp (disch := omega) only [w64, wu64]) | (refine need.of (by first | omega | kernel_rfl) ?_) | (refine AW.fin ?_; try simp -implicitDefEqProofs [hpe, -Bool.exists_bool]))
      refine AW.cond rfl (fun h => ?_) (fun h => ?_)
      · repeat (first | refine AW.seq ?_ | refine AW.block ?_ | (refine AW.reg mix ?_; simp -implicitDefEqProofs [hpe, -Bool.exists_bool]; try simp (disch := omega) only [w64, wu64]) | (refine need.of (by first | omega | kernel_rfl) ?_) | (refine AW.fin ?_; try simp -implicitDefEqProofs [hpe, -Bool.exists_bool]))
      · simp [hpe] at h
  · rw [if_neg he] at hadd
    subst hadd
    obtain ⟨e, ry, rt, rf, rp, rd⟩ := Q
    simp only at he
    simp only [stR, if_neg he, parD, tsD] at h1 h2
    refine CallS.o1 3 (h2) ?_
    (try (simp -implicitDefEqProofs [he, -Bool.exists_bool]; try simp (disch := omega) only [w64, wu64]))
    repeat (first | refine AW.seq ?_ | refine AW.block ?_ | (refine AW.reg mix ?_; simp -implicitDefEqProofs [he, -Bool.exists_bool]; try simp (disch := omega) only [w64, wu64]) | (refine need.of (by first | omega | kernel_rfl) ?_) | (refine AW.fin ?_; try simp -implicitDefEqProofs [he, -Bool.exists_bool]))
    refine CallS.pu (hst) ?_
    (try (simp -implicitDefEqProofs [hN, h2n, -Bool.exists_bool]; try simp (disch := omega) only [w64, wu64]))
    repeat (first | refine AW.seq ?_ | refine AW.block ?_ | (refine AW.reg mix ?_; simp -implicitDefEqProofs [hN, h2n, -Bool.exists_bool]; try simp (disch := omega) only [w64, wu64]) | (refine need.of (by first | omega | kernel_rfl) ?_) | (refine AW.fin ?_; try simp -implicitDefEqProofs [hN, h2n, -Bool.exists_bool]))
    refine CallS.o1 4 (h1) ?_
    (try (simp -implicitDefEqProofs [he, -Bool.exists_bool]; try simp (disch := omega) only [w64, wu64]))
    repeat (first | refine AW.seq ?_ | refine AW.block ?_ | (refine AW.reg mix ?_; simp -implicitDefEqProofs [he, -Bool.exists_bool]; try simp (disch := omega) only [w64, wu64]) | (refine need.of (by first | omega | kernel_rfl) ?_) | (refine AW.fin ?_; try simp -implicitDefEqProofs [he, -Bool.exists_bool]))
    refine AW.cond rfl (fun h => ?_) (fun h => ?_)
    · repeat (first | refine AW.seq ?_ | refine AW.block ?_ | (refine AW.reg mix ?_; simp -implicitDefEqProofs [he, -Bool.exists_bool]; try simp (disch := omega) only [w64, wu64]) | (refine need.of (by first | omega | kernel_rfl) ?_) | (refine AW.fin ?_; try simp -implicitDefEqProofs [he, -Bool.exists_bool]))
    · simp [he] at h
end
end Go.Proofs.YtdbfenhaljmbfaaGreat.Am
namespace Go.Proofs.YtdbfenhaljmbfaaGreat.Am
section
set_option linter.unusedVariables false
set_option linter.unusedSimpArgs false
open Go.RowKit
set_option maxRecDepth 100000
set_option linter.unusedSimpArgs false
set_option linter.unusedVariables false
end
end Go.Proofs.YtdbfenhaljmbfaaGreat.Am
namespace Go.Proofs.YtdbfenhaljmbfaaGreat.Am
section
set_option linter.unusedVariables false
set_option linter.unusedSimpArgs false
open Go.RowKit

theorem reps_ints {I : Nat → Prop} {w : World} : ∀ l : List Int, D.reps I w (l.map (D.int .i64)) (l.map (Value.int .i64))
  | [] => D.reps_nil.2 rfl
  | _ :: l => D.reps_cons.2 ⟨D.rep_int.2 rfl, reps_ints l⟩
theorem rep_ints {W : World} (l : List Int) : V.rep (memW W) (.d (.agg (l.map (D.int .i64)))) (.agg (l.map (Value.int .i64)).toArray) :=
  rep_agg (fun u hu => by obtain ⟨n, -, rfl⟩ := List.mem_map.1 hu; rfl) (reps_ints l)
end
end Go.Proofs.YtdbfenhaljmbfaaGreat.Am
namespace Go.Proofs.YtdbfenhaljmbfaaGreat.Am
section
set_option linter.unusedVariables false
set_option linter.unusedSimpArgs false
open Go.RowKit

theorem rs_walk {W : World} {v : Value} {cs : List Bool} (w1 : Bools W v cs) {k a b y t : Int} {f : Bool} : Calls Tryz.prog n_Tlaw17_RegSplits #[.agg #[.int .i64 k, .int .i64 a, .int .i64 b], .agg #[.int .i64 y, .int .i64 t, .bool f], v] W (fun e W' => e = .returned (.bool true) ∧ Same W W') :=
  law_walk r_Tlaw17_RegSplits (regSplits_ok cs k a b y t f (by have := bools_len w1; unfold maxLen at this; omega))
    (V.reps_cons.2 ⟨rep_ints [k, a, b], V.reps_cons.2 ⟨rep_agg (by simp [Value.oneCell']) (by simp [D.reps_cons, D.rep_int, D.rep_bool]), V.reps_cons.2 ⟨rep_bools w1, V.reps_nil.2 rfl⟩⟩⟩)
end
end Go.Proofs.YtdbfenhaljmbfaaGreat.Am
