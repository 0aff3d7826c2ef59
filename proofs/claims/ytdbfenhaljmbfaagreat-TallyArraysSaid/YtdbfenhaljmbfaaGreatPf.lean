/- Parts of the proof: Bits1, Bits2, Bits3, Reg2, Reg3, Reg4, PackM, Pack1, Pack2, Carr1, Carr2, Carr3, AmLB. -/
import Derived.Test.YtdbfenhaljmbfaaGreatPe
namespace Go.Proofs.YtdbfenhaljmbfaaGreat.Am
section
set_option linter.unusedVariables false
set_option linter.unusedSimpArgs false
open Go.RowKit
set_option maxRecDepth 100000
set_option linter.unusedSimpArgs false
set_option linter.unusedVariables false

/-- bytes in cells -/
def u8s (ws : List Nat) : List V := ws.map fun x : Nat => V.d (.int .u8 x)
/-- bytes, as data -/
def BY (ws : List Nat) : D := .sl ws.length (ws.map fun x : Nat => .int .u8 x)
theorem u8s_length (ws : List Nat) : (u8s ws).length = ws.length := by simp [u8s]
theorem u8s_get {ws : List Nat} {j : Nat} (h : j < ws.length) : (u8s ws)[j]? = some (.d (.int .u8 (ws.getD j 0 : Nat))) := by simp [u8s, h]
theorem u8s_set (ws : List Nat) (j v : Nat) : (u8s ws).set j (.d (.int .u8 v)) = u8s (ws.set j v) := by simp [u8s, List.map_set]
theorem u8s_snoc (ws : List Nat) (v : Nat) : u8s ws ++ [.d (.int .u8 v)] = u8s (ws ++ [v]) := by simp [u8s]
@[simp] theorem u8s_low (n : Nat) (ws : List Nat) : V.lowl n (u8s ws) = true := by induction ws <;> simp_all [u8s]
@[simp] theorem u8s_ren (θ : Nat → Nat) (ws : List Nat) : V.rens θ (u8s ws) = u8s ws := by induction ws <;> simp_all [u8s]
/-- a writer's variable, its bytes -/
def wrO (m : Nat) (bs : List Bool) : Ob := ⟨138, [.own m 1 ((bs.length + 7) / 8), .d (.int .i64 bs.length)]⟩
def wrB (bs : List Bool) : Ob := ⟨5, u8s (bytesOf bs)⟩

theorem or_u8 (x y : Nat) (hx : x < 256) (hy : y < 256) : bits BinOp.or IntKind.u8 (x : Int) (y : Int) = ((x ||| y : Nat) : Int) := by
  show IntKind.u8.wrap (((BitVec.ofInt 8 (x : Int)) ||| (BitVec.ofInt 8 (y : Int))).toNat : Int) = _
  rw [BitVec.toNat_or, BitVec.ofInt_natCast, BitVec.ofInt_natCast, BitVec.toNat_ofNat, BitVec.toNat_ofNat, Nat.mod_eq_of_lt (by omega), Nat.mod_eq_of_lt (by omega)]
  have := Nat.or_lt_two_pow (n := 8) (x := x) (y := y) hx hy
  rw [IntKind.wrap_u8]
  omega
theorem or_step {c r : Nat} (hr : r < 8) (h : c * 2 ^ (8 - r) < 256) : bits BinOp.or IntKind.u8 ((c * 2 ^ (8 - r) : Nat) : Int) ((2 ^ (7 - r) : Nat) : Int) = ((c * 2 ^ (8 - r) + 2 ^ (7 - r) : Nat) : Int) := by
  have h2 : 2 ^ (7 - r) < 2 ^ (8 - r) := Nat.pow_lt_pow_right (by omega) (by omega)
  have h3 : 2 ^ (7 - r) ≤ 2 ^ 7 := Nat.pow_le_pow_right (by omega) (by omega)
  rw [or_u8 _ _ h (by omega), Nat.mul_comm c, Nat.two_pow_add_eq_or_of_lt h2]

theorem wbit0_ok (b : Bool) : Eqn Tryz.prog n_bits_Writer_Bit [.p 0 0, .d (.bool b)] [⟨138, [.d .nilsl, .d (.int .i64 0)]⟩] (.tup []) [wrO 1 [b], wrB [b]] := by
  refine Eqn.gen [0, 2] r_bits_Writer_Bit (by simp) (by simp) (by rfl) (by decide) (by simp) (by simp [wrO, wrB, u8s_low]) ?_
  simp only [c_bits_Writer_Bit]
  have e1 : IntKind.i64.wrap 1 = 1 := w64 (by omega) (by omega)
  have e2 : bits BinOp.or IntKind.u8 0 (IntKind.u8.wrap 128) = 128 := by decide
  repeat (first | refine AW.seq ?_ | refine AW.block ?_ | (refine AW.reg mix ?_; simp (implicitDefEqProofs := false); try simp (disch := omega) only [w64, wu64]) | (refine need.of (by first | omega | kernel_rfl) ?_) | (refine AW.fin ?_; try simp (implicitDefEqProofs := false)))
  refine AW.cond rfl (fun h => ?_) (fun h => ?_)
  · repeat (first | refine AW.seq ?_ | refine AW.block ?_ | (refine AW.reg mix ?_; simp (implicitDefEqProofs := false); try simp (disch := omega) only [w64, wu64]) | (refine need.of (by first | omega | kernel_rfl) ?_) | (refine AW.fin ?_; try simp (implicitDefEqProofs := false)))
    cases b with
    | true =>
      refine AW.cond rfl (fun h => ?_) (fun h => ?_)
      · repeat (first | refine AW.seq ?_ | refine AW.block ?_ | (refine AW.reg mix ?_; simp (implicitDefEqProofs := false) [e1, e2]; try simp (disch := omega) only [w64, wu64]) | (refine need.of (by first | omega | kernel_rfl) ?_) | (refine AW.fin ?_; try simp (implicitDefEqProofs := false) [e1, e2]))
        simp [wrO, wrB, u8s, bytesOf, byteAt, bit, b2n, List.range_succ]
      · simp at h
    | false =>
      refine AW.cond rfl (fun h => ?_) (fun h => ?_)
      · simp at h
      · repeat (first | refine AW.seq ?_ | refine AW.block ?_ | (refine AW.reg mix ?_; simp (implicitDefEqProofs := false) [e1, e2]; try simp (disch := omega) only [w64, wu64]) | (refine need.of (by first | omega | kernel_rfl) ?_) | (refine AW.fin ?_; try simp (implicitDefEqProofs := false) [e1, e2]))
        simp [wrO, wrB, u8s, bytesOf, byteAt, bit, b2n, List.range_succ]
  · simp at h

theorem wbit_ok (bs : List Bool) (b : Bool) (h0 : bs ≠ []) (hn : bs.length ≤ 1000000) : EqnD Tryz.prog n_bits_Writer_Bit [.p 0 0, .d (.bool b)] [wrO 1 bs, wrB bs] (.tup []) [wrO 2 (bs ++ [b]), wrB bs, wrB (bs ++ [b])] [1] := by
  have e1 : IntKind.i64.wrap ((bs.length : Int) + 1) = (bs.length : Int) + 1 := w64 (by omega) (by omega)
  have e2 : ((bs.length : Nat) : Int).tmod 8 = ((bs.length % 8 : Nat) : Int) := by rw [Int.tmod_eq_emod_of_nonneg (by omega)]; rfl
  have e2' : ((bs.length : Nat) : Int) % 8 = ((bs.length % 8 : Nat) : Int) := rfl
  have e3 : IntKind.i64.wrap (((bs.length : Nat) : Int) / 8) = ((bs.length / 8 : Nat) : Int) := by rw [w64 (by omega) (by omega)]; rfl
  by_cases hr : bs.length % 8 = 0
  · refine Eqn.gen [0, 1, 3] r_bits_Writer_Bit (by simp) (by simp) (by rfl) (by decide) (by simp) (by simp [wrO, wrB, u8s_low]) ?_
    have hb := bytesOf_snoc0 (b := b) hr
    have hl : (bytesOf bs).length = bs.length / 8 := by rw [bytesOf_len]; omega
    simp only [c_bits_Writer_Bit, wrO, wrB, hb, List.length_append, List.length_singleton]
    rw [show (bs.length + 7) / 8 = bs.length / 8 by omega, show (bs.length + 1 + 7) / 8 = bs.length / 8 + 1 by omega]
    rw [hr] at e2 e2'
    have hg : (u8s (bytesOf bs ++ [0]))[bs.length / 8]? = some (.d (.int .u8 0)) := by rw [u8s_get (by simp; omega)]; simp [List.getD, ← hl]
    have hs : ∀ v, (u8s (bytesOf bs ++ [0])).set (bs.length / 8) (.d (.int .u8 v)) = u8s (bytesOf bs) ++ [.d (.int .u8 v)] := fun v => by simp [u8s, ← hl]
    have hu := u8s_snoc (bytesOf bs) 0
    have hu2 := u8s_snoc (bytesOf bs) (b2n b * 128)
    have hlen := u8s_length (bytesOf bs)
    rw [hl] at hlen
    generalize bytesOf bs = ws at *
    have hq : bs.length / 8 ≤ 1000000 := by omega
    generalize bs.length / 8 = q at *
    generalize bs.length = n at *
    have e4 : bits BinOp.or IntKind.u8 0 (IntKind.u8.wrap 128) = 128 := by decide
    simp at hu
    have hlen2 : (u8s (ws ++ [0])).length = q + 1 := by rw [u8s_length]; simp; omega
    repeat (first | refine AW.seq ?_ | refine AW.block ?_ | (refine AW.reg mix ?_; simp (implicitDefEqProofs := false) [e2, e2', hu]; try simp (disch := omega) only [w64, wu64]) | (refine need.of (by first | omega | kernel_rfl) ?_) | (refine AW.fin ?_; try simp (implicitDefEqProofs := false) [e2, e2', hu]))
    refine AW.cond rfl (fun h => ?_) (fun h => ?_)
    · repeat (first | refine AW.seq ?_ | refine AW.block ?_ | (refine AW.reg mix ?_; simp (implicitDefEqProofs := false) [e2, e2', hu]; try simp (disch := omega) only [w64, wu64]) | (refine need.of (by first | omega | kernel_rfl) ?_) | (refine AW.fin ?_; try simp (implicitDefEqProofs := false) [e2, e2', hu]))
      cases b with
      | true =>
        simp [b2n] at hu2
        refine AW.cond rfl (fun h => ?_) (fun h => ?_)
        · repeat (first | refine AW.seq ?_ | refine AW.block ?_ | (refine AW.reg mix ?_; simp (implicitDefEqProofs := false) [e1, e2, e2', e3, e4, hg, hs]; try simp (disch := omega) only [w64, wu64]) | (refine need.of (by first | omega | kernel_rfl) ?_) | (refine AW.fin ?_; try simp (implicitDefEqProofs := false) [e1, e2, e2', e3, e4, hg, hs]))
          simp [hu2, b2n]
        · simp at h
      | false =>
        simp [b2n] at hu2
        refine AW.cond rfl (fun h => ?_) (fun h => ?_)
        · simp at h
        · repeat (first | refine AW.seq ?_ | refine AW.block ?_ | (refine AW.reg mix ?_; simp (implicitDefEqProofs := false) [e1]; try simp (disch := omega) only [w64, wu64]) | (refine need.of (by first | omega | kernel_rfl) ?_) | (refine AW.fin ?_; try simp (implicitDefEqProofs := false) [e1]))
          simp [hu2, b2n]
    · simp at h
  · refine Eqn.gen [0, 1, 1] r_bits_Writer_Bit (by simp) (by simp) (by rfl) (by decide) (by simp) (by simp [wrO, wrB, u8s_low]) ?_
    obtain ⟨c, hc, hb⟩ := bytesOf_snoc (b := b) hr
    have hlt : c * 2 ^ (8 - bs.length % 8) < 256 := by
      rw [← hc]
      have : (bytesOf bs).getD (bs.length / 8) 0 = byteAt bs (bs.length / 8) := by
        unfold bytesOf
        rw [List.getD_eq_getElem?_getD, List.getElem?_map, List.getElem?_range (by omega)]; rfl
      rw [this]; exact byteAt_lt _ _
    have hor := or_step (r := bs.length % 8) (Nat.mod_lt _ (by omega)) hlt
    have hR : bs.length % 8 < 8 := Nat.mod_lt _ (by omega)
    have hl : (bytesOf bs).length = bs.length / 8 + 1 := by rw [bytesOf_len]; omega
    have hg := u8s_get (ws := bytesOf bs) (j := bs.length / 8) (by omega)
    rw [hc] at hg
    have hs := u8s_set (bytesOf bs) (bs.length / 8)
    have hset : c * 2 ^ (8 - bs.length % 8) = (bytesOf bs).getD (bs.length / 8) 0 := hc.symm
    have hkeep : (bytesOf bs).set (bs.length / 8) (c * 2 ^ (8 - bs.length % 8)) = bytesOf bs := by
      rw [hset]
      apply List.ext_getElem?
      intro i
      rw [List.getElem?_set]
      split
      · rename_i h; subst h
        rw [if_pos (by omega), List.getD_eq_getElem?_getD, List.getElem?_eq_getElem (by omega)]; rfl
      · rfl
    have h7 : 2 ^ (7 - bs.length % 8) ≤ 2 ^ 7 := Nat.pow_le_pow_right (by omega) (by omega)
    simp only [c_bits_Writer_Bit, wrO, wrB, hb, List.length_append, List.length_singleton]
    rw [show (bs.length + 7) / 8 = bs.length / 8 + 1 by omega, show (bs.length + 1 + 7) / 8 = bs.length / 8 + 1 by omega]
    have e5 : IntKind.i64.wrap (7 - ((bs.length % 8 : Nat) : Int)) = ((7 - bs.length % 8 : Nat) : Int) := by rw [w64 (by omega) (by omega)]; omega
    have e6 : IntKind.u8.wrap (2 ^ (7 - bs.length % 8)) = ((2 ^ (7 - bs.length % 8) : Nat) : Int) := by
      have : ((2 : Int) ^ (7 - bs.length % 8)) = ((2 ^ (7 - bs.length % 8) : Nat) : Int) := by rw [Int.natCast_pow]; rfl
      rw [IntKind.wrap_u8, this]
      exact Int.emod_eq_of_lt (Int.natCast_nonneg _) (by exact_mod_cast Nat.lt_of_le_of_lt h7 (by decide))
    have e7 : 7 - bs.length % 8 ≤ 7 := by omega
    have hlen := u8s_length (bytesOf bs)
    rw [hl] at hlen
    clear hset hc hl hb
    generalize bytesOf bs = ws at *
    generalize bs.length / 8 = q at *
    generalize bs.length % 8 = r at *
    generalize bs.length = n at *
    generalize 2 ^ (7 - r) = P at *
    generalize c * 2 ^ (8 - r) = C at *
    have hCP : C + b2n b * P = if b then C + P else C := by cases b <;> simp [b2n]
    rw [hCP]
    have hr' : ¬ (r : Int) = 0 := by omega
    repeat (first | refine AW.seq ?_ | refine AW.block ?_ | (refine AW.reg mix ?_; simp (implicitDefEqProofs := false) [e2, e2', hr, hr']; try simp (disch := omega) only [w64, wu64]) | (refine need.of (by first | omega | kernel_rfl) ?_) | (refine AW.fin ?_; try simp (implicitDefEqProofs := false) [e2, e2', hr, hr']))
    refine AW.cond rfl (fun h => ?_) (fun h => ?_)
    · simp [hr, hr'] at h
    · repeat (first | refine AW.seq ?_ | refine AW.block ?_ | (refine AW.reg mix ?_; simp (implicitDefEqProofs := false); try simp (disch := omega) only [w64, wu64]) | (refine need.of (by first | omega | kernel_rfl) ?_) | (refine AW.fin ?_; try simp (implicitDefEqProofs := false)))
      cases b with
      | true =>
        refine AW.cond rfl (fun h => ?_) (fun h => ?_)
        · repeat (first | refine AW.seq ?_ | refine AW.block ?_ | (refine AW.reg mix ?_; simp (implicitDefEqProofs := false) [e1, e2, e2', e3, e5, e6, e7, hg, hor, hs]; try simp (disch := omega) only [w64, wu64]) | (refine need.of (by first | omega | kernel_rfl) ?_) | (refine AW.fin ?_; try simp (implicitDefEqProofs := false) [e1, e2, e2', e3, e5, e6, e7, hg, hor, hs]))
          exact Subs.of (by rw [← hs]; simp)
        · simp at h
      | false =>
        refine AW.cond rfl (fun h => ?_) (fun h => ?_)
        · simp at h
        · repeat (first | refine AW.seq ?_ | refine AW.block ?_ | (refine AW.reg mix ?_; simp (implicitDefEqProofs := false) [e1]; try simp (disch := omega) only [w64, wu64]) | (refine need.of (by first | omega | kernel_rfl) ?_) | (refine AW.fin ?_; try simp (implicitDefEqProofs := false) [e1]))
          simp [hkeep]

theorem wbytes_ok (bs : List Bool) (h0 : bs ≠ []) (hn : bs.length ≤ 1000000) : Eqn Tryz.prog n_bits_Writer_Bytes [.p 0 0] [wrO 1 bs, wrB bs] (.own 2 1 (bytesOf bs).length) [wrO 1 bs, wrB bs, wrB bs] := by
  refine Eqn.gen [0, 1, 2] r_bits_Writer_Bytes (by simp) (by simp) (by rfl) (by decide) (by simp) (by simp [wrO, wrB]) ?_
  have hl : 0 < bs.length := by cases bs with | nil => exact absurd rfl h0 | cons _ _ => simp
  simp only [c_bits_Writer_Bytes, wrO, wrB, bytesOf_len]
  have hlen := u8s_length (bytesOf bs)
  rw [bytesOf_len] at hlen
  have hq : (bs.length + 7) / 8 ≤ 1000000 := by omega
  have hset : setMany (List.replicate ((bs.length + 7) / 8) (V.d (.int .u8 0))) 0 (u8s (bytesOf bs)) = u8s (bytesOf bs) := by
    rw [setMany_eq _ _ _ (by simp [hlen])]
    simp [hlen]
  have htake : (u8s (bytesOf bs)).take ((bs.length + 7) / 8) = u8s (bytesOf bs) := List.take_of_length_le (by omega)
  have hren : ∀ θ, V.rens θ (u8s (bytesOf bs)) = u8s (bytesOf bs) := fun θ => u8s_ren θ _
  generalize u8s (bytesOf bs) = C at *
  generalize (bs.length + 7) / 8 = q at *
  generalize bs.length = n at *
  have e1 : IntKind.i64.wrap (q : Int) = q := w64 (by omega) (by omega)
  repeat (first | refine AW.seq ?_ | refine AW.block ?_ | (refine AW.reg mix ?_; simp (implicitDefEqProofs := false) [e1, hset, htake, hren]; try simp (disch := omega) only [w64, wu64]) | (refine need.of (by first | omega | kernel_rfl) ?_) | (refine AW.fin ?_; try simp (implicitDefEqProofs := false) [e1, hset, htake, hren]))

theorem bgood_ok (w : Int) : Eqn Tryz.prog n_bits_good [.d (.int .i64 w)] [] (.d (.bool (decide (0 ≤ w ∧ w ≤ 64)))) [] := by
  refine Eqn.pure r_bits_good (plain_d _) ?_
  simp only [c_bits_good]
  by_cases h : 0 ≤ w
  · repeat (first | refine AW.seq ?_ | refine AW.block ?_ | (refine AW.reg mix ?_; simp (implicitDefEqProofs := false) [h]; try simp (disch := omega) only [w64, wu64]) | (refine need.of (by first | omega | kernel_rfl) ?_) | (refine AW.fin ?_; try simp (implicitDefEqProofs := false) [h]))
  · have h' : w < 0 := by omega
    repeat (first | refine AW.seq ?_ | refine AW.block ?_ | (refine AW.reg mix ?_; simp (implicitDefEqProofs := false) [h, h']; try simp (disch := omega) only [w64, wu64]) | (refine need.of (by first | omega | kernel_rfl) ?_) | (refine AW.fin ?_; try simp (implicitDefEqProofs := false) [h, h']))

/-- it fits into so many bits -/
theorem bfits_ok (n w : Nat) (hw : w ≤ 64) (h : n < 2 ^ w) : Eqn Tryz.prog n_bits_fits [.d (.int .u64 n), .d (.int .i64 w)] [] (.d (.bool true)) [] := by
  refine Eqn.pure r_bits_fits (plain_d _) ?_
  simp only [c_bits_fits]
  by_cases h64 : w = 64
  · subst h64
    repeat (first | refine AW.seq ?_ | refine AW.block ?_ | (refine AW.reg mix ?_; simp (implicitDefEqProofs := false); try simp (disch := omega) only [w64, wu64]) | (refine need.of (by first | omega | kernel_rfl) ?_) | (refine AW.fin ?_; try simp (implicitDefEqProofs := false)))
  · have h1 : ¬ (w : Int) = 64 := by omega
    have h2 : ((n : Int) / 2 ^ w) = 0 := by
      have : ((2 : Int) ^ w) = ((2 ^ w : Nat) : Int) := by rw [Int.natCast_pow]; rfl
      rw [this, ← Int.natCast_ediv, Nat.div_eq_of_lt h]; rfl
    have h3 : w < 64 := by omega
    repeat (first | refine AW.seq ?_ | refine AW.block ?_ | (refine AW.reg mix ?_; simp (implicitDefEqProofs := false) [h64, h1, h2, h3]; try simp (disch := omega) only [w64, wu64]) | (refine need.of (by first | omega | kernel_rfl) ?_) | (refine AW.fin ?_; try simp (implicitDefEqProofs := false) [h64, h1, h2, h3]))

theorem bits_and1 (x : Nat) (hx : x < 18446744073709551616) : bits BinOp.and IntKind.u64 (x : Int) 1 = ((x % 2 : Nat) : Int) := by
  show IntKind.u64.wrap (((BitVec.ofInt 64 (x : Int)) &&& (BitVec.ofInt 64 (1 : Int))).toNat : Int) = _
  have h1 : (BitVec.ofInt 64 (1 : Int)).toNat = 1 := by decide
  rw [BitVec.toNat_and, h1, BitVec.ofInt_natCast, BitVec.toNat_ofNat, Nat.mod_eq_of_lt (by omega), Nat.and_one_is_mod, IntKind.wrap_u64]
  omega

theorem bitsW_take (n w i : Nat) (h : i < w) : (bitsW n w).take (i + 1) = (bitsW n w).take i ++ [decide (n / 2 ^ (w - 1 - i) % 2 = 1)] := by
  rw [List.take_add_one, List.getElem?_eq_getElem (by simpa using h)]
  simp [bitsW]

set_option maxHeartbeats 1000000 in
theorem wnum0_ok (n w : Nat) (h0 : 0 < w) (hw : w ≤ 64) (h : n < 2 ^ w) (hn : n < 18446744073709551616) : Eqn Tryz.prog n_bits_Writer_Num [.p 0 0, .d (.int .u64 n), .d (.int .i64 w)] [⟨138, [.d .nilsl, .d (.int .i64 0)]⟩] (.d (.int .i64 0)) [wrO 1 (bitsW n w), wrB (bitsW n w)] := by
  refine Eqn.gen [0, 1] r_bits_Writer_Num (by simp) (by simp) (by rfl) (by decide) (by simp) (by simp [wrO, wrB]) ?_
  simp only [c_bits_Writer_Num]
  have hg := bgood_ok w
  rw [show decide (0 ≤ (w : Int) ∧ (w : Int) ≤ 64) = true by simp; omega] at hg
  repeat (first | refine AW.seq ?_ | refine AW.block ?_ | (refine AW.reg mix ?_; simp (implicitDefEqProofs := false); try simp (disch := omega) only [w64, wu64]) | (refine need.of (by first | omega | kernel_rfl) ?_) | (refine AW.fin ?_; try simp (implicitDefEqProofs := false)))
  refine CallS.pu (hg) ?_
  (try (simp (implicitDefEqProofs := false); try simp (disch := omega) only [w64, wu64]))
  repeat (first | refine AW.seq ?_ | refine AW.block ?_ | (refine AW.reg mix ?_; simp (implicitDefEqProofs := false); try simp (disch := omega) only [w64, wu64]) | (refine need.of (by first | omega | kernel_rfl) ?_) | (refine AW.fin ?_; try simp (implicitDefEqProofs := false)))
  refine CallS.pu (bfits_ok n w hw h) ?_
  (try (simp (implicitDefEqProofs := false); try simp (disch := omega) only [w64, wu64]))
  repeat (first | refine AW.seq ?_ | refine AW.block ?_ | (refine AW.reg mix ?_; simp (implicitDefEqProofs := false); try simp (disch := omega) only [w64, wu64]) | (refine need.of (by first | omega | kernel_rfl) ?_) | (refine AW.fin ?_; try simp (implicitDefEqProofs := false)))
  refine AW.cond rfl (fun h => ?_) (fun h => ?_)
  · simp at h
  clear h
  repeat (first | refine AW.seq ?_ | refine AW.block ?_ | (refine AW.reg mix ?_; simp (implicitDefEqProofs := false); try simp (disch := omega) only [w64, wu64]) | (refine need.of (by first | omega | kernel_rfl) ?_) | (refine AW.fin ?_; try simp (implicitDefEqProofs := false)))
  refine AW.loopG (α := Nat) (fun i => [.p 0 0, .d (.int .u64 n), .d (.int .i64 w)] ++ List.replicate 3 .junk ++ [.d (.int .i64 0)] ++ List.replicate 10 .junk ++ [.d (.int .i64 w), .d (.int .i64 (i : Int))] ++ List.replicate 13 .junk) (fun i => if i = 0 then [some ⟨138, [.d .nilsl, .d (.int .i64 0)]⟩] else [some (wrO 1 ((bitsW n w).take i)), some (wrB ((bitsW n w).take i))]) (fun i => i ≤ w) (fun i => w - i) 0 ?_ (Nat.zero_le _) ?_ ?_ ?_
  · intro i hi; split <;> simp
  · simp
  · simp
  rintro i hi
  obtain ⟨W, hW⟩ : ∃ W, W = w - 1 := ⟨_, rfl⟩
  have e2 : IntKind.i64.wrap ((w : Int) - 1) = (W : Int) := by rw [w64 (by omega) (by omega)]; omega
  have hnum : i < w → ∃ (S X : Nat) (b : Bool), IntKind.i64.wrap ((W : Int) - i) = (S : Int) ∧ S = W - i ∧ (n : Int) / 2 ^ S = (X : Int) ∧ bits BinOp.and IntKind.u64 (X : Int) 1 = (X : Int) % 2 ∧ ((X : Int) % 2 == 1) = b ∧ (bitsW n w).take (i + 1) = (bitsW n w).take i ++ [b] := by
    intro h
    refine ⟨W - i, n / 2 ^ (W - i), decide (n / 2 ^ (W - i) % 2 = 1), by rw [w64 (by omega) (by omega)]; omega, rfl, ?_, ?_, ?_, by rw [hW]; exact bitsW_take n w i h⟩
    · rw [Int.natCast_ediv, Int.natCast_pow]; rfl
    · exact bits_and1 _ (Nat.lt_of_le_of_lt (Nat.div_le_self _ _) hn)
    · generalize n / 2 ^ (W - i) = z; rw [Bool.eq_iff_iff]; simp; omega
  have hend : (bitsW n w).take w = bitsW n w := List.take_of_length_le (by simp)
  have htl : ∀ k, k ≤ w → ((bitsW n w).take k).length = k := fun k h => by rw [List.length_take, bitsW_len]; omega
  have e1 : IntKind.i64.wrap ((i : Int) + 1) = ((i + 1 : Nat) : Int) := by rw [w64 (by omega) (by omega)]; omega
  by_cases hiw : i = w
  · subst hiw
    rw [if_neg (by omega), hend]
    generalize bitsW n i = bs at *
    simp [wrO, wrB]
    repeat (first | refine AW.seq ?_ | refine AW.block ?_ | (refine AW.reg mix ?_; simp (implicitDefEqProofs := false); try simp (disch := omega) only [w64, wu64]) | (refine need.of (by first | omega | kernel_rfl) ?_) | (refine AW.fin ?_; try simp (implicitDefEqProofs := false)))
    refine AW.cond rfl (fun h => ?_) (fun h => ?_)
    · simp at h
    repeat (first | refine AW.seq ?_ | refine AW.block ?_ | (refine AW.reg mix ?_; simp (implicitDefEqProofs := false); try simp (disch := omega) only [w64, wu64]) | (refine need.of (by first | omega | kernel_rfl) ?_) | (refine AW.fin ?_; try simp (implicitDefEqProofs := false)))
  · have hlt : i < w := by omega
    have hlt' : (i : Int) < w := by omega
    obtain ⟨S, X, b, e3, e4, e5, e6, e7, e8⟩ := hnum hlt
    have e4' : (S : Int) ≤ 64 := by omega
    have e4w : (W : Int) ≤ 64 := by omega
    by_cases hi0 : i = 0
    · subst hi0
      rw [if_pos rfl]
      rw [Nat.sub_zero] at e4
      subst e4
      simp
      repeat (first | refine AW.seq ?_ | refine AW.block ?_ | (refine AW.reg mix ?_; simp (implicitDefEqProofs := false) [hlt, hlt']; try simp (disch := omega) only [w64, wu64]) | (refine need.of (by first | omega | kernel_rfl) ?_) | (refine AW.fin ?_; try simp (implicitDefEqProofs := false) [hlt, hlt']))
      refine AW.cond rfl (fun h => ?_) (fun h => ?_)
      · repeat (first | refine AW.seq ?_ | refine AW.block ?_ | (refine AW.reg mix ?_; simp (implicitDefEqProofs := false) [e2, e4w, e5, e6, e7]; try simp (disch := omega) only [w64, wu64]) | (refine need.of (by first | omega | kernel_rfl) ?_) | (refine AW.fin ?_; try simp (implicitDefEqProofs := false) [e2, e4w, e5, e6, e7]))
        simp only [Int.toNat_natCast, e5, e6, e7]
        refine CallS.g [0] (wbit0_ok b) ?_
        (try (simp (implicitDefEqProofs := false); try simp (disch := omega) only [w64, wu64]))
        repeat (first | refine AW.seq ?_ | refine AW.block ?_ | (refine AW.reg mix ?_; simp (implicitDefEqProofs := false); try simp (disch := omega) only [w64, wu64]) | (refine need.of (by first | omega | kernel_rfl) ?_) | (refine AW.fin ?_; try simp (implicitDefEqProofs := false)))
        refine ⟨1, 1, 1, by simp, by omega, by omega, ?_, ?_⟩
        · simp [swT, sw, V.ren, V.rens]
        · simp at e8
          simp [swH, sw, Ob.sw, V.ren, V.rens, e8, wrO, wrB]
      · simp [hlt'] at h
    · rw [if_neg hi0]
      have hne : (bitsW n w).take i ≠ [] := fun h => by have := htl i hi; rw [h] at this; simp at this; omega
      have hB := wbit_ok ((bitsW n w).take i) b hne (by have := htl i hi; omega)
      rw [← e8] at hB
      have hk := htl (i + 1) (by omega)
      have hk0 := htl i hi
      simp only [wrO, wrB, hk, hk0] at hB ⊢
      simp
      repeat (first | refine AW.seq ?_ | refine AW.block ?_ | (refine AW.reg mix ?_; simp (implicitDefEqProofs := false) [hlt, hlt']; try simp (disch := omega) only [w64, wu64]) | (refine need.of (by first | omega | kernel_rfl) ?_) | (refine AW.fin ?_; try simp (implicitDefEqProofs := false) [hlt, hlt']))
      refine AW.cond rfl (fun h => ?_) (fun h => ?_)
      · repeat (first | refine AW.seq ?_ | refine AW.block ?_ | (refine AW.reg mix ?_; simp (implicitDefEqProofs := false) [e2, e3, e4', e5, e6, e7]; try simp (disch := omega) only [w64, wu64]) | (refine need.of (by first | omega | kernel_rfl) ?_) | (refine AW.fin ?_; try simp (implicitDefEqProofs := false) [e2, e3, e4', e5, e6, e7]))
        refine CallS.g [0, 1] (hB) ?_
        (try (simp (implicitDefEqProofs := false) [e1]; try simp (disch := omega) only [w64, wu64]))
        repeat (first | refine AW.seq ?_ | refine AW.block ?_ | (refine AW.reg mix ?_; simp (implicitDefEqProofs := false) [e1]; try simp (disch := omega) only [w64, wu64]) | (refine need.of (by first | omega | kernel_rfl) ?_) | (refine AW.fin ?_; try simp (implicitDefEqProofs := false) [e1]))
        refine ⟨i + 1, 1, 2, by simp, by omega, by omega, ?_, ?_⟩
        · simp [swT, sw, V.ren, V.rens, e1]
        · have hmin : min (i + 1) w = i + 1 := Nat.min_eq_left (by omega)
          simp [swH, sw, Ob.sw, V.ren, V.rens, hk, hmin]
      · simp [hlt'] at h
end
end Go.Proofs.YtdbfenhaljmbfaaGreat.Am
namespace Go.Proofs.YtdbfenhaljmbfaaGreat.Am
section
set_option linter.unusedVariables false
set_option linter.unusedSimpArgs false
open Go.RowKit
set_option maxRecDepth 100000
set_option linter.unusedSimpArgs false
set_option linter.unusedVariables false

set_option maxHeartbeats 1000000 in
theorem wnum_ok (bs : List Bool) (n w : Nat) (hbs : bs ≠ []) (hbl : bs.length ≤ 900000) (hw : w ≤ 64) (h : n < 2 ^ w) (hn : n < 18446744073709551616) : EqnD Tryz.prog n_bits_Writer_Num [.p 0 0, .d (.int .u64 n), .d (.int .i64 w)] [wrO 1 bs, wrB bs] (.d (.int .i64 0)) [wrO 2 (bs ++ bitsW n w), wrB bs, wrB (bs ++ bitsW n w)] [1] := by
  have hg := bgood_ok w
  rw [show decide (0 ≤ (w : Int) ∧ (w : Int) ≤ 64) = true by simp; omega] at hg
  by_cases hw0 : w = 0
  · subst hw0
    refine Eqn.gen [0, 1, 1] r_bits_Writer_Num (by simp) (by simp) (by rfl) (by decide) (by simp) (by simp [wrO, wrB]) ?_
    rw [show bitsW n 0 = [] by rfl, List.append_nil]
    simp only [c_bits_Writer_Num, wrO, wrB]
    have hf := bfits_ok n 0 hw h
    simp at hg hf
    repeat (first | refine AW.seq ?_ | refine AW.block ?_ | (refine AW.reg mix ?_; simp (implicitDefEqProofs := false); try simp (disch := omega) only [w64, wu64]) | (refine need.of (by first | omega | kernel_rfl) ?_) | (refine AW.fin ?_; try simp (implicitDefEqProofs := false)))
    refine CallS.pu (hg) ?_
    (try (simp (implicitDefEqProofs := false); try simp (disch := omega) only [w64, wu64]))
    repeat (first | refine AW.seq ?_ | refine AW.block ?_ | (refine AW.reg mix ?_; simp (implicitDefEqProofs := false); try simp (disch := omega) only [w64, wu64]) | (refine need.of (by first | omega | kernel_rfl) ?_) | (refine AW.fin ?_; try simp (implicitDefEqProofs := false)))
    refine CallS.pu (hf) ?_
    (try (simp (implicitDefEqProofs := false); try simp (disch := omega) only [w64, wu64]))
    repeat (first | refine AW.seq ?_ | refine AW.block ?_ | (refine AW.reg mix ?_; simp (implicitDefEqProofs := false); try simp (disch := omega) only [w64, wu64]) | (refine need.of (by first | omega | kernel_rfl) ?_) | (refine AW.fin ?_; try simp (implicitDefEqProofs := false)))
    refine AW.cond rfl (fun h => ?_) (fun h => ?_)
    · simp at h
    clear h
    repeat (first | refine AW.seq ?_ | refine AW.block ?_ | (refine AW.reg mix ?_; simp (implicitDefEqProofs := false); try simp (disch := omega) only [w64, wu64]) | (refine need.of (by first | omega | kernel_rfl) ?_) | (refine AW.fin ?_; try simp (implicitDefEqProofs := false)))
    refine AW.loopT (α := Nat) 2 (fun i => [(18, .d (.int .i64 0))]) (fun i => []) (fun i => i = 0) (fun i => i) 0 ?_ ?_ rfl ?_ ?_ ?_
    · simp
    · simp
    · simp
    · simp
    rintro i rfl
    simp
    repeat (first | refine AW.seq ?_ | refine AW.block ?_ | (refine AW.reg mix ?_; simp (implicitDefEqProofs := false); try simp (disch := omega) only [w64, wu64]) | (refine need.of (by first | omega | kernel_rfl) ?_) | (refine AW.fin ?_; try simp (implicitDefEqProofs := false)))
    refine AW.cond rfl (fun h => ?_) (fun h => ?_)
    · simp at h
    repeat (first | refine AW.seq ?_ | refine AW.block ?_ | (refine AW.reg mix ?_; simp (implicitDefEqProofs := false); try simp (disch := omega) only [w64, wu64]) | (refine need.of (by first | omega | kernel_rfl) ?_) | (refine AW.fin ?_; try simp (implicitDefEqProofs := false)))
  have h0 : 0 < w := by omega
  refine Eqn.gen [0, 1, 2] r_bits_Writer_Num (by simp) (by simp) (by rfl) (by decide) (by simp) (by simp [wrO, wrB]) ?_
  simp only [c_bits_Writer_Num]
  repeat (first | refine AW.seq ?_ | refine AW.block ?_ | (refine AW.reg mix ?_; simp (implicitDefEqProofs := false); try simp (disch := omega) only [w64, wu64]) | (refine need.of (by first | omega | kernel_rfl) ?_) | (refine AW.fin ?_; try simp (implicitDefEqProofs := false)))
  refine CallS.pu (hg) ?_
  (try (simp (implicitDefEqProofs := false); try simp (disch := omega) only [w64, wu64]))
  repeat (first | refine AW.seq ?_ | refine AW.block ?_ | (refine AW.reg mix ?_; simp (implicitDefEqProofs := false); try simp (disch := omega) only [w64, wu64]) | (refine need.of (by first | omega | kernel_rfl) ?_) | (refine AW.fin ?_; try simp (implicitDefEqProofs := false)))
  refine CallS.pu (bfits_ok n w hw h) ?_
  (try (simp (implicitDefEqProofs := false); try simp (disch := omega) only [w64, wu64]))
  repeat (first | refine AW.seq ?_ | refine AW.block ?_ | (refine AW.reg mix ?_; simp (implicitDefEqProofs := false); try simp (disch := omega) only [w64, wu64]) | (refine need.of (by first | omega | kernel_rfl) ?_) | (refine AW.fin ?_; try simp (implicitDefEqProofs := false)))
  refine AW.cond rfl (fun h => ?_) (fun h => ?_)
  · simp at h
  clear h
  repeat (first | refine AW.seq ?_ | refine AW.block ?_ | (refine AW.reg mix ?_; simp (implicitDefEqProofs := false); try simp (disch := omega) only [w64, wu64]) | (refine need.of (by first | omega | kernel_rfl) ?_) | (refine AW.fin ?_; try simp (implicitDefEqProofs := false)))
  refine AW.loopG (α := Nat) (fun i => [.p 0 0, .d (.int .u64 n), .d (.int .i64 w)] ++ List.replicate 3 .junk ++ [.d (.int .i64 0)] ++ List.replicate 10 .junk ++ [.d (.int .i64 w), .d (.int .i64 (i : Int))] ++ List.replicate 13 .junk) (fun i => if i = 0 then [some (wrO 1 bs), some (wrB bs)] else [some (wrO 2 (bs ++ (bitsW n w).take i)), none, some (wrB (bs ++ (bitsW n w).take i))]) (fun i => i ≤ w) (fun i => w - i) 0 ?_ (Nat.zero_le _) ?_ ?_ ?_
  · intro i hi; split <;> simp
  · simp
  · simp [wrO, wrB]
  rintro i hi
  obtain ⟨W, hW⟩ : ∃ W, W = w - 1 := ⟨_, rfl⟩
  have e2 : IntKind.i64.wrap ((w : Int) - 1) = (W : Int) := by rw [w64 (by omega) (by omega)]; omega
  have hnum : i < w → ∃ (S X : Nat) (b : Bool), IntKind.i64.wrap ((W : Int) - i) = (S : Int) ∧ S = W - i ∧ (n : Int) / 2 ^ S = (X : Int) ∧ bits BinOp.and IntKind.u64 (X : Int) 1 = (X : Int) % 2 ∧ ((X : Int) % 2 == 1) = b ∧ bs ++ (bitsW n w).take (i + 1) = (bs ++ (bitsW n w).take i) ++ [b] := by
    intro h
    refine ⟨W - i, n / 2 ^ (W - i), decide (n / 2 ^ (W - i) % 2 = 1), by rw [w64 (by omega) (by omega)]; omega, rfl, ?_, ?_, ?_, by rw [hW, List.append_assoc]; congr 1; exact bitsW_take n w i h⟩
    · rw [Int.natCast_ediv, Int.natCast_pow]; rfl
    · exact bits_and1 _ (Nat.lt_of_le_of_lt (Nat.div_le_self _ _) hn)
    · generalize n / 2 ^ (W - i) = z; rw [Bool.eq_iff_iff]; simp; omega
  have hend : (bitsW n w).take w = bitsW n w := List.take_of_length_le (by simp)
  have htl : ∀ k, k ≤ w → (bs ++ (bitsW n w).take k).length = bs.length + k := fun k h => by rw [List.length_append, List.length_take, bitsW_len]; omega
  have e1 : IntKind.i64.wrap ((i : Int) + 1) = ((i + 1 : Nat) : Int) := by rw [w64 (by omega) (by omega)]; omega
  by_cases hiw : i = w
  · subst hiw
    rw [if_neg (by omega), hend]
    generalize bs ++ bitsW n i = cs at *
    simp [wrO, wrB]
    repeat (first | refine AW.seq ?_ | refine AW.block ?_ | (refine AW.reg mix ?_; simp (implicitDefEqProofs := false); try simp (disch := omega) only [w64, wu64]) | (refine need.of (by first | omega | kernel_rfl) ?_) | (refine AW.fin ?_; try simp (implicitDefEqProofs := false)))
    refine AW.cond rfl (fun h => ?_) (fun h => ?_)
    · simp at h
    repeat (first | refine AW.seq ?_ | refine AW.block ?_ | (refine AW.reg mix ?_; simp (implicitDefEqProofs := false); try simp (disch := omega) only [w64, wu64]) | (refine need.of (by first | omega | kernel_rfl) ?_) | (refine AW.fin ?_; try simp (implicitDefEqProofs := false)))
  · have hlt : i < w := by omega
    have hlt' : (i : Int) < w := by omega
    obtain ⟨S, X, b, e3, e4, e5, e6, e7, e8⟩ := hnum hlt
    have e4' : (S : Int) ≤ 64 := by omega
    have e4w : (W : Int) ≤ 64 := by omega
    have hne : bs ++ (bitsW n w).take i ≠ [] := fun h => hbs (List.append_eq_nil_iff.1 h).1
    have hB := wbit_ok (bs ++ (bitsW n w).take i) b hne (by have := htl i hi; omega)
    rw [← e8] at hB
    have hk := htl (i + 1) (by omega)
    have hk0 := htl i hi
    have hmin : min (i + 1) w = i + 1 := Nat.min_eq_left (by omega)
    generalize hX1 : bs ++ (bitsW n w).take (i + 1) = X1 at *
    by_cases hi0 : i = 0
    · subst hi0
      rw [if_pos rfl]
      rw [Nat.sub_zero] at e4
      subst e4
      simp only [List.take_zero, List.append_nil] at hB
      simp only [wrO, wrB, hk] at hB ⊢
      simp
      repeat (first | refine AW.seq ?_ | refine AW.block ?_ | (refine AW.reg mix ?_; simp (implicitDefEqProofs := false) [hlt, hlt']; try simp (disch := omega) only [w64, wu64]) | (refine need.of (by first | omega | kernel_rfl) ?_) | (refine AW.fin ?_; try simp (implicitDefEqProofs := false) [hlt, hlt']))
      refine AW.cond rfl (fun h => ?_) (fun h => ?_)
      · repeat (first | refine AW.seq ?_ | refine AW.block ?_ | (refine AW.reg mix ?_; simp (implicitDefEqProofs := false) [e2, e4w, e5, e6, e7]; try simp (disch := omega) only [w64, wu64]) | (refine need.of (by first | omega | kernel_rfl) ?_) | (refine AW.fin ?_; try simp (implicitDefEqProofs := false) [e2, e4w, e5, e6, e7]))
        simp only [Int.toNat_natCast, e5, e6, e7]
        refine CallS.g [0, 1] (hB) ?_
        (try (simp (implicitDefEqProofs := false) [e1]; try simp (disch := omega) only [w64, wu64]))
        repeat (first | refine AW.seq ?_ | refine AW.block ?_ | (refine AW.reg mix ?_; simp (implicitDefEqProofs := false) [e1]; try simp (disch := omega) only [w64, wu64]) | (refine need.of (by first | omega | kernel_rfl) ?_) | (refine AW.fin ?_; try simp (implicitDefEqProofs := false) [e1]))
        refine ⟨1, 2, 2, by simp, by omega, by omega, ?_, ?_⟩
        · simp [swT, sw, V.ren, V.rens]
        · simp at hX1
          have hmin1 : min 1 w = 1 := Nat.min_eq_left (by omega)
          simp [swH, sw, Ob.sw, V.ren, V.rens, hX1, hk, hmin1]
      · simp [hlt'] at h
    · rw [if_neg hi0]
      simp only [wrO, wrB, hk, hk0] at hB ⊢
      simp
      repeat (first | refine AW.seq ?_ | refine AW.block ?_ | (refine AW.reg mix ?_; simp (implicitDefEqProofs := false) [hlt, hlt']; try simp (disch := omega) only [w64, wu64]) | (refine need.of (by first | omega | kernel_rfl) ?_) | (refine AW.fin ?_; try simp (implicitDefEqProofs := false) [hlt, hlt']))
      refine AW.cond rfl (fun h => ?_) (fun h => ?_)
      · repeat (first | refine AW.seq ?_ | refine AW.block ?_ | (refine AW.reg mix ?_; simp (implicitDefEqProofs := false) [e2, e3, e4', e5, e6, e7]; try simp (disch := omega) only [w64, wu64]) | (refine need.of (by first | omega | kernel_rfl) ?_) | (refine AW.fin ?_; try simp (implicitDefEqProofs := false) [e2, e3, e4', e5, e6, e7]))
        refine CallS.g [0, 2] (hB) ?_
        (try (simp (implicitDefEqProofs := false) [e1]; try simp (disch := omega) only [w64, wu64]))
        repeat (first | refine AW.seq ?_ | refine AW.block ?_ | (refine AW.reg mix ?_; simp (implicitDefEqProofs := false) [e1]; try simp (disch := omega) only [w64, wu64]) | (refine need.of (by first | omega | kernel_rfl) ?_) | (refine AW.fin ?_; try simp (implicitDefEqProofs := false) [e1]))
        refine ⟨i + 1, 2, 3, by simp, by omega, by omega, ?_, ?_⟩
        · simp [swT, sw, V.ren, V.rens, e1]
        · simp [swH, sw, Ob.sw, V.ren, V.rens, hX1, hk, hmin]
      · simp [hlt'] at h

/-- a reader's variable -/
def rdO (ws : List Nat) (at_ : Nat) : Ob := ⟨190, [.d (BY ws), .d (.int .i64 at_)]⟩

theorem cloneY_ok (n : Nat) (l : List D) (hl : l.length = n) (hn : n ≤ 4000000) : Eqn Tryz.prog n_slices_Clone_byte_byte [.d (.sl n l)] [] (.d (.sl n l)) [] := by
  refine Eqn.pure r_slices_Clone_byte_byte (plain_d _) ?_
  simp only [c_slices_Clone_byte_byte]
  rcases Nat.eq_zero_or_pos n with rfl | h0
  · have : l = [] := List.eq_nil_of_length_eq_zero hl
    subst this
    refine AW.empty 0 rfl ?_ ?_
    · simp
      repeat (first | refine AW.seq ?_ | refine AW.block ?_ | (refine AW.reg mix ?_; simp (implicitDefEqProofs := false); try simp (disch := omega) only [w64, wu64]) | (refine need.of (by first | omega | kernel_rfl) ?_) | (refine AW.fin ?_; try simp (implicitDefEqProofs := false)))
      refine AW.cond rfl (fun h => ?_) (fun h => ?_)
      · repeat (first | refine AW.seq ?_ | refine AW.block ?_ | (refine AW.reg mix ?_; simp (implicitDefEqProofs := false); try simp (disch := omega) only [w64, wu64]) | (refine need.of (by first | omega | kernel_rfl) ?_) | (refine AW.fin ?_; try simp (implicitDefEqProofs := false)))
        exact Sub1.nil
      · simp at h
    · simp
      repeat (first | refine AW.seq ?_ | refine AW.block ?_ | (refine AW.reg mix ?_; simp (implicitDefEqProofs := false); try simp (disch := omega) only [w64, wu64]) | (refine need.of (by first | omega | kernel_rfl) ?_) | (refine AW.fin ?_; try simp (implicitDefEqProofs := false)))
      refine AW.cond rfl (fun h => ?_) (fun h => ?_)
      · simp at h
      · repeat (first | refine AW.seq ?_ | refine AW.block ?_ | (refine AW.reg mix ?_; simp (implicitDefEqProofs := false); try simp (disch := omega) only [w64, wu64]) | (refine need.of (by first | omega | kernel_rfl) ?_) | (refine AW.fin ?_; try simp (implicitDefEqProofs := false)))
        exact Sub1.sl0
  · repeat (first | refine AW.seq ?_ | refine AW.block ?_ | (refine AW.reg mix ?_; simp (implicitDefEqProofs := false) [h0]; try simp (disch := omega) only [w64, wu64]) | (refine need.of (by first | omega | kernel_rfl) ?_) | (refine AW.fin ?_; try simp (implicitDefEqProofs := false) [h0]))
    refine AW.cond rfl (fun h => ?_) (fun h => ?_)
    · simp at h
    · repeat (first | refine AW.seq ?_ | refine AW.block ?_ | (refine AW.reg mix ?_; simp (implicitDefEqProofs := false); try simp (disch := omega) only [w64, wu64]) | (refine need.of (by first | omega | kernel_rfl) ?_) | (refine AW.fin ?_; try simp (implicitDefEqProofs := false)))
      have h1 : ¬ n = 0 := by omega
      simp [h1, hl]
      refine need.of (by omega) ?_
      refine AW.freeze 0 1 ⟨5, l.map .d⟩ l (by simp) rfl ?_
      simp
      repeat (first | refine AW.seq ?_ | refine AW.block ?_ | (refine AW.reg mix ?_; simp (implicitDefEqProofs := false); try simp (disch := omega) only [w64, wu64]) | (refine need.of (by first | omega | kernel_rfl) ?_) | (refine AW.fin ?_; try simp (implicitDefEqProofs := false)))
      have : l.take n = l := List.take_of_length_le (by omega)
      simp [this]

theorem bread_ok (ws : List Nat) (hn : ws.length ≤ 4000000) : Eqn Tryz.prog n_bits_Read [.d (BY ws)] [] (.p 0 0) [rdO ws 0] := by
  refine Eqn.new1 r_bits_Read ⟨rfl, fun _ => rfl⟩ ?_
  simp only [c_bits_Read, BY, rdO]
  repeat (first | refine AW.seq ?_ | refine AW.block ?_ | (refine AW.reg mix ?_; simp (implicitDefEqProofs := false); try simp (disch := omega) only [w64, wu64]) | (refine need.of (by first | omega | kernel_rfl) ?_) | (refine AW.fin ?_; try simp (implicitDefEqProofs := false)))
  refine CallS.pu (cloneY_ok _ (ws.map fun x : Nat => .int .u8 x) (by simp) hn) ?_
  (try (simp (implicitDefEqProofs := false); try simp (disch := omega) only [w64, wu64]))
  repeat (first | refine AW.seq ?_ | refine AW.block ?_ | (refine AW.reg mix ?_; simp (implicitDefEqProofs := false); try simp (disch := omega) only [w64, wu64]) | (refine need.of (by first | omega | kernel_rfl) ?_) | (refine AW.fin ?_; try simp (implicitDefEqProofs := false)))

theorem rleft_ok (ws : List Nat) (a : Nat) (hn : ws.length ≤ 4000000) (ha : a ≤ 8 * ws.length) : Eqn Tryz.prog n_bits_Reader_Left [.p 0 0] [rdO ws a] (.d (.int .i64 (8 * ws.length - a : Nat))) [rdO ws a] := by
  refine Eqn.obj1 r_bits_Reader_Left (plain_d _) ⟨rfl, fun _ => rfl⟩ ?_
  simp only [c_bits_Reader_Left, BY, rdO]
  have e1 : IntKind.i64.wrap (8 * (ws.length : Int)) = 8 * (ws.length : Int) := w64 (by omega) (by omega)
  have e2 : IntKind.i64.wrap (8 * (ws.length : Int) - a) = ((8 * ws.length - a : Nat) : Int) := by rw [w64 (by omega) (by omega)]; omega
  repeat (first | refine AW.seq ?_ | refine AW.block ?_ | (refine AW.reg mix ?_; simp (implicitDefEqProofs := false) [e1, e2]; try simp (disch := omega) only [w64, wu64]) | (refine need.of (by first | omega | kernel_rfl) ?_) | (refine AW.fin ?_; try simp (implicitDefEqProofs := false) [e1, e2]))

theorem bits_and1b (x : Nat) (hx : x < 256) : bits BinOp.and IntKind.u8 (x : Int) 1 = (x : Int) % 2 := by
  show IntKind.u8.wrap (((BitVec.ofInt 8 (x : Int)) &&& (BitVec.ofInt 8 (1 : Int))).toNat : Int) = _
  have h1 : (BitVec.ofInt 8 (1 : Int)).toNat = 1 := by decide
  rw [BitVec.toNat_and, h1, BitVec.ofInt_natCast, BitVec.toNat_ofNat, Nat.mod_eq_of_lt (by omega), Nat.and_one_is_mod, IntKind.wrap_u8]
  omega

def smallB (ws : List Nat) : Prop := ∀ x ∈ ws, x < 256
theorem rnext_ok (ws : List Nat) (a : Nat) (hs : smallB ws) (hn : ws.length ≤ 4000000) (ha : a < 8 * ws.length) : Eqn Tryz.prog n_bits_Reader_next [.p 0 0] [rdO ws a] (.d (.int .u64 (b2n ((bitsOf ws).getD a false)))) [rdO ws (a + 1)] := by
  refine Eqn.obj1 r_bits_Reader_next (plain_d _) ⟨rfl, fun _ => rfl⟩ ?_
  rw [bitsOf_get ws a ha]
  have hq : a / 8 < ws.length := by omega
  have hx : ws.getD (a / 8) 0 < 256 := by
    rw [List.getD_eq_getElem?_getD, List.getElem?_eq_getElem hq]; exact hs _ (List.getElem_mem hq)
  have hg : ∀ z : D, (ws.map fun x : Nat => D.int .u8 x)[a / 8]?.getD z = .int .u8 (ws.getD (a / 8) 0 : Nat) := fun z => by simp [hq]
  have e1 : IntKind.i64.wrap ((a : Int) / 8) = ((a / 8 : Nat) : Int) := by rw [w64 (by omega) (by omega)]; rfl
  have e2 : (a : Int).tmod 8 = ((a % 8 : Nat) : Int) := by rw [Int.tmod_eq_emod_of_nonneg (by omega)]; rfl
  have e2' : (a : Int) % 8 = ((a % 8 : Nat) : Int) := rfl
  have e3 : IntKind.i64.wrap (7 - ((a % 8 : Nat) : Int)) = ((7 - a % 8 : Nat) : Int) := by rw [w64 (by omega) (by omega)]; omega
  have e4 : ((7 - a % 8 : Nat) : Int) ≤ 8 := by omega
  have e7 : IntKind.i64.wrap ((a : Int) + 1) = ((a + 1 : Nat) : Int) := by rw [w64 (by omega) (by omega)]; omega
  simp only [c_bits_Reader_next, BY, rdO]
  generalize a % 8 = r at *
  generalize 7 - r = S at *
  generalize hb : ws.getD (a / 8) 0 = x at *
  have e5 : (x : Int) / 2 ^ S = ((x / 2 ^ S : Nat) : Int) := by rw [Int.natCast_ediv, Int.natCast_pow]; rfl
  have hxS : x / 2 ^ S < 256 := Nat.lt_of_le_of_lt (Nat.div_le_self _ _) hx
  generalize x / 2 ^ S = X at *
  have e6 := bits_and1b X hxS
  have e8 : IntKind.u64.wrap ((X : Int) % 2) = (b2n (decide (X % 2 = 1)) : Nat) := by
    rcases Nat.mod_two_eq_zero_or_one X with h | h
    · rw [show (X : Int) % 2 = 0 by omega]; simp [h, b2n]; exact wu64 (by omega) (by omega)
    · rw [show (X : Int) % 2 = 1 by omega]; simp [h, b2n]; exact wu64 (by omega) (by omega)
  generalize b2n (decide (X % 2 = 1)) = B at *
  generalize a / 8 = q at *
  have hq' : q < (ws.map fun x : Nat => D.int .u8 x).length := by simpa using hq
  generalize (ws.map fun x : Nat => D.int .u8 x) = l at *
  generalize ws.length = n at *
  repeat (first | refine AW.seq ?_ | refine AW.block ?_ | (refine AW.reg mix ?_; simp (implicitDefEqProofs := false) [e1, e2, e2', e3, e4, e5, e6, e7, e8, hg]; try simp (disch := omega) only [w64, wu64]) | (refine need.of (by first | omega | kernel_rfl) ?_) | (refine AW.fin ?_; try simp (implicitDefEqProofs := false) [e1, e2, e2', e3, e4, e5, e6, e7, e8, hg]))
end
end Go.Proofs.YtdbfenhaljmbfaaGreat.Am
namespace Go.Proofs.YtdbfenhaljmbfaaGreat.Am
section
set_option linter.unusedVariables false
set_option linter.unusedSimpArgs false
open Go.RowKit
set_option maxRecDepth 100000
set_option linter.unusedSimpArgs false
set_option linter.unusedVariables false

theorem or_u64 (x y : Nat) (hx : x < 18446744073709551616) (hy : y < 18446744073709551616) : bits BinOp.or IntKind.u64 (x : Int) (y : Int) = ((x ||| y : Nat) : Int) := by
  show IntKind.u64.wrap (((BitVec.ofInt 64 (x : Int)) ||| (BitVec.ofInt 64 (y : Int))).toNat : Int) = _
  rw [BitVec.toNat_or, BitVec.ofInt_natCast, BitVec.ofInt_natCast, BitVec.toNat_ofNat, BitVec.toNat_ofNat, Nat.mod_eq_of_lt (by omega), Nat.mod_eq_of_lt (by omega)]
  have := Nat.or_lt_two_pow (n := 64) (x := x) (y := y) hx hy
  rw [IntKind.wrap_u64]
  omega
theorem or_two (n b : Nat) (hb : b ≤ 1) : (n * 2) ||| b = n * 2 + b := by
  have := Nat.two_pow_add_eq_or_of_lt (i := 1) (b := b) (by omega) n
  rw [Nat.pow_one, Nat.mul_comm] at this
  exact this.symm

/-- so many bits from a place on, as a number -/
def numAt (ws : List Nat) (a w : Nat) : Nat := numB (((bitsOf ws).drop a).take w) 0
theorem numAt_zero (ws : List Nat) (a : Nat) : numAt ws a 0 = 0 := by simp [numAt, numB]
theorem numAt_succ (ws : List Nat) (a i : Nat) (h : a + i < 8 * ws.length) : numAt ws a (i + 1) = 2 * numAt ws a i + b2n ((bitsOf ws).getD (a + i) false) := by
  unfold numAt
  rw [List.take_add_one, numB_append, List.getElem?_drop, List.getD_eq_getElem?_getD, List.getElem?_eq_getElem (by simpa using h)]
  rfl
theorem numAt_lt (ws : List Nat) (a w : Nat) : numAt ws a w < 2 ^ w := by
  unfold numAt
  refine Nat.lt_of_lt_of_le (numB_lt _) (Nat.pow_le_pow_right (by omega) ?_)
  rw [List.length_take]; omega

theorem rnum_ok (ws : List Nat) (a w : Nat) (hs : smallB ws) (hw : w ≤ 64) (hn : ws.length ≤ 4000000) (h : a + w ≤ 8 * ws.length) : Eqn Tryz.prog n_bits_Reader_Num [.p 0 0, .d (.int .i64 w)] [rdO ws a] (.tup [.d (.int .u64 (numAt ws a w)), .d (.int .i64 0)]) [rdO ws (a + w)] := by
  refine Eqn.obj1 r_bits_Reader_Num Plain.ok ⟨rfl, fun _ => rfl⟩ ?_
  have hg := bgood_ok w
  rw [show decide (0 ≤ (w : Int) ∧ (w : Int) ≤ 64) = true by simp; omega] at hg
  have hl := rleft_ok ws a hn (by omega)
  have hnx := fun i (hi : i < w) => rnext_ok ws (a + i) hs hn (by omega)
  obtain ⟨F, hF⟩ : ∃ F, F = a + w := ⟨_, rfl⟩
  rw [← hF]
  simp only [c_bits_Reader_Num, rdO] at hl hnx ⊢
  have hL : ¬ 8 * ws.length - a < w := by omega
  have hB := fun i (hi : i < w) => numAt_succ ws a i (by omega)
  have hlt := fun i => numAt_lt ws a i
  have hz := numAt_zero ws a
  have hbl : ∀ x, b2n ((bitsOf ws).getD x false) ≤ 1 := fun x => b2n_le _
  generalize 8 * ws.length - a = L at *
  generalize BY ws = B at *
  generalize numAt ws a = N at *
  generalize bitsOf ws = bs at *
  have h' : ¬ (L : Int) < w := by omega
  repeat (first | refine AW.seq ?_ | refine AW.block ?_ | (refine AW.reg mix ?_; simp (implicitDefEqProofs := false); try simp (disch := omega) only [w64, wu64]) | (refine need.of (by first | omega | kernel_rfl) ?_) | (refine AW.fin ?_; try simp (implicitDefEqProofs := false)))
  refine CallS.pu (hg) ?_
  (try (simp (implicitDefEqProofs := false); try simp (disch := omega) only [w64, wu64]))
  repeat (first | refine AW.seq ?_ | refine AW.block ?_ | (refine AW.reg mix ?_; simp (implicitDefEqProofs := false); try simp (disch := omega) only [w64, wu64]) | (refine need.of (by first | omega | kernel_rfl) ?_) | (refine AW.fin ?_; try simp (implicitDefEqProofs := false)))
  refine AW.cond rfl (fun h => ?_) (fun h => ?_)
  · simp at h
  repeat (first | refine AW.seq ?_ | refine AW.block ?_ | (refine AW.reg mix ?_; simp (implicitDefEqProofs := false); try simp (disch := omega) only [w64, wu64]) | (refine need.of (by first | omega | kernel_rfl) ?_) | (refine AW.fin ?_; try simp (implicitDefEqProofs := false)))
  refine CallS.o1 0 (hl) ?_
  (try (simp (implicitDefEqProofs := false) [h']; try simp (disch := omega) only [w64, wu64]))
  repeat (first | refine AW.seq ?_ | refine AW.block ?_ | (refine AW.reg mix ?_; simp (implicitDefEqProofs := false) [h']; try simp (disch := omega) only [w64, wu64]) | (refine need.of (by first | omega | kernel_rfl) ?_) | (refine AW.fin ?_; try simp (implicitDefEqProofs := false) [h']))
  refine AW.cond rfl (fun h => ?_) (fun h => ?_)
  · simp [h'] at h
  clear h
  repeat (first | refine AW.seq ?_ | refine AW.block ?_ | (refine AW.reg mix ?_; simp (implicitDefEqProofs := false); try simp (disch := omega) only [w64, wu64]) | (refine need.of (by first | omega | kernel_rfl) ?_) | (refine AW.fin ?_; try simp (implicitDefEqProofs := false)))
  refine AW.loopT (α := Nat) 1 (fun i => [(6, .d (.int .u64 (N i : Nat))), (17, .d (.int .i64 (i : Int)))]) (fun i => [(0, ⟨190, [.d B, .d (.int .i64 (a + i : Nat))]⟩)]) (fun i => i ≤ w) (fun i => w - i) 0 ?_ ?_ (Nat.zero_le _) ?_ ?_ ?_
  · simp
  · simp
  · simp [hz]
  · simp
  rintro i hi
  obtain ⟨Q, hQ⟩ : ∃ Q, Q = a + i := ⟨_, rfl⟩
  rw [← hQ]
  simp
  by_cases hiw : i = w
  · subst hiw
    obtain rfl : Q = F := by omega
    repeat (first | refine AW.seq ?_ | refine AW.block ?_ | (refine AW.reg mix ?_; simp (implicitDefEqProofs := false); try simp (disch := omega) only [w64, wu64]) | (refine need.of (by first | omega | kernel_rfl) ?_) | (refine AW.fin ?_; try simp (implicitDefEqProofs := false)))
    refine AW.cond rfl (fun h => ?_) (fun h => ?_)
    · simp at h
    repeat (first | refine AW.seq ?_ | refine AW.block ?_ | (refine AW.reg mix ?_; simp (implicitDefEqProofs := false); try simp (disch := omega) only [w64, wu64]) | (refine need.of (by first | omega | kernel_rfl) ?_) | (refine AW.fin ?_; try simp (implicitDefEqProofs := false)))
  · have hlt1 : i < w := by omega
    have hlt2 : (i : Int) < w := by omega
    have hb := hB i hlt1
    have hx := hnx i hlt1
    rw [← hQ] at hb hx
    have e1 : IntKind.i64.wrap ((i : Int) + 1) = ((i + 1 : Nat) : Int) := by rw [w64 (by omega) (by omega)]; omega
    have hp : (2 : Nat) ^ (i + 1) ≤ 2 ^ 64 := Nat.pow_le_pow_right (by omega) (by omega)
    have hN := hlt (i + 1)
    have hb1 := hbl Q
    generalize b2n (bs.getD Q false) = b at *
    have e2 : IntKind.u64.wrap ((N i : Int) * 2) = ((N i * 2 : Nat) : Int) := by rw [wu64 (by omega) (by omega)]; omega
    have e3 : bits BinOp.or IntKind.u64 ((N i * 2 : Nat) : Int) (b : Int) = (N (i + 1) : Nat) := by
      rw [or_u64 _ _ (by omega) (by omega), or_two _ _ hb1, hb]; omega
    have eQ : Q + 1 = a + (i + 1) := by omega
    rw [eQ] at hx
    generalize N i * 2 = N2 at *
    repeat (first | refine AW.seq ?_ | refine AW.block ?_ | (refine AW.reg mix ?_; simp (implicitDefEqProofs := false) [hlt1, hlt2]; try simp (disch := omega) only [w64, wu64]) | (refine need.of (by first | omega | kernel_rfl) ?_) | (refine AW.fin ?_; try simp (implicitDefEqProofs := false) [hlt1, hlt2]))
    refine AW.cond rfl (fun h => ?_) (fun h => ?_)
    · repeat (first | refine AW.seq ?_ | refine AW.block ?_ | (refine AW.reg mix ?_; simp (implicitDefEqProofs := false) [e2]; try simp (disch := omega) only [w64, wu64]) | (refine need.of (by first | omega | kernel_rfl) ?_) | (refine AW.fin ?_; try simp (implicitDefEqProofs := false) [e2]))
      refine CallS.o1 0 (hx) ?_
      (try (simp (implicitDefEqProofs := false) [e1, e2, e3]; try simp (disch := omega) only [w64, wu64]))
      repeat (first | refine AW.seq ?_ | refine AW.block ?_ | (refine AW.reg mix ?_; simp (implicitDefEqProofs := false) [e1, e2, e3]; try simp (disch := omega) only [w64, wu64]) | (refine need.of (by first | omega | kernel_rfl) ?_) | (refine AW.fin ?_; try simp (implicitDefEqProofs := false) [e1, e2, e3]))
      exact ⟨i + 1, by omega, by omega, by simp [e1, e3]; try omega⟩
    · simp [hlt2] at h
end
end Go.Proofs.YtdbfenhaljmbfaaGreat.Am
namespace Go.Proofs.YtdbfenhaljmbfaaGreat.Am
section
set_option linter.unusedVariables false
set_option linter.unusedSimpArgs false
open Go.RowKit
set_option maxRecDepth 100000
set_option linter.unusedSimpArgs false
set_option linter.unusedVariables false

def wellTB (a b y t : Nat) (f : Bool) : Bool := decide (y ≤ a) && (decide (t ≤ b) && (!f || t == b))
theorem twellB_ok {a b : Nat} (h : GoodT a b) (y t : Nat) (f : Bool) : Eqn Tryz.prog n_thin_Param_Well [.d (tpD a b), .d (tsD y t f)] [] (.d (.bool (wellTB a b y t f))) [] := by
  refine Eqn.pure r_thin_Param_Well Plain.ok ?_
  have hc := tcheck_ok h
  have g3 : (0 : Int) ≤ y := by omega
  have g4 : (0 : Int) ≤ t := by omega
  simp only [c_thin_Param_Well, tpD, tsD, wellTB] at hc ⊢
  by_cases h1 : y ≤ a
  · have h1' : (y : Int) ≤ a := by omega
    by_cases h2 : t ≤ b
    · have h2' : (t : Int) ≤ b := by omega
      cases f with
      | true =>
        by_cases h3 : t = b
        · subst h3
          repeat (first | refine AW.seq ?_ | refine AW.block ?_ | (refine AW.reg mix ?_; simp (implicitDefEqProofs := false) [g3, g4, h1, h1', h2, h2']; try simp (disch := omega) only [w64, wu64]) | (refine need.of (by first | omega | kernel_rfl) ?_) | (refine AW.fin ?_; try simp (implicitDefEqProofs := false) [g3, g4, h1, h1', h2, h2']))
          refine CallS.pu (hc) ?_
          (try (simp (implicitDefEqProofs := false) [g3, g4, h1, h1', h2, h2']; try simp (disch := omega) only [w64, wu64]))
          repeat (first | refine AW.seq ?_ | refine AW.block ?_ | (refine AW.reg mix ?_; simp (implicitDefEqProofs := false) [g3, g4, h1, h1', h2, h2']; try simp (disch := omega) only [w64, wu64]) | (refine need.of (by first | omega | kernel_rfl) ?_) | (refine AW.fin ?_; try simp (implicitDefEqProofs := false) [g3, g4, h1, h1', h2, h2']))
        · have h3' : ¬ (t : Int) = b := by omega
          repeat (first | refine AW.seq ?_ | refine AW.block ?_ | (refine AW.reg mix ?_; simp (implicitDefEqProofs := false) [g3, g4, h1, h1', h2, h2', h3, h3']; try simp (disch := omega) only [w64, wu64]) | (refine need.of (by first | omega | kernel_rfl) ?_) | (refine AW.fin ?_; try simp (implicitDefEqProofs := false) [g3, g4, h1, h1', h2, h2', h3, h3']))
          refine CallS.pu (hc) ?_
          (try (simp (implicitDefEqProofs := false) [g3, g4, h1, h1', h2, h2', h3, h3']; try simp (disch := omega) only [w64, wu64]))
          repeat (first | refine AW.seq ?_ | refine AW.block ?_ | (refine AW.reg mix ?_; simp (implicitDefEqProofs := false) [g3, g4, h1, h1', h2, h2', h3, h3']; try simp (disch := omega) only [w64, wu64]) | (refine need.of (by first | omega | kernel_rfl) ?_) | (refine AW.fin ?_; try simp (implicitDefEqProofs := false) [g3, g4, h1, h1', h2, h2', h3, h3']))
          exact Sub1.bool (by rw [Bool.eq_iff_iff]; simp; omega)
      | false =>
        repeat (first | refine AW.seq ?_ | refine AW.block ?_ | (refine AW.reg mix ?_; simp (implicitDefEqProofs := false) [g3, g4, h1, h1', h2, h2']; try simp (disch := omega) only [w64, wu64]) | (refine need.of (by first | omega | kernel_rfl) ?_) | (refine AW.fin ?_; try simp (implicitDefEqProofs := false) [g3, g4, h1, h1', h2, h2']))
        refine CallS.pu (hc) ?_
        (try (simp (implicitDefEqProofs := false) [g3, g4, h1, h1', h2, h2']; try simp (disch := omega) only [w64, wu64]))
        repeat (first | refine AW.seq ?_ | refine AW.block ?_ | (refine AW.reg mix ?_; simp (implicitDefEqProofs := false) [g3, g4, h1, h1', h2, h2']; try simp (disch := omega) only [w64, wu64]) | (refine need.of (by first | omega | kernel_rfl) ?_) | (refine AW.fin ?_; try simp (implicitDefEqProofs := false) [g3, g4, h1, h1', h2, h2']))
    · have h2' : ¬ (t : Int) ≤ b := by omega
      repeat (first | refine AW.seq ?_ | refine AW.block ?_ | (refine AW.reg mix ?_; simp (implicitDefEqProofs := false) [g3, g4, h1, h1', h2, h2']; try simp (disch := omega) only [w64, wu64]) | (refine need.of (by first | omega | kernel_rfl) ?_) | (refine AW.fin ?_; try simp (implicitDefEqProofs := false) [g3, g4, h1, h1', h2, h2']))
      refine CallS.pu (hc) ?_
      (try (simp (implicitDefEqProofs := false) [g3, g4, h1, h1', h2, h2']; try simp (disch := omega) only [w64, wu64]))
      repeat (first | refine AW.seq ?_ | refine AW.block ?_ | (refine AW.reg mix ?_; simp (implicitDefEqProofs := false) [g3, g4, h1, h1', h2, h2']; try simp (disch := omega) only [w64, wu64]) | (refine need.of (by first | omega | kernel_rfl) ?_) | (refine AW.fin ?_; try simp (implicitDefEqProofs := false) [g3, g4, h1, h1', h2, h2']))
  · have h1' : ¬ (y : Int) ≤ a := by omega
    repeat (first | refine AW.seq ?_ | refine AW.block ?_ | (refine AW.reg mix ?_; simp (implicitDefEqProofs := false) [g3, g4, h1, h1']; try simp (disch := omega) only [w64, wu64]) | (refine need.of (by first | omega | kernel_rfl) ?_) | (refine AW.fin ?_; try simp (implicitDefEqProofs := false) [g3, g4, h1, h1']))
    refine CallS.pu (hc) ?_
    (try (simp (implicitDefEqProofs := false) [g3, g4, h1, h1']; try simp (disch := omega) only [w64, wu64]))
    repeat (first | refine AW.seq ?_ | refine AW.block ?_ | (refine AW.reg mix ?_; simp (implicitDefEqProofs := false) [g3, g4, h1, h1']; try simp (disch := omega) only [w64, wu64]) | (refine need.of (by first | omega | kernel_rfl) ?_) | (refine AW.fin ?_; try simp (implicitDefEqProofs := false) [g3, g4, h1, h1']))

theorem rthin_ok (k a b : Int) : Eqn Tryz.prog n_reg_Param_thin [.d (parD k a b)] [] (.d (tpD a b)) [] := by
  refine Eqn.pure r_reg_Param_thin Plain.ok ?_
  simp only [c_reg_Param_thin, parD, tpD]
  repeat (first | refine AW.seq ?_ | refine AW.block ?_ | (refine AW.reg mix ?_; simp (implicitDefEqProofs := false); try simp (disch := omega) only [w64, wu64]) | (refine need.of (by first | omega | kernel_rfl) ?_) | (refine AW.fin ?_; try simp (implicitDefEqProofs := false)))
theorem rchain_ok (k a b : Int) : Eqn Tryz.prog n_reg_Param_chain [.d (parD k a b)] [] (.d (parD k a b)) [] := by
  refine Eqn.pure r_reg_Param_chain Plain.ok ?_
  simp only [c_reg_Param_chain, parD]
  repeat (first | refine AW.seq ?_ | refine AW.block ?_ | (refine AW.reg mix ?_; simp (implicitDefEqProofs := false); try simp (disch := omega) only [w64, wu64]) | (refine need.of (by first | omega | kernel_rfl) ?_) | (refine AW.fin ?_; try simp (implicitDefEqProofs := false)))
theorem rthinned_ok (y t : Int) (f : Bool) : Eqn Tryz.prog n_reg_State_thinned [.d (.agg [.int .i64 y, .int .i64 t, .bool f])] [] (.d (.agg [.int .i64 y, .int .i64 t, .bool f])) [] := by
  refine Eqn.pure r_reg_State_thinned Plain.ok ?_
  simp only [c_reg_State_thinned]
  repeat (first | refine AW.seq ?_ | refine AW.block ?_ | (refine AW.reg mix ?_; simp (implicitDefEqProofs := false); try simp (disch := omega) only [w64, wu64]) | (refine need.of (by first | omega | kernel_rfl) ?_) | (refine AW.fin ?_; try simp (implicitDefEqProofs := false)))
theorem runthinned_ok (y t : Int) (f : Bool) : Eqn Tryz.prog n_reg_unthinned [.d (.agg [.int .i64 y, .int .i64 t, .bool f])] [] (.d (.agg [.int .i64 y, .int .i64 t, .bool f])) [] := by
  refine Eqn.pure r_reg_unthinned Plain.ok ?_
  simp only [c_reg_unthinned]
  repeat (first | refine AW.seq ?_ | refine AW.block ?_ | (refine AW.reg mix ?_; simp (implicitDefEqProofs := false); try simp (disch := omega) only [w64, wu64]) | (refine need.of (by first | omega | kernel_rfl) ?_) | (refine AW.fin ?_; try simp (implicitDefEqProofs := false)))
theorem rlink_ok (y t : Int) (f : Bool) : Eqn Tryz.prog n_reg_State_link [.d (.agg [.int .i64 y, .int .i64 t, .bool f])] [] (.d (.agg [.int .i64 y, .bool f])) [] := by
  refine Eqn.pure r_reg_State_link Plain.ok ?_
  simp only [c_reg_State_link]
  repeat (first | refine AW.seq ?_ | refine AW.block ?_ | (refine AW.reg mix ?_; simp (implicitDefEqProofs := false); try simp (disch := omega) only [w64, wu64]) | (refine need.of (by first | omega | kernel_rfl) ?_) | (refine AW.fin ?_; try simp (implicitDefEqProofs := false)))
theorem rlinked_ok (y : Int) (f : Bool) : Eqn Tryz.prog n_reg_linked [.d (.agg [.int .i64 y, .bool f])] [] (.d (.agg [.int .i64 y, .int .i64 0, .bool f])) [] := by
  refine Eqn.pure r_reg_linked Plain.ok ?_
  simp only [c_reg_linked]
  repeat (first | refine AW.seq ?_ | refine AW.block ?_ | (refine AW.reg mix ?_; simp (implicitDefEqProofs := false); try simp (disch := omega) only [w64, wu64]) | (refine need.of (by first | omega | kernel_rfl) ?_) | (refine AW.fin ?_; try simp (implicitDefEqProofs := false)))

theorem rcheck_ok {k a b : Nat} (h : GoodR k a b) : Eqn Tryz.prog n_reg_Param_Check [.d (parD k a b)] [] (.d (.int .i64 0)) [] := by
  refine Eqn.pure r_reg_Param_Check Plain.ok ?_
  rcases h with ⟨rfl, h⟩ | ⟨hk, h⟩
  · have h1 := rthin_ok 4 a b
    have h2 := tcheck_ok h
    simp only [c_reg_Param_Check, parD, tpD] at h1 h2 ⊢
    repeat (first | refine AW.seq ?_ | refine AW.block ?_ | (refine AW.reg mix ?_; simp (implicitDefEqProofs := false); try simp (disch := omega) only [w64, wu64]) | (refine need.of (by first | omega | kernel_rfl) ?_) | (refine AW.fin ?_; try simp (implicitDefEqProofs := false)))
    refine AW.cond rfl (fun h => ?_) (fun h => ?_)
    · repeat (first | refine AW.seq ?_ | refine AW.block ?_ | (refine AW.reg mix ?_; simp (implicitDefEqProofs := false); try simp (disch := omega) only [w64, wu64]) | (refine need.of (by first | omega | kernel_rfl) ?_) | (refine AW.fin ?_; try simp (implicitDefEqProofs := false)))
      refine CallS.pu (h1) ?_
      (try (simp (implicitDefEqProofs := false); try simp (disch := omega) only [w64, wu64]))
      repeat (first | refine AW.seq ?_ | refine AW.block ?_ | (refine AW.reg mix ?_; simp (implicitDefEqProofs := false); try simp (disch := omega) only [w64, wu64]) | (refine need.of (by first | omega | kernel_rfl) ?_) | (refine AW.fin ?_; try simp (implicitDefEqProofs := false)))
      refine CallS.pu (h2) ?_
      (try (simp (implicitDefEqProofs := false); try simp (disch := omega) only [w64, wu64]))
      repeat (first | refine AW.seq ?_ | refine AW.block ?_ | (refine AW.reg mix ?_; simp (implicitDefEqProofs := false); try simp (disch := omega) only [w64, wu64]) | (refine need.of (by first | omega | kernel_rfl) ?_) | (refine AW.fin ?_; try simp (implicitDefEqProofs := false)))
    · simp at h
  · have h1 := rchain_ok k a b
    have h2 := goodC_check h
    have hk' : ¬ (k : Int) = 4 := by omega
    simp only [c_reg_Param_Check, parD] at h1 h2 ⊢
    repeat (first | refine AW.seq ?_ | refine AW.block ?_ | (refine AW.reg mix ?_; simp (implicitDefEqProofs := false) [hk, hk']; try simp (disch := omega) only [w64, wu64]) | (refine need.of (by first | omega | kernel_rfl) ?_) | (refine AW.fin ?_; try simp (implicitDefEqProofs := false) [hk, hk']))
    refine AW.cond rfl (fun h => ?_) (fun h => ?_)
    · simp [hk'] at h
    · repeat (first | refine AW.seq ?_ | refine AW.block ?_ | (refine AW.reg mix ?_; simp (implicitDefEqProofs := false); try simp (disch := omega) only [w64, wu64]) | (refine need.of (by first | omega | kernel_rfl) ?_) | (refine AW.fin ?_; try simp (implicitDefEqProofs := false)))
      refine CallS.pu (h1) ?_
      (try (simp (implicitDefEqProofs := false); try simp (disch := omega) only [w64, wu64]))
      repeat (first | refine AW.seq ?_ | refine AW.block ?_ | (refine AW.reg mix ?_; simp (implicitDefEqProofs := false); try simp (disch := omega) only [w64, wu64]) | (refine need.of (by first | omega | kernel_rfl) ?_) | (refine AW.fin ?_; try simp (implicitDefEqProofs := false)))
      refine CallS.pu (h2) ?_
      (try (simp (implicitDefEqProofs := false); try simp (disch := omega) only [w64, wu64]))
      repeat (first | refine AW.seq ?_ | refine AW.block ?_ | (refine AW.reg mix ?_; simp (implicitDefEqProofs := false); try simp (disch := omega) only [w64, wu64]) | (refine need.of (by first | omega | kernel_rfl) ?_) | (refine AW.fin ?_; try simp (implicitDefEqProofs := false)))

def wellRB (k a b y t : Nat) (f : Bool) : Bool := if k = 4 then wellTB a b y t f else (t == 0) && (decide (y ≤ 2 ^ b - 1) && (!f || y == 2 ^ b - 1))
theorem wellRB_iff {k a b y t : Nat} {f : Bool} : wellRB k a b y t f = true ↔ WellR k a b y t f := by
  unfold wellRB WellR wellTB WellT
  by_cases hk : k = 4
  · subst hk
    simp
    intro _ _
    cases f <;> simp
  · simp [hk]
    intro _ _
    cases f <;> simp

theorem rwell_ok {k a b : Nat} (h : GoodR k a b) (y t : Nat) (f : Bool) : Eqn Tryz.prog n_reg_Param_Well [.d (parD k a b), .d (tsD y t f)] [] (.d (.bool (wellRB k a b y t f))) [] := by
  refine Eqn.pure r_reg_Param_Well Plain.ok ?_
  have hc := rcheck_ok h
  rcases h with ⟨rfl, h⟩ | ⟨hk, h⟩
  · have h1 := rthin_ok 4 a b
    have h2 := twellB_ok h y t f
    have h3 := rthinned_ok y t f
    simp only [c_reg_Param_Well, parD, tpD, tsD, wellRB, if_true] at hc h1 h2 h3 ⊢
    generalize wellTB a b y t f = w at *
    repeat (first | refine AW.seq ?_ | refine AW.block ?_ | (refine AW.reg mix ?_; simp (implicitDefEqProofs := false); try simp (disch := omega) only [w64, wu64]) | (refine need.of (by first | omega | kernel_rfl) ?_) | (refine AW.fin ?_; try simp (implicitDefEqProofs := false)))
    refine CallS.pu (hc) ?_
    (try (simp (implicitDefEqProofs := false); try simp (disch := omega) only [w64, wu64]))
    repeat (first | refine AW.seq ?_ | refine AW.block ?_ | (refine AW.reg mix ?_; simp (implicitDefEqProofs := false); try simp (disch := omega) only [w64, wu64]) | (refine need.of (by first | omega | kernel_rfl) ?_) | (refine AW.fin ?_; try simp (implicitDefEqProofs := false)))
    refine AW.cond rfl (fun h => ?_) (fun h => ?_)
    · simp at h
    repeat (first | refine AW.seq ?_ | refine AW.block ?_ | (refine AW.reg mix ?_; simp (implicitDefEqProofs := false); try simp (disch := omega) only [w64, wu64]) | (refine need.of (by first | omega | kernel_rfl) ?_) | (refine AW.fin ?_; try simp (implicitDefEqProofs := false)))
    refine AW.cond rfl (fun h => ?_) (fun h => ?_)
    · repeat (first | refine AW.seq ?_ | refine AW.block ?_ | (refine AW.reg mix ?_; simp (implicitDefEqProofs := false); try simp (disch := omega) only [w64, wu64]) | (refine need.of (by first | omega | kernel_rfl) ?_) | (refine AW.fin ?_; try simp (implicitDefEqProofs := false)))
      refine CallS.pu (h1) ?_
      (try (simp (implicitDefEqProofs := false); try simp (disch := omega) only [w64, wu64]))
      repeat (first | refine AW.seq ?_ | refine AW.block ?_ | (refine AW.reg mix ?_; simp (implicitDefEqProofs := false); try simp (disch := omega) only [w64, wu64]) | (refine need.of (by first | omega | kernel_rfl) ?_) | (refine AW.fin ?_; try simp (implicitDefEqProofs := false)))
      refine CallS.pu (h3) ?_
      (try (simp (implicitDefEqProofs := false); try simp (disch := omega) only [w64, wu64]))
      repeat (first | refine AW.seq ?_ | refine AW.block ?_ | (refine AW.reg mix ?_; simp (implicitDefEqProofs := false); try simp (disch := omega) only [w64, wu64]) | (refine need.of (by first | omega | kernel_rfl) ?_) | (refine AW.fin ?_; try simp (implicitDefEqProofs := false)))
      refine CallS.pu (h2) ?_
      (try (simp (implicitDefEqProofs := false); try simp (disch := omega) only [w64, wu64]))
      repeat (first | refine AW.seq ?_ | refine AW.block ?_ | (refine AW.reg mix ?_; simp (implicitDefEqProofs := false); try simp (disch := omega) only [w64, wu64]) | (refine need.of (by first | omega | kernel_rfl) ?_) | (refine AW.fin ?_; try simp (implicitDefEqProofs := false)))
    · simp at h
  · have h1 := rchain_ok k a b
    have h2 := top_ok k a b h.2.2 (goodC_check h)
    have hk' : ¬ (k : Int) = 4 := by omega
    have g : (0 : Int) ≤ y := by omega
    simp only [c_reg_Param_Well, parD, tsD, wellRB, if_neg hk] at hc h1 h2 ⊢
    generalize 2 ^ b - 1 = S at *
    by_cases ht : t = 0
    · subst ht
      by_cases hy : y ≤ S
      · have hy' : (y : Int) ≤ S := by omega
        cases f with
        | true =>
          by_cases hs : y = S
          · subst hs
            repeat (first | refine AW.seq ?_ | refine AW.block ?_ | (refine AW.reg mix ?_; simp (implicitDefEqProofs := false) [g, hk, hk']; try simp (disch := omega) only [w64, wu64]) | (refine need.of (by first | omega | kernel_rfl) ?_) | (refine AW.fin ?_; try simp (implicitDefEqProofs := false) [g, hk, hk']))
            refine CallS.pu (hc) ?_
            (try (simp (implicitDefEqProofs := false) [g, hk, hk']; try simp (disch := omega) only [w64, wu64]))
            repeat (first | refine AW.seq ?_ | refine AW.block ?_ | (refine AW.reg mix ?_; simp (implicitDefEqProofs := false) [g, hk, hk']; try simp (disch := omega) only [w64, wu64]) | (refine need.of (by first | omega | kernel_rfl) ?_) | (refine AW.fin ?_; try simp (implicitDefEqProofs := false) [g, hk, hk']))
            refine AW.cond rfl (fun h => ?_) (fun h => ?_)
            · simp at h
            repeat (first | refine AW.seq ?_ | refine AW.block ?_ | (refine AW.reg mix ?_; simp (implicitDefEqProofs := false) [g, hk, hk']; try simp (disch := omega) only [w64, wu64]) | (refine need.of (by first | omega | kernel_rfl) ?_) | (refine AW.fin ?_; try simp (implicitDefEqProofs := false) [g, hk, hk']))
            refine AW.cond rfl (fun h => ?_) (fun h => ?_)
            · simp [hk'] at h
            repeat (first | refine AW.seq ?_ | refine AW.block ?_ | (refine AW.reg mix ?_; simp (implicitDefEqProofs := false) [g]; try simp (disch := omega) only [w64, wu64]) | (refine need.of (by first | omega | kernel_rfl) ?_) | (refine AW.fin ?_; try simp (implicitDefEqProofs := false) [g]))
            refine CallS.pu (h1) ?_
            (try (simp (implicitDefEqProofs := false) [g]; try simp (disch := omega) only [w64, wu64]))
            repeat (first | refine AW.seq ?_ | refine AW.block ?_ | (refine AW.reg mix ?_; simp (implicitDefEqProofs := false) [g]; try simp (disch := omega) only [w64, wu64]) | (refine need.of (by first | omega | kernel_rfl) ?_) | (refine AW.fin ?_; try simp (implicitDefEqProofs := false) [g]))
            refine CallS.pu (h2) ?_
            (try (simp (implicitDefEqProofs := false) [g]; try simp (disch := omega) only [w64, wu64]))
            repeat (first | refine AW.seq ?_ | refine AW.block ?_ | (refine AW.reg mix ?_; simp (implicitDefEqProofs := false) [g]; try simp (disch := omega) only [w64, wu64]) | (refine need.of (by first | omega | kernel_rfl) ?_) | (refine AW.fin ?_; try simp (implicitDefEqProofs := false) [g]))
          · have hs' : ¬ (y : Int) = S := by omega
            repeat (first | refine AW.seq ?_ | refine AW.block ?_ | (refine AW.reg mix ?_; simp (implicitDefEqProofs := false) [g, hk, hk', hy, hy', hs, hs']; try simp (disch := omega) only [w64, wu64]) | (refine need.of (by first | omega | kernel_rfl) ?_) | (refine AW.fin ?_; try simp (implicitDefEqProofs := false) [g, hk, hk', hy, hy', hs, hs']))
            refine CallS.pu (hc) ?_
            (try (simp (implicitDefEqProofs := false) [g, hk, hk', hy, hy', hs, hs']; try simp (disch := omega) only [w64, wu64]))
            repeat (first | refine AW.seq ?_ | refine AW.block ?_ | (refine AW.reg mix ?_; simp (implicitDefEqProofs := false) [g, hk, hk', hy, hy', hs, hs']; try simp (disch := omega) only [w64, wu64]) | (refine need.of (by first | omega | kernel_rfl) ?_) | (refine AW.fin ?_; try simp (implicitDefEqProofs := false) [g, hk, hk', hy, hy', hs, hs']))
            refine AW.cond rfl (fun h => ?_) (fun h => ?_)
            · simp at h
            repeat (first | refine AW.seq ?_ | refine AW.block ?_ | (refine AW.reg mix ?_; simp (implicitDefEqProofs := false) [g, hk, hk', hy, hy', hs, hs']; try simp (disch := omega) only [w64, wu64]) | (refine need.of (by first | omega | kernel_rfl) ?_) | (refine AW.fin ?_; try simp (implicitDefEqProofs := false) [g, hk, hk', hy, hy', hs, hs']))
            refine AW.cond rfl (fun h => ?_) (fun h => ?_)
            · simp [hk'] at h
            repeat (first | refine AW.seq ?_ | refine AW.block ?_ | (refine AW.reg mix ?_; simp (implicitDefEqProofs := false) [g]; try simp (disch := omega) only [w64, wu64]) | (refine need.of (by first | omega | kernel_rfl) ?_) | (refine AW.fin ?_; try simp (implicitDefEqProofs := false) [g]))
            refine CallS.pu (h1) ?_
            (try (simp (implicitDefEqProofs := false) [g]; try simp (disch := omega) only [w64, wu64]))
            repeat (first | refine AW.seq ?_ | refine AW.block ?_ | (refine AW.reg mix ?_; simp (implicitDefEqProofs := false) [g]; try simp (disch := omega) only [w64, wu64]) | (refine need.of (by first | omega | kernel_rfl) ?_) | (refine AW.fin ?_; try simp (implicitDefEqProofs := false) [g]))
            refine CallS.pu (h2) ?_
            (try (simp (implicitDefEqProofs := false) [g, hy, hy', hs, hs']; try simp (disch := omega) only [w64, wu64]))
            repeat (first | refine AW.seq ?_ | refine AW.block ?_ | (refine AW.reg mix ?_; simp (implicitDefEqProofs := false) [g, hy, hy', hs, hs']; try simp (disch := omega) only [w64, wu64]) | (refine need.of (by first | omega | kernel_rfl) ?_) | (refine AW.fin ?_; try simp (implicitDefEqProofs := false) [g, hy, hy', hs, hs']))
            exact Sub1.bool (by rw [Bool.eq_iff_iff]; simp; omega)
        | false =>
          repeat (first | refine AW.seq ?_ | refine AW.block ?_ | (refine AW.reg mix ?_; simp (implicitDefEqProofs := false) [g, hk, hk', hy, hy']; try simp (disch := omega) only [w64, wu64]) | (refine need.of (by first | omega | kernel_rfl) ?_) | (refine AW.fin ?_; try simp (implicitDefEqProofs := false) [g, hk, hk', hy, hy']))
          refine CallS.pu (hc) ?_
          (try (simp (implicitDefEqProofs := false) [g, hk, hk', hy, hy']; try simp (disch := omega) only [w64, wu64]))
          repeat (first | refine AW.seq ?_ | refine AW.block ?_ | (refine AW.reg mix ?_; simp (implicitDefEqProofs := false) [g, hk, hk', hy, hy']; try simp (disch := omega) only [w64, wu64]) | (refine need.of (by first | omega | kernel_rfl) ?_) | (refine AW.fin ?_; try simp (implicitDefEqProofs := false) [g, hk, hk', hy, hy']))
          refine AW.cond rfl (fun h => ?_) (fun h => ?_)
          · simp at h
          repeat (first | refine AW.seq ?_ | refine AW.block ?_ | (refine AW.reg mix ?_; simp (implicitDefEqProofs := false) [g, hk, hk', hy, hy']; try simp (disch := omega) only [w64, wu64]) | (refine need.of (by first | omega | kernel_rfl) ?_) | (refine AW.fin ?_; try simp (implicitDefEqProofs := false) [g, hk, hk', hy, hy']))
          refine AW.cond rfl (fun h => ?_) (fun h => ?_)
          · simp [hk'] at h
          repeat (first | refine AW.seq ?_ | refine AW.block ?_ | (refine AW.reg mix ?_; simp (implicitDefEqProofs := false) [g]; try simp (disch := omega) only [w64, wu64]) | (refine need.of (by first | omega | kernel_rfl) ?_) | (refine AW.fin ?_; try simp (implicitDefEqProofs := false) [g]))
          refine CallS.pu (h1) ?_
          (try (simp (implicitDefEqProofs := false) [g]; try simp (disch := omega) only [w64, wu64]))
          repeat (first | refine AW.seq ?_ | refine AW.block ?_ | (refine AW.reg mix ?_; simp (implicitDefEqProofs := false) [g]; try simp (disch := omega) only [w64, wu64]) | (refine need.of (by first | omega | kernel_rfl) ?_) | (refine AW.fin ?_; try simp (implicitDefEqProofs := false) [g]))
          refine CallS.pu (h2) ?_
          (try (simp (implicitDefEqProofs := false) [g, hy, hy']; try simp (disch := omega) only [w64, wu64]))
          repeat (first | refine AW.seq ?_ | refine AW.block ?_ | (refine AW.reg mix ?_; simp (implicitDefEqProofs := false) [g, hy, hy']; try simp (disch := omega) only [w64, wu64]) | (refine need.of (by first | omega | kernel_rfl) ?_) | (refine AW.fin ?_; try simp (implicitDefEqProofs := false) [g, hy, hy']))
      · have hy' : ¬ (y : Int) ≤ S := by omega
        repeat (first | refine AW.seq ?_ | refine AW.block ?_ | (refine AW.reg mix ?_; simp (implicitDefEqProofs := false) [g, hk, hk', hy, hy']; try simp (disch := omega) only [w64, wu64]) | (refine need.of (by first | omega | kernel_rfl) ?_) | (refine AW.fin ?_; try simp (implicitDefEqProofs := false) [g, hk, hk', hy, hy']))
        refine CallS.pu (hc) ?_
        (try (simp (implicitDefEqProofs := false) [g, hk, hk', hy, hy']; try simp (disch := omega) only [w64, wu64]))
        repeat (first | refine AW.seq ?_ | refine AW.block ?_ | (refine AW.reg mix ?_; simp (implicitDefEqProofs := false) [g, hk, hk', hy, hy']; try simp (disch := omega) only [w64, wu64]) | (refine need.of (by first | omega | kernel_rfl) ?_) | (refine AW.fin ?_; try simp (implicitDefEqProofs := false) [g, hk, hk', hy, hy']))
        refine AW.cond rfl (fun h => ?_) (fun h => ?_)
        · simp at h
        repeat (first | refine AW.seq ?_ | refine AW.block ?_ | (refine AW.reg mix ?_; simp (implicitDefEqProofs := false) [g, hk, hk', hy, hy']; try simp (disch := omega) only [w64, wu64]) | (refine need.of (by first | omega | kernel_rfl) ?_) | (refine AW.fin ?_; try simp (implicitDefEqProofs := false) [g, hk, hk', hy, hy']))
        refine AW.cond rfl (fun h => ?_) (fun h => ?_)
        · simp [hk'] at h
        repeat (first | refine AW.seq ?_ | refine AW.block ?_ | (refine AW.reg mix ?_; simp (implicitDefEqProofs := false) [g]; try simp (disch := omega) only [w64, wu64]) | (refine need.of (by first | omega | kernel_rfl) ?_) | (refine AW.fin ?_; try simp (implicitDefEqProofs := false) [g]))
        refine CallS.pu (h1) ?_
        (try (simp (implicitDefEqProofs := false) [g]; try simp (disch := omega) only [w64, wu64]))
        repeat (first | refine AW.seq ?_ | refine AW.block ?_ | (refine AW.reg mix ?_; simp (implicitDefEqProofs := false) [g]; try simp (disch := omega) only [w64, wu64]) | (refine need.of (by first | omega | kernel_rfl) ?_) | (refine AW.fin ?_; try simp (implicitDefEqProofs := false) [g]))
        refine CallS.pu (h2) ?_
        (try (simp (implicitDefEqProofs := false) [g, hy, hy']; try simp (disch := omega) only [w64, wu64]))
        repeat (first | refine AW.seq ?_ | refine AW.block ?_ | (refine AW.reg mix ?_; simp (implicitDefEqProofs := false) [g, hy, hy']; try simp (disch := omega) only [w64, wu64]) | (refine need.of (by first | omega | kernel_rfl) ?_) | (refine AW.fin ?_; try simp (implicitDefEqProofs := false) [g, hy, hy']))
    · have ht' : ¬ (t : Int) = 0 := by omega
      repeat (first | refine AW.seq ?_ | refine AW.block ?_ | (refine AW.reg mix ?_; simp (implicitDefEqProofs := false) [g, hk, hk', ht, ht']; try simp (disch := omega) only [w64, wu64]) | (refine need.of (by first | omega | kernel_rfl) ?_) | (refine AW.fin ?_; try simp (implicitDefEqProofs := false) [g, hk, hk', ht, ht']))
      refine CallS.pu (hc) ?_
      (try (simp (implicitDefEqProofs := false) [g, hk, hk', ht, ht']; try simp (disch := omega) only [w64, wu64]))
      repeat (first | refine AW.seq ?_ | refine AW.block ?_ | (refine AW.reg mix ?_; simp (implicitDefEqProofs := false) [g, hk, hk', ht, ht']; try simp (disch := omega) only [w64, wu64]) | (refine need.of (by first | omega | kernel_rfl) ?_) | (refine AW.fin ?_; try simp (implicitDefEqProofs := false) [g, hk, hk', ht, ht']))
      refine AW.cond rfl (fun h => ?_) (fun h => ?_)
      · simp at h
      repeat (first | refine AW.seq ?_ | refine AW.block ?_ | (refine AW.reg mix ?_; simp (implicitDefEqProofs := false) [g, hk, hk', ht, ht']; try simp (disch := omega) only [w64, wu64]) | (refine need.of (by first | omega | kernel_rfl) ?_) | (refine AW.fin ?_; try simp (implicitDefEqProofs := false) [g, hk, hk', ht, ht']))
      refine AW.cond rfl (fun h => ?_) (fun h => ?_)
      · simp [hk'] at h
      repeat (first | refine AW.seq ?_ | refine AW.block ?_ | (refine AW.reg mix ?_; simp (implicitDefEqProofs := false) [g]; try simp (disch := omega) only [w64, wu64]) | (refine need.of (by first | omega | kernel_rfl) ?_) | (refine AW.fin ?_; try simp (implicitDefEqProofs := false) [g]))
      refine CallS.pu (h1) ?_
      (try (simp (implicitDefEqProofs := false) [g]; try simp (disch := omega) only [w64, wu64]))
      repeat (first | refine AW.seq ?_ | refine AW.block ?_ | (refine AW.reg mix ?_; simp (implicitDefEqProofs := false) [g]; try simp (disch := omega) only [w64, wu64]) | (refine need.of (by first | omega | kernel_rfl) ?_) | (refine AW.fin ?_; try simp (implicitDefEqProofs := false) [g]))
      refine CallS.pu (h2) ?_
      (try (simp (implicitDefEqProofs := false) [g, ht, ht']; try simp (disch := omega) only [w64, wu64]))
      repeat (first | refine AW.seq ?_ | refine AW.block ?_ | (refine AW.reg mix ?_; simp (implicitDefEqProofs := false) [g, ht, ht']; try simp (disch := omega) only [w64, wu64]) | (refine need.of (by first | omega | kernel_rfl) ?_) | (refine AW.fin ?_; try simp (implicitDefEqProofs := false) [g, ht, ht']))
      exact Sub1.bool (by simp [ht])

theorem rwrong1_ok {k a b y t : Nat} {f : Bool} (h : GoodR k a b) (hw : WellR k a b y t f) : Eqn Tryz.prog n_reg_Param_wrong [.d (parD k a b), .d (.sl 1 [.int .i64 y, .int .i64 t, .bool f])] [] (.d (.int .i64 0)) [] := by
  refine Eqn.pure r_reg_Param_wrong Plain.ok ?_
  have hc := rcheck_ok h
  have hw1 := rwell_ok h y t f
  rw [wellRB_iff.2 hw] at hw1
  simp only [c_reg_Param_wrong, parD, tsD] at hc hw1 ⊢
  repeat (first | refine AW.seq ?_ | refine AW.block ?_ | (refine AW.reg mix ?_; simp (implicitDefEqProofs := false); try simp (disch := omega) only [w64, wu64]) | (refine need.of (by first | omega | kernel_rfl) ?_) | (refine AW.fin ?_; try simp (implicitDefEqProofs := false)))
  refine CallS.pu (hc) ?_
  (try (simp (implicitDefEqProofs := false); try simp (disch := omega) only [w64, wu64]))
  repeat (first | refine AW.seq ?_ | refine AW.block ?_ | (refine AW.reg mix ?_; simp (implicitDefEqProofs := false); try simp (disch := omega) only [w64, wu64]) | (refine need.of (by first | omega | kernel_rfl) ?_) | (refine AW.fin ?_; try simp (implicitDefEqProofs := false)))
  refine AW.cond rfl (fun h => ?_) (fun h => ?_)
  · simp at h
  repeat (first | refine AW.seq ?_ | refine AW.block ?_ | (refine AW.reg mix ?_; simp (implicitDefEqProofs := false); try simp (disch := omega) only [w64, wu64]) | (refine need.of (by first | omega | kernel_rfl) ?_) | (refine AW.fin ?_; try simp (implicitDefEqProofs := false)))
  refine AW.loopT (α := Nat) 1 (fun i => [(15, .d (.int .i64 (i : Int)))]) (fun i => []) (fun i => i ≤ 1) (fun i => 1 - i) 0 ?_ ?_ (Nat.zero_le _) ?_ ?_ ?_
  · simp
  · simp
  · simp
  · simp
  rintro i hi
  simp
  have hi' : i = 0 ∨ i = 1 := by omega
  rcases hi' with rfl | rfl
  · repeat (first | refine AW.seq ?_ | refine AW.block ?_ | (refine AW.reg mix ?_; simp (implicitDefEqProofs := false); try simp (disch := omega) only [w64, wu64]) | (refine need.of (by first | omega | kernel_rfl) ?_) | (refine AW.fin ?_; try simp (implicitDefEqProofs := false)))
    refine AW.cond rfl (fun h => ?_) (fun h => ?_)
    · repeat (first | refine AW.seq ?_ | refine AW.block ?_ | (refine AW.reg mix ?_; simp (implicitDefEqProofs := false); try simp (disch := omega) only [w64, wu64]) | (refine need.of (by first | omega | kernel_rfl) ?_) | (refine AW.fin ?_; try simp (implicitDefEqProofs := false)))
      refine CallS.pu (hw1) ?_
      (try (simp (implicitDefEqProofs := false); try simp (disch := omega) only [w64, wu64]))
      repeat (first | refine AW.seq ?_ | refine AW.block ?_ | (refine AW.reg mix ?_; simp (implicitDefEqProofs := false); try simp (disch := omega) only [w64, wu64]) | (refine need.of (by first | omega | kernel_rfl) ?_) | (refine AW.fin ?_; try simp (implicitDefEqProofs := false)))
      refine AW.cond rfl (fun h => ?_) (fun h => ?_)
      · simp at h
      have ew : IntKind.i64.wrap 1 = 1 := w64 (by omega) (by omega)
      repeat (first | refine AW.seq ?_ | refine AW.block ?_ | (refine AW.reg mix ?_; simp (implicitDefEqProofs := false) [ew]; try simp (disch := omega) only [w64, wu64]) | (refine need.of (by first | omega | kernel_rfl) ?_) | (refine AW.fin ?_; try simp (implicitDefEqProofs := false) [ew]))
      exact ⟨1, by omega, by omega, by simp⟩
    · simp at h
  · repeat (first | refine AW.seq ?_ | refine AW.block ?_ | (refine AW.reg mix ?_; simp (implicitDefEqProofs := false); try simp (disch := omega) only [w64, wu64]) | (refine need.of (by first | omega | kernel_rfl) ?_) | (refine AW.fin ?_; try simp (implicitDefEqProofs := false)))
    refine AW.cond rfl (fun h => ?_) (fun h => ?_)
    · simp at h
    refine AW.exit ?_
    (try (simp (implicitDefEqProofs := false); try simp (disch := omega) only [w64, wu64]))
    repeat (first | refine AW.seq ?_ | refine AW.block ?_ | (refine AW.reg mix ?_; simp (implicitDefEqProofs := false); try simp (disch := omega) only [w64, wu64]) | (refine need.of (by first | omega | kernel_rfl) ?_) | (refine AW.fin ?_; try simp (implicitDefEqProofs := false)))

theorem rwrong2_ok {k a b y t z u : Nat} {f g : Bool} (h : GoodR k a b) (hw : WellR k a b y t f) (hv : WellR k a b z u g) : Eqn Tryz.prog n_reg_Param_wrong [.d (parD k a b), .d (.sl 2 [.int .i64 y, .int .i64 t, .bool f, .int .i64 z, .int .i64 u, .bool g])] [] (.d (.int .i64 0)) [] := by
  refine Eqn.pure r_reg_Param_wrong Plain.ok ?_
  have hc := rcheck_ok h
  have hw1 := rwell_ok h y t f
  have hw2 := rwell_ok h z u g
  rw [wellRB_iff.2 hw] at hw1
  rw [wellRB_iff.2 hv] at hw2
  simp only [c_reg_Param_wrong, parD, tsD] at hc hw1 hw2 ⊢
  repeat (first | refine AW.seq ?_ | refine AW.block ?_ | (refine AW.reg mix ?_; simp (implicitDefEqProofs := false); try simp (disch := omega) only [w64, wu64]) | (refine need.of (by first | omega | kernel_rfl) ?_) | (refine AW.fin ?_; try simp (implicitDefEqProofs := false)))
  refine CallS.pu (hc) ?_
  (try (simp (implicitDefEqProofs := false); try simp (disch := omega) only [w64, wu64]))
  repeat (first | refine AW.seq ?_ | refine AW.block ?_ | (refine AW.reg mix ?_; simp (implicitDefEqProofs := false); try simp (disch := omega) only [w64, wu64]) | (refine need.of (by first | omega | kernel_rfl) ?_) | (refine AW.fin ?_; try simp (implicitDefEqProofs := false)))
  refine AW.cond rfl (fun h => ?_) (fun h => ?_)
  · simp at h
  repeat (first | refine AW.seq ?_ | refine AW.block ?_ | (refine AW.reg mix ?_; simp (implicitDefEqProofs := false); try simp (disch := omega) only [w64, wu64]) | (refine need.of (by first | omega | kernel_rfl) ?_) | (refine AW.fin ?_; try simp (implicitDefEqProofs := false)))
  refine AW.loopT (α := Nat) 1 (fun i => [(15, .d (.int .i64 (i : Int)))]) (fun i => []) (fun i => i ≤ 2) (fun i => 2 - i) 0 ?_ ?_ (Nat.zero_le _) ?_ ?_ ?_
  · simp
  · simp
  · simp
  · simp
  rintro i hi
  simp
  have hi' : i = 0 ∨ i = 1 ∨ i = 2 := by omega
  rcases hi' with rfl | rfl | rfl
  · repeat (first | refine AW.seq ?_ | refine AW.block ?_ | (refine AW.reg mix ?_; simp (implicitDefEqProofs := false); try simp (disch := omega) only [w64, wu64]) | (refine need.of (by first | omega | kernel_rfl) ?_) | (refine AW.fin ?_; try simp (implicitDefEqProofs := false)))
    refine AW.cond rfl (fun h => ?_) (fun h => ?_)
    · repeat (first | refine AW.seq ?_ | refine AW.block ?_ | (refine AW.reg mix ?_; simp (implicitDefEqProofs := false); try simp (disch := omega) only [w64, wu64]) | (refine need.of (by first | omega | kernel_rfl) ?_) | (refine AW.fin ?_; try simp (implicitDefEqProofs := false)))
      refine CallS.pu (hw1) ?_
      (try (simp (implicitDefEqProofs := false); try simp (disch := omega) only [w64, wu64]))
      repeat (first | refine AW.seq ?_ | refine AW.block ?_ | (refine AW.reg mix ?_; simp (implicitDefEqProofs := false); try simp (disch := omega) only [w64, wu64]) | (refine need.of (by first | omega | kernel_rfl) ?_) | (refine AW.fin ?_; try simp (implicitDefEqProofs := false)))
      refine AW.cond rfl (fun h => ?_) (fun h => ?_)
      · simp at h
      have ew : IntKind.i64.wrap 1 = 1 := w64 (by omega) (by omega)
      repeat (first | refine AW.seq ?_ | refine AW.block ?_ | (refine AW.reg mix ?_; simp (implicitDefEqProofs := false) [ew]; try simp (disch := omega) only [w64, wu64]) | (refine need.of (by first | omega | kernel_rfl) ?_) | (refine AW.fin ?_; try simp (implicitDefEqProofs := false) [ew]))
      exact ⟨1, by omega, by omega, by simp⟩
    · simp at h
  · repeat (first | refine AW.seq ?_ | refine AW.block ?_ | (refine AW.reg mix ?_; simp (implicitDefEqProofs := false); try simp (disch := omega) only [w64, wu64]) | (refine need.of (by first | omega | kernel_rfl) ?_) | (refine AW.fin ?_; try simp (implicitDefEqProofs := false)))
    refine AW.cond rfl (fun h => ?_) (fun h => ?_)
    · repeat (first | refine AW.seq ?_ | refine AW.block ?_ | (refine AW.reg mix ?_; simp (implicitDefEqProofs := false); try simp (disch := omega) only [w64, wu64]) | (refine need.of (by first | omega | kernel_rfl) ?_) | (refine AW.fin ?_; try simp (implicitDefEqProofs := false)))
      refine CallS.pu (hw2) ?_
      (try (simp (implicitDefEqProofs := false); try simp (disch := omega) only [w64, wu64]))
      repeat (first | refine AW.seq ?_ | refine AW.block ?_ | (refine AW.reg mix ?_; simp (implicitDefEqProofs := false); try simp (disch := omega) only [w64, wu64]) | (refine need.of (by first | omega | kernel_rfl) ?_) | (refine AW.fin ?_; try simp (implicitDefEqProofs := false)))
      refine AW.cond rfl (fun h => ?_) (fun h => ?_)
      · simp at h
      have ew : IntKind.i64.wrap 2 = 2 := w64 (by omega) (by omega)
      repeat (first | refine AW.seq ?_ | refine AW.block ?_ | (refine AW.reg mix ?_; simp (implicitDefEqProofs := false) [ew]; try simp (disch := omega) only [w64, wu64]) | (refine need.of (by first | omega | kernel_rfl) ?_) | (refine AW.fin ?_; try simp (implicitDefEqProofs := false) [ew]))
      exact ⟨2, by omega, by omega, by simp⟩
    · simp at h
  · repeat (first | refine AW.seq ?_ | refine AW.block ?_ | (refine AW.reg mix ?_; simp (implicitDefEqProofs := false); try simp (disch := omega) only [w64, wu64]) | (refine need.of (by first | omega | kernel_rfl) ?_) | (refine AW.fin ?_; try simp (implicitDefEqProofs := false)))
    refine AW.cond rfl (fun h => ?_) (fun h => ?_)
    · simp at h
    refine AW.exit ?_
    (try (simp (implicitDefEqProofs := false); try simp (disch := omega) only [w64, wu64]))
    repeat (first | refine AW.seq ?_ | refine AW.block ?_ | (refine AW.reg mix ?_; simp (implicitDefEqProofs := false); try simp (disch := omega) only [w64, wu64]) | (refine need.of (by first | omega | kernel_rfl) ?_) | (refine AW.fin ?_; try simp (implicitDefEqProofs := false)))
end
end Go.Proofs.YtdbfenhaljmbfaaGreat.Am
namespace Go.Proofs.YtdbfenhaljmbfaaGreat.Am
section
set_option linter.unusedVariables false
set_option linter.unusedSimpArgs false
open Go.RowKit
set_option maxRecDepth 100000
set_option linter.unusedSimpArgs false
set_option linter.unusedVariables false

/-- what is handed back: with an error it is what it was -/
def stR (R : TR) (y t : Nat) (f : Bool) : D := if R.e = 0 then tsD R.y R.t R.f else tsD y t f

theorem radd_ok (cs : List Bool) (k a b y t : Nat) (f : Bool) (n : Nat) (p : Nat) (d : Bool) (h : GoodR k a b) (hw : WellR k a b y t f) (hn : n ≤ 1048576) (hp : p ≤ cs.length) (hc : cs.length ≤ 4000000) (R : TR) (hR : R = addRM cs k a b n y t f p d) :
    Eqn Tryz.prog n_reg_Param_Add [.d (parD k a b), .p 0 0, .d (tsD y t f), .d (.int .i64 n)] [tapeO cs p d] (.tup [.d (stR R y t f), .d (.int .i64 R.e)]) [tapeO cs R.p R.d] := by
  refine Eqn.obj1 r_reg_Param_Add Plain.ok ⟨rfl, fun _ => rfl⟩ ?_
  have hwr := rwrong1_ok h hw
  rcases hw with ⟨rfl, hw⟩ | ⟨hk, rfl, hy, hf⟩
  · replace h : GoodT a b := by
      rcases h with ⟨-, h⟩ | ⟨hk, -⟩
      · exact h
      · exact absurd rfl hk
    rw [addRM, if_pos rfl] at hR
    have h1 := rthin_ok 4 a b
    have h2 := rthinned_ok y t f
    have h3 := tadd_ok cs a b y t f n p d h hw (by omega) hp hc R (by rw [hR]; congr 1)
    clear hR
    obtain ⟨e, ry, rt, rf, rp, rd⟩ := R
    have h4 : ∀ y t f, _ := runthinned_ok
    simp only [c_reg_Param_Add, parD, tpD, tsD, stR, show ((4 : Nat) : Int) = 4 from rfl] at hwr h1 h2 h3 ⊢
    obtain ⟨Y, T, F, hS⟩ : ∃ (Y T : Nat) (F : Bool), (if e = 0 then D.agg [.int .i64 ry, .int .i64 rt, .bool rf] else D.agg [.int .i64 y, .int .i64 t, .bool f]) = D.agg [.int .i64 Y, .int .i64 T, .bool F] := by
      split
      · exact ⟨ry, rt, rf, rfl⟩
      · exact ⟨y, t, f, rfl⟩
    rw [hS] at h3 ⊢
    repeat (first | refine AW.seq ?_ | refine AW.block ?_ | (refine AW.reg mix ?_; simp (implicitDefEqProofs := false) [-Bool.exists_bool]; try simp (disch := omega) only [w64, wu64]) | (refine need.of (by first | omega | kernel_rfl) ?_) | (refine AW.fin ?_; try simp (implicitDefEqProofs := false) [-Bool.exists_bool]))
    refine CallS.pf 4 3 ⟨36, _⟩ [.int .i64 y, .int .i64 t, .bool f] (hwr) (by first | rfl | (simp [-Bool.exists_bool]; done)) ?_
    (try (simp (implicitDefEqProofs := false) [-Bool.exists_bool]; try simp (disch := omega) only [w64, wu64]))
    repeat (first | refine AW.seq ?_ | refine AW.block ?_ | (refine AW.reg mix ?_; simp (implicitDefEqProofs := false) [-Bool.exists_bool]; try simp (disch := omega) only [w64, wu64]) | (refine need.of (by first | omega | kernel_rfl) ?_) | (refine AW.fin ?_; try simp (implicitDefEqProofs := false) [-Bool.exists_bool]))
    refine AW.cond rfl (fun h => ?_) (fun h => ?_)
    · simp at h
    repeat (first | refine AW.seq ?_ | refine AW.block ?_ | (refine AW.reg mix ?_; simp (implicitDefEqProofs := false) [-Bool.exists_bool]; try simp (disch := omega) only [w64, wu64]) | (refine need.of (by first | omega | kernel_rfl) ?_) | (refine AW.fin ?_; try simp (implicitDefEqProofs := false) [-Bool.exists_bool]))
    refine AW.cond rfl (fun h => ?_) (fun h => ?_)
    · repeat (first | refine AW.seq ?_ | refine AW.block ?_ | (refine AW.reg mix ?_; simp (implicitDefEqProofs := false) [-Bool.exists_bool]; try simp (disch := omega) only [w64, wu64]) | (refine need.of (by first | omega | kernel_rfl) ?_) | (refine AW.fin ?_; try simp (implicitDefEqProofs := false) [-Bool.exists_bool]))
      refine CallS.pu (h1) ?_
      (try (simp (implicitDefEqProofs := false) [-Bool.exists_bool]; try simp (disch := omega) only [w64, wu64]))
      repeat (first | refine AW.seq ?_ | refine AW.block ?_ | (refine AW.reg mix ?_; simp (implicitDefEqProofs := false) [-Bool.exists_bool]; try simp (disch := omega) only [w64, wu64]) | (refine need.of (by first | omega | kernel_rfl) ?_) | (refine AW.fin ?_; try simp (implicitDefEqProofs := false) [-Bool.exists_bool]))
      refine CallS.pu (h2) ?_
      (try (simp (implicitDefEqProofs := false) [-Bool.exists_bool]; try simp (disch := omega) only [w64, wu64]))
      repeat (first | refine AW.seq ?_ | refine AW.block ?_ | (refine AW.reg mix ?_; simp (implicitDefEqProofs := false) [-Bool.exists_bool]; try simp (disch := omega) only [w64, wu64]) | (refine need.of (by first | omega | kernel_rfl) ?_) | (refine AW.fin ?_; try simp (implicitDefEqProofs := false) [-Bool.exists_bool]))
      refine CallS.o1 0 (h3) ?_
      (try (simp (implicitDefEqProofs := false) [-Bool.exists_bool]; try simp (disch := omega) only [w64, wu64]))
      repeat (first | refine AW.seq ?_ | refine AW.block ?_ | (refine AW.reg mix ?_; simp (implicitDefEqProofs := false) [-Bool.exists_bool]; try simp (disch := omega) only [w64, wu64]) | (refine need.of (by first | omega | kernel_rfl) ?_) | (refine AW.fin ?_; try simp (implicitDefEqProofs := false) [-Bool.exists_bool]))
      refine CallS.pu (h4 Y T F) ?_
      (try (simp (implicitDefEqProofs := false) [-Bool.exists_bool]; try simp (disch := omega) only [w64, wu64]))
      repeat (first | refine AW.seq ?_ | refine AW.block ?_ | (refine AW.reg mix ?_; simp (implicitDefEqProofs := false) [-Bool.exists_bool]; try simp (disch := omega) only [w64, wu64]) | (refine need.of (by first | omega | kernel_rfl) ?_) | (refine AW.fin ?_; try simp (implicitDefEqProofs := false) [-Bool.exists_bool]))
    · simp at h
  · rcases h with ⟨rfl, -⟩ | ⟨-, h⟩
    · exact absurd rfl hk
    rw [addRM, if_neg hk] at hR
    have h1 := rchain_ok k a b
    have h2 := rlink_ok y 0 f
    have h3 := addC_ok h cs hc y hy f n hn p d hp _ rfl
    have hk' : ¬ (k : Int) = 4 := by omega
    generalize addL (stOf cs k a) (2 ^ b - 1) n y f p d = S at *
    subst hR
    obtain ⟨e, sx, sf, sp, sd⟩ := S
    have h4 : ∀ y f, _ := rlinked_ok
    simp only [c_reg_Param_Add, parD, tsD, stR] at hwr h1 h2 h3 ⊢
    obtain ⟨Y, F, hS1, hS2, hS⟩ : ∃ (Y : Nat) (F : Bool), (if e = 0 then sx else y) = Y ∧ (if e = 0 then sf else f) = F ∧ (if e = 0 then D.agg [.int .i64 sx, .int .i64 (0 : Nat), .bool sf] else D.agg [.int .i64 y, .int .i64 (0 : Nat), .bool f]) = D.agg [.int .i64 Y, .int .i64 0, .bool F] := by
      by_cases he : e = 0
      · simp only [if_pos he]; exact ⟨sx, sf, rfl, rfl, rfl⟩
      · simp only [if_neg he]; exact ⟨y, f, rfl, rfl, rfl⟩
    rw [hS1, hS2] at h3
    rw [hS]
    simp only [Int.natCast_zero, show ((0 : Nat) : Int) = 0 by rfl] at hwr
    repeat (first | refine AW.seq ?_ | refine AW.block ?_ | (refine AW.reg mix ?_; simp (implicitDefEqProofs := false) [-Bool.exists_bool]; try simp (disch := omega) only [w64, wu64]) | (refine need.of (by first | omega | kernel_rfl) ?_) | (refine AW.fin ?_; try simp (implicitDefEqProofs := false) [-Bool.exists_bool]))
    refine CallS.pf 4 3 ⟨36, _⟩ [.int .i64 y, .int .i64 0, .bool f] (hwr) (by first | rfl | (simp [-Bool.exists_bool]; done)) ?_
    (try (simp (implicitDefEqProofs := false) [-Bool.exists_bool]; try simp (disch := omega) only [w64, wu64]))
    repeat (first | refine AW.seq ?_ | refine AW.block ?_ | (refine AW.reg mix ?_; simp (implicitDefEqProofs := false) [-Bool.exists_bool]; try simp (disch := omega) only [w64, wu64]) | (refine need.of (by first | omega | kernel_rfl) ?_) | (refine AW.fin ?_; try simp (implicitDefEqProofs := false) [-Bool.exists_bool]))
    refine AW.cond rfl (fun h => ?_) (fun h => ?_)
    · simp at h
    repeat (first | refine AW.seq ?_ | refine AW.block ?_ | (refine AW.reg mix ?_; simp (implicitDefEqProofs := false) [hk, hk', -Bool.exists_bool]; try simp (disch := omega) only [w64, wu64]) | (refine need.of (by first | omega | kernel_rfl) ?_) | (refine AW.fin ?_; try simp (implicitDefEqProofs := false) [hk, hk', -Bool.exists_bool]))
    refine AW.cond rfl (fun h => ?_) (fun h => ?_)
    · simp [hk'] at h
    · repeat (first | refine AW.seq ?_ | refine AW.block ?_ | (refine AW.reg mix ?_; simp (implicitDefEqProofs := false) [-Bool.exists_bool]; try simp (disch := omega) only [w64, wu64]) | (refine need.of (by first | omega | kernel_rfl) ?_) | (refine AW.fin ?_; try simp (implicitDefEqProofs := false) [-Bool.exists_bool]))
      refine CallS.pu (h1) ?_
      (try (simp (implicitDefEqProofs := false) [-Bool.exists_bool]; try simp (disch := omega) only [w64, wu64]))
      repeat (first | refine AW.seq ?_ | refine AW.block ?_ | (refine AW.reg mix ?_; simp (implicitDefEqProofs := false) [-Bool.exists_bool]; try simp (disch := omega) only [w64, wu64]) | (refine need.of (by first | omega | kernel_rfl) ?_) | (refine AW.fin ?_; try simp (implicitDefEqProofs := false) [-Bool.exists_bool]))
      refine CallS.pu (h2) ?_
      (try (simp (implicitDefEqProofs := false) [-Bool.exists_bool]; try simp (disch := omega) only [w64, wu64]))
      repeat (first | refine AW.seq ?_ | refine AW.block ?_ | (refine AW.reg mix ?_; simp (implicitDefEqProofs := false) [-Bool.exists_bool]; try simp (disch := omega) only [w64, wu64]) | (refine need.of (by first | omega | kernel_rfl) ?_) | (refine AW.fin ?_; try simp (implicitDefEqProofs := false) [-Bool.exists_bool]))
      refine CallS.o1 0 (h3) ?_
      (try (simp (implicitDefEqProofs := false) [-Bool.exists_bool]; try simp (disch := omega) only [w64, wu64]))
      repeat (first | refine AW.seq ?_ | refine AW.block ?_ | (refine AW.reg mix ?_; simp (implicitDefEqProofs := false) [-Bool.exists_bool]; try simp (disch := omega) only [w64, wu64]) | (refine need.of (by first | omega | kernel_rfl) ?_) | (refine AW.fin ?_; try simp (implicitDefEqProofs := false) [-Bool.exists_bool]))
      refine CallS.pu (h4 Y F) ?_
      (try (simp (implicitDefEqProofs := false) [-Bool.exists_bool]; try simp (disch := omega) only [w64, wu64]))
      repeat (first | refine AW.seq ?_ | refine AW.block ?_ | (refine AW.reg mix ?_; simp (implicitDefEqProofs := false) [-Bool.exists_bool]; try simp (disch := omega) only [w64, wu64]) | (refine need.of (by first | omega | kernel_rfl) ?_) | (refine AW.fin ?_; try simp (implicitDefEqProofs := false) [-Bool.exists_bool]))

theorem rmerge_ok (cs : List Bool) (k a b y t : Nat) (f : Bool) (z u : Nat) (g : Bool) (p : Nat) (d : Bool) (h : GoodR k a b) (hw : WellR k a b y t f) (hv : WellR k a b z u g) (hp : p ≤ cs.length) (hc : cs.length ≤ 4000000) (R : TR) (hR : R = mergeRM cs k a b y t f z u g p d) :
    Eqn Tryz.prog n_reg_Param_Merge [.d (parD k a b), .p 0 0, .d (tsD y t f), .d (tsD z u g)] [tapeO cs p d] (.tup [.d (stR R y t f), .d (.int .i64 R.e)]) [tapeO cs R.p R.d] := by
  refine Eqn.obj1 r_reg_Param_Merge Plain.ok ⟨rfl, fun _ => rfl⟩ ?_
  have hwr := rwrong2_ok h hw hv
  rcases hw with ⟨rfl, hw⟩ | ⟨hk, rfl, hy, hf⟩
  · replace h : GoodT a b := by
      rcases h with ⟨-, h⟩ | ⟨hk, -⟩
      · exact h
      · exact absurd rfl hk
    replace hv : WellT a b z u g := by
      rcases hv with ⟨-, h⟩ | ⟨hk, -⟩
      · exact h
      · exact absurd rfl hk
    rw [mergeRM, if_pos rfl] at hR
    have h1 := rthin_ok 4 a b
    have h2 := rthinned_ok y t f
    have h2' := rthinned_ok z u g
    have h3 := tmerge_ok cs a b y t f z u g p d h hw hv hp hc R hR
    clear hR
    obtain ⟨e, ry, rt, rf, rp, rd⟩ := R
    have h4 : ∀ y t f, _ := runthinned_ok
    simp only [c_reg_Param_Merge, parD, tpD, tsD, stR, show ((4 : Nat) : Int) = 4 from rfl] at hwr h1 h2 h2' h3 ⊢
    obtain ⟨Y, T, F, hS⟩ : ∃ (Y T : Nat) (F : Bool), (if e = 0 then D.agg [.int .i64 ry, .int .i64 rt, .bool rf] else D.agg [.int .i64 y, .int .i64 t, .bool f]) = D.agg [.int .i64 Y, .int .i64 T, .bool F] := by
      split
      · exact ⟨ry, rt, rf, rfl⟩
      · exact ⟨y, t, f, rfl⟩
    rw [hS] at h3 ⊢
    repeat (first | refine AW.seq ?_ | refine AW.block ?_ | (refine AW.reg mix ?_; simp (implicitDefEqProofs := false) [-Bool.exists_bool]; try simp (disch := omega) only [w64, wu64]) | (refine need.of (by first | omega | kernel_rfl) ?_) | (refine AW.fin ?_; try simp (implicitDefEqProofs := false) [-Bool.exists_bool]))
    refine CallS.pf 5 3 ⟨36, _⟩ [.int .i64 y, .int .i64 t, .bool f, .int .i64 z, .int .i64 u, .bool g] (hwr) (by first | rfl | (simp [-Bool.exists_bool]; done)) ?_
    (try (simp (implicitDefEqProofs := false) [-Bool.exists_bool]; try simp (disch := omega) only [w64, wu64]))
    repeat (first | refine AW.seq ?_ | refine AW.block ?_ | (refine AW.reg mix ?_; simp (implicitDefEqProofs := false) [-Bool.exists_bool]; try simp (disch := omega) only [w64, wu64]) | (refine need.of (by first | omega | kernel_rfl) ?_) | (refine AW.fin ?_; try simp (implicitDefEqProofs := false) [-Bool.exists_bool]))
    refine AW.cond rfl (fun h => ?_) (fun h => ?_)
    · simp at h
    repeat (first | refine AW.seq ?_ | refine AW.block ?_ | (refine AW.reg mix ?_; simp (implicitDefEqProofs := false) [-Bool.exists_bool]; try simp (disch := omega) only [w64, wu64]) | (refine need.of (by first | omega | kernel_rfl) ?_) | (refine AW.fin ?_; try simp (implicitDefEqProofs := false) [-Bool.exists_bool]))
    refine AW.cond rfl (fun h => ?_) (fun h => ?_)
    · repeat (first | refine AW.seq ?_ | refine AW.block ?_ | (refine AW.reg mix ?_; simp (implicitDefEqProofs := false) [-Bool.exists_bool]; try simp (disch := omega) only [w64, wu64]) | (refine need.of (by first | omega | kernel_rfl) ?_) | (refine AW.fin ?_; try simp (implicitDefEqProofs := false) [-Bool.exists_bool]))
      refine CallS.pu (h1) ?_
      (try (simp (implicitDefEqProofs := false) [-Bool.exists_bool]; try simp (disch := omega) only [w64, wu64]))
      repeat (first | refine AW.seq ?_ | refine AW.block ?_ | (refine AW.reg mix ?_; simp (implicitDefEqProofs := false) [-Bool.exists_bool]; try simp (disch := omega) only [w64, wu64]) | (refine need.of (by first | omega | kernel_rfl) ?_) | (refine AW.fin ?_; try simp (implicitDefEqProofs := false) [-Bool.exists_bool]))
      refine CallS.pu (h2) ?_
      (try (simp (implicitDefEqProofs := false) [-Bool.exists_bool]; try simp (disch := omega) only [w64, wu64]))
      repeat (first | refine AW.seq ?_ | refine AW.block ?_ | (refine AW.reg mix ?_; simp (implicitDefEqProofs := false) [-Bool.exists_bool]; try simp (disch := omega) only [w64, wu64]) | (refine need.of (by first | omega | kernel_rfl) ?_) | (refine AW.fin ?_; try simp (implicitDefEqProofs := false) [-Bool.exists_bool]))
      refine CallS.pu (h2') ?_
      (try (simp (implicitDefEqProofs := false) [-Bool.exists_bool]; try simp (disch := omega) only [w64, wu64]))
      repeat (first | refine AW.seq ?_ | refine AW.block ?_ | (refine AW.reg mix ?_; simp (implicitDefEqProofs := false) [-Bool.exists_bool]; try simp (disch := omega) only [w64, wu64]) | (refine need.of (by first | omega | kernel_rfl) ?_) | (refine AW.fin ?_; try simp (implicitDefEqProofs := false) [-Bool.exists_bool]))
      refine CallS.o1 0 (h3) ?_
      (try (simp (implicitDefEqProofs := false) [-Bool.exists_bool]; try simp (disch := omega) only [w64, wu64]))
      repeat (first | refine AW.seq ?_ | refine AW.block ?_ | (refine AW.reg mix ?_; simp (implicitDefEqProofs := false) [-Bool.exists_bool]; try simp (disch := omega) only [w64, wu64]) | (refine need.of (by first | omega | kernel_rfl) ?_) | (refine AW.fin ?_; try simp (implicitDefEqProofs := false) [-Bool.exists_bool]))
      refine CallS.pu (h4 Y T F) ?_
      (try (simp (implicitDefEqProofs := false) [-Bool.exists_bool]; try simp (disch := omega) only [w64, wu64]))
      repeat (first | refine AW.seq ?_ | refine AW.block ?_ | (refine AW.reg mix ?_; simp (implicitDefEqProofs := false) [-Bool.exists_bool]; try simp (disch := omega) only [w64, wu64]) | (refine need.of (by first | omega | kernel_rfl) ?_) | (refine AW.fin ?_; try simp (implicitDefEqProofs := false) [-Bool.exists_bool]))
    · simp at h
  · rcases h with ⟨rfl, -⟩ | ⟨-, h⟩
    · exact absurd rfl hk
    rcases hv with ⟨rfl, -⟩ | ⟨-, rfl, hz, hg⟩
    · exact absurd rfl hk
    rw [mergeRM, if_neg hk] at hR
    have h1 := rchain_ok k a b
    have h2 := rlink_ok y 0 f
    have h2' := rlink_ok z 0 g
    have h3 := mergeC_ok h cs hc y hy f z hz g p d hp _ rfl
    have hk' : ¬ (k : Int) = 4 := by omega
    generalize mergeL (agOf cs k a) (2 ^ b - 1) z 0 y f p d = S at *
    subst hR
    obtain ⟨e, sx, sf, sp, sd⟩ := S
    have h4 : ∀ y f, _ := rlinked_ok
    simp only [c_reg_Param_Merge, parD, tsD, stR] at hwr h1 h2 h2' h3 ⊢
    obtain ⟨Y, F, hS1, hS2, hS⟩ : ∃ (Y : Nat) (F : Bool), (if e = 0 then sx else y) = Y ∧ (if e = 0 then sf || g else f) = F ∧ (if e = 0 then D.agg [.int .i64 sx, .int .i64 (0 : Nat), .bool (sf || g)] else D.agg [.int .i64 y, .int .i64 (0 : Nat), .bool f]) = D.agg [.int .i64 Y, .int .i64 0, .bool F] := by
      by_cases he : e = 0
      · simp only [if_pos he]; exact ⟨sx, _, rfl, rfl, rfl⟩
      · simp only [if_neg he]; exact ⟨y, f, rfl, rfl, rfl⟩
    rw [hS1, hS2] at h3
    rw [hS]
    simp only [Int.natCast_zero, show ((0 : Nat) : Int) = 0 by rfl] at hwr
    repeat (first | refine AW.seq ?_ | refine AW.block ?_ | (refine AW.reg mix ?_; simp (implicitDefEqProofs := false) [-Bool.exists_bool]; try simp (disch := omega) only [w64, wu64]) | (refine need.of (by first | omega | kernel_rfl) ?_) | (refine AW.fin ?_; try simp (implicitDefEqProofs := false) [-Bool.exists_bool]))
    refine CallS.pf 5 3 ⟨36, _⟩ [.int .i64 y, .int .i64 0, .bool f, .int .i64 z, .int .i64 0, .bool g] (hwr) (by first | rfl | (simp [-Bool.exists_bool]; done)) ?_
    (try (simp (implicitDefEqProofs := false) [-Bool.exists_bool]; try simp (disch := omega) only [w64, wu64]))
    repeat (first | refine AW.seq ?_ | refine AW.block ?_ | (refine AW.reg mix ?_; simp (implicitDefEqProofs := false) [-Bool.exists_bool]; try simp (disch := omega) only [w64, wu64]) | (refine need.of (by first | omega | kernel_rfl) ?_) | (refine AW.fin ?_; try simp (implicitDefEqProofs := false) [-Bool.exists_bool]))
    refine AW.cond rfl (fun h => ?_) (fun h => ?_)
    · simp at h
    repeat (first | refine AW.seq ?_ | refine AW.block ?_ | (refine AW.reg mix ?_; simp (implicitDefEqProofs := false) [hk, hk', -Bool.exists_bool]; try simp (disch := omega) only [w64, wu64]) | (refine need.of (by first | omega | kernel_rfl) ?_) | (refine AW.fin ?_; try simp (implicitDefEqProofs := false) [hk, hk', -Bool.exists_bool]))
    refine AW.cond rfl (fun h => ?_) (fun h => ?_)
    · simp [hk'] at h
    · repeat (first | refine AW.seq ?_ | refine AW.block ?_ | (refine AW.reg mix ?_; simp (implicitDefEqProofs := false) [-Bool.exists_bool]; try simp (disch := omega) only [w64, wu64]) | (refine need.of (by first | omega | kernel_rfl) ?_) | (refine AW.fin ?_; try simp (implicitDefEqProofs := false) [-Bool.exists_bool]))
      refine CallS.pu (h1) ?_
      (try (simp (implicitDefEqProofs := false) [-Bool.exists_bool]; try simp (disch := omega) only [w64, wu64]))
      repeat (first | refine AW.seq ?_ | refine AW.block ?_ | (refine AW.reg mix ?_; simp (implicitDefEqProofs := false) [-Bool.exists_bool]; try simp (disch := omega) only [w64, wu64]) | (refine need.of (by first | omega | kernel_rfl) ?_) | (refine AW.fin ?_; try simp (implicitDefEqProofs := false) [-Bool.exists_bool]))
      refine CallS.pu (h2) ?_
      (try (simp (implicitDefEqProofs := false) [-Bool.exists_bool]; try simp (disch := omega) only [w64, wu64]))
      repeat (first | refine AW.seq ?_ | refine AW.block ?_ | (refine AW.reg mix ?_; simp (implicitDefEqProofs := false) [-Bool.exists_bool]; try simp (disch := omega) only [w64, wu64]) | (refine need.of (by first | omega | kernel_rfl) ?_) | (refine AW.fin ?_; try simp (implicitDefEqProofs := false) [-Bool.exists_bool]))
      refine CallS.pu (h2') ?_
      (try (simp (implicitDefEqProofs := false) [-Bool.exists_bool]; try simp (disch := omega) only [w64, wu64]))
      repeat (first | refine AW.seq ?_ | refine AW.block ?_ | (refine AW.reg mix ?_; simp (implicitDefEqProofs := false) [-Bool.exists_bool]; try simp (disch := omega) only [w64, wu64]) | (refine need.of (by first | omega | kernel_rfl) ?_) | (refine AW.fin ?_; try simp (implicitDefEqProofs := false) [-Bool.exists_bool]))
      refine CallS.o1 0 (h3) ?_
      (try (simp (implicitDefEqProofs := false) [-Bool.exists_bool]; try simp (disch := omega) only [w64, wu64]))
      repeat (first | refine AW.seq ?_ | refine AW.block ?_ | (refine AW.reg mix ?_; simp (implicitDefEqProofs := false) [-Bool.exists_bool]; try simp (disch := omega) only [w64, wu64]) | (refine need.of (by first | omega | kernel_rfl) ?_) | (refine AW.fin ?_; try simp (implicitDefEqProofs := false) [-Bool.exists_bool]))
      refine CallS.pu (h4 Y F) ?_
      (try (simp (implicitDefEqProofs := false) [-Bool.exists_bool]; try simp (disch := omega) only [w64, wu64]))
      repeat (first | refine AW.seq ?_ | refine AW.block ?_ | (refine AW.reg mix ?_; simp (implicitDefEqProofs := false) [-Bool.exists_bool]; try simp (disch := omega) only [w64, wu64]) | (refine need.of (by first | omega | kernel_rfl) ?_) | (refine AW.fin ?_; try simp (implicitDefEqProofs := false) [-Bool.exists_bool]))
end
end Go.Proofs.YtdbfenhaljmbfaaGreat.Am
namespace Go.Proofs.YtdbfenhaljmbfaaGreat.Am
section
set_option linter.unusedVariables false
set_option linter.unusedSimpArgs false
open Go.RowKit
set_option maxRecDepth 100000
set_option linter.unusedSimpArgs false
set_option linter.unusedVariables false

/-- widths of the two numbers -/
def kwR (k a b : Nat) : Nat := if k = 4 then bitsN a else b
def twR (k b : Nat) : Nat := if k = 4 then bitsN b else 0
theorem kwR_pos {k a b : Nat} (h : GoodR k a b) : 0 < kwR k a b ∧ kwR k a b ≤ 10 := by
  unfold kwR
  rcases h with ⟨rfl, h⟩ | ⟨hk, h⟩
  · rw [if_pos rfl]
    refine ⟨?_, bitsN_le (by have := h.2.1; omega)⟩
    unfold bitsN; rw [if_neg (by have := h.1; omega)]; omega
  · rw [if_neg hk]; exact ⟨h.2.1, h.2.2⟩
theorem twR_le {k a b : Nat} (h : GoodR k a b) : twR k b ≤ 5 := by
  unfold twR
  rcases h with ⟨rfl, h⟩ | ⟨hk, h⟩
  · rw [if_pos rfl]; exact bitsN_le (by have := h.2.2; omega)
  · rw [if_neg hk]; omega
theorem well_fits {k a b y t : Nat} {f : Bool} (hg : GoodR k a b) (h : WellR k a b y t f) : y < 2 ^ kwR k a b ∧ t < 2 ^ twR k b := by
  unfold kwR twR
  rcases h with ⟨rfl, h1, h2, -⟩ | ⟨hk, rfl, h1, -⟩
  · rw [if_pos rfl, if_pos rfl]
    exact ⟨Nat.lt_of_le_of_lt h1 (lt_bitsN a), Nat.lt_of_le_of_lt h2 (lt_bitsN b)⟩
  · rw [if_neg hk, if_neg hk]
    have := Nat.two_pow_pos b
    omega

theorem mlen_ok (x : Nat) (hx : x < 18446744073709551616) : Eqn Tryz.prog n_math_bits_Len [.d (.int .u64 x)] [] (.d (.int .i64 (bitsN x))) [] := by
  refine Eqn.pure r_math_bits_Len Plain.ok ?_
  have hl := len64_ok x hx
  simp only [c_math_bits_Len]
  repeat (first | refine AW.seq ?_ | refine AW.block ?_ | (refine AW.reg mix ?_; simp (implicitDefEqProofs := false); try simp (disch := omega) only [w64, wu64]) | (refine need.of (by first | omega | kernel_rfl) ?_) | (refine AW.fin ?_; try simp (implicitDefEqProofs := false)))
  refine AW.cond rfl (fun h => ?_) (fun h => ?_)
  · simp at h
  · repeat (first | refine AW.seq ?_ | refine AW.block ?_ | (refine AW.reg mix ?_; simp (implicitDefEqProofs := false); try simp (disch := omega) only [w64, wu64]) | (refine need.of (by first | omega | kernel_rfl) ?_) | (refine AW.fin ?_; try simp (implicitDefEqProofs := false)))
    refine CallS.pu (hl) ?_
    (try (simp (implicitDefEqProofs := false); try simp (disch := omega) only [w64, wu64]))
    repeat (first | refine AW.seq ?_ | refine AW.block ?_ | (refine AW.reg mix ?_; simp (implicitDefEqProofs := false); try simp (disch := omega) only [w64, wu64]) | (refine need.of (by first | omega | kernel_rfl) ?_) | (refine AW.fin ?_; try simp (implicitDefEqProofs := false)))

theorem widths_ok {k a b : Nat} (h : GoodR k a b) : Eqn Tryz.prog n_reg_Param_widths [.d (parD k a b)] [] (.tup [.d (.int .i64 (kwR k a b)), .d (.int .i64 (twR k b))]) [] := by
  refine Eqn.pure r_reg_Param_widths Plain.ok ?_
  unfold kwR twR
  rcases h with ⟨rfl, h⟩ | ⟨hk, h⟩
  · rw [if_pos rfl, if_pos rfl]
    have h1 := mlen_ok a (by have := h.2.1; omega)
    have h2 := mlen_ok b (by have := h.2.2; omega)
    have e1 : IntKind.u64.wrap (a : Int) = a := wu64 (by omega) (by have := h.2.1; omega)
    have e2 : IntKind.u64.wrap (b : Int) = b := wu64 (by omega) (by have := h.2.2; omega)
    simp only [c_reg_Param_widths, parD]
    repeat (first | refine AW.seq ?_ | refine AW.block ?_ | (refine AW.reg mix ?_; simp (implicitDefEqProofs := false); try simp (disch := omega) only [w64, wu64]) | (refine need.of (by first | omega | kernel_rfl) ?_) | (refine AW.fin ?_; try simp (implicitDefEqProofs := false)))
    refine AW.cond rfl (fun h => ?_) (fun h => ?_)
    · repeat (first | refine AW.seq ?_ | refine AW.block ?_ | (refine AW.reg mix ?_; simp (implicitDefEqProofs := false) [e1, e2]; try simp (disch := omega) only [w64, wu64]) | (refine need.of (by first | omega | kernel_rfl) ?_) | (refine AW.fin ?_; try simp (implicitDefEqProofs := false) [e1, e2]))
      refine CallS.pu (h1) ?_
      (try (simp (implicitDefEqProofs := false) [e1, e2]; try simp (disch := omega) only [w64, wu64]))
      repeat (first | refine AW.seq ?_ | refine AW.block ?_ | (refine AW.reg mix ?_; simp (implicitDefEqProofs := false) [e1, e2]; try simp (disch := omega) only [w64, wu64]) | (refine need.of (by first | omega | kernel_rfl) ?_) | (refine AW.fin ?_; try simp (implicitDefEqProofs := false) [e1, e2]))
      refine CallS.pu (h2) ?_
      (try (simp (implicitDefEqProofs := false); try simp (disch := omega) only [w64, wu64]))
      repeat (first | refine AW.seq ?_ | refine AW.block ?_ | (refine AW.reg mix ?_; simp (implicitDefEqProofs := false); try simp (disch := omega) only [w64, wu64]) | (refine need.of (by first | omega | kernel_rfl) ?_) | (refine AW.fin ?_; try simp (implicitDefEqProofs := false)))
    · simp at h
  · rw [if_neg hk, if_neg hk]
    have hk' : ¬ (k : Int) = 4 := by omega
    simp only [c_reg_Param_widths, parD]
    repeat (first | refine AW.seq ?_ | refine AW.block ?_ | (refine AW.reg mix ?_; simp (implicitDefEqProofs := false) [hk, hk']; try simp (disch := omega) only [w64, wu64]) | (refine need.of (by first | omega | kernel_rfl) ?_) | (refine AW.fin ?_; try simp (implicitDefEqProofs := false) [hk, hk']))
    refine AW.cond rfl (fun h => ?_) (fun h => ?_)
    · simp [hk'] at h
    · repeat (first | refine AW.seq ?_ | refine AW.block ?_ | (refine AW.reg mix ?_; simp (implicitDefEqProofs := false); try simp (disch := omega) only [w64, wu64]) | (refine need.of (by first | omega | kernel_rfl) ?_) | (refine AW.fin ?_; try simp (implicitDefEqProofs := false)))

theorem rbits_ok {k a b : Nat} (h : GoodR k a b) : Eqn Tryz.prog n_reg_Param_Bits [.d (parD k a b)] [] (.d (.int .i64 (kwR k a b + twR k b + 1 : Nat))) [] := by
  refine Eqn.pure r_reg_Param_Bits Plain.ok ?_
  have h1 := rcheck_ok h
  have h2 := widths_ok h
  have b1 := (kwR_pos h).2
  have b2 := twR_le h
  simp only [c_reg_Param_Bits, parD] at h1 h2 ⊢
  generalize kwR k a b = K at *
  generalize twR k b = T at *
  have e1 : IntKind.i64.wrap ((K : Int) + T) = (K : Int) + T := w64 (by omega) (by omega)
  have e2 : IntKind.i64.wrap ((K : Int) + T + 1) = (K : Int) + T + 1 := w64 (by omega) (by omega)
  repeat (first | refine AW.seq ?_ | refine AW.block ?_ | (refine AW.reg mix ?_; simp (implicitDefEqProofs := false); try simp (disch := omega) only [w64, wu64]) | (refine need.of (by first | omega | kernel_rfl) ?_) | (refine AW.fin ?_; try simp (implicitDefEqProofs := false)))
  refine CallS.pu (h1) ?_
  (try (simp (implicitDefEqProofs := false); try simp (disch := omega) only [w64, wu64]))
  repeat (first | refine AW.seq ?_ | refine AW.block ?_ | (refine AW.reg mix ?_; simp (implicitDefEqProofs := false); try simp (disch := omega) only [w64, wu64]) | (refine need.of (by first | omega | kernel_rfl) ?_) | (refine AW.fin ?_; try simp (implicitDefEqProofs := false)))
  refine AW.cond rfl (fun h => ?_) (fun h => ?_)
  · simp at h
  repeat (first | refine AW.seq ?_ | refine AW.block ?_ | (refine AW.reg mix ?_; simp (implicitDefEqProofs := false); try simp (disch := omega) only [w64, wu64]) | (refine need.of (by first | omega | kernel_rfl) ?_) | (refine AW.fin ?_; try simp (implicitDefEqProofs := false)))
  refine CallS.pu (h2) ?_
  (try (simp (implicitDefEqProofs := false) [e1, e2]; try simp (disch := omega) only [w64, wu64]))
  repeat (first | refine AW.seq ?_ | refine AW.block ?_ | (refine AW.reg mix ?_; simp (implicitDefEqProofs := false) [e1, e2]; try simp (disch := omega) only [w64, wu64]) | (refine need.of (by first | omega | kernel_rfl) ?_) | (refine AW.fin ?_; try simp (implicitDefEqProofs := false) [e1, e2]))

/-- a register's bits -/
def encR (k a b y t : Nat) (f : Bool) : List Bool := bitsW y (kwR k a b) ++ bitsW t (twR k b) ++ [f]
theorem encR_len (k a b y t : Nat) (f : Bool) : (encR k a b y t f).length = kwR k a b + twR k b + 1 := by simp [encR]; omega

theorem rwrite0_ok {k a b y t : Nat} {f : Bool} (h : GoodR k a b) (hw : WellR k a b y t f) : Eqn Tryz.prog n_reg_Param_Write [.d (parD k a b), .p 0 0, .d (tsD y t f)] [⟨138, [.d .nilsl, .d (.int .i64 0)]⟩] (.d (.int .i64 0)) [wrO 1 (encR k a b y t f), wrB (encR k a b y t f)] := by
  refine Eqn.gen [0, 6] r_reg_Param_Write (by simp) (by simp) (by rfl) (by decide) (by simp) (by simp [wrO, wrB]) ?_
  have hwr := rwrong1_ok h hw
  have h2 := widths_ok h
  have hkp := kwR_pos h
  have htl := twR_le h
  have hfit := well_fits h hw
  have h2k : 2 ^ kwR k a b ≤ 2 ^ 10 := Nat.pow_le_pow_right (by omega) hkp.2
  have h2t : 2 ^ twR k b ≤ 2 ^ 5 := Nat.pow_le_pow_right (by omega) htl
  have h3 := wnum0_ok y (kwR k a b) hkp.1 (by omega) hfit.1 (by omega)
  have hne : bitsW y (kwR k a b) ≠ [] := fun he => by have := bitsW_len y (kwR k a b); rw [he] at this; simp at this; omega
  have h4 := wnum_ok (bitsW y (kwR k a b)) t (twR k b) hne (by rw [bitsW_len]; omega) (by omega) hfit.2 (by omega)
  have h5 := wbit_ok (bitsW y (kwR k a b) ++ bitsW t (twR k b)) f (fun he => hne (List.append_eq_nil_iff.1 he).1) (by rw [List.length_append, bitsW_len, bitsW_len]; omega)
  have e1 : IntKind.u64.wrap (y : Int) = y := wu64 (by omega) (by omega)
  have e2 : IntKind.u64.wrap (t : Int) = t := wu64 (by omega) (by omega)
  simp only [c_reg_Param_Write, parD, tsD, encR] at hwr h2 ⊢
  generalize bitsW y (kwR k a b) = X1 at *
  generalize X1 ++ bitsW t (twR k b) = X2 at *
  generalize hX3 : X2 ++ [f] = X3 at *
  generalize kwR k a b = K at *
  generalize twR k b = T at *
  simp only [wrO, wrB] at h3 h4 h5 ⊢
  repeat (first | refine AW.seq ?_ | refine AW.block ?_ | (refine AW.reg mix ?_; simp (implicitDefEqProofs := false); try simp (disch := omega) only [w64, wu64]) | (refine need.of (by first | omega | kernel_rfl) ?_) | (refine AW.fin ?_; try simp (implicitDefEqProofs := false)))
  refine CallS.pf 3 3 ⟨36, _⟩ [.int .i64 y, .int .i64 t, .bool f] (hwr) (by first | rfl | (simp; done)) ?_
  (try (simp (implicitDefEqProofs := false); try simp (disch := omega) only [w64, wu64]))
  repeat (first | refine AW.seq ?_ | refine AW.block ?_ | (refine AW.reg mix ?_; simp (implicitDefEqProofs := false); try simp (disch := omega) only [w64, wu64]) | (refine need.of (by first | omega | kernel_rfl) ?_) | (refine AW.fin ?_; try simp (implicitDefEqProofs := false)))
  refine AW.cond rfl (fun h => ?_) (fun h => ?_)
  · simp at h
  repeat (first | refine AW.seq ?_ | refine AW.block ?_ | (refine AW.reg mix ?_; simp (implicitDefEqProofs := false); try simp (disch := omega) only [w64, wu64]) | (refine need.of (by first | omega | kernel_rfl) ?_) | (refine AW.fin ?_; try simp (implicitDefEqProofs := false)))
  refine CallS.pu (h2) ?_
  (try (simp (implicitDefEqProofs := false) [e1, e2]; try simp (disch := omega) only [w64, wu64]))
  repeat (first | refine AW.seq ?_ | refine AW.block ?_ | (refine AW.reg mix ?_; simp (implicitDefEqProofs := false) [e1, e2]; try simp (disch := omega) only [w64, wu64]) | (refine need.of (by first | omega | kernel_rfl) ?_) | (refine AW.fin ?_; try simp (implicitDefEqProofs := false) [e1, e2]))
  refine CallS.g [0] (h3) ?_
  (try (simp (implicitDefEqProofs := false) [e1, e2]; try simp (disch := omega) only [w64, wu64]))
  repeat (first | refine AW.seq ?_ | refine AW.block ?_ | (refine AW.reg mix ?_; simp (implicitDefEqProofs := false) [e1, e2]; try simp (disch := omega) only [w64, wu64]) | (refine need.of (by first | omega | kernel_rfl) ?_) | (refine AW.fin ?_; try simp (implicitDefEqProofs := false) [e1, e2]))
  refine CallS.g [0, 4] (h4) ?_
  (try (simp (implicitDefEqProofs := false) [e1, e2]; try simp (disch := omega) only [w64, wu64]))
  repeat (first | refine AW.seq ?_ | refine AW.block ?_ | (refine AW.reg mix ?_; simp (implicitDefEqProofs := false) [e1, e2]; try simp (disch := omega) only [w64, wu64]) | (refine need.of (by first | omega | kernel_rfl) ?_) | (refine AW.fin ?_; try simp (implicitDefEqProofs := false) [e1, e2]))
  refine CallS.g [0, 5] (h5) ?_
  (try (simp (implicitDefEqProofs := false) [e1, e2]; try simp (disch := omega) only [w64, wu64]))
  repeat (first | refine AW.seq ?_ | refine AW.block ?_ | (refine AW.reg mix ?_; simp (implicitDefEqProofs := false) [e1, e2]; try simp (disch := omega) only [w64, wu64]) | (refine need.of (by first | omega | kernel_rfl) ?_) | (refine AW.fin ?_; try simp (implicitDefEqProofs := false) [e1, e2]))

theorem rbit_ok (ws : List Nat) (a : Nat) (hs : smallB ws) (hn : ws.length ≤ 4000000) (h : a < 8 * ws.length) : Eqn Tryz.prog n_bits_Reader_Bit [.p 0 0] [rdO ws a] (.tup [.d (.bool ((bitsOf ws).getD a false)), .d (.int .i64 0)]) [rdO ws (a + 1)] := by
  refine Eqn.obj1 r_bits_Reader_Bit Plain.ok ⟨rfl, fun _ => rfl⟩ ?_
  have h1 := rnum_ok ws a 1 hs (by omega) hn (by omega)
  have h2 : numAt ws a 1 = b2n ((bitsOf ws).getD a false) := by
    have := numAt_succ ws a 0 (by omega)
    rw [numAt_zero] at this
    simpa using this
  rw [h2] at h1
  generalize (bitsOf ws).getD a false = b at *
  have hb : (((b2n b : Nat) : Int) == 1) = b := by cases b <;> rfl
  generalize b2n b = B at *
  simp only [c_bits_Reader_Bit, rdO] at h1 ⊢
  generalize a + 1 = a1 at *
  repeat (first | refine AW.seq ?_ | refine AW.block ?_ | (refine AW.reg mix ?_; simp (implicitDefEqProofs := false); try simp (disch := omega) only [w64, wu64]) | (refine need.of (by first | omega | kernel_rfl) ?_) | (refine AW.fin ?_; try simp (implicitDefEqProofs := false)))
  simp at h1
  refine CallS.o1 0 (h1) ?_
  (try (simp (implicitDefEqProofs := false) [hb]; try simp (disch := omega) only [w64, wu64]))
  repeat (first | refine AW.seq ?_ | refine AW.block ?_ | (refine AW.reg mix ?_; simp (implicitDefEqProofs := false) [hb]; try simp (disch := omega) only [w64, wu64]) | (refine need.of (by first | omega | kernel_rfl) ?_) | (refine AW.fin ?_; try simp (implicitDefEqProofs := false) [hb]))

/-- what is read: state, error, the place behind -/
def readR (ws : List Nat) (k a b at_ : Nat) : (Nat × Nat × Bool) × Int × Nat :=
  if 8 * ws.length - at_ < kwR k a b + twR k b + 1 then ((0, 0, false), 5, at_)
  else if wellRB k a b (numAt ws at_ (kwR k a b)) (numAt ws (at_ + kwR k a b) (twR k b)) ((bitsOf ws).getD (at_ + kwR k a b + twR k b) false) then ((numAt ws at_ (kwR k a b), numAt ws (at_ + kwR k a b) (twR k b), (bitsOf ws).getD (at_ + kwR k a b + twR k b) false), 0, at_ + kwR k a b + twR k b + 1)
  else ((0, 0, false), 4, at_ + kwR k a b + twR k b + 1)

theorem rread_ok (ws : List Nat) {k a b : Nat} (at_ : Nat) (h : GoodR k a b) (hs : smallB ws) (hn : ws.length ≤ 400000) (hat : at_ ≤ 8 * ws.length) (R : (Nat × Nat × Bool) × Int × Nat) (hR : R = readR ws k a b at_) :
    Eqn Tryz.prog n_reg_Param_Read [.d (parD k a b), .p 0 0] [rdO ws at_] (.tup [.d (tsD R.1.1 R.1.2.1 R.1.2.2), .d (.int .i64 R.2.1)]) [rdO ws R.2.2] := by
  refine Eqn.obj1 r_reg_Param_Read Plain.ok ⟨rfl, fun _ => rfl⟩ ?_
  have hc := rcheck_ok h
  have hb := rbits_ok h
  have hl := rleft_ok ws at_ (by omega) hat
  have h2 := widths_ok h
  have hkp := kwR_pos h
  have htl := twR_le h
  unfold readR at hR
  by_cases hend : 8 * ws.length - at_ < kwR k a b + twR k b + 1
  · rw [if_pos hend] at hR
    subst hR
    have hi : ((8 * ws.length - at_ : Nat) : Int) < (kwR k a b + twR k b + 1 : Nat) := by omega
    simp only [c_reg_Param_Read, parD, tsD, rdO] at hc hb hl ⊢
    generalize kwR k a b + twR k b + 1 = N at *
    generalize 8 * ws.length - at_ = L at *
    repeat (first | refine AW.seq ?_ | refine AW.block ?_ | (refine AW.reg mix ?_; simp (implicitDefEqProofs := false); try simp (disch := omega) only [w64, wu64]) | (refine need.of (by first | omega | kernel_rfl) ?_) | (refine AW.fin ?_; try simp (implicitDefEqProofs := false)))
    refine CallS.pu (hc) ?_
    (try (simp (implicitDefEqProofs := false); try simp (disch := omega) only [w64, wu64]))
    repeat (first | refine AW.seq ?_ | refine AW.block ?_ | (refine AW.reg mix ?_; simp (implicitDefEqProofs := false); try simp (disch := omega) only [w64, wu64]) | (refine need.of (by first | omega | kernel_rfl) ?_) | (refine AW.fin ?_; try simp (implicitDefEqProofs := false)))
    refine AW.cond rfl (fun h => ?_) (fun h => ?_)
    · simp at h
    repeat (first | refine AW.seq ?_ | refine AW.block ?_ | (refine AW.reg mix ?_; simp (implicitDefEqProofs := false); try simp (disch := omega) only [w64, wu64]) | (refine need.of (by first | omega | kernel_rfl) ?_) | (refine AW.fin ?_; try simp (implicitDefEqProofs := false)))
    refine CallS.o1 0 (hl) ?_
    (try (simp (implicitDefEqProofs := false); try simp (disch := omega) only [w64, wu64]))
    repeat (first | refine AW.seq ?_ | refine AW.block ?_ | (refine AW.reg mix ?_; simp (implicitDefEqProofs := false); try simp (disch := omega) only [w64, wu64]) | (refine need.of (by first | omega | kernel_rfl) ?_) | (refine AW.fin ?_; try simp (implicitDefEqProofs := false)))
    refine CallS.pu (hb) ?_
    (try (simp (implicitDefEqProofs := false) [hi, hend]; try simp (disch := omega) only [w64, wu64]))
    repeat (first | refine AW.seq ?_ | refine AW.block ?_ | (refine AW.reg mix ?_; simp (implicitDefEqProofs := false) [hi, hend]; try simp (disch := omega) only [w64, wu64]) | (refine need.of (by first | omega | kernel_rfl) ?_) | (refine AW.fin ?_; try simp (implicitDefEqProofs := false) [hi, hend]))
    refine AW.cond rfl (fun h => ?_) (fun h => ?_)
    · repeat (first | refine AW.seq ?_ | refine AW.block ?_ | (refine AW.reg mix ?_; simp (implicitDefEqProofs := false); try simp (disch := omega) only [w64, wu64]) | (refine need.of (by first | omega | kernel_rfl) ?_) | (refine AW.fin ?_; try simp (implicitDefEqProofs := false)))
    · simp [hend] at h
  · rw [if_neg hend] at hR
    have n1 := rnum_ok ws at_ (kwR k a b) hs (by omega) (by omega) (by omega)
    have n2 := rnum_ok ws (at_ + kwR k a b) (twR k b) hs (by omega) (by omega) (by omega)
    have n3 := rbit_ok ws (at_ + kwR k a b + twR k b) hs (by omega) (by omega)
    have lt1 := numAt_lt ws at_ (kwR k a b)
    have lt2 := numAt_lt ws (at_ + kwR k a b) (twR k b)
    have h2k : 2 ^ kwR k a b ≤ 2 ^ 10 := Nat.pow_le_pow_right (by omega) hkp.2
    have h2t : 2 ^ twR k b ≤ 2 ^ 5 := Nat.pow_le_pow_right (by omega) htl
    have hi : ¬ ((8 * ws.length - at_ : Nat) : Int) < (kwR k a b + twR k b + 1 : Nat) := by omega
    have hwl := rwell_ok h (numAt ws at_ (kwR k a b)) (numAt ws (at_ + kwR k a b) (twR k b)) ((bitsOf ws).getD (at_ + kwR k a b + twR k b) false)
    generalize numAt ws at_ (kwR k a b) = Y at *
    generalize numAt ws (at_ + kwR k a b) (twR k b) = T at *
    generalize (bitsOf ws).getD (at_ + kwR k a b + twR k b) false = F at *
    generalize hW : wellRB k a b Y T F = W at *
    have e1 : IntKind.i64.wrap (Y : Int) = Y := w64 (by omega) (by omega)
    have e2 : IntKind.i64.wrap (T : Int) = T := w64 (by omega) (by omega)
    simp only [c_reg_Param_Read, parD, tsD, rdO] at hc hb hl h2 n1 n2 n3 hwl ⊢
    generalize at_ + kwR k a b + twR k b + 1 = a3 at *
    generalize at_ + kwR k a b + twR k b = a2 at *
    generalize at_ + kwR k a b = a1 at *
    generalize kwR k a b + twR k b + 1 = N at *
    generalize kwR k a b = K at *
    generalize twR k b = TT at *
    generalize 8 * ws.length - at_ = L at *
    repeat (first | refine AW.seq ?_ | refine AW.block ?_ | (refine AW.reg mix ?_; simp (implicitDefEqProofs := false); try simp (disch := omega) only [w64, wu64]) | (refine need.of (by first | omega | kernel_rfl) ?_) | (refine AW.fin ?_; try simp (implicitDefEqProofs := false)))
    refine CallS.pu (hc) ?_
    (try (simp (implicitDefEqProofs := false); try simp (disch := omega) only [w64, wu64]))
    repeat (first | refine AW.seq ?_ | refine AW.block ?_ | (refine AW.reg mix ?_; simp (implicitDefEqProofs := false); try simp (disch := omega) only [w64, wu64]) | (refine need.of (by first | omega | kernel_rfl) ?_) | (refine AW.fin ?_; try simp (implicitDefEqProofs := false)))
    refine AW.cond rfl (fun h => ?_) (fun h => ?_)
    · simp at h
    repeat (first | refine AW.seq ?_ | refine AW.block ?_ | (refine AW.reg mix ?_; simp (implicitDefEqProofs := false); try simp (disch := omega) only [w64, wu64]) | (refine need.of (by first | omega | kernel_rfl) ?_) | (refine AW.fin ?_; try simp (implicitDefEqProofs := false)))
    refine CallS.o1 0 (hl) ?_
    (try (simp (implicitDefEqProofs := false); try simp (disch := omega) only [w64, wu64]))
    repeat (first | refine AW.seq ?_ | refine AW.block ?_ | (refine AW.reg mix ?_; simp (implicitDefEqProofs := false); try simp (disch := omega) only [w64, wu64]) | (refine need.of (by first | omega | kernel_rfl) ?_) | (refine AW.fin ?_; try simp (implicitDefEqProofs := false)))
    refine CallS.pu (hb) ?_
    (try (simp (implicitDefEqProofs := false) [hi, hend]; try simp (disch := omega) only [w64, wu64]))
    repeat (first | refine AW.seq ?_ | refine AW.block ?_ | (refine AW.reg mix ?_; simp (implicitDefEqProofs := false) [hi, hend]; try simp (disch := omega) only [w64, wu64]) | (refine need.of (by first | omega | kernel_rfl) ?_) | (refine AW.fin ?_; try simp (implicitDefEqProofs := false) [hi, hend]))
    refine AW.cond rfl (fun h => ?_) (fun h => ?_)
    · simp [hend] at h
    repeat (first | refine AW.seq ?_ | refine AW.block ?_ | (refine AW.reg mix ?_; simp (implicitDefEqProofs := false); try simp (disch := omega) only [w64, wu64]) | (refine need.of (by first | omega | kernel_rfl) ?_) | (refine AW.fin ?_; try simp (implicitDefEqProofs := false)))
    refine CallS.pu (h2) ?_
    (try (simp (implicitDefEqProofs := false); try simp (disch := omega) only [w64, wu64]))
    repeat (first | refine AW.seq ?_ | refine AW.block ?_ | (refine AW.reg mix ?_; simp (implicitDefEqProofs := false); try simp (disch := omega) only [w64, wu64]) | (refine need.of (by first | omega | kernel_rfl) ?_) | (refine AW.fin ?_; try simp (implicitDefEqProofs := false)))
    refine CallS.o1 0 (n1) ?_
    (try (simp (implicitDefEqProofs := false); try simp (disch := omega) only [w64, wu64]))
    repeat (first | refine AW.seq ?_ | refine AW.block ?_ | (refine AW.reg mix ?_; simp (implicitDefEqProofs := false); try simp (disch := omega) only [w64, wu64]) | (refine need.of (by first | omega | kernel_rfl) ?_) | (refine AW.fin ?_; try simp (implicitDefEqProofs := false)))
    refine CallS.o1 0 (n2) ?_
    (try (simp (implicitDefEqProofs := false); try simp (disch := omega) only [w64, wu64]))
    repeat (first | refine AW.seq ?_ | refine AW.block ?_ | (refine AW.reg mix ?_; simp (implicitDefEqProofs := false); try simp (disch := omega) only [w64, wu64]) | (refine need.of (by first | omega | kernel_rfl) ?_) | (refine AW.fin ?_; try simp (implicitDefEqProofs := false)))
    refine CallS.o1 0 (n3) ?_
    (try (simp (implicitDefEqProofs := false) [e1, e2]; try simp (disch := omega) only [w64, wu64]))
    repeat (first | refine AW.seq ?_ | refine AW.block ?_ | (refine AW.reg mix ?_; simp (implicitDefEqProofs := false) [e1, e2]; try simp (disch := omega) only [w64, wu64]) | (refine need.of (by first | omega | kernel_rfl) ?_) | (refine AW.fin ?_; try simp (implicitDefEqProofs := false) [e1, e2]))
    refine CallS.pu (hwl) ?_
    (try (simp (implicitDefEqProofs := false); try simp (disch := omega) only [w64, wu64]))
    repeat (first | refine AW.seq ?_ | refine AW.block ?_ | (refine AW.reg mix ?_; simp (implicitDefEqProofs := false); try simp (disch := omega) only [w64, wu64]) | (refine need.of (by first | omega | kernel_rfl) ?_) | (refine AW.fin ?_; try simp (implicitDefEqProofs := false)))
    cases W with
    | true =>
      rw [if_pos rfl] at hR
      subst hR
      refine AW.cond rfl (fun h => ?_) (fun h => ?_)
      · simp at h
      · repeat (first | refine AW.seq ?_ | refine AW.block ?_ | (refine AW.reg mix ?_; simp (implicitDefEqProofs := false); try simp (disch := omega) only [w64, wu64]) | (refine need.of (by first | omega | kernel_rfl) ?_) | (refine AW.fin ?_; try simp (implicitDefEqProofs := false)))
    | false =>
      rw [if_neg (by simp)] at hR
      subst hR
      refine AW.cond rfl (fun h => ?_) (fun h => ?_)
      · repeat (first | refine AW.seq ?_ | refine AW.block ?_ | (refine AW.reg mix ?_; simp (implicitDefEqProofs := false); try simp (disch := omega) only [w64, wu64]) | (refine need.of (by first | omega | kernel_rfl) ?_) | (refine AW.fin ?_; try simp (implicitDefEqProofs := false)))
      · simp at h
end
end Go.Proofs.YtdbfenhaljmbfaaGreat.Am
namespace Go.Proofs.YtdbfenhaljmbfaaGreat.Am
section
set_option linter.unusedVariables false
set_option linter.unusedSimpArgs false
/-- a number of bits, the lowest first -/
def ofB (f : Nat → Bool) : Nat → Nat
  | 0 => 0
  | n + 1 => ofB f n + (if f n then 2 ^ n else 0)
theorem ofB_lt (f : Nat → Bool) : ∀ n, ofB f n < 2 ^ n
  | 0 => by simp [ofB]
  | n + 1 => by
    have := ofB_lt f n
    rw [ofB, Nat.pow_succ]
    split <;> omega
theorem ofB_bit (f : Nat → Bool) : ∀ n i, i < n → (ofB f n).testBit i = f i
  | 0, i, h => by omega
  | n + 1, i, h => by
    have hl := ofB_lt f n
    rw [ofB]
    by_cases hi : i = n
    · subst hi
      split
      · rename_i hf
        rw [Nat.add_comm, Nat.testBit_two_pow_add_eq, Nat.testBit_lt_two_pow hl, hf]; rfl
      · rename_i hf
        rw [Nat.add_zero, Nat.testBit_lt_two_pow hl]; simpa using hf
    · split
      · rw [Nat.add_comm, Nat.testBit_two_pow_add_gt (by omega), ofB_bit f n i (by omega)]
      · rw [Nat.add_zero, ofB_bit f n i (by omega)]
theorem ofB_ext {f g : Nat → Bool} : ∀ n, (∀ i, i < n → f i = g i) → ofB f n = ofB g n
  | 0, _ => rfl
  | n + 1, h => by rw [ofB, ofB, ofB_ext n (fun i hi => h i (by omega)), h n (by omega)]
/-- bits of numbers of one width, one behind the other -/
def bitX (w : Nat) (xs : List Nat) (k : Nat) : Bool := (xs.getD (k / w) 0).testBit (k % w)
def nwP (n w : Nat) : Nat := (n * w + 63) / 64
/-- words that hold them -/
def wordsP (w : Nat) (xs : List Nat) : List Nat := (List.range (nwP xs.length w)).map fun j => ofB (fun b => bitX w xs (64 * j + b)) 64
@[simp] theorem wordsP_len (w : Nat) (xs : List Nat) : (wordsP w xs).length = nwP xs.length w := by simp [wordsP]
theorem wordsP_get {w : Nat} {xs : List Nat} {j : Nat} (h : j < nwP xs.length w) : (wordsP w xs).getD j 0 = ofB (fun b => bitX w xs (64 * j + b)) 64 := by
  unfold wordsP; rw [List.getD_eq_getElem?_getD, List.getElem?_map, List.getElem?_range h]; rfl
theorem wordsP_lt {w : Nat} {xs : List Nat} (j : Nat) : (wordsP w xs).getD j 0 < 2 ^ 64 := by
  by_cases h : j < nwP xs.length w
  · rw [wordsP_get h]; exact ofB_lt _ _
  · rw [List.getD_eq_getElem?_getD, List.getElem?_eq_none (by simp; omega)]; simp
theorem wordsP_bit {w : Nat} {xs : List Nat} {j b : Nat} (h : j < nwP xs.length w) (hb : b < 64) : ((wordsP w xs).getD j 0).testBit b = bitX w xs (64 * j + b) := by rw [wordsP_get h, ofB_bit _ _ _ hb]
theorem bitX_at {w : Nat} {xs : List Nat} {i b : Nat} (hb : b < w) : bitX w xs (i * w + b) = (xs.getD i 0).testBit b := by
  unfold bitX
  rw [Nat.mul_comm, Nat.mul_add_div (by omega), Nat.div_eq_of_lt hb, Nat.add_zero, Nat.mul_add_mod, Nat.mod_eq_of_lt hb]
theorem bitX_set {w : Nat} {xs : List Nat} {i v k : Nat} (hw : 0 < w) (hi : i < xs.length) : bitX w (xs.set i v) k = if i * w ≤ k ∧ k < i * w + w then v.testBit (k - i * w) else bitX w xs k := by
  unfold bitX
  have e := Nat.div_add_mod k w
  have hm := Nat.mod_lt k hw
  rw [List.getD_eq_getElem?_getD, List.getD_eq_getElem?_getD, List.getElem?_set]
  by_cases h : i = k / w
  · subst h
    have e2 : k / w * w = w * (k / w) := Nat.mul_comm _ _
    rw [if_pos rfl, if_pos hi, if_pos (by omega), show k - k / w * w = k % w by omega]
    rfl
  · rw [if_neg h, if_neg]
    rintro ⟨h1, h2⟩
    apply h
    have h3 : i ≤ k / w := (Nat.le_div_iff_mul_le hw).2 h1
    have h4 : k / w < i + 1 := (Nat.div_lt_iff_lt_mul hw).2 (by rw [Nat.add_mul]; omega)
    omega

def smallP (w : Nat) (xs : List Nat) : Prop := ∀ x ∈ xs, x < 2 ^ w
theorem smallP_get {w : Nat} {xs : List Nat} (h : smallP w xs) (i : Nat) : xs.getD i 0 < 2 ^ w := by
  rw [List.getD_eq_getElem?_getD]
  cases hx : xs[i]? with
  | none => simp [Nat.two_pow_pos]
  | some x => exact h x (List.mem_of_getElem? hx)

theorem div_bit (x r b : Nat) : (x / 2 ^ r).testBit b = x.testBit (r + b) := by rw [Nat.testBit_div_two_pow, Nat.add_comm]
theorem shl_bit (x s b : Nat) : (x * 2 ^ s % 2 ^ 64).testBit b = (decide (b < 64) && (decide (s ≤ b) && x.testBit (b - s))) := by rw [Nat.testBit_mod_two_pow, Nat.testBit_mul_two_pow]
theorem mask_bit (w b : Nat) : (2 ^ w - 1).testBit b = decide (b < w) := Nat.testBit_two_pow_sub_one w b

/-- what is read, when it lies in one word -/
theorem pget1 {w : Nat} {xs : List Nat} {i : Nat} (hs : smallP w xs) (hw : w ≤ 32) (hi : i < xs.length) (hr : i * w % 64 + w ≤ 64) : (wordsP w xs).getD (i * w / 64) 0 / 2 ^ (i * w % 64) &&& (2 ^ w - 1) = xs.getD i 0 := by
  have e := Nat.div_add_mod (i * w) 64
  by_cases hw0 : w = 0
  · subst hw0
    have := smallP_get hs i
    simp at this ⊢; omega
  have hle : i * w + w ≤ xs.length * w := by rw [← Nat.succ_mul]; exact Nat.mul_le_mul_right w hi
  apply Nat.eq_of_testBit_eq
  intro b
  rw [Nat.testBit_and, mask_bit, div_bit]
  by_cases hb : b < w
  · rw [wordsP_bit (by unfold nwP; omega) (by omega), show 64 * (i * w / 64) + (i * w % 64 + b) = i * w + b by omega, bitX_at hb]
    simp [hb]
  · have : (xs.getD i 0).testBit b = false := Nat.testBit_lt_two_pow (Nat.lt_of_lt_of_le (smallP_get hs i) (Nat.pow_le_pow_right (by omega) (by omega)))
    rw [this]; simp [hb]
/-- in two words -/
theorem pget2 {w : Nat} {xs : List Nat} {i : Nat} (hs : smallP w xs) (hw : w ≤ 32) (hi : i < xs.length) (hr : 64 < i * w % 64 + w) : ((wordsP w xs).getD (i * w / 64) 0 / 2 ^ (i * w % 64) ||| (wordsP w xs).getD (i * w / 64 + 1) 0 * 2 ^ (64 - i * w % 64) % 2 ^ 64) &&& (2 ^ w - 1) = xs.getD i 0 := by
  have e := Nat.div_add_mod (i * w) 64
  have hle : i * w + w ≤ xs.length * w := by rw [← Nat.succ_mul]; exact Nat.mul_le_mul_right w hi
  apply Nat.eq_of_testBit_eq
  intro b
  rw [Nat.testBit_and, mask_bit, Nat.testBit_or, div_bit, shl_bit]
  by_cases hb : b < w
  · by_cases h64 : i * w % 64 + b < 64
    · rw [wordsP_bit (by unfold nwP; omega) h64, show 64 * (i * w / 64) + (i * w % 64 + b) = i * w + b by omega, bitX_at hb]
      have : ¬ 64 - i * w % 64 ≤ b := by omega
      simp [hb, this]
    · have h1 : ((wordsP w xs).getD (i * w / 64) 0).testBit (i * w % 64 + b) = false := Nat.testBit_lt_two_pow (Nat.lt_of_lt_of_le (wordsP_lt _) (Nat.pow_le_pow_right (by omega) (by omega)))
      rw [h1, wordsP_bit (j := i * w / 64 + 1) (by unfold nwP; omega) (by omega), show 64 * (i * w / 64 + 1) + (b - (64 - i * w % 64)) = i * w + b by omega, bitX_at hb]
      have h2 : 64 - i * w % 64 ≤ b := by omega
      have h3 : b < 64 := by omega
      simp [hb, h2, h3]
  · have : (xs.getD i 0).testBit b = false := Nat.testBit_lt_two_pow (Nat.lt_of_lt_of_le (smallP_get hs i) (Nat.pow_le_pow_right (by omega) (by omega)))
    rw [this]; simp [hb]

/-- bits taken out -/
def andN (x y : Nat) : Nat := x &&& (2 ^ 64 - 1 - y)
theorem andN_bit {x y : Nat} (hx : x < 2 ^ 64) (hy : y < 2 ^ 64) (b : Nat) : (andN x y).testBit b = (x.testBit b && !y.testBit b) := by
  unfold andN
  rw [Nat.testBit_and, Nat.sub_sub, Nat.add_comm 1 y, Nat.testBit_two_pow_sub_succ hy]
  by_cases hb : b < 64
  · simp [hb]
  · have : x.testBit b = false := Nat.testBit_lt_two_pow (Nat.lt_of_lt_of_le hx (Nat.pow_le_pow_right (by omega) (by omega)))
    simp [this]

theorem word_eq {x : Nat} {f : Nat → Bool} (hx : x < 2 ^ 64) (h : ∀ b, b < 64 → x.testBit b = f b) : x = ofB f 64 := by
  apply Nat.eq_of_testBit_eq
  intro b
  by_cases hb : b < 64
  · rw [h b hb, ofB_bit _ _ _ hb]
  · have h2 : 2 ^ 64 ≤ 2 ^ b := Nat.pow_le_pow_right (by omega) (by omega)
    rw [Nat.testBit_lt_two_pow (Nat.lt_of_lt_of_le hx h2), Nat.testBit_lt_two_pow (Nat.lt_of_lt_of_le (ofB_lt f 64) h2)]

/-- the first word -/
def setW1 (w : Nat) (x v r : Nat) : Nat := andN x ((2 ^ w - 1) * 2 ^ r % 2 ^ 64) ||| v * 2 ^ r % 2 ^ 64
/-- the second one -/
def setW2 (w : Nat) (x v s : Nat) : Nat := andN x ((2 ^ w - 1) / 2 ^ s) ||| v / 2 ^ s
theorem andN_lt {x y : Nat} (hx : x < 2 ^ 64) : andN x y < 2 ^ 64 := Nat.lt_of_le_of_lt Nat.and_le_left hx
theorem set_w1 {w : Nat} {xs : List Nat} {i v : Nat} (hw : w ≤ 32) (hw0 : 0 < w) (hi : i < xs.length) (hv : v < 2 ^ w) : setW1 w ((wordsP w xs).getD (i * w / 64) 0) v (i * w % 64) = (wordsP w (xs.set i v)).getD (i * w / 64) 0 := by
  have e := Nat.div_add_mod (i * w) 64
  have hle : i * w + w ≤ xs.length * w := by rw [← Nat.succ_mul]; exact Nat.mul_le_mul_right w hi
  have hm : i * w % 64 < 64 := Nat.mod_lt _ (by omega)
  rw [wordsP_get (xs := xs.set i v) (by simp only [List.length_set]; unfold nwP; omega)]
  apply word_eq
  · exact Nat.or_lt_two_pow (andN_lt (wordsP_lt _)) (Nat.mod_lt _ (by omega))
  · intro b hb
    unfold setW1
    rw [Nat.testBit_or, andN_bit (wordsP_lt _) (Nat.mod_lt _ (by omega)), shl_bit, shl_bit, mask_bit, wordsP_bit (by unfold nwP; omega) hb, bitX_set hw0 hi]
    by_cases h1 : i * w % 64 ≤ b
    · by_cases h2 : b < i * w % 64 + w
      · rw [if_pos (by omega), show 64 * (i * w / 64) + b - i * w = b - i * w % 64 by omega]
        have h3 : b - i * w % 64 < w := by omega
        simp [hb, h1, h3]
      · rw [if_neg (by omega)]
        have h3 : ¬ b - i * w % 64 < w := by omega
        have h4 : v.testBit (b - i * w % 64) = false := Nat.testBit_lt_two_pow (Nat.lt_of_lt_of_le hv (Nat.pow_le_pow_right (by omega) (by omega)))
        simp [hb, h1, h3, h4]
    · rw [if_neg (by omega)]
      simp [hb, h1]
theorem set_w2 {w : Nat} {xs : List Nat} {i v : Nat} (hw : w ≤ 32) (hi : i < xs.length) (hv : v < 2 ^ w) (hr : 64 < i * w % 64 + w) : setW2 w ((wordsP w xs).getD (i * w / 64 + 1) 0) v (64 - i * w % 64) = (wordsP w (xs.set i v)).getD (i * w / 64 + 1) 0 := by
  have e := Nat.div_add_mod (i * w) 64
  have hle : i * w + w ≤ xs.length * w := by rw [← Nat.succ_mul]; exact Nat.mul_le_mul_right w hi
  have hm : i * w % 64 < 64 := Nat.mod_lt _ (by omega)
  have h32 : 2 ^ w ≤ 2 ^ 32 := Nat.pow_le_pow_right (by omega) hw
  have hv64 : v / 2 ^ (64 - i * w % 64) < 2 ^ 64 := Nat.lt_of_le_of_lt (Nat.div_le_self _ _) (by omega)
  have hm64 : (2 ^ w - 1) / 2 ^ (64 - i * w % 64) < 2 ^ 64 := Nat.lt_of_le_of_lt (Nat.div_le_self _ _) (by omega)
  rw [wordsP_get (xs := xs.set i v) (by simp only [List.length_set]; unfold nwP; omega)]
  apply word_eq
  · exact Nat.or_lt_two_pow (andN_lt (wordsP_lt _)) hv64
  · intro b hb
    unfold setW2
    rw [Nat.testBit_or, andN_bit (wordsP_lt _) hm64, div_bit, div_bit, mask_bit, wordsP_bit (by unfold nwP; omega) hb, bitX_set (by omega) hi]
    by_cases h2 : 64 - i * w % 64 + b < w
    · rw [if_pos (by omega), show 64 * (i * w / 64 + 1) + b - i * w = 64 - i * w % 64 + b by omega]
      simp [h2]
    · rw [if_neg (by omega)]
      have h4 : v.testBit (64 - i * w % 64 + b) = false := Nat.testBit_lt_two_pow (Nat.lt_of_lt_of_le hv (Nat.pow_le_pow_right (by omega) (by omega)))
      simp [h2, h4]
theorem set_other {w : Nat} {xs : List Nat} {i v j : Nat} (hw0 : 0 < w) (hi : i < xs.length) (h1 : j ≠ i * w / 64) (h2 : i * w % 64 + w ≤ 64 ∨ j ≠ i * w / 64 + 1) (hw : w ≤ 32) : (wordsP w (xs.set i v))[j]? = (wordsP w xs)[j]? := by
  have e := Nat.div_add_mod (i * w) 64
  have hm : i * w % 64 < 64 := Nat.mod_lt _ (by omega)
  unfold wordsP
  simp only [List.length_set, List.getElem?_map]
  cases hj : (List.range (nwP xs.length w))[j]? with
  | none => rfl
  | some j' =>
    have : j' = j := by
      have := List.getElem?_eq_some_iff.1 hj
      obtain ⟨h, rfl⟩ := this
      simp
    subst this
    simp only [Option.map_some, Option.some.injEq]
    apply ofB_ext
    intro b hb
    rw [bitX_set hw0 hi, if_neg]
    omega
/-- a number is put into its place -/
theorem pset1 {w : Nat} {xs : List Nat} {i v : Nat} (hw : w ≤ 32) (hw0 : 0 < w) (hi : i < xs.length) (hv : v < 2 ^ w) (hr : i * w % 64 + w ≤ 64) : (wordsP w xs).set (i * w / 64) (setW1 w ((wordsP w xs).getD (i * w / 64) 0) v (i * w % 64)) = wordsP w (xs.set i v) := by
  have e := Nat.div_add_mod (i * w) 64
  have hle : i * w + w ≤ xs.length * w := by rw [← Nat.succ_mul]; exact Nat.mul_le_mul_right w hi
  have hq : i * w / 64 < nwP xs.length w := by unfold nwP; omega
  rw [set_w1 hw hw0 hi hv]
  apply List.ext_getElem?
  intro j
  rw [List.getElem?_set]
  by_cases h : i * w / 64 = j
  · subst h
    rw [if_pos rfl, if_pos (by simpa using hq), List.getD_eq_getElem?_getD, List.getElem?_eq_getElem (by simpa using hq)]; rfl
  · rw [if_neg h, set_other hw0 hi (fun h' => h h'.symm) (.inl hr) hw]
theorem pset2 {w : Nat} {xs : List Nat} {i v : Nat} (hw : w ≤ 32) (hi : i < xs.length) (hv : v < 2 ^ w) (hr : 64 < i * w % 64 + w) :
    ((wordsP w xs).set (i * w / 64) (setW1 w ((wordsP w xs).getD (i * w / 64) 0) v (i * w % 64))).set (i * w / 64 + 1) (setW2 w ((wordsP w xs).getD (i * w / 64 + 1) 0) v (64 - i * w % 64)) = wordsP w (xs.set i v) := by
  have e := Nat.div_add_mod (i * w) 64
  have hle : i * w + w ≤ xs.length * w := by rw [← Nat.succ_mul]; exact Nat.mul_le_mul_right w hi
  have hq : i * w / 64 + 1 < nwP xs.length w := by unfold nwP; omega
  rw [set_w1 hw (by omega) hi hv, set_w2 hw hi hv hr]
  apply List.ext_getElem?
  intro j
  rw [List.getElem?_set, List.getElem?_set]
  by_cases h2 : i * w / 64 + 1 = j
  · subst h2
    rw [if_pos rfl, if_pos (by simpa using hq), List.getD_eq_getElem?_getD, List.getElem?_eq_getElem (by simpa using hq)]; rfl
  · rw [if_neg h2]
    by_cases h : i * w / 64 = j
    · subst h
      rw [if_pos rfl, if_pos (by simp; omega), List.getD_eq_getElem?_getD, List.getElem?_eq_getElem (by simp; omega)]; rfl
    · rw [if_neg h, set_other (by omega) hi (fun h' => h h'.symm) (.inr fun h' => h2 h'.symm) hw]
theorem wordsP_zero (n w : Nat) : wordsP w (List.replicate n 0) = List.replicate (nwP n w) 0 := by
  apply List.ext_getElem?
  intro j
  unfold wordsP
  simp only [List.getElem?_map, List.length_replicate, List.getElem?_replicate]
  by_cases h : j < nwP n w
  · rw [List.getElem?_range h, if_pos h]
    simp only [Option.map_some, Option.some.injEq]
    have h0 : ∀ k, bitX w (List.replicate n 0) k = false := by
      intro k
      unfold bitX
      have : (List.replicate n 0).getD (k / w) 0 = 0 := by
        rw [List.getD_eq_getElem?_getD, List.getElem?_replicate]; split <;> rfl
      rw [this]; simp
    simp only [h0]
    decide
  · rw [List.getElem?_eq_none (by simp; omega), if_neg h]; rfl
end
end Go.Proofs.YtdbfenhaljmbfaaGreat.Am
namespace Go.Proofs.YtdbfenhaljmbfaaGreat.Am
section
set_option linter.unusedVariables false
set_option linter.unusedSimpArgs false
open Go.RowKit
set_option maxRecDepth 100000
set_option linter.unusedSimpArgs false
set_option linter.unusedVariables false

/-- words in cells -/
def u64s (ws : List Nat) : List V := ws.map fun x : Nat => V.d (.int .u64 x)
theorem u64s_length (ws : List Nat) : (u64s ws).length = ws.length := by simp [u64s]
theorem u64s_get {ws : List Nat} {j : Nat} (h : j < ws.length) : (u64s ws)[j]? = some (.d (.int .u64 (ws.getD j 0 : Nat))) := by simp [u64s, h]
theorem u64s_set (ws : List Nat) (j v : Nat) : (u64s ws).set j (.d (.int .u64 v)) = u64s (ws.set j v) := by simp [u64s, List.map_set]
@[simp] theorem u64s_low (n : Nat) (ws : List Nat) : V.lowl n (u64s ws) = true := by induction ws <;> simp_all [u64s]
@[simp] theorem u64s_ren (θ : Nat → Nat) (ws : List Nat) : V.rens θ (u64s ws) = u64s ws := by induction ws <;> simp_all [u64s]
/-- a vector's variable, its words -/
def vecO (m n w : Nat) : Ob := ⟨169, [.own m 1 (nwP n w), .d (.int .i64 n), .d (.int .i64 w)]⟩
def vecB (w : Nat) (xs : List Nat) : Ob := ⟨80, u64s (wordsP w xs)⟩

theorem and_u64 (x y : Nat) (hx : x < 18446744073709551616) (hy : y < 18446744073709551616) : bits BinOp.and IntKind.u64 (x : Int) (y : Int) = ((x &&& y : Nat) : Int) := by
  show IntKind.u64.wrap (((BitVec.ofInt 64 (x : Int)) &&& (BitVec.ofInt 64 (y : Int))).toNat : Int) = _
  rw [BitVec.toNat_and, BitVec.ofInt_natCast, BitVec.ofInt_natCast, BitVec.toNat_ofNat, BitVec.toNat_ofNat, Nat.mod_eq_of_lt (by omega), Nat.mod_eq_of_lt (by omega)]
  have : x &&& y ≤ x := Nat.and_le_left
  rw [IntKind.wrap_u64]
  omega
theorem andNot_u64 (x y : Nat) (hx : x < 18446744073709551616) (hy : y < 18446744073709551616) : bits BinOp.andNot IntKind.u64 (x : Int) (y : Int) = ((andN x y : Nat) : Int) := by
  show IntKind.u64.wrap (((BitVec.ofInt 64 (x : Int)) &&& ~~~(BitVec.ofInt 64 (y : Int))).toNat : Int) = _
  rw [BitVec.toNat_and, BitVec.toNat_not, BitVec.ofInt_natCast, BitVec.ofInt_natCast, BitVec.toNat_ofNat, BitVec.toNat_ofNat, Nat.mod_eq_of_lt (by omega), Nat.mod_eq_of_lt (by omega)]
  have : x &&& (2 ^ 64 - 1 - y) ≤ x := Nat.and_le_left
  rw [IntKind.wrap_u64]
  unfold andN
  omega

theorem pnew_ok (n w : Nat) (hn : n ≤ 256) (hw0 : 0 < w) (hw : w ≤ 32) : Eqn Tryz.prog n_pack_New [.d (.int .i64 n), .d (.int .i64 w)] [] (.tup [.p 0 0, .d (.int .i64 0)]) [vecO 1 n w, vecB w (List.replicate n 0)] := by
  refine Eqn.gen [1, 0] r_pack_New (by simp) (by simp) (by rfl) (by decide) (by simp) (by simp [vecO, vecB]) ?_
  have hb : n * w ≤ 256 * 32 := Nat.mul_le_mul hn hw
  have g1 : ¬ (n : Int) < 0 := by omega
  have g2 : ¬ (256 : Int) < n := by omega
  have g3 : ¬ (w : Int) < 1 := by omega
  have g4 : ¬ (32 : Int) < w := by omega
  have e1 : IntKind.i64.wrap ((n : Int) * w) = ((n * w : Nat) : Int) := by rw [w64 (by rw [← Int.natCast_mul]; omega) (by rw [← Int.natCast_mul]; omega), Int.natCast_mul]
  simp only [c_pack_New, vecO, vecB, wordsP_zero]
  unfold nwP
  generalize n * w = Z at *
  have e2 : IntKind.i64.wrap ((Z : Int) + 64) = ((Z + 64 : Nat) : Int) := by rw [w64 (by omega) (by omega)]; omega
  have e3 : IntKind.i64.wrap ((Z + 64 : Nat) - 1 : Int) = ((Z + 63 : Nat) : Int) := by rw [w64 (by omega) (by omega)]; omega
  have e4 : IntKind.i64.wrap (((Z + 63 : Nat) : Int) / 64) = (((Z + 63) / 64 : Nat) : Int) := by rw [w64 (by omega) (by omega)]; rfl
  have hq : (Z + 63) / 64 ≤ 1000 := by omega
  generalize (Z + 63) / 64 = q at *
  generalize Z + 63 = Z1 at *
  generalize Z + 64 = Z2 at *
  have hrep : u64s (List.replicate q 0) = List.replicate q (V.d (.int .u64 0)) := by simp [u64s]
  have hren : ∀ θ, V.rens θ (u64s (List.replicate q 0)) = u64s (List.replicate q 0) := fun θ => u64s_ren θ _
  rw [hrep] at hren ⊢
  repeat (first | refine AW.seq ?_ | refine AW.block ?_ | (refine AW.reg mix ?_; simp (implicitDefEqProofs := false) [g1, g2, g3, g4]; try simp (disch := omega) only [w64, wu64]) | (refine need.of (by first | omega | kernel_rfl) ?_) | (refine AW.fin ?_; try simp (implicitDefEqProofs := false) [g1, g2, g3, g4]))
  refine AW.cond rfl (fun h => ?_) (fun h => ?_)
  · simp at h
  · repeat (first | refine AW.seq ?_ | refine AW.block ?_ | (refine AW.reg mix ?_; simp (implicitDefEqProofs := false) [e1, e2, e3, e4, hren]; try simp (disch := omega) only [w64, wu64]) | (refine need.of (by first | omega | kernel_rfl) ?_) | (refine AW.fin ?_; try simp (implicitDefEqProofs := false) [e1, e2, e3, e4, hren]))

/-- a vector that stays as it is -/
def vecD (w : Nat) (xs : List Nat) : List D := [.sl (nwP xs.length w) ((wordsP w xs).map fun x : Nat => D.int .u64 x), .int .i64 xs.length, .int .i64 w]

theorem place_ok (w : Nat) (xs : List Nat) (i : Nat) (hi : i < xs.length) (hn : xs.length ≤ 256) (hw : w ≤ 32) : Eqn Tryz.prog n_pack_Vector_place [.ia (vecD w xs) 0, .d (.int .i64 i)] [] (.tup [.d (.int .i64 (i * w / 64 : Nat)), .d (.int .i64 (i * w % 64 : Nat))]) [] := by
  refine Eqn.pure r_pack_Vector_place Plain.ok ?_
  have hb : i * w ≤ 256 * 32 := Nat.mul_le_mul (by omega) hw
  have e1 : IntKind.i64.wrap ((i : Int) * w) = ((i * w : Nat) : Int) := by rw [w64 (by rw [← Int.natCast_mul]; omega) (by rw [← Int.natCast_mul]; omega), Int.natCast_mul]
  simp only [c_pack_Vector_place, vecD]
  generalize i * w = Z at *
  have e2 : IntKind.i64.wrap ((Z : Int) / 64) = ((Z / 64 : Nat) : Int) := by rw [w64 (by omega) (by omega)]; rfl
  have e3 : (Z : Int).tmod 64 = ((Z % 64 : Nat) : Int) := by rw [Int.tmod_eq_emod_of_nonneg (by omega)]; rfl
  generalize Z / 64 = q at *
  generalize Z % 64 = r at *
  repeat (first | refine AW.seq ?_ | refine AW.block ?_ | (refine AW.reg mix ?_; simp (implicitDefEqProofs := false) [e1, e2, e3]; try simp (disch := omega) only [w64, wu64]) | (refine need.of (by first | omega | kernel_rfl) ?_) | (refine AW.fin ?_; try simp (implicitDefEqProofs := false) [e1, e2, e3]))

theorem pmask_any (w : Nat) (N : Nat) (L : List D) (n : Int) (hw : w ≤ 32) : Eqn Tryz.prog n_pack_Vector_mask [.ia [.sl N L, .int .i64 n, .int .i64 w] 0] [] (.d (.int .u64 (2 ^ w - 1 : Nat))) [] := by
  refine Eqn.pure r_pack_Vector_mask Plain.ok ?_
  have h32 : 2 ^ w ≤ 2 ^ 32 := Nat.pow_le_pow_right (by omega) hw
  have h0 : 0 < 2 ^ w := Nat.two_pow_pos w
  have e0 : (2 : Int) ^ w = (2 ^ w : Nat) := by rw [Int.natCast_pow]; rfl
  have hw64 : w ≤ 64 := by omega
  simp only [c_pack_Vector_mask]
  generalize 2 ^ w = S at *
  have e3 : IntKind.u64.wrap (S : Int) = S := wu64 (by omega) (by omega)
  have e4 : IntKind.u64.wrap ((S : Int) - 1) = ((S - 1 : Nat) : Int) := by rw [wu64 (by omega) (by omega)]; omega
  repeat (first | refine AW.seq ?_ | refine AW.block ?_ | (refine AW.reg mix ?_; simp (implicitDefEqProofs := false) [e0, e3, e4, hw64]; try simp (disch := omega) only [w64, wu64]) | (refine need.of (by first | omega | kernel_rfl) ?_) | (refine AW.fin ?_; try simp (implicitDefEqProofs := false) [e0, e3, e4, hw64]))

theorem pmask_ok (w : Nat) (xs : List Nat) (hw : w ≤ 32) : Eqn Tryz.prog n_pack_Vector_mask [.ia (vecD w xs) 0] [] (.d (.int .u64 (2 ^ w - 1 : Nat))) [] := pmask_any w _ _ _ hw

theorem pwidth_ok (w : Nat) (xs : List Nat) : Eqn Tryz.prog n_pack_Vector_Width [.ia (vecD w xs) 0] [] (.d (.int .i64 w)) [] := by
  refine Eqn.pure r_pack_Vector_Width Plain.ok ?_
  simp only [c_pack_Vector_Width, vecD]
  repeat (first | refine AW.seq ?_ | refine AW.block ?_ | (refine AW.reg mix ?_; simp (implicitDefEqProofs := false); try simp (disch := omega) only [w64, wu64]) | (refine need.of (by first | omega | kernel_rfl) ?_) | (refine AW.fin ?_; try simp (implicitDefEqProofs := false)))

theorem pget_ok (w : Nat) (xs : List Nat) (i : Nat) (hi : i < xs.length) (hn : xs.length ≤ 256) (hw0 : 0 < w) (hw : w ≤ 32) (hs : smallP w xs) : Eqn Tryz.prog n_pack_Vector_Get [.ia (vecD w xs) 0, .d (.int .i64 i)] [] (.tup [.d (.int .u64 (xs.getD i 0 : Nat)), .d (.int .i64 0)]) [] := by
  refine Eqn.pure r_pack_Vector_Get Plain.ok ?_
  have hpl := place_ok w xs i hi hn hw
  have hma := pmask_ok w xs hw
  have g1 : ¬ (i : Int) < 0 := by omega
  have g2 : ¬ (xs.length : Int) ≤ i := by omega
  have e := Nat.div_add_mod (i * w) 64
  have hm64 : i * w % 64 < 64 := Nat.mod_lt _ (by omega)
  have hle : i * w + w ≤ xs.length * w := by rw [← Nat.succ_mul]; exact Nat.mul_le_mul_right w hi
  have hq : i * w / 64 < nwP xs.length w := by unfold nwP; omega
  have hq2 : 64 < i * w % 64 + w → i * w / 64 + 1 < nwP xs.length w := by intro h; unfold nwP; omega
  have hx1 := wordsP_lt (w := w) (xs := xs) (i * w / 64)
  have hx2 := wordsP_lt (w := w) (xs := xs) (i * w / 64 + 1)
  have hp1 := pget1 (i := i) hs hw hi
  have hp2 := pget2 (i := i) hs hw hi
  have hqb : i * w / 64 ≤ 1000 := by have : i * w ≤ 256 * 32 := Nat.mul_le_mul (by omega) hw; omega
  have hg1 : ∀ z : D, ((wordsP w xs).map fun x : Nat => D.int .u64 x)[i * w / 64]?.getD z = .int .u64 ((wordsP w xs).getD (i * w / 64) 0 : Nat) := fun z => by simp [hq]
  have hg2 : 64 < i * w % 64 + w → ∀ z : D, ((wordsP w xs).map fun x : Nat => D.int .u64 x)[i * w / 64 + 1]?.getD z = .int .u64 ((wordsP w xs).getD (i * w / 64 + 1) 0 : Nat) := fun h z => by simp [hq2 h]
  have h32 : 2 ^ w ≤ 2 ^ 32 := Nat.pow_le_pow_right (by omega) hw
  have hlen : ((wordsP w xs).map fun x : Nat => D.int .u64 x).length = nwP xs.length w := by simp
  simp only [c_pack_Vector_Get, vecD] at hpl hma ⊢
  generalize (wordsP w xs).getD (i * w / 64) 0 = x1 at *
  generalize (wordsP w xs).getD (i * w / 64 + 1) 0 = x2 at *
  generalize xs.getD i 0 = res at *
  generalize i * w / 64 = q at *
  generalize i * w % 64 = r at *
  generalize ((wordsP w xs).map fun x : Nat => D.int .u64 x) = L at *
  generalize nwP xs.length w = NW at *
  have e1 : (x1 : Int) / 2 ^ r = ((x1 / 2 ^ r : Nat) : Int) := by rw [Int.natCast_ediv, Int.natCast_pow]; rfl
  have e2 : IntKind.i64.wrap ((r : Int) + w) = ((r + w : Nat) : Int) := by rw [w64 (by omega) (by omega)]; omega
  have hx1r : x1 / 2 ^ r ≤ x1 := Nat.div_le_self _ _
  have hr64 : (r : Int) ≤ 64 := by omega
  by_cases hrw : r + w ≤ 64
  · replace hp1 := hp1 hrw
    have e3 := and_u64 (x1 / 2 ^ r) (2 ^ w - 1) (by omega) (by omega)
    rw [hp1] at e3
    generalize x1 / 2 ^ r = X1 at *
    generalize 2 ^ w - 1 = M at *
    have g3 : ¬ (64 : Int) < (r : Int) + w := by omega
    have g3' : ¬ (64 : Int) < (r + w : Nat) := by omega
    have g3'' : ¬ 64 < r + w := by omega
    generalize r + w = rw_ at *
    repeat (first | refine AW.seq ?_ | refine AW.block ?_ | (refine AW.reg mix ?_; simp (implicitDefEqProofs := false) [g1, g2]; try simp (disch := omega) only [w64, wu64]) | (refine need.of (by first | omega | kernel_rfl) ?_) | (refine AW.fin ?_; try simp (implicitDefEqProofs := false) [g1, g2]))
    refine AW.cond rfl (fun h => ?_) (fun h => ?_)
    · simp [g1, g2] at h
    repeat (first | refine AW.seq ?_ | refine AW.block ?_ | (refine AW.reg mix ?_; simp (implicitDefEqProofs := false) [-Bool.exists_bool]; try simp (disch := omega) only [w64, wu64]) | (refine need.of (by first | omega | kernel_rfl) ?_) | (refine AW.fin ?_; try simp (implicitDefEqProofs := false) [-Bool.exists_bool]))
    refine CallS.pu (hpl) ?_
    (try (simp (implicitDefEqProofs := false); try simp (disch := omega) only [w64, wu64]))
    repeat (first | refine AW.seq ?_ | refine AW.block ?_ | (refine AW.reg mix ?_; simp (implicitDefEqProofs := false); try simp (disch := omega) only [w64, wu64]) | (refine need.of (by first | omega | kernel_rfl) ?_) | (refine AW.fin ?_; try simp (implicitDefEqProofs := false)))
    repeat (first | refine AW.seq ?_ | refine AW.block ?_ | (refine AW.reg mix ?_; simp (implicitDefEqProofs := false) [hg1, e1, e2, hr64, g3, g3', g3'']; try simp (disch := omega) only [w64, wu64]) | (refine need.of (by first | omega | kernel_rfl) ?_) | (refine AW.fin ?_; try simp (implicitDefEqProofs := false) [hg1, e1, e2, hr64, g3, g3', g3'']))
    (try (simp (implicitDefEqProofs := false) [hg1, e1, e2, hr64, g3, g3', g3'']; try simp (disch := omega) only [w64, wu64]))
    repeat (first | refine AW.seq ?_ | refine AW.block ?_ | (refine AW.reg mix ?_; simp (implicitDefEqProofs := false) [hg1, e1, e2, hr64, g3, g3', g3'']; try simp (disch := omega) only [w64, wu64]) | (refine need.of (by first | omega | kernel_rfl) ?_) | (refine AW.fin ?_; try simp (implicitDefEqProofs := false) [hg1, e1, e2, hr64, g3, g3', g3'']))
    refine AW.cond rfl (fun h => ?_) (fun h => ?_)
    · simp [g3''] at h
    repeat (first | refine AW.seq ?_ | refine AW.block ?_ | (refine AW.reg mix ?_; simp (implicitDefEqProofs := false); try simp (disch := omega) only [w64, wu64]) | (refine need.of (by first | omega | kernel_rfl) ?_) | (refine AW.fin ?_; try simp (implicitDefEqProofs := false)))
    refine CallS.pu (hma) ?_
    (try (simp (implicitDefEqProofs := false) [e3]; try simp (disch := omega) only [w64, wu64]))
    repeat (first | refine AW.seq ?_ | refine AW.block ?_ | (refine AW.reg mix ?_; simp (implicitDefEqProofs := false) [e3]; try simp (disch := omega) only [w64, wu64]) | (refine need.of (by first | omega | kernel_rfl) ?_) | (refine AW.fin ?_; try simp (implicitDefEqProofs := false) [e3]))
  · have hr2 : 64 < r + w := by omega
    replace hp2 := hp2 hr2
    replace hg2 := hg2 hr2
    replace hq2 := hq2 hr2
    have e4 : IntKind.i64.wrap (64 - (r : Int)) = ((64 - r : Nat) : Int) := by rw [w64 (by omega) (by omega)]; omega
    have e5 : IntKind.u64.wrap ((x2 : Int) * 2 ^ (64 - r)) = ((x2 * 2 ^ (64 - r) % 2 ^ 64 : Nat) : Int) := by
      rw [IntKind.wrap_u64, Int.natCast_emod, Int.natCast_mul, Int.natCast_pow]; rfl
    have hx2m : x2 * 2 ^ (64 - r) % 2 ^ 64 < 2 ^ 64 := Nat.mod_lt _ (by omega)
    have e6 := or_u64 (x1 / 2 ^ r) (x2 * 2 ^ (64 - r) % 2 ^ 64) (by omega) (by omega)
    have hor := Nat.or_lt_two_pow (n := 64) (x := x1 / 2 ^ r) (y := x2 * 2 ^ (64 - r) % 2 ^ 64) (by omega) hx2m
    have e7 := and_u64 (x1 / 2 ^ r ||| x2 * 2 ^ (64 - r) % 2 ^ 64) (2 ^ w - 1) (by omega) (by omega)
    rw [hp2] at e7
    have hs64 : ((64 - r : Nat) : Int) ≤ 64 := by omega
    generalize x1 / 2 ^ r = X1 at *
    generalize x2 * 2 ^ (64 - r) % 2 ^ 64 = X2 at *
    generalize X1 ||| X2 = X3 at *
    generalize 2 ^ w - 1 = M at *
    generalize 64 - r = s at *
    have g3 : (64 : Int) < (r + w : Nat) := by omega
    have e8 : IntKind.i64.wrap ((q : Int) + 1) = ((q + 1 : Nat) : Int) := by rw [w64 (by omega) (by omega)]; omega
    generalize r + w = rw_ at *
    obtain ⟨q1, hq1⟩ : ∃ q1, q1 = q + 1 := ⟨_, rfl⟩
    rw [← hq1] at hg2 hq2 e8
    repeat (first | refine AW.seq ?_ | refine AW.block ?_ | (refine AW.reg mix ?_; simp (implicitDefEqProofs := false) [g1, g2]; try simp (disch := omega) only [w64, wu64]) | (refine need.of (by first | omega | kernel_rfl) ?_) | (refine AW.fin ?_; try simp (implicitDefEqProofs := false) [g1, g2]))
    refine AW.cond rfl (fun h => ?_) (fun h => ?_)
    · simp [g1, g2] at h
    repeat (first | refine AW.seq ?_ | refine AW.block ?_ | (refine AW.reg mix ?_; simp (implicitDefEqProofs := false) [-Bool.exists_bool]; try simp (disch := omega) only [w64, wu64]) | (refine need.of (by first | omega | kernel_rfl) ?_) | (refine AW.fin ?_; try simp (implicitDefEqProofs := false) [-Bool.exists_bool]))
    refine CallS.pu (hpl) ?_
    (try (simp (implicitDefEqProofs := false); try simp (disch := omega) only [w64, wu64]))
    repeat (first | refine AW.seq ?_ | refine AW.block ?_ | (refine AW.reg mix ?_; simp (implicitDefEqProofs := false); try simp (disch := omega) only [w64, wu64]) | (refine need.of (by first | omega | kernel_rfl) ?_) | (refine AW.fin ?_; try simp (implicitDefEqProofs := false)))
    repeat (first | refine AW.seq ?_ | refine AW.block ?_ | (refine AW.reg mix ?_; simp (implicitDefEqProofs := false) [hg1, e1, e2, hr64, g3, hr2]; try simp (disch := omega) only [w64, wu64]) | (refine need.of (by first | omega | kernel_rfl) ?_) | (refine AW.fin ?_; try simp (implicitDefEqProofs := false) [hg1, e1, e2, hr64, g3, hr2]))
    (try (simp (implicitDefEqProofs := false) [hg1, e1, e2, hr64, g3, hr2]; try simp (disch := omega) only [w64, wu64]))
    repeat (first | refine AW.seq ?_ | refine AW.block ?_ | (refine AW.reg mix ?_; simp (implicitDefEqProofs := false) [hg1, e1, e2, hr64, g3, hr2]; try simp (disch := omega) only [w64, wu64]) | (refine need.of (by first | omega | kernel_rfl) ?_) | (refine AW.fin ?_; try simp (implicitDefEqProofs := false) [hg1, e1, e2, hr64, g3, hr2]))
    refine AW.cond rfl (fun h => ?_) (fun h => ?_)
    · repeat (first | refine AW.seq ?_ | refine AW.block ?_ | (refine AW.reg mix ?_; simp (implicitDefEqProofs := false) [hg2, e4, e5, e6, e8, hs64]; try simp (disch := omega) only [w64, wu64]) | (refine need.of (by first | omega | kernel_rfl) ?_) | (refine AW.fin ?_; try simp (implicitDefEqProofs := false) [hg2, e4, e5, e6, e8, hs64]))
      (try (simp (implicitDefEqProofs := false) [hg2, e4, e5, e6, e8, hs64]; try simp (disch := omega) only [w64, wu64]))
      repeat (first | refine AW.seq ?_ | refine AW.block ?_ | (refine AW.reg mix ?_; simp (implicitDefEqProofs := false) [hg2, e4, e5, e6, e8, hs64]; try simp (disch := omega) only [w64, wu64]) | (refine need.of (by first | omega | kernel_rfl) ?_) | (refine AW.fin ?_; try simp (implicitDefEqProofs := false) [hg2, e4, e5, e6, e8, hs64]))
      refine CallS.pu (hma) ?_
      (try (simp (implicitDefEqProofs := false) [e7]; try simp (disch := omega) only [w64, wu64]))
      repeat (first | refine AW.seq ?_ | refine AW.block ?_ | (refine AW.reg mix ?_; simp (implicitDefEqProofs := false) [e7]; try simp (disch := omega) only [w64, wu64]) | (refine need.of (by first | omega | kernel_rfl) ?_) | (refine AW.fin ?_; try simp (implicitDefEqProofs := false) [e7]))
    · simp [hr2] at h
end
end Go.Proofs.YtdbfenhaljmbfaaGreat.Am
namespace Go.Proofs.YtdbfenhaljmbfaaGreat.Am
section
set_option linter.unusedVariables false
set_option linter.unusedSimpArgs false
open Go.RowKit
set_option maxRecDepth 100000
set_option linter.unusedSimpArgs false
set_option linter.unusedVariables false

set_option maxHeartbeats 1000000 in
theorem pset_ok (w : Nat) (xs : List Nat) (i v : Nat) (hi : i < xs.length) (hn : xs.length ≤ 256) (hw0 : 0 < w) (hw : w ≤ 32) (hv : v < 2 ^ w) : Eqn Tryz.prog n_pack_Vector_Set [.p 0 0, .d (.int .i64 i), .d (.int .u64 v)] [vecO 1 xs.length w, vecB w xs] (.d (.int .i64 0)) [vecO 1 xs.length w, vecB w (xs.set i v)] := by
  refine Eqn.gen [0, 1] r_pack_Vector_Set (by simp) (by simp) (by rfl) (by decide) (by simp) (by simp [vecO, vecB]) ?_
  have hpl := place_ok w xs i hi hn hw
  have hma := fun N L n => pmask_any w N L n hw
  have g1 : ¬ (i : Int) < 0 := by omega
  have g2 : ¬ (xs.length : Int) ≤ i := by omega
  have e := Nat.div_add_mod (i * w) 64
  have hm64 : i * w % 64 < 64 := Nat.mod_lt _ (by omega)
  have hle : i * w + w ≤ xs.length * w := by rw [← Nat.succ_mul]; exact Nat.mul_le_mul_right w hi
  have hq : i * w / 64 < (wordsP w xs).length := by rw [wordsP_len]; unfold nwP; omega
  have hq2 : 64 < i * w % 64 + w → i * w / 64 + 1 < (wordsP w xs).length := by intro h; rw [wordsP_len]; unfold nwP; omega
  have hx1 := wordsP_lt (w := w) (xs := xs) (i * w / 64)
  have hx2 := wordsP_lt (w := w) (xs := xs) (i * w / 64 + 1)
  have hp1 := pset1 (xs := xs) (i := i) hw hw0 hi hv
  have hp2 := pset2 (xs := xs) (i := i) hw hi hv
  have hqb : i * w / 64 ≤ 1000 := by have : i * w ≤ 256 * 32 := Nat.mul_le_mul (by omega) hw; omega
  have hg1 := u64s_get hq
  have hg2 := fun h => u64s_get (hq2 h)
  have hs1 := u64s_set (wordsP w xs) (i * w / 64) (setW1 w ((wordsP w xs).getD (i * w / 64) 0) v (i * w % 64))
  have hs2 := u64s_set ((wordsP w xs).set (i * w / 64) (setW1 w ((wordsP w xs).getD (i * w / 64) 0) v (i * w % 64))) (i * w / 64 + 1) (setW2 w ((wordsP w xs).getD (i * w / 64 + 1) 0) v (64 - i * w % 64))
  have hg3 : 64 < i * w % 64 + w → ((u64s (wordsP w xs)).set (i * w / 64) (V.d (.int .u64 (setW1 w ((wordsP w xs).getD (i * w / 64) 0) v (i * w % 64) : Nat))))[i * w / 64 + 1]? = some (.d (.int .u64 ((wordsP w xs).getD (i * w / 64 + 1) 0 : Nat))) := by
    intro h
    rw [List.getElem?_set, if_neg (by omega)]
    exact hg2 h
  have h32 : 2 ^ w ≤ 2 ^ 32 := Nat.pow_le_pow_right (by omega) hw
  have hlen := u64s_length (wordsP w xs)
  have hnle : ¬ ((2 ^ w - 1 : Nat) : Int) < v := by omega
  have hnle' : ¬ (2 ^ w - 1 < v) := by omega
  have hlx : (xs.set i v).length = xs.length := List.length_set
  rw [wordsP_len] at hlen hq hq2
  -- the first word
  have w1 : IntKind.u64.wrap (((2 ^ w - 1 : Nat) : Int) * 2 ^ (i * w % 64)) = (((2 ^ w - 1) * 2 ^ (i * w % 64) % 2 ^ 64 : Nat) : Int) := by
    rw [IntKind.wrap_u64, Int.natCast_emod, Int.natCast_mul, Int.natCast_pow]; rfl
  have w2 : IntKind.u64.wrap ((v : Int) * 2 ^ (i * w % 64)) = ((v * 2 ^ (i * w % 64) % 2 ^ 64 : Nat) : Int) := by
    rw [IntKind.wrap_u64, Int.natCast_emod, Int.natCast_mul, Int.natCast_pow]; rfl
  have lt1 : (2 ^ w - 1) * 2 ^ (i * w % 64) % 2 ^ 64 < 2 ^ 64 := Nat.mod_lt _ (by omega)
  have lt2 : v * 2 ^ (i * w % 64) % 2 ^ 64 < 2 ^ 64 := Nat.mod_lt _ (by omega)
  have w3 := andNot_u64 ((wordsP w xs).getD (i * w / 64) 0) ((2 ^ w - 1) * 2 ^ (i * w % 64) % 2 ^ 64) hx1 lt1
  have w4 := or_u64 (andN ((wordsP w xs).getD (i * w / 64) 0) ((2 ^ w - 1) * 2 ^ (i * w % 64) % 2 ^ 64)) (v * 2 ^ (i * w % 64) % 2 ^ 64) (andN_lt hx1) lt2
  have w5 : andN ((wordsP w xs).getD (i * w / 64) 0) ((2 ^ w - 1) * 2 ^ (i * w % 64) % 2 ^ 64) ||| v * 2 ^ (i * w % 64) % 2 ^ 64 = setW1 w ((wordsP w xs).getD (i * w / 64) 0) v (i * w % 64) := rfl
  rw [w5] at w4
  clear w5
  -- the second one
  have w6 : (((2 ^ w - 1 : Nat) : Int)) / 2 ^ (64 - i * w % 64) = (((2 ^ w - 1) / 2 ^ (64 - i * w % 64) : Nat) : Int) := by rw [Int.natCast_ediv, Int.natCast_pow]; rfl
  have w7 : (v : Int) / 2 ^ (64 - i * w % 64) = ((v / 2 ^ (64 - i * w % 64) : Nat) : Int) := by rw [Int.natCast_ediv, Int.natCast_pow]; rfl
  have lt3 : (2 ^ w - 1) / 2 ^ (64 - i * w % 64) < 2 ^ 64 := Nat.lt_of_le_of_lt (Nat.div_le_self _ _) (by omega)
  have lt4 : v / 2 ^ (64 - i * w % 64) < 2 ^ 64 := Nat.lt_of_le_of_lt (Nat.div_le_self _ _) (by omega)
  have w8 := andNot_u64 ((wordsP w xs).getD (i * w / 64 + 1) 0) ((2 ^ w - 1) / 2 ^ (64 - i * w % 64)) hx2 lt3
  have w9 := or_u64 (andN ((wordsP w xs).getD (i * w / 64 + 1) 0) ((2 ^ w - 1) / 2 ^ (64 - i * w % 64))) (v / 2 ^ (64 - i * w % 64)) (andN_lt hx2) lt4
  have w10 : andN ((wordsP w xs).getD (i * w / 64 + 1) 0) ((2 ^ w - 1) / 2 ^ (64 - i * w % 64)) ||| v / 2 ^ (64 - i * w % 64) = setW2 w ((wordsP w xs).getD (i * w / 64 + 1) 0) v (64 - i * w % 64) := rfl
  rw [w10] at w9
  clear w10 lt1 lt2 lt3 lt4
  simp only [c_pack_Vector_Set, vecO, vecB, hlx]
  have hL0 : u64s (wordsP w xs) = ((wordsP w xs).map fun x : Nat => D.int .u64 x).map V.d := by simp [u64s]
  have htk : ((wordsP w xs).map fun x : Nat => D.int .u64 x).take (nwP xs.length w) = (wordsP w xs).map fun x : Nat => D.int .u64 x := List.take_of_length_le (by simp)
  simp only [vecD] at hpl
  generalize hL : ((wordsP w xs).map fun x : Nat => D.int .u64 x) = L0 at *
  generalize hW : wordsP w (xs.set i v) = W2 at *
  generalize andN ((wordsP w xs).getD (i * w / 64) 0) ((2 ^ w - 1) * 2 ^ (i * w % 64) % 2 ^ 64) = A1 at *
  generalize andN ((wordsP w xs).getD (i * w / 64 + 1) 0) ((2 ^ w - 1) / 2 ^ (64 - i * w % 64)) = A2 at *
  generalize setW1 w ((wordsP w xs).getD (i * w / 64) 0) v (i * w % 64) = Y1 at *
  generalize setW2 w ((wordsP w xs).getD (i * w / 64 + 1) 0) v (64 - i * w % 64) = Y2 at *
  generalize (wordsP w xs).getD (i * w / 64) 0 = x1 at *
  generalize (wordsP w xs).getD (i * w / 64 + 1) 0 = x2 at *
  generalize (2 ^ w - 1) * 2 ^ (i * w % 64) % 2 ^ 64 = M1 at *
  generalize v * 2 ^ (i * w % 64) % 2 ^ 64 = v1 at *
  generalize (2 ^ w - 1) / 2 ^ (64 - i * w % 64) = M2 at *
  generalize v / 2 ^ (64 - i * w % 64) = v2 at *
  generalize 2 ^ w - 1 = M at *
  have hs64 : 64 - i * w % 64 ≤ 64 := by omega
  have e4 : IntKind.i64.wrap (64 - ((i * w % 64 : Nat) : Int)) = ((64 - i * w % 64 : Nat) : Int) := by rw [w64 (by omega) (by omega)]; omega
  have e8 : IntKind.i64.wrap (((i * w / 64 : Nat) : Int) + 1) = ((i * w / 64 + 1 : Nat) : Int) := by rw [w64 (by omega) (by omega)]; omega
  have e2 : IntKind.i64.wrap (((i * w % 64 : Nat) : Int) + w) = ((i * w % 64 + w : Nat) : Int) := by rw [w64 (by omega) (by omega)]; omega
  generalize 64 - i * w % 64 = s at *
  generalize i * w / 64 + 1 = q1 at *
  generalize i * w / 64 = q at *
  generalize i * w % 64 + w = rw_ at *
  generalize i * w % 64 = r at *
  generalize wordsP w xs = WS at *
  generalize nwP xs.length w = NW at *
  have hr64 : (r : Int) ≤ 64 := by omega
  have hs64' : (s : Int) ≤ 64 := by omega
  repeat (first | refine AW.seq ?_ | refine AW.block ?_ | (refine AW.reg mix ?_; simp (implicitDefEqProofs := false) [g1, g2]; try simp (disch := omega) only [w64, wu64]) | (refine need.of (by first | omega | kernel_rfl) ?_) | (refine AW.fin ?_; try simp (implicitDefEqProofs := false) [g1, g2]))
  refine AW.cond rfl (fun h => ?_) (fun h => ?_)
  · simp [g1, g2] at h
  repeat (first | refine AW.seq ?_ | refine AW.block ?_ | (refine AW.reg mix ?_; simp (implicitDefEqProofs := false); try simp (disch := omega) only [w64, wu64]) | (refine need.of (by first | omega | kernel_rfl) ?_) | (refine AW.fin ?_; try simp (implicitDefEqProofs := false)))
  refine CallS.ro [(1, 1, L0), (0, 1, [.sl NW L0, .int .i64 xs.length, .int .i64 w])] (hma NW L0 xs.length) ?_ (hok := by first | (simp [frzOK, frzH, hL0, htk]; done) | (simp [frzOK, frzH, hL0, htk]; rfl))
  (try (simp (implicitDefEqProofs := false) [hnle, hnle']; try simp (disch := omega) only [w64, wu64]))
  repeat (first | refine AW.seq ?_ | refine AW.block ?_ | (refine AW.reg mix ?_; simp (implicitDefEqProofs := false) [hnle, hnle']; try simp (disch := omega) only [w64, wu64]) | (refine need.of (by first | omega | kernel_rfl) ?_) | (refine AW.fin ?_; try simp (implicitDefEqProofs := false) [hnle, hnle']))
  refine AW.cond rfl (fun h => ?_) (fun h => ?_)
  · simp [hnle'] at h
  repeat (first | refine AW.seq ?_ | refine AW.block ?_ | (refine AW.reg mix ?_; simp (implicitDefEqProofs := false); try simp (disch := omega) only [w64, wu64]) | (refine need.of (by first | omega | kernel_rfl) ?_) | (refine AW.fin ?_; try simp (implicitDefEqProofs := false)))
  refine CallS.ro [(1, 1, L0), (0, 1, _)] (hpl) ?_ (hok := by first | (simp [frzOK, frzH, hL0, htk]; done) | (simp [frzOK, frzH, hL0, htk]; rfl))
  (try (simp (implicitDefEqProofs := false); try simp (disch := omega) only [w64, wu64]))
  repeat (first | refine AW.seq ?_ | refine AW.block ?_ | (refine AW.reg mix ?_; simp (implicitDefEqProofs := false); try simp (disch := omega) only [w64, wu64]) | (refine need.of (by first | omega | kernel_rfl) ?_) | (refine AW.fin ?_; try simp (implicitDefEqProofs := false)))
  refine CallS.ro [(1, 1, L0), (0, 1, [.sl NW L0, .int .i64 xs.length, .int .i64 w])] (hma NW L0 xs.length) ?_ (hok := by first | (simp [frzOK, frzH, hL0, htk]; done) | (simp [frzOK, frzH, hL0, htk]; rfl))
  (try (simp (implicitDefEqProofs := false); try simp (disch := omega) only [w64, wu64]))
  repeat (first | refine AW.seq ?_ | refine AW.block ?_ | (refine AW.reg mix ?_; simp (implicitDefEqProofs := false); try simp (disch := omega) only [w64, wu64]) | (refine need.of (by first | omega | kernel_rfl) ?_) | (refine AW.fin ?_; try simp (implicitDefEqProofs := false)))
  repeat (first | refine AW.seq ?_ | refine AW.block ?_ | (refine AW.reg mix ?_; simp (implicitDefEqProofs := false) [hg1, w1, w2, w3, w4, hr64, e2]; try simp (disch := omega) only [w64, wu64]) | (refine need.of (by first | omega | kernel_rfl) ?_) | (refine AW.fin ?_; try simp (implicitDefEqProofs := false) [hg1, w1, w2, w3, w4, hr64, e2]))
  (try (simp (implicitDefEqProofs := false) [hg1, w1, w2, w3, w4, hr64, e2]; try simp (disch := omega) only [w64, wu64]))
  repeat (first | refine AW.seq ?_ | refine AW.block ?_ | (refine AW.reg mix ?_; simp (implicitDefEqProofs := false) [hg1, w1, w2, w3, w4, hr64, e2]; try simp (disch := omega) only [w64, wu64]) | (refine need.of (by first | omega | kernel_rfl) ?_) | (refine AW.fin ?_; try simp (implicitDefEqProofs := false) [hg1, w1, w2, w3, w4, hr64, e2]))
  by_cases hrw : rw_ ≤ 64
  · replace hp1 := hp1 hrw
    have g3 : ¬ 64 < rw_ := by omega
    have g3' : ¬ (64 : Int) < rw_ := by omega
    refine AW.cond rfl (fun h => ?_) (fun h => ?_)
    · exfalso; simp at h; omega
    repeat (first | refine AW.seq ?_ | refine AW.block ?_ | (refine AW.reg mix ?_; simp (implicitDefEqProofs := false); try simp (disch := omega) only [w64, wu64]) | (refine need.of (by first | omega | kernel_rfl) ?_) | (refine AW.fin ?_; try simp (implicitDefEqProofs := false)))
    exact Subs.of (by rw [u64s_set, hp1])
  · have g3 : 64 < rw_ := by omega
    replace hp2 := hp2 g3
    replace hg3 := hg3 g3
    replace hq2 := hq2 g3
    obtain ⟨L1, hL1, hL1l⟩ : ∃ L1 : List D, (u64s WS).set q (V.d (.int .u64 Y1)) = L1.map V.d ∧ L1.length = NW := ⟨(WS.set q Y1).map fun x : Nat => D.int .u64 x, by rw [u64s_set]; simp [u64s, Function.comp_def], by simp; have := u64s_length WS; omega⟩
    have htk1 : L1.take NW = L1 := List.take_of_length_le (by omega)
    have hR : ((u64s WS).set q (V.d (.int .u64 Y1))).length = NW := by simp [hlen]
    refine AW.cond rfl (fun h => ?_) (fun h => ?_)
    · repeat (first | refine AW.seq ?_ | refine AW.block ?_ | (refine AW.reg mix ?_; simp (implicitDefEqProofs := false) [e4, e8]; try simp (disch := omega) only [w64, wu64]) | (refine need.of (by first | omega | kernel_rfl) ?_) | (refine AW.fin ?_; try simp (implicitDefEqProofs := false) [e4, e8]))
      refine CallS.ro [(1, 1, L1), (0, 1, [.sl NW L1, .int .i64 xs.length, .int .i64 w])] (hma NW L1 xs.length) ?_ (hok := by first | (simp [frzOK, frzH, hL1, htk1]; done) | (simp [frzOK, frzH, hL1, htk1]; rfl))
      (try (simp (implicitDefEqProofs := false); try simp (disch := omega) only [w64, wu64]))
      repeat (first | refine AW.seq ?_ | refine AW.block ?_ | (refine AW.reg mix ?_; simp (implicitDefEqProofs := false); try simp (disch := omega) only [w64, wu64]) | (refine need.of (by first | omega | kernel_rfl) ?_) | (refine AW.fin ?_; try simp (implicitDefEqProofs := false)))
      repeat (first | refine AW.seq ?_ | refine AW.block ?_ | (refine AW.reg mix ?_; simp (implicitDefEqProofs := false) [hg3, w6, w7, w8, w9, hs64']; try simp (disch := omega) only [w64, wu64]) | (refine need.of (by first | omega | kernel_rfl) ?_) | (refine AW.fin ?_; try simp (implicitDefEqProofs := false) [hg3, w6, w7, w8, w9, hs64']))
      (try (simp (implicitDefEqProofs := false) [hg3, w6, w7, w8, w9, hs64']; try simp (disch := omega) only [w64, wu64]))
      repeat (first | refine AW.seq ?_ | refine AW.block ?_ | (refine AW.reg mix ?_; simp (implicitDefEqProofs := false) [hg3, w6, w7, w8, w9, hs64']; try simp (disch := omega) only [w64, wu64]) | (refine need.of (by first | omega | kernel_rfl) ?_) | (refine AW.fin ?_; try simp (implicitDefEqProofs := false) [hg3, w6, w7, w8, w9, hs64']))
      exact Subs.of (by rw [u64s_set, u64s_set, hp2])
    · exfalso; simp at h; omega
end
end Go.Proofs.YtdbfenhaljmbfaaGreat.Am
namespace Go.Proofs.YtdbfenhaljmbfaaGreat.Am
section
set_option linter.unusedVariables false
set_option linter.unusedSimpArgs false
open Go.RowKit
set_option maxRecDepth 100000
set_option linter.unusedSimpArgs false
set_option linter.unusedVariables false

theorem bitsW_numB : ∀ (n : Nat) (bs : List Bool), bs.length = n → bitsW (numB bs 0) n = bs
  | 0, bs, h => by rw [List.eq_nil_of_length_eq_zero h]; rfl
  | n + 1, bs, h => by
    rcases List.eq_nil_or_concat bs with rfl | ⟨l, b, rfl⟩
    · simp at h
    · simp at h
      rw [List.concat_eq_append, numB_append, show numB [b] (numB l 0) = 2 * numB l 0 + b2n b from rfl, bitsW_succ]
      have hb : (2 * numB l 0 + b2n b) / 2 = numB l 0 := by have := b2n_le b; omega
      have hb2 : decide ((2 * numB l 0 + b2n b) % 2 = 1) = b := by cases b <;> simp [b2n] <;> omega
      rw [hb, hb2, bitsW_numB n l h]

/-- a register as a number -/
def encN (k a b y t : Nat) (f : Bool) : Nat := numB (encR k a b y t f) 0
def wdR (k a b : Nat) : Nat := kwR k a b + twR k b + 1
theorem encN_lt (k a b y t : Nat) (f : Bool) : encN k a b y t f < 2 ^ wdR k a b := by have := numB_lt (encR k a b y t f); rw [encR_len] at this; exact this
theorem encN_bits (k a b y t : Nat) (f : Bool) : bitsW (encN k a b y t f) (wdR k a b) = encR k a b y t f := bitsW_numB _ _ (encR_len k a b y t f)
theorem wdR_le {k a b : Nat} (h : GoodR k a b) : 0 < wdR k a b ∧ wdR k a b ≤ 16 := by
  have := (kwR_pos h); have := twR_le h; unfold wdR; omega

theorem bitsOf_prefix (bs : List Bool) (a n : Nat) (h : a + n ≤ bs.length) : ((bitsOf (bytesOf bs)).drop a).take n = (bs.drop a).take n := by
  have e := bitsOf_bytesOf bs
  conv => rhs; rw [← e]
  rw [List.drop_take, List.take_take, Nat.min_eq_left (by omega)]
theorem readR_enc {k a b y t : Nat} {f : Bool} (hg : GoodR k a b) (h : WellR k a b y t f) : readR (bytesOf (encR k a b y t f)) k a b 0 = ((y, t, f), 0, wdR k a b) := by
  have hl := encR_len k a b y t f
  have hf := well_fits hg h
  have h1 : numAt (bytesOf (encR k a b y t f)) 0 (kwR k a b) = y := by
    unfold numAt
    rw [bitsOf_prefix _ _ _ (by omega), List.drop_zero]
    unfold encR
    rw [List.append_assoc, List.take_append_of_le_length (by simp), List.take_of_length_le (by simp), numB_bitsW, Nat.mod_eq_of_lt hf.1]
  have h2 : numAt (bytesOf (encR k a b y t f)) (0 + kwR k a b) (twR k b) = t := by
    unfold numAt
    rw [bitsOf_prefix _ _ _ (by omega), Nat.zero_add]
    unfold encR
    rw [List.append_assoc, List.drop_append_of_le_length (by simp), List.drop_of_length_le (by simp), List.nil_append, List.take_append_of_le_length (by simp), List.take_of_length_le (by simp), numB_bitsW, Nat.mod_eq_of_lt hf.2]
  have h3 : (bitsOf (bytesOf (encR k a b y t f))).getD (0 + kwR k a b + twR k b) false = f := by
    have e := bitsOf_prefix (encR k a b y t f) (kwR k a b + twR k b) 1 (by omega)
    have : ((encR k a b y t f).drop (kwR k a b + twR k b)).take 1 = [f] := by
      unfold encR
      rw [List.drop_append_of_le_length (by simp), List.drop_of_length_le (by simp)]; rfl
    rw [this] at e
    rw [Nat.zero_add, List.getD_eq_getElem?_getD]
    have e2 := congrArg (fun l => l[0]?) e
    simp only [List.getElem?_take, List.getElem?_drop] at e2
    simp at e2
    rw [e2]; rfl
  unfold readR
  rw [h1, h2, h3, if_neg (by rw [bytesOf_len, hl]; omega), if_pos (wellRB_iff.2 h)]
  simp [wdR]

/-- states -/
abbrev ST := Nat × Nat × Bool
def encs (k a b : Nat) (l : List ST) : List Nat := l.map fun s => encN k a b s.1 s.2.1 s.2.2
def wells (k a b : Nat) (l : List ST) : Prop := ∀ s ∈ l, WellR k a b s.1 s.2.1 s.2.2
@[simp] theorem encs_len (k a b : Nat) (l : List ST) : (encs k a b l).length = l.length := by simp [encs]
theorem encs_small (k a b : Nat) (l : List ST) : smallP (wdR k a b) (encs k a b l) := by
  intro x hx
  obtain ⟨s, -, rfl⟩ := List.mem_map.1 hx
  exact encN_lt _ _ _ _ _ _
theorem encs_get {k a b : Nat} {l : List ST} {i : Nat} (h : i < l.length) : (encs k a b l).getD i 0 = encN k a b (l.getD i (0, 0, false)).1 (l.getD i (0, 0, false)).2.1 (l.getD i (0, 0, false)).2.2 := by simp [encs, h]
theorem encs_set (k a b : Nat) (l : List ST) (i : Nat) (s : ST) : (encs k a b l).set i (encN k a b s.1 s.2.1 s.2.2) = encs k a b (l.set i s) := by simp [encs, List.map_set]
theorem wells_get {k a b : Nat} {l : List ST} (h : wells k a b l) {i : Nat} (hi : i < l.length) : WellR k a b (l.getD i (0, 0, false)).1 (l.getD i (0, 0, false)).2.1 (l.getD i (0, 0, false)).2.2 := by
  rw [List.getD_eq_getElem?_getD, List.getElem?_eq_getElem hi]; exact h _ (List.getElem_mem hi)
/-- an array's variable -/
def arrO (v : Nat) (k a b : Nat) : Ob := ⟨109, [.p v 0, .d (.int .i64 k), .d (.int .i64 a), .d (.int .i64 b)]⟩
def arrV (m : Nat) (k a b : Nat) (l : List ST) : Ob := vecO m l.length (wdR k a b)
def arrB (k a b : Nat) (l : List ST) : Ob := vecB (wdR k a b) (encs k a b l)

theorem smallB_bytes (bs : List Bool) : smallB (bytesOf bs) := by
  intro x hx
  obtain ⟨i, -, rfl⟩ := List.mem_map.1 hx
  exact byteAt_lt _ _

set_option maxHeartbeats 1000000 in
theorem cget_ok {k a b : Nat} (l : List ST) (i : Nat) (h : GoodR k a b) (hw : wells k a b l) (hi : i < l.length) (hn : l.length ≤ 256) :
    Eqn Tryz.prog n_carray_Array_Get [.p 0 0, .d (.int .i64 i)] [arrO 1 k a b, arrV 2 k a b l, arrB k a b l] (.tup [.d (tsD (l.getD i (0, 0, false)).1 (l.getD i (0, 0, false)).2.1 (l.getD i (0, 0, false)).2.2), .d (.int .i64 0)]) [arrO 1 k a b, arrV 2 k a b l, arrB k a b l] := by
  refine Eqn.gen [0, 1, 2] r_carray_Array_Get (by simp) (by simp) (by rfl) (by decide) (by simp [tsD]) (by simp [arrO, arrV, arrB, vecO, vecB]) ?_
  obtain ⟨w0, w16⟩ := wdR_le h
  have hg := pget_ok (wdR k a b) (encs k a b l) i (by simpa using hi) (by simpa using hn) w0 (by omega) (encs_small k a b l)
  have hwd := pwidth_ok (wdR k a b) (encs k a b l)
  rw [encs_get hi] at hg
  have hwi := wells_get hw hi
  generalize l.getD i (0, 0, false) = s at *
  obtain ⟨y, t, f⟩ := s
  simp only at hg hwi ⊢
  have hlt := encN_lt k a b y t f
  have h16 : 2 ^ wdR k a b ≤ 2 ^ 16 := Nat.pow_le_pow_right (by omega) w16
  have h3 := wnum0_ok (encN k a b y t f) (wdR k a b) w0 (by omega) hlt (by omega)
  rw [encN_bits] at h3
  have hne : encR k a b y t f ≠ [] := by simp [encR]
  have hel := encR_len k a b y t f
  have h4 := wbytes_ok (encR k a b y t f) hne (by rw [hel]; unfold wdR at w16; omega)
  have h5 := bread_ok (bytesOf (encR k a b y t f)) (by rw [bytesOf_len, hel]; unfold wdR at w16; omega)
  have h6 := rread_ok (bytesOf (encR k a b y t f)) (k := k) (a := a) (b := b) 0 h (smallB_bytes _) (by rw [bytesOf_len, hel]; unfold wdR at w16; omega) (Nat.zero_le _) _ rfl
  rw [readR_enc h hwi] at h6
  have hwlen : ((wordsP (wdR k a b) (encs k a b l)).map fun x : Nat => D.int .u64 x).length = nwP l.length (wdR k a b) := by simp
  have htk : ((wordsP (wdR k a b) (encs k a b l)).map fun x : Nat => D.int .u64 x).take (nwP l.length (wdR k a b)) = (wordsP (wdR k a b) (encs k a b l)).map fun x : Nat => D.int .u64 x := List.take_of_length_le (by simp)
  have hL0 : u64s (wordsP (wdR k a b) (encs k a b l)) = ((wordsP (wdR k a b) (encs k a b l)).map fun x : Nat => D.int .u64 x).map V.d := by simp [u64s]
  have hB0 : u8s (bytesOf (encR k a b y t f)) = ((bytesOf (encR k a b y t f)).map fun x : Nat => D.int .u8 x).map V.d := by simp [u8s]
  have hBt : ((bytesOf (encR k a b y t f)).map fun x : Nat => D.int .u8 x).take (bytesOf (encR k a b y t f)).length = (bytesOf (encR k a b y t f)).map fun x : Nat => D.int .u8 x := List.take_of_length_le (by simp)
  have hBl : (bytesOf (encR k a b y t f)).length = ((encR k a b y t f).length + 7) / 8 := by simp
  simp only [c_carray_Array_Get, arrO, arrV, arrB, vecO, vecB, vecD, encs_len, tsD, parD, rdO, BY, wrO, wrB] at hg hwd h3 h4 h5 h6 ⊢
  generalize encs k a b l = es at *
  generalize wordsP (wdR k a b) es = WS at *
  generalize encR k a b y t f = bs at *
  generalize bytesOf bs = bytes at *
  rw [← hBl] at h3 h4
  generalize hLL : (WS.map fun x : Nat => D.int .u64 x) = L0 at *
  generalize hBB : (bytes.map fun x : Nat => D.int .u8 x) = LB at *
  generalize encN k a b y t f = N at *
  generalize wdR k a b = w at *
  generalize nwP l.length w = NW at *
  repeat (first | refine AW.seq ?_ | refine AW.block ?_ | (refine AW.reg mix ?_; simp (implicitDefEqProofs := false); try simp (disch := omega) only [w64, wu64]) | (refine need.of (by first | omega | kernel_rfl) ?_) | (refine AW.fin ?_; try simp (implicitDefEqProofs := false)))
  refine CallS.ro [(2, 1, L0), (1, 1, [.sl NW L0, .int .i64 l.length, .int .i64 w])] (hg) ?_ (hok := by first | (simp [frzOK, frzH, hL0, htk]; done) | (simp [frzOK, frzH, hL0, htk]; rfl))
  (try (simp (implicitDefEqProofs := false); try simp (disch := omega) only [w64, wu64]))
  repeat (first | refine AW.seq ?_ | refine AW.block ?_ | (refine AW.reg mix ?_; simp (implicitDefEqProofs := false); try simp (disch := omega) only [w64, wu64]) | (refine need.of (by first | omega | kernel_rfl) ?_) | (refine AW.fin ?_; try simp (implicitDefEqProofs := false)))
  refine AW.cond rfl (fun h => ?_) (fun h => ?_)
  · simp at h
  repeat (first | refine AW.seq ?_ | refine AW.block ?_ | (refine AW.reg mix ?_; simp (implicitDefEqProofs := false); try simp (disch := omega) only [w64, wu64]) | (refine need.of (by first | omega | kernel_rfl) ?_) | (refine AW.fin ?_; try simp (implicitDefEqProofs := false)))
  refine CallS.ro [(2, 1, L0), (1, 1, [.sl NW L0, .int .i64 l.length, .int .i64 w])] (hwd) ?_ (hok := by first | (simp [frzOK, frzH, hL0, htk]; done) | (simp [frzOK, frzH, hL0, htk]; rfl))
  (try (simp (implicitDefEqProofs := false); try simp (disch := omega) only [w64, wu64]))
  repeat (first | refine AW.seq ?_ | refine AW.block ?_ | (refine AW.reg mix ?_; simp (implicitDefEqProofs := false); try simp (disch := omega) only [w64, wu64]) | (refine need.of (by first | omega | kernel_rfl) ?_) | (refine AW.fin ?_; try simp (implicitDefEqProofs := false)))
  refine CallS.g [4] (h3) ?_
  (try (simp (implicitDefEqProofs := false); try simp (disch := omega) only [w64, wu64]))
  repeat (first | refine AW.seq ?_ | refine AW.block ?_ | (refine AW.reg mix ?_; simp (implicitDefEqProofs := false); try simp (disch := omega) only [w64, wu64]) | (refine need.of (by first | omega | kernel_rfl) ?_) | (refine AW.fin ?_; try simp (implicitDefEqProofs := false)))
  refine CallS.g [4, 5] (h4) ?_
  (try (simp (implicitDefEqProofs := false); try simp (disch := omega) only [w64, wu64]))
  repeat (first | refine AW.seq ?_ | refine AW.block ?_ | (refine AW.reg mix ?_; simp (implicitDefEqProofs := false); try simp (disch := omega) only [w64, wu64]) | (refine need.of (by first | omega | kernel_rfl) ?_) | (refine AW.fin ?_; try simp (implicitDefEqProofs := false)))
  rw [hB0]
  have h5' : Eqn Tryz.prog n_bits_Read [.d (.sl bytes.length (List.take (bytes.length * 1) LB))] [] (.p 0 0) [⟨190, [.d (.sl bytes.length LB), .d (.int .i64 0)]⟩] := by rw [Nat.mul_one, hBt]; simpa using h5
  refine CallS.gf 6 1 ⟨5, LB.map V.d⟩ LB [] (h5') ?_
  (try (simp (implicitDefEqProofs := false); try simp (disch := omega) only [w64, wu64]))
  repeat (first | refine AW.seq ?_ | refine AW.block ?_ | (refine AW.reg mix ?_; simp (implicitDefEqProofs := false); try simp (disch := omega) only [w64, wu64]) | (refine need.of (by first | omega | kernel_rfl) ?_) | (refine AW.fin ?_; try simp (implicitDefEqProofs := false)))
  simp at h6
  refine CallS.g [7] (h6) ?_
  (try (simp (implicitDefEqProofs := false); try simp (disch := omega) only [w64, wu64]))
  repeat (first | refine AW.seq ?_ | refine AW.block ?_ | (refine AW.reg mix ?_; simp (implicitDefEqProofs := false); try simp (disch := omega) only [w64, wu64]) | (refine need.of (by first | omega | kernel_rfl) ?_) | (refine AW.fin ?_; try simp (implicitDefEqProofs := false)))
end
end Go.Proofs.YtdbfenhaljmbfaaGreat.Am
namespace Go.Proofs.YtdbfenhaljmbfaaGreat.Am
section
set_option linter.unusedVariables false
set_option linter.unusedSimpArgs false
open Go.RowKit
set_option maxRecDepth 100000
set_option linter.unusedSimpArgs false
set_option linter.unusedVariables false

theorem zeroS {k a b : Nat} (h : GoodR k a b) : WellR k a b 0 0 false := by
  rcases h with ⟨rfl, h⟩ | ⟨hk, h⟩
  · exact .inl ⟨rfl, Nat.zero_le _, Nat.zero_le _, by simp⟩
  · exact .inr ⟨hk, rfl, Nat.zero_le _, by simp⟩
theorem encN_zero (k a b : Nat) : encN k a b 0 0 false = 0 := by
  have h : ∀ w, bitsW 0 w = List.replicate w false := by
    intro w
    apply List.ext_getElem?
    intro i
    simp only [bitsW, List.getElem?_map, List.getElem?_replicate]
    by_cases h : i < w
    · rw [List.getElem?_range h, if_pos h]; simp
    · rw [List.getElem?_eq_none (by simp; omega), if_neg h]; rfl
  have hz : ∀ w n, numB (List.replicate w false) n = n * 2 ^ w := by
    intro w
    induction w with
    | zero => intro n; simp [numB]
    | succ w ih => intro n; rw [List.replicate_succ, numB, ih, Nat.pow_succ]; simp [b2n]; rw [Nat.mul_comm 2 n, Nat.mul_assoc, Nat.mul_comm 2]
  unfold encN encR
  rw [h, h, show [false] = List.replicate 1 false from rfl, numB_append, numB_append, hz, hz, hz]
  simp

set_option maxHeartbeats 1000000 in
theorem cset_ok {k a b : Nat} (l : List ST) (i : Nat) (y t : Nat) (f : Bool) (h : GoodR k a b) (hw : wells k a b l) (hi : i < l.length) (hn : l.length ≤ 256) (hs : WellR k a b y t f) :
    Eqn Tryz.prog n_carray_Array_Set [.p 0 0, .d (.int .i64 i), .d (tsD y t f)] [arrO 1 k a b, arrV 2 k a b l, arrB k a b l] (.d (.int .i64 0)) [arrO 1 k a b, arrV 2 k a b l, arrB k a b (l.set i (y, t, f))] := by
  refine Eqn.gen [0, 1, 2] r_carray_Array_Set (by simp) (by simp) (by rfl) (by decide) (by simp) (by simp [arrO, arrV, arrB, vecO, vecB]) ?_
  obtain ⟨w0, w16⟩ := wdR_le h
  have hg := pget_ok (wdR k a b) (encs k a b l) i (by simpa using hi) (by simpa using hn) w0 (by omega) (encs_small k a b l)
  generalize (encs k a b l).getD i 0 = was at hg
  have hwd := pwidth_ok (wdR k a b) (encs k a b l)
  have hlt := encN_lt k a b y t f
  have hps := pset_ok (wdR k a b) (encs k a b l) i (encN k a b y t f) (by simpa using hi) (by simpa using hn) w0 (by omega) hlt
  have hset := encs_set k a b l i (y, t, f)
  simp only at hset
  rw [hset] at hps
  have h16 : 2 ^ wdR k a b ≤ 2 ^ 16 := Nat.pow_le_pow_right (by omega) w16
  have h3 := rwrite0_ok h hs
  have hne : encR k a b y t f ≠ [] := by simp [encR]
  have hel := encR_len k a b y t f
  have h4 := wbytes_ok (encR k a b y t f) hne (by rw [hel]; unfold wdR at w16; omega)
  have h5 := bread_ok (bytesOf (encR k a b y t f)) (by rw [bytesOf_len, hel]; unfold wdR at w16; omega)
  have h6 := rnum_ok (bytesOf (encR k a b y t f)) 0 (wdR k a b) (smallB_bytes _) (by omega) (by rw [bytesOf_len, hel]; unfold wdR at w16; omega) (by rw [bytesOf_len, hel]; unfold wdR; omega)
  have h7 : numAt (bytesOf (encR k a b y t f)) 0 (wdR k a b) = encN k a b y t f := by
    unfold numAt encN
    rw [bitsOf_prefix _ _ _ (by rw [hel]; unfold wdR; omega), List.drop_zero, List.take_of_length_le (by rw [hel]; unfold wdR; omega)]
  rw [h7] at h6
  have htk : ((wordsP (wdR k a b) (encs k a b l)).map fun x : Nat => D.int .u64 x).take (nwP l.length (wdR k a b)) = (wordsP (wdR k a b) (encs k a b l)).map fun x : Nat => D.int .u64 x := List.take_of_length_le (by simp)
  have hL0 : u64s (wordsP (wdR k a b) (encs k a b l)) = ((wordsP (wdR k a b) (encs k a b l)).map fun x : Nat => D.int .u64 x).map V.d := by simp [u64s]
  have hB0 : u8s (bytesOf (encR k a b y t f)) = ((bytesOf (encR k a b y t f)).map fun x : Nat => D.int .u8 x).map V.d := by simp [u8s]
  have hBt : ((bytesOf (encR k a b y t f)).map fun x : Nat => D.int .u8 x).take (bytesOf (encR k a b y t f)).length = (bytesOf (encR k a b y t f)).map fun x : Nat => D.int .u8 x := List.take_of_length_le (by simp)
  have hBl : (bytesOf (encR k a b y t f)).length = ((encR k a b y t f).length + 7) / 8 := by simp
  simp only [c_carray_Array_Set, arrO, arrV, arrB, vecO, vecB, vecD, encs_len, List.length_set, tsD, parD, rdO, BY, wrO, wrB] at hg hwd hps h3 h4 h5 h6 ⊢
  generalize encs k a b (l.set i (y, t, f)) = es' at *
  generalize hWS' : wordsP (wdR k a b) es' = WS' at *
  generalize encs k a b l = es at *
  generalize hWS : wordsP (wdR k a b) es = WS at *
  generalize encR k a b y t f = bs at *
  generalize bytesOf bs = bytes at *
  rw [← hBl] at h3 h4
  generalize hLL : (WS.map fun x : Nat => D.int .u64 x) = L0 at *
  generalize hBB : (bytes.map fun x : Nat => D.int .u8 x) = LB at *
  generalize encN k a b y t f = N at *
  generalize wdR k a b = w at *
  generalize nwP l.length w = NW at *
  have h5' : Eqn Tryz.prog n_bits_Read [.d (.sl bytes.length (List.take (bytes.length * 1) LB))] [] (.p 0 0) [⟨190, [.d (.sl bytes.length LB), .d (.int .i64 0)]⟩] := by rw [Nat.mul_one, hBt]; simpa using h5
  simp at h6
  repeat (first | refine AW.seq ?_ | refine AW.block ?_ | (refine AW.reg mix ?_; simp (implicitDefEqProofs := false); try simp (disch := omega) only [w64, wu64]) | (refine need.of (by first | omega | kernel_rfl) ?_) | (refine AW.fin ?_; try simp (implicitDefEqProofs := false)))
  refine CallS.ro [(2, 1, L0), (1, 1, [.sl NW L0, .int .i64 l.length, .int .i64 w])] (hg) ?_ (hok := by first | (simp [frzOK, frzH, hL0, htk]; done) | (simp [frzOK, frzH, hL0, htk]; rfl))
  (try (simp (implicitDefEqProofs := false); try simp (disch := omega) only [w64, wu64]))
  repeat (first | refine AW.seq ?_ | refine AW.block ?_ | (refine AW.reg mix ?_; simp (implicitDefEqProofs := false); try simp (disch := omega) only [w64, wu64]) | (refine need.of (by first | omega | kernel_rfl) ?_) | (refine AW.fin ?_; try simp (implicitDefEqProofs := false)))
  refine AW.cond rfl (fun h => ?_) (fun h => ?_)
  · simp at h
  repeat (first | refine AW.seq ?_ | refine AW.block ?_ | (refine AW.reg mix ?_; simp (implicitDefEqProofs := false); try simp (disch := omega) only [w64, wu64]) | (refine need.of (by first | omega | kernel_rfl) ?_) | (refine AW.fin ?_; try simp (implicitDefEqProofs := false)))
  refine CallS.g [4] (h3) ?_
  (try (simp (implicitDefEqProofs := false); try simp (disch := omega) only [w64, wu64]))
  repeat (first | refine AW.seq ?_ | refine AW.block ?_ | (refine AW.reg mix ?_; simp (implicitDefEqProofs := false); try simp (disch := omega) only [w64, wu64]) | (refine need.of (by first | omega | kernel_rfl) ?_) | (refine AW.fin ?_; try simp (implicitDefEqProofs := false)))
  refine AW.cond rfl (fun h => ?_) (fun h => ?_)
  · simp at h
  repeat (first | refine AW.seq ?_ | refine AW.block ?_ | (refine AW.reg mix ?_; simp (implicitDefEqProofs := false); try simp (disch := omega) only [w64, wu64]) | (refine need.of (by first | omega | kernel_rfl) ?_) | (refine AW.fin ?_; try simp (implicitDefEqProofs := false)))
  refine CallS.g [4, 5] (h4) ?_
  (try (simp (implicitDefEqProofs := false); try simp (disch := omega) only [w64, wu64]))
  repeat (first | refine AW.seq ?_ | refine AW.block ?_ | (refine AW.reg mix ?_; simp (implicitDefEqProofs := false); try simp (disch := omega) only [w64, wu64]) | (refine need.of (by first | omega | kernel_rfl) ?_) | (refine AW.fin ?_; try simp (implicitDefEqProofs := false)))
  rw [hB0]
  refine CallS.gf 6 1 ⟨5, LB.map V.d⟩ LB [] (h5') ?_
  (try (simp (implicitDefEqProofs := false); try simp (disch := omega) only [w64, wu64]))
  repeat (first | refine AW.seq ?_ | refine AW.block ?_ | (refine AW.reg mix ?_; simp (implicitDefEqProofs := false); try simp (disch := omega) only [w64, wu64]) | (refine need.of (by first | omega | kernel_rfl) ?_) | (refine AW.fin ?_; try simp (implicitDefEqProofs := false)))
  refine CallS.ro [(2, 1, L0), (1, 1, [.sl NW L0, .int .i64 l.length, .int .i64 w])] (hwd) ?_ (hok := by first | (simp [frzOK, frzH, hL0, htk]; done) | (simp [frzOK, frzH, hL0, htk]; rfl))
  (try (simp (implicitDefEqProofs := false); try simp (disch := omega) only [w64, wu64]))
  repeat (first | refine AW.seq ?_ | refine AW.block ?_ | (refine AW.reg mix ?_; simp (implicitDefEqProofs := false); try simp (disch := omega) only [w64, wu64]) | (refine need.of (by first | omega | kernel_rfl) ?_) | (refine AW.fin ?_; try simp (implicitDefEqProofs := false)))
  refine CallS.g [7] (h6) ?_
  (try (simp (implicitDefEqProofs := false); try simp (disch := omega) only [w64, wu64]))
  repeat (first | refine AW.seq ?_ | refine AW.block ?_ | (refine AW.reg mix ?_; simp (implicitDefEqProofs := false); try simp (disch := omega) only [w64, wu64]) | (refine need.of (by first | omega | kernel_rfl) ?_) | (refine AW.fin ?_; try simp (implicitDefEqProofs := false)))
  refine CallS.g [1, 2] (hps) ?_
  (try (simp (implicitDefEqProofs := false); try simp (disch := omega) only [w64, wu64]))
  repeat (first | refine AW.seq ?_ | refine AW.block ?_ | (refine AW.reg mix ?_; simp (implicitDefEqProofs := false); try simp (disch := omega) only [w64, wu64]) | (refine need.of (by first | omega | kernel_rfl) ?_) | (refine AW.fin ?_; try simp (implicitDefEqProofs := false)))
end
end Go.Proofs.YtdbfenhaljmbfaaGreat.Am
namespace Go.Proofs.YtdbfenhaljmbfaaGreat.Am
section
set_option linter.unusedVariables false
set_option linter.unusedSimpArgs false
open Go.RowKit
set_option maxRecDepth 100000
set_option linter.unusedSimpArgs false
set_option linter.unusedVariables false

theorem wells_rep {k a b : Nat} (h : GoodR k a b) (n : Nat) : wells k a b (List.replicate n (0, 0, false)) := by
  intro s hs
  rw [List.eq_of_mem_replicate hs]; exact zeroS h
theorem wells_set {k a b : Nat} {l : List ST} (h : wells k a b l) (i : Nat) {s : ST} (hs : WellR k a b s.1 s.2.1 s.2.2) : wells k a b (l.set i s) := by
  intro x hx
  rcases List.mem_or_eq_of_mem_set hx with hx | rfl
  · exact h x hx
  · exact hs

theorem cnew_ok {k a b : Nat} (n : Nat) (h : GoodR k a b) (h1 : 1 ≤ n) (hn : n ≤ 256) :
    Eqn Tryz.prog n_carray_New [.d (parD k a b), .d (.int .i64 n)] [] (.tup [.p 0 0, .d (.int .i64 0)]) [arrO 1 k a b, arrV 2 k a b (List.replicate n (0, 0, false)), arrB k a b (List.replicate n (0, 0, false))] := by
  refine Eqn.gen [3, 1, 2] r_carray_New (by simp) (by simp) (by rfl) (by decide) (by simp) (by simp [arrO, arrV, arrB, vecO, vecB]) ?_
  obtain ⟨w0, w16⟩ := wdR_le h
  have hc := rcheck_ok h
  have hb := rbits_ok h
  have hp := pnew_ok n (wdR k a b) hn w0 (by omega)
  have he : encs k a b (List.replicate n (0, 0, false)) = List.replicate n 0 := by simp [encs, encN_zero]
  have g1 : ¬ (n : Int) < 1 := by omega
  have g2 : ¬ (256 : Int) < n := by omega
  rw [show kwR k a b + twR k b + 1 = wdR k a b from rfl] at hb
  simp only [c_carray_New, arrO, arrV, arrB, vecO, vecB, parD, he, List.length_replicate] at hc hb hp ⊢
  generalize wdR k a b = w at *
  generalize wordsP w (List.replicate n 0) = WS at *
  generalize nwP n w = NW at *
  repeat (first | refine AW.seq ?_ | refine AW.block ?_ | (refine AW.reg mix ?_; simp (implicitDefEqProofs := false); try simp (disch := omega) only [w64, wu64]) | (refine need.of (by first | omega | kernel_rfl) ?_) | (refine AW.fin ?_; try simp (implicitDefEqProofs := false)))
  refine CallS.pu (hc) ?_
  (try (simp (implicitDefEqProofs := false) [g1, g2]; try simp (disch := omega) only [w64, wu64]))
  repeat (first | refine AW.seq ?_ | refine AW.block ?_ | (refine AW.reg mix ?_; simp (implicitDefEqProofs := false) [g1, g2]; try simp (disch := omega) only [w64, wu64]) | (refine need.of (by first | omega | kernel_rfl) ?_) | (refine AW.fin ?_; try simp (implicitDefEqProofs := false) [g1, g2]))
  refine AW.cond rfl (fun h => ?_) (fun h => ?_)
  · simp at h
  repeat (first | refine AW.seq ?_ | refine AW.block ?_ | (refine AW.reg mix ?_; simp (implicitDefEqProofs := false); try simp (disch := omega) only [w64, wu64]) | (refine need.of (by first | omega | kernel_rfl) ?_) | (refine AW.fin ?_; try simp (implicitDefEqProofs := false)))
  refine CallS.pu (hb) ?_
  (try (simp (implicitDefEqProofs := false); try simp (disch := omega) only [w64, wu64]))
  repeat (first | refine AW.seq ?_ | refine AW.block ?_ | (refine AW.reg mix ?_; simp (implicitDefEqProofs := false); try simp (disch := omega) only [w64, wu64]) | (refine need.of (by first | omega | kernel_rfl) ?_) | (refine AW.fin ?_; try simp (implicitDefEqProofs := false)))
  refine CallS.g [] (hp) ?_
  (try (simp (implicitDefEqProofs := false); try simp (disch := omega) only [w64, wu64]))
  repeat (first | refine AW.seq ?_ | refine AW.block ?_ | (refine AW.reg mix ?_; simp (implicitDefEqProofs := false); try simp (disch := omega) only [w64, wu64]) | (refine need.of (by first | omega | kernel_rfl) ?_) | (refine AW.fin ?_; try simp (implicitDefEqProofs := false)))
  refine AW.cond rfl (fun h => ?_) (fun h => ?_)
  · simp at h
  repeat (first | refine AW.seq ?_ | refine AW.block ?_ | (refine AW.reg mix ?_; simp (implicitDefEqProofs := false); try simp (disch := omega) only [w64, wu64]) | (refine need.of (by first | omega | kernel_rfl) ?_) | (refine AW.fin ?_; try simp (implicitDefEqProofs := false)))

theorem cadd_ok {k a b : Nat} (cs : List Bool) (l : List ST) (i n p : Nat) (d : Bool) (h : GoodR k a b) (hw : wells k a b l) (hi : i < l.length) (hn : l.length ≤ 256) (hnn : n ≤ 1048576) (hp : p ≤ cs.length) (hc : cs.length ≤ 4000000) (R : TR) (hR : R = addRM cs k a b n (l.getD i (0, 0, false)).1 (l.getD i (0, 0, false)).2.1 (l.getD i (0, 0, false)).2.2 p d) :
    Eqn Tryz.prog n_carray_Array_Add [.p 0 0, .p 3 0, .d (.int .i64 i), .d (.int .i64 n)] [arrO 1 k a b, arrV 2 k a b l, arrB k a b l, tapeO cs p d] (.d (.int .i64 R.e)) [arrO 1 k a b, arrV 2 k a b l, arrB k a b (if R.e = 0 then l.set i (R.y, R.t, R.f) else l), tapeO cs R.p R.d] := by
  refine Eqn.gen [0, 1, 2, 3] r_carray_Array_Add (by simp) (by simp) (by rfl) (by decide) (by simp) (by simp [arrO, arrV, arrB, vecO, vecB, tapeO]) ?_
  have hg := cget_ok l i h hw hi hn
  have hwi := wells_get hw hi
  generalize l.getD i (0, 0, false) = s at *
  obtain ⟨y, t, f⟩ := s
  simp only at hR hg hwi
  have ha := radd_ok cs k a b y t f n p d h hwi hnn hp hc R hR
  have hww := addRM_well (cs := cs) (n := n) (y := y) (t := t) (f := f) (p := p) (d := d) h hwi hp hc
  rw [← hR] at hww
  clear hR
  obtain ⟨e, ry, rt, rf, rp, rd⟩ := R
  simp only at hww ⊢
  by_cases he : e = 0
  · subst he
    have hs := cset_ok l i ry rt rf h hw hi hn (hww.2 rfl)
    simp only [c_carray_Array_Add, arrO, arrV, arrB, vecO, vecB, parD, tsD, stR, if_true, List.length_set, encs_len] at hg ha hs ⊢
    generalize wordsP (wdR k a b) (encs k a b (l.set i (ry, rt, rf))) = WS' at *
    generalize wordsP (wdR k a b) (encs k a b l) = WS at *
    generalize nwP l.length (wdR k a b) = NW at *
    repeat (first | refine AW.seq ?_ | refine AW.block ?_ | (refine AW.reg mix ?_; simp (implicitDefEqProofs := false) [-Bool.exists_bool]; try simp (disch := omega) only [w64, wu64]) | (refine need.of (by first | omega | kernel_rfl) ?_) | (refine AW.fin ?_; try simp (implicitDefEqProofs := false) [-Bool.exists_bool]))
    refine CallS.g [0, 1, 2] (hg) ?_
    (try (simp (implicitDefEqProofs := false) [-Bool.exists_bool]; try simp (disch := omega) only [w64, wu64]))
    repeat (first | refine AW.seq ?_ | refine AW.block ?_ | (refine AW.reg mix ?_; simp (implicitDefEqProofs := false) [-Bool.exists_bool]; try simp (disch := omega) only [w64, wu64]) | (refine need.of (by first | omega | kernel_rfl) ?_) | (refine AW.fin ?_; try simp (implicitDefEqProofs := false) [-Bool.exists_bool]))
    refine AW.cond rfl (fun h => ?_) (fun h => ?_)
    · simp at h
    repeat (first | refine AW.seq ?_ | refine AW.block ?_ | (refine AW.reg mix ?_; simp (implicitDefEqProofs := false) [-Bool.exists_bool]; try simp (disch := omega) only [w64, wu64]) | (refine need.of (by first | omega | kernel_rfl) ?_) | (refine AW.fin ?_; try simp (implicitDefEqProofs := false) [-Bool.exists_bool]))
    refine CallS.o1 3 (ha) ?_
    (try (simp (implicitDefEqProofs := false) [-Bool.exists_bool]; try simp (disch := omega) only [w64, wu64]))
    repeat (first | refine AW.seq ?_ | refine AW.block ?_ | (refine AW.reg mix ?_; simp (implicitDefEqProofs := false) [-Bool.exists_bool]; try simp (disch := omega) only [w64, wu64]) | (refine need.of (by first | omega | kernel_rfl) ?_) | (refine AW.fin ?_; try simp (implicitDefEqProofs := false) [-Bool.exists_bool]))
    refine AW.cond rfl (fun h => ?_) (fun h => ?_)
    · simp at h
    repeat (first | refine AW.seq ?_ | refine AW.block ?_ | (refine AW.reg mix ?_; simp (implicitDefEqProofs := false) [-Bool.exists_bool]; try simp (disch := omega) only [w64, wu64]) | (refine need.of (by first | omega | kernel_rfl) ?_) | (refine AW.fin ?_; try simp (implicitDefEqProofs := false) [-Bool.exists_bool]))
    refine CallS.g [0, 1, 2] (hs) ?_
    (try (simp (implicitDefEqProofs := false) [-Bool.exists_bool]; try simp (disch := omega) only [w64, wu64]))
    repeat (first | refine AW.seq ?_ | refine AW.block ?_ | (refine AW.reg mix ?_; simp (implicitDefEqProofs := false) [-Bool.exists_bool]; try simp (disch := omega) only [w64, wu64]) | (refine need.of (by first | omega | kernel_rfl) ?_) | (refine AW.fin ?_; try simp (implicitDefEqProofs := false) [-Bool.exists_bool]))
  · simp only [c_carray_Array_Add, arrO, arrV, arrB, vecO, vecB, parD, tsD, stR, if_neg he, encs_len] at hg ha ⊢
    generalize wordsP (wdR k a b) (encs k a b l) = WS at *
    generalize nwP l.length (wdR k a b) = NW at *
    repeat (first | refine AW.seq ?_ | refine AW.block ?_ | (refine AW.reg mix ?_; simp (implicitDefEqProofs := false) [-Bool.exists_bool]; try simp (disch := omega) only [w64, wu64]) | (refine need.of (by first | omega | kernel_rfl) ?_) | (refine AW.fin ?_; try simp (implicitDefEqProofs := false) [-Bool.exists_bool]))
    refine CallS.g [0, 1, 2] (hg) ?_
    (try (simp (implicitDefEqProofs := false) [-Bool.exists_bool]; try simp (disch := omega) only [w64, wu64]))
    repeat (first | refine AW.seq ?_ | refine AW.block ?_ | (refine AW.reg mix ?_; simp (implicitDefEqProofs := false) [-Bool.exists_bool]; try simp (disch := omega) only [w64, wu64]) | (refine need.of (by first | omega | kernel_rfl) ?_) | (refine AW.fin ?_; try simp (implicitDefEqProofs := false) [-Bool.exists_bool]))
    refine AW.cond rfl (fun h => ?_) (fun h => ?_)
    · simp at h
    repeat (first | refine AW.seq ?_ | refine AW.block ?_ | (refine AW.reg mix ?_; simp (implicitDefEqProofs := false) [-Bool.exists_bool]; try simp (disch := omega) only [w64, wu64]) | (refine need.of (by first | omega | kernel_rfl) ?_) | (refine AW.fin ?_; try simp (implicitDefEqProofs := false) [-Bool.exists_bool]))
    refine CallS.o1 3 (ha) ?_
    (try (simp (implicitDefEqProofs := false) [-Bool.exists_bool]; try simp (disch := omega) only [w64, wu64]))
    repeat (first | refine AW.seq ?_ | refine AW.block ?_ | (refine AW.reg mix ?_; simp (implicitDefEqProofs := false) [-Bool.exists_bool]; try simp (disch := omega) only [w64, wu64]) | (refine need.of (by first | omega | kernel_rfl) ?_) | (refine AW.fin ?_; try simp (implicitDefEqProofs := false) [-Bool.exists_bool]))
    refine AW.cond rfl (fun h => ?_) (fun h => ?_)
    · repeat (first | refine AW.seq ?_ | refine AW.block ?_ | (refine AW.reg mix ?_; simp (implicitDefEqProofs := false) [-Bool.exists_bool]; try simp (disch := omega) only [w64, wu64]) | (refine need.of (by first | omega | kernel_rfl) ?_) | (refine AW.fin ?_; try simp (implicitDefEqProofs := false) [-Bool.exists_bool]))
    · simp [he] at h
end
end Go.Proofs.YtdbfenhaljmbfaaGreat.Am
namespace Go.Proofs.YtdbfenhaljmbfaaGreat.Am
section
set_option linter.unusedVariables false
set_option linter.unusedSimpArgs false
/-- the ways out of a block's loop -/
def exitQ {β : Type} (id N : Nat) (T1 : β → List V) (H1 : β → List (Option Ob)) (R2 : β → Prop) (Q : Exit → List V → List (Option Ob) → Prop) : Exit → List V → List (Option Ob) → Prop
  | .exit j, T, H => if j = id then ∃ b, R2 b ∧ wk N T (T1 b) ∧ wkH N H (H1 b) else Q (.exit j) T H
  | .normal, _, _ => False
  | e, T, H => Q e T H
attribute [simp] exitQ
/-- A loop that is left at more than one place: what holds where its ways out meet. -/
theorem AW.loopB {P : Program} {L : Nat} {Q : Exit → List V → List (Option Ob) → Prop} {T : List V} {H : List (Option Ob)} {x y : C} {id : Nat} {α β : Type} (N : Nat) (f : α → List (Nat × V)) (g : α → List (Nat × Ob)) (R : α → Prop) (μ : α → Nat) (a0 : α) (f2 : β → List (Nat × V)) (g2 : β → List (Nat × Ob)) (R2 : β → Prop)
    (hN : N ≤ H.length) (hL : L ≤ N) (hR : R a0) (h0 : wk N T (setS (junkI x.dsts 0 T) (f a0))) (h0' : wkH N H (setH (H.take N) (g a0)))
    (h : ∀ a, R a → AW P L x (thenQ (fun T' H' => ∃ a', R a' ∧ μ a' < μ a ∧ wk N T' (setS (junkI x.dsts 0 T) (f a')) ∧ wkH N H' (setH (H.take N) (g a'))) (exitQ id N (fun b => setS (junkI x.dsts 0 T) (f2 b)) (fun b => setH (H.take N) (g2 b)) R2 Q)) (setS (junkI x.dsts 0 T) (f a)) (setH (H.take N) (g a)))
    (h2 : ∀ b, R2 b → AW P L y Q (setS (junkI x.dsts 0 T) (f2 b)) (setH (H.take N) (g2 b))) : AW P L (.loop x) (blockQ id (thenQ (AW P L y Q) Q)) T H := by
  refine AW.mono (AW.loopT N f g R μ a0 hN hL hR h0 h0' h) ?_
  intro e T' H' hq
  cases e with
  | exit j =>
    by_cases hj : j = id
    · subst hj
      simp only [exitQ, if_true] at hq
      obtain ⟨b, hb, hw, hw'⟩ := hq
      simp only [blockQ, if_true, thenQ]
      have hlen : (setH (H.take N) (g2 b)).length = N := by rw [setH_length, List.length_take]; omega
      exact AW.weak (Weak.of (by rw [hlen]; exact hw) (by rw [hlen]; exact hw')) (by omega) (h2 b hb)
    · simp only [exitQ, if_neg hj] at hq
      simp only [blockQ, if_neg hj, thenQ]
      exact hq
  | normal => exact hq.elim
  | _ => exact hq
end
end Go.Proofs.YtdbfenhaljmbfaaGreat.Am
