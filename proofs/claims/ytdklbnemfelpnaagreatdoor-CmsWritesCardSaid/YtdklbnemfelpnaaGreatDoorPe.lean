/- Parts of the proof: Bits1, Bits2, Bits3, Reg2, Reg3, Reg4, PackM, Pack1, Pack2, Carr1, Carr2, Carr3, Carr6, Carr7, AmLB, Reg5, ChainG, ChainH, AmLaw, Reg6, Carr4, Carr8, Carr9, CarrA, PackW, CodV, AmUn, Cms1, HashM, Mul1, Hash1, FlatM, Cms2, CmsW, CodR, CarrB, Cread, CmsR. -/
import Derived.Test.YtdklbnemfelpnaaGreatDoorPd
set_option linter.unusedVariables false
set_option linter.unusedSimpArgs false
set_option maxRecDepth 100000
namespace Go.Proofs.YtdklbnemfelpnaaGreatDoor.Am
section
open Go.RowKit
def u8s (ws : List Nat) : List V := ws.map fun x : Nat => V.d (.int .u8 x)
def BY (ws : List Nat) : D := .sl ws.length (ws.map fun x : Nat => .int .u8 x)
theorem o_oj (ws : List Nat) : (u8s ws).length = ws.length := by simp [u8s]
theorem o_ok {ws : List Nat} {j : Nat} (h : j < ws.length) : (u8s ws)[j]? = some (.d (.int .u8 (ws.getD j 0 : Nat))) := by simp [u8s, h]
theorem o_ol (ws : List Nat) (j v : Nat) : (u8s ws).set j (.d (.int .u8 v)) = u8s (ws.set j v) := by simp [u8s, List.map_set]
theorem o_om (ws : List Nat) (v : Nat) : u8s ws ++ [.d (.int .u8 v)] = u8s (ws ++ [v]) := by simp [u8s]
@[simp] theorem o_on (n : Nat) (ws : List Nat) : V.lowl n (u8s ws) = true := by induction ws <;> simp_all [u8s]
@[simp] theorem o_oo (θ : Nat → Nat) (ws : List Nat) : V.rens θ (u8s ws) = u8s ws := by induction ws <;> simp_all [u8s]
def wrO (m : Nat) (bs : List Bool) : Ob := ⟨78, [.own m 1 ((bs.length + 7) / 8), .d (.int .i64 bs.length)]⟩
def wrB (bs : List Bool) : Ob := ⟨5, u8s (bytesOf bs)⟩

theorem o_op (x y : Nat) (hx : x < 256) (hy : y < 256) : bits BinOp.or IntKind.u8 (x : Int) (y : Int) = ((x ||| y : Nat) : Int) := by
 show IntKind.u8.wrap (((BitVec.ofInt 8 (x : Int)) ||| (BitVec.ofInt 8 (y : Int))).toNat : Int) = _
 rw [BitVec.toNat_or, BitVec.ofInt_natCast, BitVec.ofInt_natCast, BitVec.toNat_ofNat, BitVec.toNat_ofNat, Nat.mod_eq_of_lt (by omega), Nat.mod_eq_of_lt (by omega)]
 have := Nat.or_lt_two_pow (n := 8) (x := x) (y := y) hx hy
 rw [IntKind.wrap_u8]
 omega
theorem o_oq {c r : Nat} (hr : r < 8) (h : c * 2 ^ (8 - r) < 256) : bits BinOp.or IntKind.u8 ((c * 2 ^ (8 - r) : Nat) : Int) ((2 ^ (7 - r) : Nat) : Int) = ((c * 2 ^ (8 - r) + 2 ^ (7 - r) : Nat) : Int) := by
 have h2 : 2 ^ (7 - r) < 2 ^ (8 - r) := Nat.pow_lt_pow_right (by omega) (by omega)
 have h3 : 2 ^ (7 - r) ≤ 2 ^ 7 := Nat.pow_le_pow_right (by omega) (by omega)
 rw [o_op _ _ h (by omega), Nat.mul_comm c, Nat.two_pow_add_eq_or_of_lt h2]

theorem o_or (b : Bool) : Eqn Tryz.prog o_b6 [.p 0 0, .d (.bool b)] [⟨78, [.d .nilsl, .d (.int .i64 0)]⟩] (.tup []) [wrO 1 [b], wrB [b]] := by
 refine Eqn.gen [0, 2] o_b8 (by simp) (by simp) (by rfl) (by decide) (by simp) (by simp [wrO, wrB, o_on]) ?_
 simp only [o_b7]
 have e1 : IntKind.i64.wrap 1 = 1 := w64 (by omega) (by omega)
 have e2 : bits BinOp.or IntKind.u8 0 (IntKind.u8.wrap 128) = 128 := by decide
 refine G0 ?_; try with_reducible exact tt
 refine AW.cond rfl (fun h => ?_) (fun h => ?_)
 ·refine G0 ?_; try with_reducible exact tt
  cases b with
  | true =>
   refine AW.cond rfl (fun h => ?_) (fun h => ?_)
   ·refine G1 (fs e1 e2) ?_; try with_reducible exact tt
    simp [wrO, wrB, u8s, bytesOf, byteAt, bit, b2n, List.range_succ]
   ·simp at h
  | false =>
   refine AW.cond rfl (fun h => ?_) (fun h => ?_)
   ·simp at h
   ·refine G1 (fs e1 e2) ?_; try with_reducible exact tt
    simp [wrO, wrB, u8s, bytesOf, byteAt, bit, b2n, List.range_succ]
 ·simp at h

theorem o_os (bs : List Bool) (b : Bool) (h0 : bs ≠ []) (hn : bs.length ≤ 1000000) : EqnD Tryz.prog o_b6 [.p 0 0, .d (.bool b)] [wrO 1 bs, wrB bs] (.tup []) [wrO 2 (bs ++ [b]), wrB bs, wrB (bs ++ [b])] [1] := by
 have e1 : IntKind.i64.wrap ((bs.length : Int) + 1) = (bs.length : Int) + 1 := w64 (by omega) (by omega)
 have e2 : ((bs.length : Nat) : Int).tmod 8 = ((bs.length % 8 : Nat) : Int) := by rw [Int.tmod_eq_emod_of_nonneg (by omega)]; rfl
 have e2' : ((bs.length : Nat) : Int) % 8 = ((bs.length % 8 : Nat) : Int) := rfl
 have e3 : IntKind.i64.wrap (((bs.length : Nat) : Int) / 8) = ((bs.length / 8 : Nat) : Int) := by rw [w64 (by omega) (by omega)]; rfl
 by_cases hr : bs.length % 8 = 0
 ·refine Eqn.gen [0, 1, 3] o_b8 (by simp) (by simp) (by rfl) (by decide) (by simp) (by simp [wrO, wrB, o_on]) ?_
  have hb := o_od (b := b) hr
  have hl : (bytesOf bs).length = bs.length / 8 := by rw [o_o7]; omega
  simp only [o_b7, wrO, wrB, hb, List.length_append, List.length_singleton]
  rw [show (bs.length + 7) / 8 = bs.length / 8 by omega, show (bs.length + 1 + 7) / 8 = bs.length / 8 + 1 by omega]
  rw [hr] at e2 e2'
  have hg : (u8s (bytesOf bs ++ [0]))[bs.length / 8]? = some (.d (.int .u8 0)) := by rw [o_ok (by simp; omega)]; simp [List.getD, ← hl]
  have hs : ∀ v, (u8s (bytesOf bs ++ [0])).set (bs.length / 8) (.d (.int .u8 v)) = u8s (bytesOf bs) ++ [.d (.int .u8 v)] := fun v => by simp [u8s, ← hl]
  have hu := o_om (bytesOf bs) 0
  have hu2 := o_om (bytesOf bs) (b2n b * 128)
  have hlen := o_oj (bytesOf bs)
  rw [hl] at hlen
  generalize bytesOf bs = ws at *
  have hq : bs.length / 8 ≤ 1000000 := by omega
  generalize bs.length / 8 = q at *
  generalize bs.length = n at *
  have e4 : bits BinOp.or IntKind.u8 0 (IntKind.u8.wrap 128) = 128 := by decide
  simp at hu
  have hlen2 : (u8s (ws ++ [0])).length = q + 1 := by rw [o_oj]; simp; omega
  refine G1 (fs e2 (fs e2' hu)) ?_; try with_reducible exact tt
  refine AW.cond rfl (fun h => ?_) (fun h => ?_)
  ·refine G1 (fs e2 (fs e2' hu)) ?_; try with_reducible exact tt
   cases b with
   | true =>
    simp [b2n] at hu2
    refine AW.cond rfl (fun h => ?_) (fun h => ?_)
    ·refine G1 (fs e1 (fs e2 (fs e2' (fs e3 (fs e4 (fs hg hs)))))) ?_; try with_reducible exact tt
     simp [hu2, b2n]
    ·simp at h
   | false =>
    simp [b2n] at hu2
    refine AW.cond rfl (fun h => ?_) (fun h => ?_)
    ·simp at h
    ·refine G1 e1 ?_; try with_reducible exact tt
     simp [hu2, b2n]
  ·simp at h
 ·refine Eqn.gen [0, 1, 1] o_b8 (by simp) (by simp) (by rfl) (by decide) (by simp) (by simp [wrO, wrB, o_on]) ?_
  obtain ⟨c, hc, hb⟩ := o_oe (b := b) hr
  have hlt : c * 2 ^ (8 - bs.length % 8) < 256 := by
   rw [← hc]
   have : (bytesOf bs).getD (bs.length / 8) 0 = byteAt bs (bs.length / 8) := by
    unfold bytesOf
    rw [List.getD_eq_getElem?_getD, List.getElem?_map, List.getElem?_range (by omega)]; rfl
   rw [this]; exact o_o6 _ _
  have hor := o_oq (r := bs.length % 8) (Nat.mod_lt _ (by omega)) hlt
  have hR : bs.length % 8 < 8 := Nat.mod_lt _ (by omega)
  have hl : (bytesOf bs).length = bs.length / 8 + 1 := by rw [o_o7]; omega
  have hg := o_ok (ws := bytesOf bs) (j := bs.length / 8) (by omega)
  rw [hc] at hg
  have hs := o_ol (bytesOf bs) (bs.length / 8)
  have hset : c * 2 ^ (8 - bs.length % 8) = (bytesOf bs).getD (bs.length / 8) 0 := hc.symm
  have hkeep : (bytesOf bs).set (bs.length / 8) (c * 2 ^ (8 - bs.length % 8)) = bytesOf bs := by
   rw [hset]
   apply List.ext_getElem?
   intro i
   rw [List.getElem?_set]
   split
   ·rename_i h; subst h
    rw [if_pos (by omega), List.getD_eq_getElem?_getD, List.getElem?_eq_getElem (by omega)]; rfl
   ·rfl
  have h7 : 2 ^ (7 - bs.length % 8) ≤ 2 ^ 7 := Nat.pow_le_pow_right (by omega) (by omega)
  simp only [o_b7, wrO, wrB, hb, List.length_append, List.length_singleton]
  rw [show (bs.length + 7) / 8 = bs.length / 8 + 1 by omega, show (bs.length + 1 + 7) / 8 = bs.length / 8 + 1 by omega]
  have e5 : IntKind.i64.wrap (7 - ((bs.length % 8 : Nat) : Int)) = ((7 - bs.length % 8 : Nat) : Int) := by rw [w64 (by omega) (by omega)]; omega
  have e6 : IntKind.u8.wrap (2 ^ (7 - bs.length % 8)) = ((2 ^ (7 - bs.length % 8) : Nat) : Int) := by
   have : ((2 : Int) ^ (7 - bs.length % 8)) = ((2 ^ (7 - bs.length % 8) : Nat) : Int) := by rw [Int.natCast_pow]; rfl
   rw [IntKind.wrap_u8, this]
   exact Int.emod_eq_of_lt (Int.natCast_nonneg _) (by exact_mod_cast Nat.lt_of_le_of_lt h7 (by decide))
  have e7 : 7 - bs.length % 8 ≤ 7 := by omega
  have hlen := o_oj (bytesOf bs)
  rw [hl] at hlen
  clear hset hc hl hb
  generalize bytesOf bs = ws at *
  generalize bs.length / 8 = q at *
  generalize bs.length % 8 = r at *
  generalize bs.length = n at *
  generalize 2 ^ (7 - r) = P at *
  generalize c * 2 ^ (8 - r) = C at *
  have hCP : C + b2n b * P = if b then C + P else C := by cases b <;> simp [b2n]
  rw [hCP]
  have hr' : ¬ (r : Int) = 0 := by omega
  refine G1 (fs e2 (fs e2' (fs hr hr'))) ?_; try with_reducible exact tt
  refine AW.cond rfl (fun h => ?_) (fun h => ?_)
  ·simp [hr, hr'] at h
  ·refine G0 ?_; try with_reducible exact tt
   cases b with
   | true =>
    refine AW.cond rfl (fun h => ?_) (fun h => ?_)
    ·refine G1 (fs e1 (fs e2 (fs e2' (fs e3 (fs e5 (fs e6 (fs e7 (fs hg (fs hor hs))))))))) ?_; try with_reducible exact tt
     exact Subs.of (by rw [← hs]; simp)
    ·simp at h
   | false =>
    refine AW.cond rfl (fun h => ?_) (fun h => ?_)
    ·simp at h
    ·refine G1 e1 ?_; try with_reducible exact tt
     simp [hkeep]

theorem o_ot (m : Nat) (bs : List Bool) : Eqn Tryz.prog o_99 [.p 0 0] [wrO 1 bs, wrB bs] (.d (.int .i64 bs.length)) [wrO 1 bs, wrB bs] := by
 refine Eqn.gen [0, 1] o_9b (by simp) (by simp) (by rfl) (by decide) (by simp) (by simp [wrO, wrB]) ?_
 simp only [o_9a, wrO, wrB]
 refine G0 ?_; try with_reducible exact tt

theorem o_ou (bs : List Bool) (h0 : bs ≠ []) (hn : bs.length ≤ 1000000) : Eqn Tryz.prog o_66 [.p 0 0] [wrO 1 bs, wrB bs] (.own 2 1 (bytesOf bs).length) [wrO 1 bs, wrB bs, wrB bs] := by
 refine Eqn.gen [0, 1, 2] o_68 (by simp) (by simp) (by rfl) (by decide) (by simp) (by simp [wrO, wrB]) ?_
 have hl : 0 < bs.length := by cases bs with | nil => exact absurd rfl h0 | cons _ _ => simp
 simp only [o_67, wrO, wrB, o_o7]
 have hlen := o_oj (bytesOf bs)
 rw [o_o7] at hlen
 have hq : (bs.length + 7) / 8 ≤ 1000000 := by omega
 have hset : setMany (List.replicate ((bs.length + 7) / 8) (V.d (.int .u8 0))) 0 (u8s (bytesOf bs)) = u8s (bytesOf bs) := by
  rw [o_j _ _ _ (by simp [hlen])]
  simp [hlen]
 have htake : (u8s (bytesOf bs)).take ((bs.length + 7) / 8) = u8s (bytesOf bs) := List.take_of_length_le (by omega)
 have hren : ∀ θ, V.rens θ (u8s (bytesOf bs)) = u8s (bytesOf bs) := fun θ => o_oo θ _
 generalize u8s (bytesOf bs) = C at *
 generalize (bs.length + 7) / 8 = q at *
 generalize bs.length = n at *
 have e1 : IntKind.i64.wrap (q : Int) = q := w64 (by omega) (by omega)
 refine G1 (fs e1 (fs hset (fs htake hren))) ?_; try with_reducible exact tt

theorem o_ov (w : Int) : Eqn Tryz.prog o_b0 [.d (.int .i64 w)] [] (.d (.bool (decide (0 ≤ w ∧ w ≤ 64)))) [] := by
 refine Eqn.pure o_b2 (o_42 _) ?_
 simp only [o_b1]
 by_cases h : 0 ≤ w
 ·refine G1 h ?_; try with_reducible exact tt
 ·have h' : w < 0 := by omega
  refine G1 (fs h h') ?_; try with_reducible exact tt

theorem o_ow (n w : Nat) (hw : w ≤ 64) (h : n < 2 ^ w) : Eqn Tryz.prog o_b3 [.d (.int .u64 n), .d (.int .i64 w)] [] (.d (.bool true)) [] := by
 refine Eqn.pure o_b5 (o_42 _) ?_
 simp only [o_b4]
 by_cases h64 : w = 64
 ·subst h64
  refine G0 ?_; try with_reducible exact tt
 ·have h1 : ¬ (w : Int) = 64 := by omega
  have h2 : ((n : Int) / 2 ^ w) = 0 := by
   have : ((2 : Int) ^ w) = ((2 ^ w : Nat) : Int) := by rw [Int.natCast_pow]; rfl
   rw [this, ← Int.natCast_ediv, Nat.div_eq_of_lt h]; rfl
  have h3 : w < 64 := by omega
  refine G1 (fs h64 (fs h1 (fs h2 h3))) ?_; try with_reducible exact tt

theorem o_ox (x : Nat) (hx : x < 18446744073709551616) : bits BinOp.and IntKind.u64 (x : Int) 1 = ((x % 2 : Nat) : Int) := by
 show IntKind.u64.wrap (((BitVec.ofInt 64 (x : Int)) &&& (BitVec.ofInt 64 (1 : Int))).toNat : Int) = _
 have h1 : (BitVec.ofInt 64 (1 : Int)).toNat = 1 := by decide
 rw [BitVec.toNat_and, h1, BitVec.ofInt_natCast, BitVec.toNat_ofNat, Nat.mod_eq_of_lt (by omega), Nat.and_one_is_mod, IntKind.wrap_u64]
 omega

theorem o_oy (n w i : Nat) (h : i < w) : (bitsW n w).take (i + 1) = (bitsW n w).take i ++ [decide (n / 2 ^ (w - 1 - i) % 2 = 1)] := by
 rw [List.take_add_one, List.getElem?_eq_getElem (by simpa using h)]
 simp [bitsW]

set_option maxHeartbeats 1000000 in
theorem o_oz (n w : Nat) (h0 : 0 < w) (hw : w ≤ 64) (h : n < 2 ^ w) (hn : n < 18446744073709551616) : Eqn Tryz.prog o_89 [.p 0 0, .d (.int .u64 n), .d (.int .i64 w)] [⟨78, [.d .nilsl, .d (.int .i64 0)]⟩] (.d (.int .i64 0)) [wrO 1 (bitsW n w), wrB (bitsW n w)] := by
 refine Eqn.gen [0, 1] o_8b (by simp) (by simp) (by rfl) (by decide) (by simp) (by simp [wrO, wrB]) ?_
 simp only [o_8a]
 have hg := o_ov w
 rw [show decide (0 ≤ (w : Int) ∧ (w : Int) ≤ 64) = true by simp; omega] at hg
 refine G0 ?_; try with_reducible exact tt
 refine CallS.pu (hg) (R0 ?_); try with_reducible exact tt
 refine CallS.pu (o_ow n w hw h) (R0 ?_); try with_reducible exact tt
 refine AW.cond rfl (fun h => ?_) (fun h => ?_)
 ·simp at h
 clear h
 refine G0 ?_; try with_reducible exact tt
 refine AW.loopG (α := Nat) (fun i => [.p 0 0, .d (.int .u64 n), .d (.int .i64 w)] ++ List.replicate 3 .junk ++ [.d (.int .i64 0)] ++ List.replicate 10 .junk ++ [.d (.int .i64 w), .d (.int .i64 (i : Int))] ++ List.replicate 13 .junk) (fun i => if i = 0 then [some ⟨78, [.d .nilsl, .d (.int .i64 0)]⟩] else [some (wrO 1 ((bitsW n w).take i)), some (wrB ((bitsW n w).take i))]) (fun i => i ≤ w) (fun i => w - i) 0 ?_ (Nat.zero_le _) ?_ ?_ ?_
 ·intro i hi; split <;> simp
 ·simp
 ·simp
 rintro i hi
 obtain ⟨W, hW⟩ : ∃ W, W = w - 1 := ⟨_, rfl⟩
 have e2 : IntKind.i64.wrap ((w : Int) - 1) = (W : Int) := by rw [w64 (by omega) (by omega)]; omega
 have hnum : i < w → ∃ (S X : Nat) (b : Bool), IntKind.i64.wrap ((W : Int) - i) = (S : Int) ∧ S = W - i ∧ (n : Int) / 2 ^ S = (X : Int) ∧ bits BinOp.and IntKind.u64 (X : Int) 1 = (X : Int) % 2 ∧ ((X : Int) % 2 == 1) = b ∧ (bitsW n w).take (i + 1) = (bitsW n w).take i ++ [b] := by
  intro h
  refine ⟨W - i, n / 2 ^ (W - i), decide (n / 2 ^ (W - i) % 2 = 1), by rw [w64 (by omega) (by omega)]; omega, rfl, ?_, ?_, ?_, by rw [hW]; exact o_oy n w i h⟩
  ·rw [Int.natCast_ediv, Int.natCast_pow]; rfl
  ·exact o_ox _ (Nat.lt_of_le_of_lt (Nat.div_le_self _ _) hn)
  ·generalize n / 2 ^ (W - i) = z; rw [Bool.eq_iff_iff]; simp; omega
 have hend : (bitsW n w).take w = bitsW n w := List.take_of_length_le (by simp)
 have htl : ∀ k, k ≤ w → ((bitsW n w).take k).length = k := fun k h => by rw [List.length_take, o_o2]; omega
 have e1 : IntKind.i64.wrap ((i : Int) + 1) = ((i + 1 : Nat) : Int) := by rw [w64 (by omega) (by omega)]; omega
 by_cases hiw : i = w
 ·subst hiw
  rw [if_neg (by omega), hend]
  generalize bitsW n i = bs at *
  simp [wrO, wrB]
  refine G0 ?_; try with_reducible exact tt
  refine AW.cond rfl (fun h => ?_) (fun h => ?_)
  ·simp at h
  refine G0 ?_; try with_reducible exact tt
 ·have hlt : i < w := by omega
  have hlt' : (i : Int) < w := by omega
  obtain ⟨S, X, b, e3, e4, e5, e6, e7, e8⟩ := hnum hlt
  have e4' : (S : Int) ≤ 64 := by omega
  have e4w : (W : Int) ≤ 64 := by omega
  by_cases hi0 : i = 0
  ·subst hi0
   rw [if_pos rfl]
   rw [Nat.sub_zero] at e4
   subst e4
   simp
   refine G1 (fs hlt hlt') ?_; try with_reducible exact tt
   refine AW.cond rfl (fun h => ?_) (fun h => ?_)
   ·refine G1 (fs e2 (fs e4w (fs e5 (fs e6 e7)))) ?_; try with_reducible exact tt
    simp only [Int.toNat_natCast, e5, e6, e7]
    refine CallS.g [0] (o_or b) (R0 ?_); try with_reducible exact tt
    refine ⟨1, 1, 1, by simp, by omega, by omega, ?_, ?_⟩
    ·simp [swT, sw, V.ren, V.rens]
    ·simp at e8
     simp [swH, sw, Ob.sw, V.ren, V.rens, e8, wrO, wrB]
   ·simp [hlt'] at h
  ·rw [if_neg hi0]
   have hne : (bitsW n w).take i ≠ [] := fun h => by have := htl i hi; rw [h] at this; simp at this; omega
   have hB := o_os ((bitsW n w).take i) b hne (by have := htl i hi; omega)
   rw [← e8] at hB
   have hk := htl (i + 1) (by omega)
   have hk0 := htl i hi
   simp only [wrO, wrB, hk, hk0] at hB ⊢
   simp
   refine G1 (fs hlt hlt') ?_; try with_reducible exact tt
   refine AW.cond rfl (fun h => ?_) (fun h => ?_)
   ·refine G1 (fs e2 (fs e3 (fs e4' (fs e5 (fs e6 e7))))) ?_; try with_reducible exact tt
    refine CallS.g [0, 1] (hB) (R1 e1 ?_); try with_reducible exact tt
    refine ⟨i + 1, 1, 2, by simp, by omega, by omega, ?_, ?_⟩
    ·simp [swT, sw, V.ren, V.rens, e1]
    ·have hmin : min (i + 1) w = i + 1 := Nat.min_eq_left (by omega)
     simp [swH, sw, Ob.sw, V.ren, V.rens, hk, hmin]
   ·simp [hlt'] at h
end
end Go.Proofs.YtdklbnemfelpnaaGreatDoor.Am
namespace Go.Proofs.YtdklbnemfelpnaaGreatDoor.Am
section
open Go.RowKit
set_option maxHeartbeats 1000000 in
theorem o_p0 (bs : List Bool) (n w : Nat) (hbs : bs ≠ []) (hbl : bs.length ≤ 900000) (hw : w ≤ 64) (h : n < 2 ^ w) (hn : n < 18446744073709551616) : EqnD Tryz.prog o_89 [.p 0 0, .d (.int .u64 n), .d (.int .i64 w)] [wrO 1 bs, wrB bs] (.d (.int .i64 0)) [wrO 2 (bs ++ bitsW n w), wrB bs, wrB (bs ++ bitsW n w)] [1] := by
 have hg := o_ov w
 rw [show decide (0 ≤ (w : Int) ∧ (w : Int) ≤ 64) = true by simp; omega] at hg
 by_cases hw0 : w = 0
 ·subst hw0
  refine Eqn.gen [0, 1, 1] o_8b (by simp) (by simp) (by rfl) (by decide) (by simp) (by simp [wrO, wrB]) ?_
  rw [show bitsW n 0 = [] by rfl, List.append_nil]
  simp only [o_8a, wrO, wrB]
  have hf := o_ow n 0 hw h
  simp at hg hf
  refine G0 ?_; try with_reducible exact tt
  refine CallS.pu (hg) (R0 ?_); try with_reducible exact tt
  refine CallS.pu (hf) (R0 ?_); try with_reducible exact tt
  refine AW.cond rfl (fun h => ?_) (fun h => ?_)
  ·simp at h
  clear h
  refine G0 ?_; try with_reducible exact tt
  refine AW.loopT (α := Nat) 2 (fun i => [(18, .d (.int .i64 0))]) (fun i => []) (fun i => i = 0) (fun i => i) 0 ?_ ?_ rfl ?_ ?_ ?_
  ·simp
  ·simp
  ·simp
  ·simp
  rintro i rfl
  simp
  refine G0 ?_; try with_reducible exact tt
  refine AW.cond rfl (fun h => ?_) (fun h => ?_)
  ·simp at h
  refine G0 ?_; try with_reducible exact tt
 have h0 : 0 < w := by omega
 refine Eqn.gen [0, 1, 2] o_8b (by simp) (by simp) (by rfl) (by decide) (by simp) (by simp [wrO, wrB]) ?_
 simp only [o_8a]
 refine G0 ?_; try with_reducible exact tt
 refine CallS.pu (hg) (R0 ?_); try with_reducible exact tt
 refine CallS.pu (o_ow n w hw h) (R0 ?_); try with_reducible exact tt
 refine AW.cond rfl (fun h => ?_) (fun h => ?_)
 ·simp at h
 clear h
 refine G0 ?_; try with_reducible exact tt
 refine AW.loopG (α := Nat) (fun i => [.p 0 0, .d (.int .u64 n), .d (.int .i64 w)] ++ List.replicate 3 .junk ++ [.d (.int .i64 0)] ++ List.replicate 10 .junk ++ [.d (.int .i64 w), .d (.int .i64 (i : Int))] ++ List.replicate 13 .junk) (fun i => if i = 0 then [some (wrO 1 bs), some (wrB bs)] else [some (wrO 2 (bs ++ (bitsW n w).take i)), none, some (wrB (bs ++ (bitsW n w).take i))]) (fun i => i ≤ w) (fun i => w - i) 0 ?_ (Nat.zero_le _) ?_ ?_ ?_
 ·intro i hi; split <;> simp
 ·simp
 ·simp [wrO, wrB]
 rintro i hi
 obtain ⟨W, hW⟩ : ∃ W, W = w - 1 := ⟨_, rfl⟩
 have e2 : IntKind.i64.wrap ((w : Int) - 1) = (W : Int) := by rw [w64 (by omega) (by omega)]; omega
 have hnum : i < w → ∃ (S X : Nat) (b : Bool), IntKind.i64.wrap ((W : Int) - i) = (S : Int) ∧ S = W - i ∧ (n : Int) / 2 ^ S = (X : Int) ∧ bits BinOp.and IntKind.u64 (X : Int) 1 = (X : Int) % 2 ∧ ((X : Int) % 2 == 1) = b ∧ bs ++ (bitsW n w).take (i + 1) = (bs ++ (bitsW n w).take i) ++ [b] := by
  intro h
  refine ⟨W - i, n / 2 ^ (W - i), decide (n / 2 ^ (W - i) % 2 = 1), by rw [w64 (by omega) (by omega)]; omega, rfl, ?_, ?_, ?_, by rw [hW, List.append_assoc]; congr 1; exact o_oy n w i h⟩
  ·rw [Int.natCast_ediv, Int.natCast_pow]; rfl
  ·exact o_ox _ (Nat.lt_of_le_of_lt (Nat.div_le_self _ _) hn)
  ·generalize n / 2 ^ (W - i) = z; rw [Bool.eq_iff_iff]; simp; omega
 have hend : (bitsW n w).take w = bitsW n w := List.take_of_length_le (by simp)
 have htl : ∀ k, k ≤ w → (bs ++ (bitsW n w).take k).length = bs.length + k := fun k h => by rw [List.length_append, List.length_take, o_o2]; omega
 have e1 : IntKind.i64.wrap ((i : Int) + 1) = ((i + 1 : Nat) : Int) := by rw [w64 (by omega) (by omega)]; omega
 by_cases hiw : i = w
 ·subst hiw
  rw [if_neg (by omega), hend]
  generalize bs ++ bitsW n i = cs at *
  simp [wrO, wrB]
  refine G0 ?_; try with_reducible exact tt
  refine AW.cond rfl (fun h => ?_) (fun h => ?_)
  ·simp at h
  refine G0 ?_; try with_reducible exact tt
 ·have hlt : i < w := by omega
  have hlt' : (i : Int) < w := by omega
  obtain ⟨S, X, b, e3, e4, e5, e6, e7, e8⟩ := hnum hlt
  have e4' : (S : Int) ≤ 64 := by omega
  have e4w : (W : Int) ≤ 64 := by omega
  have hne : bs ++ (bitsW n w).take i ≠ [] := fun h => hbs (List.append_eq_nil_iff.1 h).1
  have hB := o_os (bs ++ (bitsW n w).take i) b hne (by have := htl i hi; omega)
  rw [← e8] at hB
  have hk := htl (i + 1) (by omega)
  have hk0 := htl i hi
  have hmin : min (i + 1) w = i + 1 := Nat.min_eq_left (by omega)
  generalize hX1 : bs ++ (bitsW n w).take (i + 1) = X1 at *
  by_cases hi0 : i = 0
  ·subst hi0
   rw [if_pos rfl]
   rw [Nat.sub_zero] at e4
   subst e4
   simp only [List.take_zero, List.append_nil] at hB
   simp only [wrO, wrB, hk] at hB ⊢
   simp
   refine G1 (fs hlt hlt') ?_; try with_reducible exact tt
   refine AW.cond rfl (fun h => ?_) (fun h => ?_)
   ·refine G1 (fs e2 (fs e4w (fs e5 (fs e6 e7)))) ?_; try with_reducible exact tt
    simp only [Int.toNat_natCast, e5, e6, e7]
    refine CallS.g [0, 1] (hB) (R1 e1 ?_); try with_reducible exact tt
    refine ⟨1, 2, 2, by simp, by omega, by omega, ?_, ?_⟩
    ·simp [swT, sw, V.ren, V.rens]
    ·simp at hX1
     have hmin1 : min 1 w = 1 := Nat.min_eq_left (by omega)
     simp [swH, sw, Ob.sw, V.ren, V.rens, hX1, hk, hmin1]
   ·simp [hlt'] at h
  ·rw [if_neg hi0]
   simp only [wrO, wrB, hk, hk0] at hB ⊢
   simp
   refine G1 (fs hlt hlt') ?_; try with_reducible exact tt
   refine AW.cond rfl (fun h => ?_) (fun h => ?_)
   ·refine G1 (fs e2 (fs e3 (fs e4' (fs e5 (fs e6 e7))))) ?_; try with_reducible exact tt
    refine CallS.g [0, 2] (hB) (R1 e1 ?_); try with_reducible exact tt
    refine ⟨i + 1, 2, 3, by simp, by omega, by omega, ?_, ?_⟩
    ·simp [swT, sw, V.ren, V.rens, e1]
    ·simp [swH, sw, Ob.sw, V.ren, V.rens, hX1, hk, hmin]
   ·simp [hlt'] at h

def rdO (ws : List Nat) (at_ : Nat) : Ob := ⟨164, [.d (BY ws), .d (.int .i64 at_)]⟩

theorem o_p1 (n : Nat) (l : List D) (hl : l.length = n) (hn : n ≤ 4000000) : Eqn Tryz.prog o_8u [.d (.sl n l)] [] (.d (.sl n l)) [] := by
 refine Eqn.pure o_8w (o_42 _) ?_
 simp only [o_8v]
 rcases Nat.eq_zero_or_pos n with rfl | h0
 ·have : l = [] := List.eq_nil_of_length_eq_zero hl
  subst this
  refine AW.empty 0 rfl ?_ ?_
  ·simp
   refine G0 ?_; try with_reducible exact tt
   refine AW.cond rfl (fun h => ?_) (fun h => ?_)
   ·refine G0 ?_; try with_reducible exact tt
    exact Sub1.nil
   ·simp at h
  ·simp
   refine G0 ?_; try with_reducible exact tt
   refine AW.cond rfl (fun h => ?_) (fun h => ?_)
   ·simp at h
   ·refine G0 ?_; try with_reducible exact tt
    exact Sub1.sl0
 ·refine G1 h0 ?_; try with_reducible exact tt
  refine AW.cond rfl (fun h => ?_) (fun h => ?_)
  ·simp at h
  ·refine G0 ?_; try with_reducible exact tt
   have h1 : ¬ n = 0 := by omega
   simp [h1, hl]
   refine need.of (by omega) ?_
   refine AW.freeze 0 1 ⟨5, l.map .d⟩ l (by simp) rfl ?_
   simp
   refine G0 ?_; try with_reducible exact tt
   have : l.take n = l := List.take_of_length_le (by omega)
   simp [this]

theorem o_p2 (ws : List Nat) (hn : ws.length ≤ 4000000) : Eqn Tryz.prog o_63 [.d (BY ws)] [] (.p 0 0) [rdO ws 0] := by
 refine Eqn.new1 o_65 ⟨rfl, fun _ => rfl⟩ ?_
 simp only [o_64, BY, rdO]
 refine G0 ?_; try with_reducible exact tt
 refine CallS.pu (o_p1 _ (ws.map fun x : Nat => .int .u8 x) (by simp) hn) (R0 ?_); try with_reducible exact tt

theorem o_p3 (ws : List Nat) (a : Nat) (hn : ws.length ≤ 4000000) (ha : a ≤ 8 * ws.length) : Eqn Tryz.prog o_6o [.p 0 0] [rdO ws a] (.d (.int .i64 (8 * ws.length - a : Nat))) [rdO ws a] := by
 refine Eqn.obj1 o_6q (o_42 _) ⟨rfl, fun _ => rfl⟩ ?_
 simp only [o_6p, BY, rdO]
 have e1 : IntKind.i64.wrap (8 * (ws.length : Int)) = 8 * (ws.length : Int) := w64 (by omega) (by omega)
 have e2 : IntKind.i64.wrap (8 * (ws.length : Int) - a) = ((8 * ws.length - a : Nat) : Int) := by rw [w64 (by omega) (by omega)]; omega
 refine G1 (fs e1 e2) ?_; try with_reducible exact tt

theorem o_p4 (x : Nat) (hx : x < 256) : bits BinOp.and IntKind.u8 (x : Int) 1 = (x : Int) % 2 := by
 show IntKind.u8.wrap (((BitVec.ofInt 8 (x : Int)) &&& (BitVec.ofInt 8 (1 : Int))).toNat : Int) = _
 have h1 : (BitVec.ofInt 8 (1 : Int)).toNat = 1 := by decide
 rw [BitVec.toNat_and, h1, BitVec.ofInt_natCast, BitVec.toNat_ofNat, Nat.mod_eq_of_lt (by omega), Nat.and_one_is_mod, IntKind.wrap_u8]
 omega

def smallB (ws : List Nat) : Prop := ∀ x ∈ ws, x < 256
theorem o_p5 (ws : List Nat) (a : Nat) (hs : smallB ws) (hn : ws.length ≤ 4000000) (ha : a < 8 * ws.length) : Eqn Tryz.prog o_bf [.p 0 0] [rdO ws a] (.d (.int .u64 (b2n ((bitsOf ws).getD a false)))) [rdO ws (a + 1)] := by
 refine Eqn.obj1 o_bh (o_42 _) ⟨rfl, fun _ => rfl⟩ ?_
 rw [o_oh ws a ha]
 have hq : a / 8 < ws.length := by omega
 have hx : ws.getD (a / 8) 0 < 256 := by
  rw [List.getD_eq_getElem?_getD, List.getElem?_eq_getElem hq]; exact hs _ (List.getElem_mem hq)
 have hg : ∀ z : D, (ws.map fun x : Nat => D.int .u8 x)[a / 8]?.getD z = .int .u8 (ws.getD (a / 8) 0 : Nat) := fun z => by simp [hq]
 have e1 : IntKind.i64.wrap ((a : Int) / 8) = ((a / 8 : Nat) : Int) := by rw [w64 (by omega) (by omega)]; rfl
 have e2 : (a : Int).tmod 8 = ((a % 8 : Nat) : Int) := by rw [Int.tmod_eq_emod_of_nonneg (by omega)]; rfl
 have e2' : (a : Int) % 8 = ((a % 8 : Nat) : Int) := rfl
 have e3 : IntKind.i64.wrap (7 - ((a % 8 : Nat) : Int)) = ((7 - a % 8 : Nat) : Int) := by rw [w64 (by omega) (by omega)]; omega
 have e4 : ((7 - a % 8 : Nat) : Int) ≤ 8 := by omega
 have e7 : IntKind.i64.wrap ((a : Int) + 1) = ((a + 1 : Nat) : Int) := by rw [w64 (by omega) (by omega)]; omega
 simp only [o_bg, BY, rdO]
 generalize a % 8 = r at *
 generalize 7 - r = S at *
 generalize hb : ws.getD (a / 8) 0 = x at *
 have e5 : (x : Int) / 2 ^ S = ((x / 2 ^ S : Nat) : Int) := by rw [Int.natCast_ediv, Int.natCast_pow]; rfl
 have hxS : x / 2 ^ S < 256 := Nat.lt_of_le_of_lt (Nat.div_le_self _ _) hx
 generalize x / 2 ^ S = X at *
 have e6 := o_p4 X hxS
 have e8 : IntKind.u64.wrap ((X : Int) % 2) = (b2n (decide (X % 2 = 1)) : Nat) := by
  rcases Nat.mod_two_eq_zero_or_one X with h | h
  ·rw [show (X : Int) % 2 = 0 by omega]; simp [h, b2n]; exact wu64 (by omega) (by omega)
  ·rw [show (X : Int) % 2 = 1 by omega]; simp [h, b2n]; exact wu64 (by omega) (by omega)
 generalize b2n (decide (X % 2 = 1)) = B at *
 generalize a / 8 = q at *
 have hq' : q < (ws.map fun x : Nat => D.int .u8 x).length := by simpa using hq
 generalize (ws.map fun x : Nat => D.int .u8 x) = l at *
 generalize ws.length = n at *
 refine G1 (fs e1 (fs e2 (fs e2' (fs e3 (fs e4 (fs e5 (fs e6 (fs e7 (fs e8 hg))))))))) ?_; try with_reducible exact tt
end
end Go.Proofs.YtdklbnemfelpnaaGreatDoor.Am
namespace Go.Proofs.YtdklbnemfelpnaaGreatDoor.Am
section
open Go.RowKit
theorem o_p6 (x y : Nat) (hx : x < 18446744073709551616) (hy : y < 18446744073709551616) : bits BinOp.or IntKind.u64 (x : Int) (y : Int) = ((x ||| y : Nat) : Int) := by
 show IntKind.u64.wrap (((BitVec.ofInt 64 (x : Int)) ||| (BitVec.ofInt 64 (y : Int))).toNat : Int) = _
 rw [BitVec.toNat_or, BitVec.ofInt_natCast, BitVec.ofInt_natCast, BitVec.toNat_ofNat, BitVec.toNat_ofNat, Nat.mod_eq_of_lt (by omega), Nat.mod_eq_of_lt (by omega)]
 have := Nat.or_lt_two_pow (n := 64) (x := x) (y := y) hx hy
 rw [IntKind.wrap_u64]
 omega
theorem o_p7 (n b : Nat) (hb : b ≤ 1) : (n * 2) ||| b = n * 2 + b := by
 have := Nat.two_pow_add_eq_or_of_lt (i := 1) (b := b) (by omega) n
 rw [Nat.pow_one, Nat.mul_comm] at this
 exact this.symm

def numAt (ws : List Nat) (a w : Nat) : Nat := numB (((bitsOf ws).drop a).take w) 0
theorem o_p8 (ws : List Nat) (a : Nat) : numAt ws a 0 = 0 := by simp [numAt, numB]
theorem o_p9 (ws : List Nat) (a i : Nat) (h : a + i < 8 * ws.length) : numAt ws a (i + 1) = 2 * numAt ws a i + b2n ((bitsOf ws).getD (a + i) false) := by
 unfold numAt
 rw [List.take_add_one, o_nz, List.getElem?_drop, List.getD_eq_getElem?_getD, List.getElem?_eq_getElem (by simpa using h)]
 rfl
theorem o_pa (ws : List Nat) (a w : Nat) : numAt ws a w < 2 ^ w := by
 unfold numAt
 refine Nat.lt_of_lt_of_le (o_o1 _) (Nat.pow_le_pow_right (by omega) ?_)
 rw [List.length_take]; omega

theorem o_pb (ws : List Nat) (a w : Nat) (hw : w ≤ 64) (hn : ws.length ≤ 4000000) (ha : a ≤ 8 * ws.length) (h : 8 * ws.length - a < w) : Eqn Tryz.prog o_8l [.p 0 0, .d (.int .i64 w)] [rdO ws a] (.tup [.d (.int .u64 0), .d (.int .i64 5)]) [rdO ws a] := by
 refine Eqn.obj1 o_8n Plain.ok ⟨rfl, fun _ => rfl⟩ ?_
 have hg := o_ov w
 rw [show decide (0 ≤ (w : Int) ∧ (w : Int) ≤ 64) = true by simp; omega] at hg
 have hl := o_p3 ws a hn ha
 simp only [o_8m, rdO] at hl ⊢
 generalize 8 * ws.length - a = L at *
 generalize BY ws = B at *
 have h' : (L : Int) < w := by omega
 refine G0 ?_; try with_reducible exact tt
 refine CallS.pu (hg) (R0 ?_); try with_reducible exact tt
 refine AW.cond rfl (fun h => ?_) (fun h => ?_)
 ·simp at h
 refine G0 ?_; try with_reducible exact tt
 refine CallS.o1 0 (hl) (R1 (fs h h') ?_); try with_reducible exact tt
 refine AW.cond rfl (fun h => ?_) (fun h => ?_)
 ·refine G0 ?_; try with_reducible exact tt
 ·simp [h'] at h

theorem o_pc (ws : List Nat) (a w : Nat) (hs : smallB ws) (hw : w ≤ 64) (hn : ws.length ≤ 4000000) (h : a + w ≤ 8 * ws.length) : Eqn Tryz.prog o_8l [.p 0 0, .d (.int .i64 w)] [rdO ws a] (.tup [.d (.int .u64 (numAt ws a w)), .d (.int .i64 0)]) [rdO ws (a + w)] := by
 refine Eqn.obj1 o_8n Plain.ok ⟨rfl, fun _ => rfl⟩ ?_
 have hg := o_ov w
 rw [show decide (0 ≤ (w : Int) ∧ (w : Int) ≤ 64) = true by simp; omega] at hg
 have hl := o_p3 ws a hn (by omega)
 have hnx := fun i (hi : i < w) => o_p5 ws (a + i) hs hn (by omega)
 obtain ⟨F, hF⟩ : ∃ F, F = a + w := ⟨_, rfl⟩
 rw [← hF]
 simp only [o_8m, rdO] at hl hnx ⊢
 have hL : ¬ 8 * ws.length - a < w := by omega
 have hB := fun i (hi : i < w) => o_p9 ws a i (by omega)
 have hlt := fun i => o_pa ws a i
 have hz := o_p8 ws a
 have hbl : ∀ x, b2n ((bitsOf ws).getD x false) ≤ 1 := fun x => o_ny _
 generalize 8 * ws.length - a = L at *
 generalize BY ws = B at *
 generalize numAt ws a = N at *
 generalize bitsOf ws = bs at *
 have h' : ¬ (L : Int) < w := by omega
 refine G0 ?_; try with_reducible exact tt
 refine CallS.pu (hg) (R0 ?_); try with_reducible exact tt
 refine AW.cond rfl (fun h => ?_) (fun h => ?_)
 ·simp at h
 refine G0 ?_; try with_reducible exact tt
 refine CallS.o1 0 (hl) (R1 h' ?_); try with_reducible exact tt
 refine AW.cond rfl (fun h => ?_) (fun h => ?_)
 ·simp [h'] at h
 clear h
 refine G0 ?_; try with_reducible exact tt
 refine AW.loopT (α := Nat) 1 (fun i => [(6, .d (.int .u64 (N i : Nat))), (17, .d (.int .i64 (i : Int)))]) (fun i => [(0, ⟨164, [.d B, .d (.int .i64 (a + i : Nat))]⟩)]) (fun i => i ≤ w) (fun i => w - i) 0 ?_ ?_ (Nat.zero_le _) ?_ ?_ ?_
 ·simp
 ·simp
 ·simp [hz]
 ·simp
 rintro i hi
 obtain ⟨Q, hQ⟩ : ∃ Q, Q = a + i := ⟨_, rfl⟩
 rw [← hQ]
 simp
 by_cases hiw : i = w
 ·subst hiw
  obtain rfl : Q = F := by omega
  refine G0 ?_; try with_reducible exact tt
  refine AW.cond rfl (fun h => ?_) (fun h => ?_)
  ·simp at h
  refine G0 ?_; try with_reducible exact tt
 ·have hlt1 : i < w := by omega
  have hlt2 : (i : Int) < w := by omega
  have hb := hB i hlt1
  have hx := hnx i hlt1
  rw [← hQ] at hb hx
  have e1 : IntKind.i64.wrap ((i : Int) + 1) = ((i + 1 : Nat) : Int) := by rw [w64 (by omega) (by omega)]; omega
  have hp : (2 : Nat) ^ (i + 1) ≤ 2 ^ 64 := Nat.pow_le_pow_right (by omega) (by omega)
  have hN := hlt (i + 1)
  have hb1 := hbl Q
  generalize b2n (bs.getD Q false) = b at *
  have e2 : IntKind.u64.wrap ((N i : Int) * 2) = ((N i * 2 : Nat) : Int) := by rw [wu64 (by omega) (by omega)]; omega
  have e3 : bits BinOp.or IntKind.u64 ((N i * 2 : Nat) : Int) (b : Int) = (N (i + 1) : Nat) := by
   rw [o_p6 _ _ (by omega) (by omega), o_p7 _ _ hb1, hb]; omega
  have eQ : Q + 1 = a + (i + 1) := by omega
  rw [eQ] at hx
  generalize N i * 2 = N2 at *
  refine G1 (fs hlt1 hlt2) ?_; try with_reducible exact tt
  refine AW.cond rfl (fun h => ?_) (fun h => ?_)
  ·refine G1 e2 ?_; try with_reducible exact tt
   refine CallS.o1 0 (hx) (R1 (fs e1 (fs e2 e3)) ?_); try with_reducible exact tt
   exact ⟨i + 1, by omega, by omega, by simp [e1, e3]; try omega⟩
  ·simp [hlt2] at h
end
end Go.Proofs.YtdklbnemfelpnaaGreatDoor.Am
namespace Go.Proofs.YtdklbnemfelpnaaGreatDoor.Am
section
open Go.RowKit
def wellTB (a b y t : Nat) (f : Bool) : Bool := decide (y ≤ a) && (decide (t ≤ b) && (!f || t == b))
theorem o_pd {a b : Nat} (h : GoodT a b) (y t : Nat) (f : Bool) : Eqn Tryz.prog o_f3 [.d (tpD a b), .d (tsD y t f)] [] (.d (.bool (wellTB a b y t f))) [] := by
 refine Eqn.pure o_f5 Plain.ok ?_
 have hc := o_nn h
 have g3 : (0 : Int) ≤ y := by omega
 have g4 : (0 : Int) ≤ t := by omega
 simp only [o_f4, tpD, tsD, wellTB] at hc ⊢
 by_cases h1 : y ≤ a
 ·have h1' : (y : Int) ≤ a := by omega
  by_cases h2 : t ≤ b
  ·have h2' : (t : Int) ≤ b := by omega
   cases f with
   | true =>
    by_cases h3 : t = b
    ·subst h3
     refine G1 (fs g3 (fs g4 (fs h1 (fs h1' (fs h2 h2'))))) ?_; try with_reducible exact tt
     refine CallS.pu (hc) (R1 (fs g3 (fs g4 (fs h1 (fs h1' (fs h2 h2'))))) ?_); try with_reducible exact tt
    ·have h3' : ¬ (t : Int) = b := by omega
     refine G1 (fs g3 (fs g4 (fs h1 (fs h1' (fs h2 (fs h2' (fs h3 h3'))))))) ?_; try with_reducible exact tt
     refine CallS.pu (hc) (R1 (fs g3 (fs g4 (fs h1 (fs h1' (fs h2 (fs h2' (fs h3 h3'))))))) ?_); try with_reducible exact tt
     exact Sub1.bool (by rw [Bool.eq_iff_iff]; simp; omega)
   | false =>
    refine G1 (fs g3 (fs g4 (fs h1 (fs h1' (fs h2 h2'))))) ?_; try with_reducible exact tt
    refine CallS.pu (hc) (R1 (fs g3 (fs g4 (fs h1 (fs h1' (fs h2 h2'))))) ?_); try with_reducible exact tt
  ·have h2' : ¬ (t : Int) ≤ b := by omega
   refine G1 (fs g3 (fs g4 (fs h1 (fs h1' (fs h2 h2'))))) ?_; try with_reducible exact tt
   refine CallS.pu (hc) (R1 (fs g3 (fs g4 (fs h1 (fs h1' (fs h2 h2'))))) ?_); try with_reducible exact tt
 ·have h1' : ¬ (y : Int) ≤ a := by omega
  refine G1 (fs g3 (fs g4 (fs h1 h1'))) ?_; try with_reducible exact tt
  refine CallS.pu (hc) (R1 (fs g3 (fs g4 (fs h1 h1'))) ?_); try with_reducible exact tt

theorem o_pe (k a b : Int) : Eqn Tryz.prog o_d0 [.d (parD k a b)] [] (.d (tpD a b)) [] := by
 refine Eqn.pure o_d2 Plain.ok ?_
 simp only [o_d1, parD, tpD]
 refine G0 ?_; try with_reducible exact tt
theorem o_pf (k a b : Int) : Eqn Tryz.prog o_d9 [.d (parD k a b)] [] (.d (parD k a b)) [] := by
 refine Eqn.pure o_db Plain.ok ?_
 simp only [o_da, parD]
 refine G0 ?_; try with_reducible exact tt
theorem o_pg (y t : Int) (f : Bool) : Eqn Tryz.prog o_d3 [.d (.agg [.int .i64 y, .int .i64 t, .bool f])] [] (.d (.agg [.int .i64 y, .int .i64 t, .bool f])) [] := by
 refine Eqn.pure o_d5 Plain.ok ?_
 simp only [o_d4]
 refine G0 ?_; try with_reducible exact tt
theorem o_ph (y t : Int) (f : Bool) : Eqn Tryz.prog o_eo [.d (.agg [.int .i64 y, .int .i64 t, .bool f])] [] (.d (.agg [.int .i64 y, .int .i64 t, .bool f])) [] := by
 refine Eqn.pure o_eq Plain.ok ?_
 simp only [o_ep]
 refine G0 ?_; try with_reducible exact tt
theorem o_pi (y t : Int) (f : Bool) : Eqn Tryz.prog o_er [.d (.agg [.int .i64 y, .int .i64 t, .bool f])] [] (.d (.agg [.int .i64 y, .bool f])) [] := by
 refine Eqn.pure o_et Plain.ok ?_
 simp only [o_es]
 refine G0 ?_; try with_reducible exact tt
theorem o_pj (y : Int) (f : Bool) : Eqn Tryz.prog o_eu [.d (.agg [.int .i64 y, .bool f])] [] (.d (.agg [.int .i64 y, .int .i64 0, .bool f])) [] := by
 refine Eqn.pure o_ew Plain.ok ?_
 simp only [o_ev]
 refine G0 ?_; try with_reducible exact tt

theorem o_pk {k a b : Nat} (h : GoodR k a b) : Eqn Tryz.prog o_bc [.d (parD k a b)] [] (.d (.int .i64 0)) [] := by
 refine Eqn.pure o_be Plain.ok ?_
 rcases h with ⟨rfl, h⟩ | ⟨hk, h⟩
 ·have h1 := o_pe 4 a b
  have h2 := o_nn h
  simp only [o_bd, parD, tpD] at h1 h2 ⊢
  refine G0 ?_; try with_reducible exact tt
  refine AW.cond rfl (fun h => ?_) (fun h => ?_)
  ·refine G0 ?_; try with_reducible exact tt
   refine CallS.pu (h1) (R0 ?_); try with_reducible exact tt
   refine CallS.pu (h2) (R0 ?_); try with_reducible exact tt
  ·simp at h
 ·have h1 := o_pf k a b
  have h2 := o_ns h
  have hk' : ¬ (k : Int) = 4 := by omega
  simp only [o_bd, parD] at h1 h2 ⊢
  refine G1 (fs hk hk') ?_; try with_reducible exact tt
  refine AW.cond rfl (fun h => ?_) (fun h => ?_)
  ·simp [hk'] at h
  ·refine G0 ?_; try with_reducible exact tt
   refine CallS.pu (h1) (R0 ?_); try with_reducible exact tt
   refine CallS.pu (h2) (R0 ?_); try with_reducible exact tt

def wellRB (k a b y t : Nat) (f : Bool) : Bool := if k = 4 then wellTB a b y t f else (t == 0) && (decide (y ≤ 2 ^ b - 1) && (!f || y == 2 ^ b - 1))
theorem o_pl {k a b y t : Nat} {f : Bool} : wellRB k a b y t f = true ↔ WellR k a b y t f := by
 unfold wellRB WellR wellTB WellT
 by_cases hk : k = 4
 ·subst hk
  simp
  intro _ _
  cases f <;> simp
 ·simp [hk]
  intro _ _
  cases f <;> simp

theorem o_pm {k a b : Nat} (h : GoodR k a b) (y t : Nat) (f : Bool) : Eqn Tryz.prog o_du [.d (parD k a b), .d (tsD y t f)] [] (.d (.bool (wellRB k a b y t f))) [] := by
 refine Eqn.pure o_dw Plain.ok ?_
 have hc := o_pk h
 rcases h with ⟨rfl, h⟩ | ⟨hk, h⟩
 ·have h1 := o_pe 4 a b
  have h2 := o_pd h y t f
  have h3 := o_pg y t f
  simp only [o_dv, parD, tpD, tsD, wellRB, if_true] at hc h1 h2 h3 ⊢
  generalize wellTB a b y t f = w at *
  refine G0 ?_; try with_reducible exact tt
  refine CallS.pu (hc) (R0 ?_); try with_reducible exact tt
  refine AW.cond rfl (fun h => ?_) (fun h => ?_)
  ·simp at h
  refine G0 ?_; try with_reducible exact tt
  refine AW.cond rfl (fun h => ?_) (fun h => ?_)
  ·refine G0 ?_; try with_reducible exact tt
   refine CallS.pu (h1) (R0 ?_); try with_reducible exact tt
   refine CallS.pu (h3) (R0 ?_); try with_reducible exact tt
   refine CallS.pu (h2) (R0 ?_); try with_reducible exact tt
  ·simp at h
 ·have h1 := o_pf k a b
  have h2 := o_mt k a b h.2.2 (o_ns h)
  have hk' : ¬ (k : Int) = 4 := by omega
  have g : (0 : Int) ≤ y := by omega
  simp only [o_dv, parD, tsD, wellRB, if_neg hk] at hc h1 h2 ⊢
  generalize 2 ^ b - 1 = S at *
  by_cases ht : t = 0
  ·subst ht
   by_cases hy : y ≤ S
   ·have hy' : (y : Int) ≤ S := by omega
    cases f with
    | true =>
     by_cases hs : y = S
     ·subst hs
      refine G1 (fs g (fs hk hk')) ?_; try with_reducible exact tt
      refine CallS.pu (hc) (R1 (fs g (fs hk hk')) ?_); try with_reducible exact tt
      refine AW.cond rfl (fun h => ?_) (fun h => ?_)
      ·simp at h
      refine G1 (fs g (fs hk hk')) ?_; try with_reducible exact tt
      refine AW.cond rfl (fun h => ?_) (fun h => ?_)
      ·simp [hk'] at h
      refine G1 g ?_; try with_reducible exact tt
      refine CallS.pu (h1) (R1 g ?_); try with_reducible exact tt
      refine CallS.pu (h2) (R1 g ?_); try with_reducible exact tt
     ·have hs' : ¬ (y : Int) = S := by omega
      refine G1 (fs g (fs hk (fs hk' (fs hy (fs hy' (fs hs hs')))))) ?_; try with_reducible exact tt
      refine CallS.pu (hc) (R1 (fs g (fs hk (fs hk' (fs hy (fs hy' (fs hs hs')))))) ?_); try with_reducible exact tt
      refine AW.cond rfl (fun h => ?_) (fun h => ?_)
      ·simp at h
      refine G1 (fs g (fs hk (fs hk' (fs hy (fs hy' (fs hs hs')))))) ?_; try with_reducible exact tt
      refine AW.cond rfl (fun h => ?_) (fun h => ?_)
      ·simp [hk'] at h
      refine G1 g ?_; try with_reducible exact tt
      refine CallS.pu (h1) (R1 g ?_); try with_reducible exact tt
      refine CallS.pu (h2) (R1 (fs g (fs hy (fs hy' (fs hs hs')))) ?_); try with_reducible exact tt
      exact Sub1.bool (by rw [Bool.eq_iff_iff]; simp; omega)
    | false =>
     refine G1 (fs g (fs hk (fs hk' (fs hy hy')))) ?_; try with_reducible exact tt
     refine CallS.pu (hc) (R1 (fs g (fs hk (fs hk' (fs hy hy')))) ?_); try with_reducible exact tt
     refine AW.cond rfl (fun h => ?_) (fun h => ?_)
     ·simp at h
     refine G1 (fs g (fs hk (fs hk' (fs hy hy')))) ?_; try with_reducible exact tt
     refine AW.cond rfl (fun h => ?_) (fun h => ?_)
     ·simp [hk'] at h
     refine G1 g ?_; try with_reducible exact tt
     refine CallS.pu (h1) (R1 g ?_); try with_reducible exact tt
     refine CallS.pu (h2) (R1 (fs g (fs hy hy')) ?_); try with_reducible exact tt
   ·have hy' : ¬ (y : Int) ≤ S := by omega
    refine G1 (fs g (fs hk (fs hk' (fs hy hy')))) ?_; try with_reducible exact tt
    refine CallS.pu (hc) (R1 (fs g (fs hk (fs hk' (fs hy hy')))) ?_); try with_reducible exact tt
    refine AW.cond rfl (fun h => ?_) (fun h => ?_)
    ·simp at h
    refine G1 (fs g (fs hk (fs hk' (fs hy hy')))) ?_; try with_reducible exact tt
    refine AW.cond rfl (fun h => ?_) (fun h => ?_)
    ·simp [hk'] at h
    refine G1 g ?_; try with_reducible exact tt
    refine CallS.pu (h1) (R1 g ?_); try with_reducible exact tt
    refine CallS.pu (h2) (R1 (fs g (fs hy hy')) ?_); try with_reducible exact tt
  ·have ht' : ¬ (t : Int) = 0 := by omega
   refine G1 (fs g (fs hk (fs hk' (fs ht ht')))) ?_; try with_reducible exact tt
   refine CallS.pu (hc) (R1 (fs g (fs hk (fs hk' (fs ht ht')))) ?_); try with_reducible exact tt
   refine AW.cond rfl (fun h => ?_) (fun h => ?_)
   ·simp at h
   refine G1 (fs g (fs hk (fs hk' (fs ht ht')))) ?_; try with_reducible exact tt
   refine AW.cond rfl (fun h => ?_) (fun h => ?_)
   ·simp [hk'] at h
   refine G1 g ?_; try with_reducible exact tt
   refine CallS.pu (h1) (R1 g ?_); try with_reducible exact tt
   refine CallS.pu (h2) (R1 (fs g (fs ht ht')) ?_); try with_reducible exact tt
   exact Sub1.bool (by simp [ht])

theorem o_pn {k a b y t : Nat} {f : Bool} (h : GoodR k a b) (hw : WellR k a b y t f) : Eqn Tryz.prog o_cx [.d (parD k a b), .d (.sl 1 [.int .i64 y, .int .i64 t, .bool f])] [] (.d (.int .i64 0)) [] := by
 refine Eqn.pure o_cz Plain.ok ?_
 have hc := o_pk h
 have hw1 := o_pm h y t f
 rw [o_pl.2 hw] at hw1
 simp only [o_cy, parD, tsD] at hc hw1 ⊢
 refine G0 ?_; try with_reducible exact tt
 refine CallS.pu (hc) (R0 ?_); try with_reducible exact tt
 refine AW.cond rfl (fun h => ?_) (fun h => ?_)
 ·simp at h
 refine G0 ?_; try with_reducible exact tt
 refine AW.loopT (α := Nat) 1 (fun i => [(15, .d (.int .i64 (i : Int)))]) (fun i => []) (fun i => i ≤ 1) (fun i => 1 - i) 0 ?_ ?_ (Nat.zero_le _) ?_ ?_ ?_
 ·simp
 ·simp
 ·simp
 ·simp
 rintro i hi
 simp
 have hi' : i = 0 ∨ i = 1 := by omega
 rcases hi' with rfl | rfl
 ·refine G0 ?_; try with_reducible exact tt
  refine AW.cond rfl (fun h => ?_) (fun h => ?_)
  ·refine G0 ?_; try with_reducible exact tt
   refine CallS.pu (hw1) (R0 ?_); try with_reducible exact tt
   refine AW.cond rfl (fun h => ?_) (fun h => ?_)
   ·simp at h
   have ew : IntKind.i64.wrap 1 = 1 := w64 (by omega) (by omega)
   refine G1 ew ?_; try with_reducible exact tt
   exact ⟨1, by omega, by omega, by simp⟩
  ·simp at h
 ·refine G0 ?_; try with_reducible exact tt
  refine AW.cond rfl (fun h => ?_) (fun h => ?_)
  ·simp at h
  refine AW.exit ?_
  (try (simp -implicitDefEqProofs; try simp (disch := omega) only [w64, wu64]))
  refine G0 ?_; try with_reducible exact tt
end
end Go.Proofs.YtdklbnemfelpnaaGreatDoor.Am
namespace Go.Proofs.YtdklbnemfelpnaaGreatDoor.Am
section
open Go.RowKit
def stR (R : TR) (y t : Nat) (f : Bool) : D := if R.e = 0 then tsD R.y R.t R.f else tsD y t f

theorem o_po (cs : List Bool) (k a b y t : Nat) (f : Bool) (n : Nat) (m : Int) (hmx : max 0 m = (n : Int)) (p : Nat) (d : Bool) (h : GoodR k a b) (hw : WellR k a b y t f) (hn : m ≤ 1048576) (hp : p ≤ cs.length) (hc : cs.length ≤ 4000000) (R : TR) (hR : R = addRM cs k a b n y t f p d) :
  Eqn Tryz.prog o_cr [.d (parD k a b), .p 0 0, .d (tsD y t f), .d (.int .i64 m)] [tapeO cs p d] (.tup [.d (stR R y t f), .d (.int .i64 R.e)]) [tapeO cs R.p R.d] := by
 refine Eqn.obj1 o_ct Plain.ok ⟨rfl, fun _ => rfl⟩ ?_
 have hwr := o_pn h hw
 rcases hw with ⟨rfl, hw⟩ | ⟨hk, rfl, hy, hf⟩
 ·replace h : GoodT a b := by
   rcases h with ⟨-, h⟩ | ⟨hk, -⟩
   ·exact h
   ·exact absurd rfl hk
  rw [addRM, if_pos rfl] at hR
  have h1 := o_pe 4 a b
  have h2 := o_pg y t f
  have h3 := o_nq cs a b y t f m p d h hw (by omega) hp hc R (by rw [hR]; congr 1; omega)
  clear hR
  obtain ⟨e, ry, rt, rf, rp, rd⟩ := R
  have h4 : ∀ y t f, _ := o_ph
  simp only [o_cs, parD, tpD, tsD, stR, show ((4 : Nat) : Int) = 4 from rfl] at hwr h1 h2 h3 ⊢
  obtain ⟨Y, T, F, hS⟩ : ∃ (Y T : Nat) (F : Bool), (if e = 0 then D.agg [.int .i64 ry, .int .i64 rt, .bool rf] else D.agg [.int .i64 y, .int .i64 t, .bool f]) = D.agg [.int .i64 Y, .int .i64 T, .bool F] := by
   split
   ·exact ⟨ry, rt, rf, rfl⟩
   ·exact ⟨y, t, f, rfl⟩
  rw [hS] at h3 ⊢
  refine G0B ?_; try with_reducible exact tt
  refine CallS.pf 4 3 ⟨211, _⟩ [.int .i64 y, .int .i64 t, .bool f] (hwr) (by first | rfl | (simp [-Bool.exists_bool]; done)) (R0B ?_); try with_reducible exact tt
  refine AW.cond rfl (fun h => ?_) (fun h => ?_)
  ·simp at h
  refine G0B ?_; try with_reducible exact tt
  refine AW.cond rfl (fun h => ?_) (fun h => ?_)
  ·refine G0B ?_; try with_reducible exact tt
   refine CallS.pu (h1) (R0B ?_); try with_reducible exact tt
   refine CallS.pu (h2) (R0B ?_); try with_reducible exact tt
   refine CallS.o1 0 (h3) (R0B ?_); try with_reducible exact tt
   refine CallS.pu (h4 Y T F) (R0B ?_); try with_reducible exact tt
  ·simp at h
 ·rcases h with ⟨rfl, -⟩ | ⟨-, h⟩
  ·exact absurd rfl hk
  rw [addRM, if_neg hk] at hR
  have h1 := o_pf k a b
  have h2 := o_pi y 0 f
  have h3 := o_nu h cs hc y hy f n m hmx hn p d hp _ rfl
  have hk' : ¬ (k : Int) = 4 := by omega
  generalize addL (stOf cs k a) (2 ^ b - 1) n y f p d = S at *
  subst hR
  obtain ⟨e, sx, sf, sp, sd⟩ := S
  have h4 : ∀ y f, _ := o_pj
  simp only [o_cs, parD, tsD, stR] at hwr h1 h2 h3 ⊢
  obtain ⟨Y, F, hS1, hS2, hS⟩ : ∃ (Y : Nat) (F : Bool), (if e = 0 then sx else y) = Y ∧ (if e = 0 then sf else f) = F ∧ (if e = 0 then D.agg [.int .i64 sx, .int .i64 (0 : Nat), .bool sf] else D.agg [.int .i64 y, .int .i64 (0 : Nat), .bool f]) = D.agg [.int .i64 Y, .int .i64 0, .bool F] := by
   by_cases he : e = 0
   ·simp only [if_pos he]; exact ⟨sx, sf, rfl, rfl, rfl⟩
   ·simp only [if_neg he]; exact ⟨y, f, rfl, rfl, rfl⟩
  rw [hS1, hS2] at h3
  rw [hS]
  simp only [Int.natCast_zero, show ((0 : Nat) : Int) = 0 by rfl] at hwr
  refine G0B ?_; try with_reducible exact tt
  refine CallS.pf 4 3 ⟨211, _⟩ [.int .i64 y, .int .i64 0, .bool f] (hwr) (by first | rfl | (simp [-Bool.exists_bool]; done)) (R0B ?_); try with_reducible exact tt
  refine AW.cond rfl (fun h => ?_) (fun h => ?_)
  ·simp at h
  refine G1B (fs hk hk') ?_; try with_reducible exact tt
  refine AW.cond rfl (fun h => ?_) (fun h => ?_)
  ·simp [hk'] at h
  ·refine G0B ?_; try with_reducible exact tt
   refine CallS.pu (h1) (R0B ?_); try with_reducible exact tt
   refine CallS.pu (h2) (R0B ?_); try with_reducible exact tt
   refine CallS.o1 0 (h3) (R0B ?_); try with_reducible exact tt
   refine CallS.pu (h4 Y F) (R0B ?_); try with_reducible exact tt
end
end Go.Proofs.YtdklbnemfelpnaaGreatDoor.Am
namespace Go.Proofs.YtdklbnemfelpnaaGreatDoor.Am
section
open Go.RowKit
def kwR (k a b : Nat) : Nat := if k = 4 then bitsN a else b
def twR (k b : Nat) : Nat := if k = 4 then bitsN b else 0
theorem o_pp {k a b : Nat} (h : GoodR k a b) : 0 < kwR k a b ∧ kwR k a b ≤ 10 := by
 unfold kwR
 rcases h with ⟨rfl, h⟩ | ⟨hk, h⟩
 ·rw [if_pos rfl]
  refine ⟨?_, o_l5 (by have := h.2.1; omega)⟩
  unfold bitsN; rw [if_neg (by have := h.1; omega)]; omega
 ·rw [if_neg hk]; exact ⟨h.2.1, h.2.2⟩
theorem o_pq {k a b : Nat} (h : GoodR k a b) : twR k b ≤ 5 := by
 unfold twR
 rcases h with ⟨rfl, h⟩ | ⟨hk, h⟩
 ·rw [if_pos rfl]; exact o_l5 (by have := h.2.2; omega)
 ·rw [if_neg hk]; omega
theorem o_pr {k a b y t : Nat} {f : Bool} (hg : GoodR k a b) (h : WellR k a b y t f) : y < 2 ^ kwR k a b ∧ t < 2 ^ twR k b := by
 unfold kwR twR
 rcases h with ⟨rfl, h1, h2, -⟩ | ⟨hk, rfl, h1, -⟩
 ·rw [if_pos rfl, if_pos rfl]
  exact ⟨Nat.lt_of_le_of_lt h1 (o_l4 a), Nat.lt_of_le_of_lt h2 (o_l4 b)⟩
 ·rw [if_neg hk, if_neg hk]
  have := Nat.two_pow_pos b
  omega

theorem o_ps (x : Nat) (hx : x < 18446744073709551616) : Eqn Tryz.prog o_a6 [.d (.int .u64 x)] [] (.d (.int .i64 (bitsN x))) [] := by
 refine Eqn.pure o_a8 Plain.ok ?_
 have hl := o_le x hx
 simp only [o_a7]
 refine G0 ?_; try with_reducible exact tt
 refine AW.cond rfl (fun h => ?_) (fun h => ?_)
 ·simp at h
 ·refine G0 ?_; try with_reducible exact tt
  refine CallS.pu (hl) (R0 ?_); try with_reducible exact tt

theorem o_pt {k a b : Nat} (h : GoodR k a b) : Eqn Tryz.prog o_dr [.d (parD k a b)] [] (.tup [.d (.int .i64 (kwR k a b)), .d (.int .i64 (twR k b))]) [] := by
 refine Eqn.pure o_dt Plain.ok ?_
 unfold kwR twR
 rcases h with ⟨rfl, h⟩ | ⟨hk, h⟩
 ·rw [if_pos rfl, if_pos rfl]
  have h1 := o_ps a (by have := h.2.1; omega)
  have h2 := o_ps b (by have := h.2.2; omega)
  have e1 : IntKind.u64.wrap (a : Int) = a := wu64 (by omega) (by have := h.2.1; omega)
  have e2 : IntKind.u64.wrap (b : Int) = b := wu64 (by omega) (by have := h.2.2; omega)
  simp only [o_ds, parD]
  refine G0 ?_; try with_reducible exact tt
  refine AW.cond rfl (fun h => ?_) (fun h => ?_)
  ·refine G1 (fs e1 e2) ?_; try with_reducible exact tt
   refine CallS.pu (h1) (R1 (fs e1 e2) ?_); try with_reducible exact tt
   refine CallS.pu (h2) (R0 ?_); try with_reducible exact tt
  ·simp at h
 ·rw [if_neg hk, if_neg hk]
  have hk' : ¬ (k : Int) = 4 := by omega
  simp only [o_ds, parD]
  refine G1 (fs hk hk') ?_; try with_reducible exact tt
  refine AW.cond rfl (fun h => ?_) (fun h => ?_)
  ·simp [hk'] at h
  ·refine G0 ?_; try with_reducible exact tt

theorem o_pu {k a b : Nat} (h : GoodR k a b) : Eqn Tryz.prog o_cf [.d (parD k a b)] [] (.d (.int .i64 (kwR k a b + twR k b + 1 : Nat))) [] := by
 refine Eqn.pure o_ch Plain.ok ?_
 have h1 := o_pk h
 have h2 := o_pt h
 have b1 := (o_pp h).2
 have b2 := o_pq h
 simp only [o_cg, parD] at h1 h2 ⊢
 generalize kwR k a b = K at *
 generalize twR k b = T at *
 have e1 : IntKind.i64.wrap ((K : Int) + T) = (K : Int) + T := w64 (by omega) (by omega)
 have e2 : IntKind.i64.wrap ((K : Int) + T + 1) = (K : Int) + T + 1 := w64 (by omega) (by omega)
 refine G0 ?_; try with_reducible exact tt
 refine CallS.pu (h1) (R0 ?_); try with_reducible exact tt
 refine AW.cond rfl (fun h => ?_) (fun h => ?_)
 ·simp at h
 refine G0 ?_; try with_reducible exact tt
 refine CallS.pu (h2) (R1 (fs e1 e2) ?_); try with_reducible exact tt

def encR (k a b y t : Nat) (f : Bool) : List Bool := bitsW y (kwR k a b) ++ bitsW t (twR k b) ++ [f]
theorem o_pv (k a b y t : Nat) (f : Bool) : (encR k a b y t f).length = kwR k a b + twR k b + 1 := by simp [encR]; omega

theorem o_pw {k a b y t : Nat} {f : Bool} (h : GoodR k a b) (hw : WellR k a b y t f) : Eqn Tryz.prog o_dx [.d (parD k a b), .p 0 0, .d (tsD y t f)] [⟨78, [.d .nilsl, .d (.int .i64 0)]⟩] (.d (.int .i64 0)) [wrO 1 (encR k a b y t f), wrB (encR k a b y t f)] := by
 refine Eqn.gen [0, 6] o_dz (by simp) (by simp) (by rfl) (by decide) (by simp) (by simp [wrO, wrB]) ?_
 have hwr := o_pn h hw
 have h2 := o_pt h
 have hkp := o_pp h
 have htl := o_pq h
 have hfit := o_pr h hw
 have h2k : 2 ^ kwR k a b ≤ 2 ^ 10 := Nat.pow_le_pow_right (by omega) hkp.2
 have h2t : 2 ^ twR k b ≤ 2 ^ 5 := Nat.pow_le_pow_right (by omega) htl
 have h3 := o_oz y (kwR k a b) hkp.1 (by omega) hfit.1 (by omega)
 have hne : bitsW y (kwR k a b) ≠ [] := fun he => by have := o_o2 y (kwR k a b); rw [he] at this; simp at this; omega
 have h4 := o_p0 (bitsW y (kwR k a b)) t (twR k b) hne (by rw [o_o2]; omega) (by omega) hfit.2 (by omega)
 have h5 := o_os (bitsW y (kwR k a b) ++ bitsW t (twR k b)) f (fun he => hne (List.append_eq_nil_iff.1 he).1) (by rw [List.length_append, o_o2, o_o2]; omega)
 have e1 : IntKind.u64.wrap (y : Int) = y := wu64 (by omega) (by omega)
 have e2 : IntKind.u64.wrap (t : Int) = t := wu64 (by omega) (by omega)
 simp only [o_dy, parD, tsD, encR] at hwr h2 ⊢
 generalize bitsW y (kwR k a b) = X1 at *
 generalize X1 ++ bitsW t (twR k b) = X2 at *
 generalize hX3 : X2 ++ [f] = X3 at *
 generalize kwR k a b = K at *
 generalize twR k b = T at *
 simp only [wrO, wrB] at h3 h4 h5 ⊢
 refine G0 ?_; try with_reducible exact tt
 refine CallS.pf 3 3 ⟨211, _⟩ [.int .i64 y, .int .i64 t, .bool f] (hwr) (by first | rfl | (simp; done)) (R0 ?_); try with_reducible exact tt
 refine AW.cond rfl (fun h => ?_) (fun h => ?_)
 ·simp at h
 refine G0 ?_; try with_reducible exact tt
 refine CallS.pu (h2) (R1 (fs e1 e2) ?_); try with_reducible exact tt
 refine CallS.g [0] (h3) (R1 (fs e1 e2) ?_); try with_reducible exact tt
 refine CallS.g [0, 4] (h4) (R1 (fs e1 e2) ?_); try with_reducible exact tt
 refine CallS.g [0, 5] (h5) (R1 (fs e1 e2) ?_); try with_reducible exact tt

theorem o_px (ws : List Nat) (a : Nat) (hs : smallB ws) (hn : ws.length ≤ 4000000) (h : a < 8 * ws.length) : Eqn Tryz.prog o_6l [.p 0 0] [rdO ws a] (.tup [.d (.bool ((bitsOf ws).getD a false)), .d (.int .i64 0)]) [rdO ws (a + 1)] := by
 refine Eqn.obj1 o_6n Plain.ok ⟨rfl, fun _ => rfl⟩ ?_
 have h1 := o_pc ws a 1 hs (by omega) hn (by omega)
 have h2 : numAt ws a 1 = b2n ((bitsOf ws).getD a false) := by
  have := o_p9 ws a 0 (by omega)
  rw [o_p8] at this
  simpa using this
 rw [h2] at h1
 generalize (bitsOf ws).getD a false = b at *
 have hb : (((b2n b : Nat) : Int) == 1) = b := by cases b <;> rfl
 generalize b2n b = B at *
 simp only [o_6m, rdO] at h1 ⊢
 generalize a + 1 = a1 at *
 refine G0 ?_; try with_reducible exact tt
 simp at h1
 refine CallS.o1 0 (h1) (R1 hb ?_); try with_reducible exact tt

def readR (ws : List Nat) (k a b at_ : Nat) : (Nat × Nat × Bool) × Int × Nat :=
 if 8 * ws.length - at_ < kwR k a b + twR k b + 1 then ((0, 0, false), 5, at_)
 else if wellRB k a b (numAt ws at_ (kwR k a b)) (numAt ws (at_ + kwR k a b) (twR k b)) ((bitsOf ws).getD (at_ + kwR k a b + twR k b) false) then ((numAt ws at_ (kwR k a b), numAt ws (at_ + kwR k a b) (twR k b), (bitsOf ws).getD (at_ + kwR k a b + twR k b) false), 0, at_ + kwR k a b + twR k b + 1)
 else ((0, 0, false), 4, at_ + kwR k a b + twR k b + 1)

theorem o_py (ws : List Nat) {k a b : Nat} (at_ : Nat) (h : GoodR k a b) (hs : smallB ws) (hn : ws.length ≤ 400000) (hat : at_ ≤ 8 * ws.length) (R : (Nat × Nat × Bool) × Int × Nat) (hR : R = readR ws k a b at_) :
  Eqn Tryz.prog o_bi [.d (parD k a b), .p 0 0] [rdO ws at_] (.tup [.d (tsD R.1.1 R.1.2.1 R.1.2.2), .d (.int .i64 R.2.1)]) [rdO ws R.2.2] := by
 refine Eqn.obj1 o_bk Plain.ok ⟨rfl, fun _ => rfl⟩ ?_
 have hc := o_pk h
 have hb := o_pu h
 have hl := o_p3 ws at_ (by omega) hat
 have h2 := o_pt h
 have hkp := o_pp h
 have htl := o_pq h
 unfold readR at hR
 by_cases hend : 8 * ws.length - at_ < kwR k a b + twR k b + 1
 ·rw [if_pos hend] at hR
  subst hR
  have hi : ((8 * ws.length - at_ : Nat) : Int) < (kwR k a b + twR k b + 1 : Nat) := by omega
  simp only [o_bj, parD, tsD, rdO] at hc hb hl ⊢
  generalize kwR k a b + twR k b + 1 = N at *
  generalize 8 * ws.length - at_ = L at *
  refine G0 ?_; try with_reducible exact tt
  refine CallS.pu (hc) (R0 ?_); try with_reducible exact tt
  refine AW.cond rfl (fun h => ?_) (fun h => ?_)
  ·simp at h
  refine G0 ?_; try with_reducible exact tt
  refine CallS.o1 0 (hl) (R0 ?_); try with_reducible exact tt
  refine CallS.pu (hb) (R1 (fs hi hend) ?_); try with_reducible exact tt
  refine AW.cond rfl (fun h => ?_) (fun h => ?_)
  ·refine G0 ?_; try with_reducible exact tt
  ·simp [hend] at h
 ·rw [if_neg hend] at hR
  have n1 := o_pc ws at_ (kwR k a b) hs (by omega) (by omega) (by omega)
  have n2 := o_pc ws (at_ + kwR k a b) (twR k b) hs (by omega) (by omega) (by omega)
  have n3 := o_px ws (at_ + kwR k a b + twR k b) hs (by omega) (by omega)
  have lt1 := o_pa ws at_ (kwR k a b)
  have lt2 := o_pa ws (at_ + kwR k a b) (twR k b)
  have h2k : 2 ^ kwR k a b ≤ 2 ^ 10 := Nat.pow_le_pow_right (by omega) hkp.2
  have h2t : 2 ^ twR k b ≤ 2 ^ 5 := Nat.pow_le_pow_right (by omega) htl
  have hi : ¬ ((8 * ws.length - at_ : Nat) : Int) < (kwR k a b + twR k b + 1 : Nat) := by omega
  have hwl := o_pm h (numAt ws at_ (kwR k a b)) (numAt ws (at_ + kwR k a b) (twR k b)) ((bitsOf ws).getD (at_ + kwR k a b + twR k b) false)
  generalize numAt ws at_ (kwR k a b) = Y at *
  generalize numAt ws (at_ + kwR k a b) (twR k b) = T at *
  generalize (bitsOf ws).getD (at_ + kwR k a b + twR k b) false = F at *
  generalize hW : wellRB k a b Y T F = W at *
  have e1 : IntKind.i64.wrap (Y : Int) = Y := w64 (by omega) (by omega)
  have e2 : IntKind.i64.wrap (T : Int) = T := w64 (by omega) (by omega)
  simp only [o_bj, parD, tsD, rdO] at hc hb hl h2 n1 n2 n3 hwl ⊢
  generalize at_ + kwR k a b + twR k b + 1 = a3 at *
  generalize at_ + kwR k a b + twR k b = a2 at *
  generalize at_ + kwR k a b = a1 at *
  generalize kwR k a b + twR k b + 1 = N at *
  generalize kwR k a b = K at *
  generalize twR k b = TT at *
  generalize 8 * ws.length - at_ = L at *
  refine G0 ?_; try with_reducible exact tt
  refine CallS.pu (hc) (R0 ?_); try with_reducible exact tt
  refine AW.cond rfl (fun h => ?_) (fun h => ?_)
  ·simp at h
  refine G0 ?_; try with_reducible exact tt
  refine CallS.o1 0 (hl) (R0 ?_); try with_reducible exact tt
  refine CallS.pu (hb) (R1 (fs hi hend) ?_); try with_reducible exact tt
  refine AW.cond rfl (fun h => ?_) (fun h => ?_)
  ·simp [hend] at h
  refine G0 ?_; try with_reducible exact tt
  refine CallS.pu (h2) (R0 ?_); try with_reducible exact tt
  refine CallS.o1 0 (n1) (R0 ?_); try with_reducible exact tt
  refine CallS.o1 0 (n2) (R0 ?_); try with_reducible exact tt
  refine CallS.o1 0 (n3) (R1 (fs e1 e2) ?_); try with_reducible exact tt
  refine CallS.pu (hwl) (R0 ?_); try with_reducible exact tt
  cases W with
  | true =>
   rw [if_pos rfl] at hR
   subst hR
   refine AW.cond rfl (fun h => ?_) (fun h => ?_)
   ·simp at h
   ·refine G0 ?_; try with_reducible exact tt
  | false =>
   rw [if_neg (by simp)] at hR
   subst hR
   refine AW.cond rfl (fun h => ?_) (fun h => ?_)
   ·refine G0 ?_; try with_reducible exact tt
   ·simp at h
end
end Go.Proofs.YtdklbnemfelpnaaGreatDoor.Am
namespace Go.Proofs.YtdklbnemfelpnaaGreatDoor.Am
section
def ofB (f : Nat → Bool) : Nat → Nat
 | 0 => 0
 | n + 1 => ofB f n + (if f n then 2 ^ n else 0)
theorem o_pz (f : Nat → Bool) : ∀ n, ofB f n < 2 ^ n
 | 0 => by simp [ofB]
 | n + 1 => by
  have := o_pz f n
  rw [ofB, Nat.pow_succ]
  split <;> omega
theorem o_q0 (f : Nat → Bool) : ∀ n i, i < n → (ofB f n).testBit i = f i
 | 0, i, h => by omega
 | n + 1, i, h => by
  have hl := o_pz f n
  rw [ofB]
  by_cases hi : i = n
  ·subst hi
   split
   ·rename_i hf
    rw [Nat.add_comm, Nat.testBit_two_pow_add_eq, Nat.testBit_lt_two_pow hl, hf]; rfl
   ·rename_i hf
    rw [Nat.add_zero, Nat.testBit_lt_two_pow hl]; simpa using hf
  ·split
   ·rw [Nat.add_comm, Nat.testBit_two_pow_add_gt (by omega), o_q0 f n i (by omega)]
   ·rw [Nat.add_zero, o_q0 f n i (by omega)]
theorem o_q1 {f g : Nat → Bool} : ∀ n, (∀ i, i < n → f i = g i) → ofB f n = ofB g n
 | 0, _ => rfl
 | n + 1, h => by rw [ofB, ofB, o_q1 n (fun i hi => h i (by omega)), h n (by omega)]
def bitX (w : Nat) (xs : List Nat) (k : Nat) : Bool := (xs.getD (k / w) 0).testBit (k % w)
def nwP (n w : Nat) : Nat := (n * w + 63) / 64
def wordsP (w : Nat) (xs : List Nat) : List Nat := (List.range (nwP xs.length w)).map fun j => ofB (fun b => bitX w xs (64 * j + b)) 64
@[simp] theorem o_q2 (w : Nat) (xs : List Nat) : (wordsP w xs).length = nwP xs.length w := by simp [wordsP]
theorem o_q3 {w : Nat} {xs : List Nat} {j : Nat} (h : j < nwP xs.length w) : (wordsP w xs).getD j 0 = ofB (fun b => bitX w xs (64 * j + b)) 64 := by
 unfold wordsP; rw [List.getD_eq_getElem?_getD, List.getElem?_map, List.getElem?_range h]; rfl
theorem o_q4 {w : Nat} {xs : List Nat} (j : Nat) : (wordsP w xs).getD j 0 < 2 ^ 64 := by
 by_cases h : j < nwP xs.length w
 ·rw [o_q3 h]; exact o_pz _ _
 ·rw [List.getD_eq_getElem?_getD, List.getElem?_eq_none (by simp; omega)]; simp
theorem o_q5 {w : Nat} {xs : List Nat} {j b : Nat} (h : j < nwP xs.length w) (hb : b < 64) : ((wordsP w xs).getD j 0).testBit b = bitX w xs (64 * j + b) := by rw [o_q3 h, o_q0 _ _ _ hb]
theorem o_q6 {w : Nat} {xs : List Nat} {i b : Nat} (hb : b < w) : bitX w xs (i * w + b) = (xs.getD i 0).testBit b := by
 unfold bitX
 rw [Nat.mul_comm, Nat.mul_add_div (by omega), Nat.div_eq_of_lt hb, Nat.add_zero, Nat.mul_add_mod, Nat.mod_eq_of_lt hb]
theorem o_q7 {w : Nat} {xs : List Nat} {i v k : Nat} (hw : 0 < w) (hi : i < xs.length) : bitX w (xs.set i v) k = if i * w ≤ k ∧ k < i * w + w then v.testBit (k - i * w) else bitX w xs k := by
 unfold bitX
 have e := Nat.div_add_mod k w
 have hm := Nat.mod_lt k hw
 rw [List.getD_eq_getElem?_getD, List.getD_eq_getElem?_getD, List.getElem?_set]
 by_cases h : i = k / w
 ·subst h
  have e2 : k / w * w = w * (k / w) := Nat.mul_comm _ _
  rw [if_pos rfl, if_pos hi, if_pos (by omega), show k - k / w * w = k % w by omega]
  rfl
 ·rw [if_neg h, if_neg]
  rintro ⟨h1, h2⟩
  apply h
  have h3 : i ≤ k / w := (Nat.le_div_iff_mul_le hw).2 h1
  have h4 : k / w < i + 1 := (Nat.div_lt_iff_lt_mul hw).2 (by rw [Nat.add_mul]; omega)
  omega

def smallP (w : Nat) (xs : List Nat) : Prop := ∀ x ∈ xs, x < 2 ^ w
theorem o_q8 {w : Nat} {xs : List Nat} (h : smallP w xs) (i : Nat) : xs.getD i 0 < 2 ^ w := by
 rw [List.getD_eq_getElem?_getD]
 cases hx : xs[i]? with
 | none => simp [Nat.two_pow_pos]
 | some x => exact h x (List.mem_of_getElem? hx)

theorem o_q9 (x r b : Nat) : (x / 2 ^ r).testBit b = x.testBit (r + b) := by rw [Nat.testBit_div_two_pow, Nat.add_comm]
theorem o_qa (x s b : Nat) : (x * 2 ^ s % 2 ^ 64).testBit b = (decide (b < 64) && (decide (s ≤ b) && x.testBit (b - s))) := by rw [Nat.testBit_mod_two_pow, Nat.testBit_mul_two_pow]
theorem o_qb (w b : Nat) : (2 ^ w - 1).testBit b = decide (b < w) := Nat.testBit_two_pow_sub_one w b

theorem pget1 {w : Nat} {xs : List Nat} {i : Nat} (hs : smallP w xs) (hw : w ≤ 32) (hi : i < xs.length) (hr : i * w % 64 + w ≤ 64) : (wordsP w xs).getD (i * w / 64) 0 / 2 ^ (i * w % 64) &&& (2 ^ w - 1) = xs.getD i 0 := by
 have e := Nat.div_add_mod (i * w) 64
 by_cases hw0 : w = 0
 ·subst hw0
  have := o_q8 hs i
  simp at this ⊢; omega
 have hle : i * w + w ≤ xs.length * w := by rw [← Nat.succ_mul]; exact Nat.mul_le_mul_right w hi
 apply Nat.eq_of_testBit_eq
 intro b
 rw [Nat.testBit_and, o_qb, o_q9]
 by_cases hb : b < w
 ·rw [o_q5 (by unfold nwP; omega) (by omega), show 64 * (i * w / 64) + (i * w % 64 + b) = i * w + b by omega, o_q6 hb]
  simp [hb]
 ·have : (xs.getD i 0).testBit b = false := Nat.testBit_lt_two_pow (Nat.lt_of_lt_of_le (o_q8 hs i) (Nat.pow_le_pow_right (by omega) (by omega)))
  rw [this]; simp [hb]
theorem pget2 {w : Nat} {xs : List Nat} {i : Nat} (hs : smallP w xs) (hw : w ≤ 32) (hi : i < xs.length) (hr : 64 < i * w % 64 + w) : ((wordsP w xs).getD (i * w / 64) 0 / 2 ^ (i * w % 64) ||| (wordsP w xs).getD (i * w / 64 + 1) 0 * 2 ^ (64 - i * w % 64) % 2 ^ 64) &&& (2 ^ w - 1) = xs.getD i 0 := by
 have e := Nat.div_add_mod (i * w) 64
 have hle : i * w + w ≤ xs.length * w := by rw [← Nat.succ_mul]; exact Nat.mul_le_mul_right w hi
 apply Nat.eq_of_testBit_eq
 intro b
 rw [Nat.testBit_and, o_qb, Nat.testBit_or, o_q9, o_qa]
 by_cases hb : b < w
 ·by_cases h64 : i * w % 64 + b < 64
  ·rw [o_q5 (by unfold nwP; omega) h64, show 64 * (i * w / 64) + (i * w % 64 + b) = i * w + b by omega, o_q6 hb]
   have : ¬ 64 - i * w % 64 ≤ b := by omega
   simp [hb, this]
  ·have h1 : ((wordsP w xs).getD (i * w / 64) 0).testBit (i * w % 64 + b) = false := Nat.testBit_lt_two_pow (Nat.lt_of_lt_of_le (o_q4 _) (Nat.pow_le_pow_right (by omega) (by omega)))
   rw [h1, o_q5 (j := i * w / 64 + 1) (by unfold nwP; omega) (by omega), show 64 * (i * w / 64 + 1) + (b - (64 - i * w % 64)) = i * w + b by omega, o_q6 hb]
   have h2 : 64 - i * w % 64 ≤ b := by omega
   have h3 : b < 64 := by omega
   simp [hb, h2, h3]
 ·have : (xs.getD i 0).testBit b = false := Nat.testBit_lt_two_pow (Nat.lt_of_lt_of_le (o_q8 hs i) (Nat.pow_le_pow_right (by omega) (by omega)))
  rw [this]; simp [hb]

def andN (x y : Nat) : Nat := x &&& (2 ^ 64 - 1 - y)
theorem o_qc {x y : Nat} (hx : x < 2 ^ 64) (hy : y < 2 ^ 64) (b : Nat) : (andN x y).testBit b = (x.testBit b && !y.testBit b) := by
 unfold andN
 rw [Nat.testBit_and, Nat.sub_sub, Nat.add_comm 1 y, Nat.testBit_two_pow_sub_succ hy]
 by_cases hb : b < 64
 ·simp [hb]
 ·have : x.testBit b = false := Nat.testBit_lt_two_pow (Nat.lt_of_lt_of_le hx (Nat.pow_le_pow_right (by omega) (by omega)))
  simp [this]

theorem o_qd {x : Nat} {f : Nat → Bool} (hx : x < 2 ^ 64) (h : ∀ b, b < 64 → x.testBit b = f b) : x = ofB f 64 := by
 apply Nat.eq_of_testBit_eq
 intro b
 by_cases hb : b < 64
 ·rw [h b hb, o_q0 _ _ _ hb]
 ·have h2 : 2 ^ 64 ≤ 2 ^ b := Nat.pow_le_pow_right (by omega) (by omega)
  rw [Nat.testBit_lt_two_pow (Nat.lt_of_lt_of_le hx h2), Nat.testBit_lt_two_pow (Nat.lt_of_lt_of_le (o_pz f 64) h2)]

def setW1 (w : Nat) (x v r : Nat) : Nat := andN x ((2 ^ w - 1) * 2 ^ r % 2 ^ 64) ||| v * 2 ^ r % 2 ^ 64
def setW2 (w : Nat) (x v s : Nat) : Nat := andN x ((2 ^ w - 1) / 2 ^ s) ||| v / 2 ^ s
theorem o_qe {x y : Nat} (hx : x < 2 ^ 64) : andN x y < 2 ^ 64 := Nat.lt_of_le_of_lt Nat.and_le_left hx
theorem o_qf {w : Nat} {xs : List Nat} {i v : Nat} (hw : w ≤ 32) (hw0 : 0 < w) (hi : i < xs.length) (hv : v < 2 ^ w) : setW1 w ((wordsP w xs).getD (i * w / 64) 0) v (i * w % 64) = (wordsP w (xs.set i v)).getD (i * w / 64) 0 := by
 have e := Nat.div_add_mod (i * w) 64
 have hle : i * w + w ≤ xs.length * w := by rw [← Nat.succ_mul]; exact Nat.mul_le_mul_right w hi
 have hm : i * w % 64 < 64 := Nat.mod_lt _ (by omega)
 rw [o_q3 (xs := xs.set i v) (by simp only [List.length_set]; unfold nwP; omega)]
 apply o_qd
 ·exact Nat.or_lt_two_pow (o_qe (o_q4 _)) (Nat.mod_lt _ (by omega))
 ·intro b hb
  unfold setW1
  rw [Nat.testBit_or, o_qc (o_q4 _) (Nat.mod_lt _ (by omega)), o_qa, o_qa, o_qb, o_q5 (by unfold nwP; omega) hb, o_q7 hw0 hi]
  by_cases h1 : i * w % 64 ≤ b
  ·by_cases h2 : b < i * w % 64 + w
   ·rw [if_pos (by omega), show 64 * (i * w / 64) + b - i * w = b - i * w % 64 by omega]
    have h3 : b - i * w % 64 < w := by omega
    simp [hb, h1, h3]
   ·rw [if_neg (by omega)]
    have h3 : ¬ b - i * w % 64 < w := by omega
    have h4 : v.testBit (b - i * w % 64) = false := Nat.testBit_lt_two_pow (Nat.lt_of_lt_of_le hv (Nat.pow_le_pow_right (by omega) (by omega)))
    simp [hb, h1, h3, h4]
  ·rw [if_neg (by omega)]
   simp [hb, h1]
theorem o_qg {w : Nat} {xs : List Nat} {i v : Nat} (hw : w ≤ 32) (hi : i < xs.length) (hv : v < 2 ^ w) (hr : 64 < i * w % 64 + w) : setW2 w ((wordsP w xs).getD (i * w / 64 + 1) 0) v (64 - i * w % 64) = (wordsP w (xs.set i v)).getD (i * w / 64 + 1) 0 := by
 have e := Nat.div_add_mod (i * w) 64
 have hle : i * w + w ≤ xs.length * w := by rw [← Nat.succ_mul]; exact Nat.mul_le_mul_right w hi
 have hm : i * w % 64 < 64 := Nat.mod_lt _ (by omega)
 have h32 : 2 ^ w ≤ 2 ^ 32 := Nat.pow_le_pow_right (by omega) hw
 have hv64 : v / 2 ^ (64 - i * w % 64) < 2 ^ 64 := Nat.lt_of_le_of_lt (Nat.div_le_self _ _) (by omega)
 have hm64 : (2 ^ w - 1) / 2 ^ (64 - i * w % 64) < 2 ^ 64 := Nat.lt_of_le_of_lt (Nat.div_le_self _ _) (by omega)
 rw [o_q3 (xs := xs.set i v) (by simp only [List.length_set]; unfold nwP; omega)]
 apply o_qd
 ·exact Nat.or_lt_two_pow (o_qe (o_q4 _)) hv64
 ·intro b hb
  unfold setW2
  rw [Nat.testBit_or, o_qc (o_q4 _) hm64, o_q9, o_q9, o_qb, o_q5 (by unfold nwP; omega) hb, o_q7 (by omega) hi]
  by_cases h2 : 64 - i * w % 64 + b < w
  ·rw [if_pos (by omega), show 64 * (i * w / 64 + 1) + b - i * w = 64 - i * w % 64 + b by omega]
   simp [h2]
  ·rw [if_neg (by omega)]
   have h4 : v.testBit (64 - i * w % 64 + b) = false := Nat.testBit_lt_two_pow (Nat.lt_of_lt_of_le hv (Nat.pow_le_pow_right (by omega) (by omega)))
   simp [h2, h4]
theorem o_qh {w : Nat} {xs : List Nat} {i v j : Nat} (hw0 : 0 < w) (hi : i < xs.length) (h1 : j ≠ i * w / 64) (h2 : i * w % 64 + w ≤ 64 ∨ j ≠ i * w / 64 + 1) (hw : w ≤ 32) : (wordsP w (xs.set i v))[j]? = (wordsP w xs)[j]? := by
 have e := Nat.div_add_mod (i * w) 64
 have hm : i * w % 64 < 64 := Nat.mod_lt _ (by omega)
 unfold wordsP
 simp only [List.length_set, List.getElem?_map]
 cases hj : (List.range (nwP xs.length w))[j]? with
 | none => rfl
 | some j' =>
  have : j' = j := by
   have := List.getElem?_eq_some_iff.1 hj
   obtain ⟨h, rfl⟩ := this
   simp
  subst this
  simp only [Option.map_some, Option.some.injEq]
  apply o_q1
  intro b hb
  rw [o_q7 hw0 hi, if_neg]
  omega
theorem pset1 {w : Nat} {xs : List Nat} {i v : Nat} (hw : w ≤ 32) (hw0 : 0 < w) (hi : i < xs.length) (hv : v < 2 ^ w) (hr : i * w % 64 + w ≤ 64) : (wordsP w xs).set (i * w / 64) (setW1 w ((wordsP w xs).getD (i * w / 64) 0) v (i * w % 64)) = wordsP w (xs.set i v) := by
 have e := Nat.div_add_mod (i * w) 64
 have hle : i * w + w ≤ xs.length * w := by rw [← Nat.succ_mul]; exact Nat.mul_le_mul_right w hi
 have hq : i * w / 64 < nwP xs.length w := by unfold nwP; omega
 rw [o_qf hw hw0 hi hv]
 apply List.ext_getElem?
 intro j
 rw [List.getElem?_set]
 by_cases h : i * w / 64 = j
 ·subst h
  rw [if_pos rfl, if_pos (by simpa using hq), List.getD_eq_getElem?_getD, List.getElem?_eq_getElem (by simpa using hq)]; rfl
 ·rw [if_neg h, o_qh hw0 hi (fun h' => h h'.symm) (.inl hr) hw]
theorem pset2 {w : Nat} {xs : List Nat} {i v : Nat} (hw : w ≤ 32) (hi : i < xs.length) (hv : v < 2 ^ w) (hr : 64 < i * w % 64 + w) :
  ((wordsP w xs).set (i * w / 64) (setW1 w ((wordsP w xs).getD (i * w / 64) 0) v (i * w % 64))).set (i * w / 64 + 1) (setW2 w ((wordsP w xs).getD (i * w / 64 + 1) 0) v (64 - i * w % 64)) = wordsP w (xs.set i v) := by
 have e := Nat.div_add_mod (i * w) 64
 have hle : i * w + w ≤ xs.length * w := by rw [← Nat.succ_mul]; exact Nat.mul_le_mul_right w hi
 have hq : i * w / 64 + 1 < nwP xs.length w := by unfold nwP; omega
 rw [o_qf hw (by omega) hi hv, o_qg hw hi hv hr]
 apply List.ext_getElem?
 intro j
 rw [List.getElem?_set, List.getElem?_set]
 by_cases h2 : i * w / 64 + 1 = j
 ·subst h2
  rw [if_pos rfl, if_pos (by simpa using hq), List.getD_eq_getElem?_getD, List.getElem?_eq_getElem (by simpa using hq)]; rfl
 ·rw [if_neg h2]
  by_cases h : i * w / 64 = j
  ·subst h
   rw [if_pos rfl, if_pos (by simp; omega), List.getD_eq_getElem?_getD, List.getElem?_eq_getElem (by simp; omega)]; rfl
  ·rw [if_neg h, o_qh (by omega) hi (fun h' => h h'.symm) (.inr fun h' => h2 h'.symm) hw]
theorem o_qi (n w : Nat) : wordsP w (List.replicate n 0) = List.replicate (nwP n w) 0 := by
 apply List.ext_getElem?
 intro j
 unfold wordsP
 simp only [List.getElem?_map, List.length_replicate, List.getElem?_replicate]
 by_cases h : j < nwP n w
 ·rw [List.getElem?_range h, if_pos h]
  simp only [Option.map_some, Option.some.injEq]
  have h0 : ∀ k, bitX w (List.replicate n 0) k = false := by
   intro k
   unfold bitX
   have : (List.replicate n 0).getD (k / w) 0 = 0 := by
    rw [List.getD_eq_getElem?_getD, List.getElem?_replicate]; split <;> rfl
   rw [this]; simp
  simp only [h0]
  decide
 ·rw [List.getElem?_eq_none (by simp; omega), if_neg h]; rfl
end
end Go.Proofs.YtdklbnemfelpnaaGreatDoor.Am
namespace Go.Proofs.YtdklbnemfelpnaaGreatDoor.Am
section
open Go.RowKit
def u64s (ws : List Nat) : List V := ws.map fun x : Nat => V.d (.int .u64 x)
theorem o_qj (ws : List Nat) : (u64s ws).length = ws.length := by simp [u64s]
theorem o_qk {ws : List Nat} {j : Nat} (h : j < ws.length) : (u64s ws)[j]? = some (.d (.int .u64 (ws.getD j 0 : Nat))) := by simp [u64s, h]
theorem o_ql (ws : List Nat) (j v : Nat) : (u64s ws).set j (.d (.int .u64 v)) = u64s (ws.set j v) := by simp [u64s, List.map_set]
@[simp] theorem o_qm (n : Nat) (ws : List Nat) : V.lowl n (u64s ws) = true := by induction ws <;> simp_all [u64s]
@[simp] theorem o_qn (θ : Nat → Nat) (ws : List Nat) : V.rens θ (u64s ws) = u64s ws := by induction ws <;> simp_all [u64s]
def vecO (m n w : Nat) : Ob := ⟨223, [.own m 1 (nwP n w), .d (.int .i64 n), .d (.int .i64 w)]⟩
def vecB (w : Nat) (xs : List Nat) : Ob := ⟨129, u64s (wordsP w xs)⟩

theorem o_qo (x y : Nat) (hx : x < 18446744073709551616) (hy : y < 18446744073709551616) : bits BinOp.and IntKind.u64 (x : Int) (y : Int) = ((x &&& y : Nat) : Int) := by
 show IntKind.u64.wrap (((BitVec.ofInt 64 (x : Int)) &&& (BitVec.ofInt 64 (y : Int))).toNat : Int) = _
 rw [BitVec.toNat_and, BitVec.ofInt_natCast, BitVec.ofInt_natCast, BitVec.toNat_ofNat, BitVec.toNat_ofNat, Nat.mod_eq_of_lt (by omega), Nat.mod_eq_of_lt (by omega)]
 have : x &&& y ≤ x := Nat.and_le_left
 rw [IntKind.wrap_u64]
 omega
theorem o_qp (x y : Nat) (hx : x < 18446744073709551616) (hy : y < 18446744073709551616) : bits BinOp.andNot IntKind.u64 (x : Int) (y : Int) = ((andN x y : Nat) : Int) := by
 show IntKind.u64.wrap (((BitVec.ofInt 64 (x : Int)) &&& ~~~(BitVec.ofInt 64 (y : Int))).toNat : Int) = _
 rw [BitVec.toNat_and, BitVec.toNat_not, BitVec.ofInt_natCast, BitVec.ofInt_natCast, BitVec.toNat_ofNat, BitVec.toNat_ofNat, Nat.mod_eq_of_lt (by omega), Nat.mod_eq_of_lt (by omega)]
 have : x &&& (2 ^ 64 - 1 - y) ≤ x := Nat.and_le_left
 rw [IntKind.wrap_u64]
 unfold andN
 omega

theorem o_qq (n w : Nat) (hn : n ≤ 256) (hw0 : 0 < w) (hw : w ≤ 32) : Eqn Tryz.prog o_cc [.d (.int .i64 n), .d (.int .i64 w)] [] (.tup [.p 0 0, .d (.int .i64 0)]) [vecO 1 n w, vecB w (List.replicate n 0)] := by
 refine Eqn.gen [1, 0] o_ce (by simp) (by simp) (by rfl) (by decide) (by simp) (by simp [vecO, vecB]) ?_
 have hb : n * w ≤ 256 * 32 := Nat.mul_le_mul hn hw
 have g1 : ¬ (n : Int) < 0 := by omega
 have g2 : ¬ (256 : Int) < n := by omega
 have g3 : ¬ (w : Int) < 1 := by omega
 have g4 : ¬ (32 : Int) < w := by omega
 have e1 : IntKind.i64.wrap ((n : Int) * w) = ((n * w : Nat) : Int) := by rw [w64 (by rw [← Int.natCast_mul]; omega) (by rw [← Int.natCast_mul]; omega), Int.natCast_mul]
 simp only [o_cd, vecO, vecB, o_qi]
 unfold nwP
 generalize n * w = Z at *
 have e2 : IntKind.i64.wrap ((Z : Int) + 64) = ((Z + 64 : Nat) : Int) := by rw [w64 (by omega) (by omega)]; omega
 have e3 : IntKind.i64.wrap ((Z + 64 : Nat) - 1 : Int) = ((Z + 63 : Nat) : Int) := by rw [w64 (by omega) (by omega)]; omega
 have e4 : IntKind.i64.wrap (((Z + 63 : Nat) : Int) / 64) = (((Z + 63) / 64 : Nat) : Int) := by rw [w64 (by omega) (by omega)]; rfl
 have hq : (Z + 63) / 64 ≤ 1000 := by omega
 generalize (Z + 63) / 64 = q at *
 generalize Z + 63 = Z1 at *
 generalize Z + 64 = Z2 at *
 have hrep : u64s (List.replicate q 0) = List.replicate q (V.d (.int .u64 0)) := by simp [u64s]
 have hren : ∀ θ, V.rens θ (u64s (List.replicate q 0)) = u64s (List.replicate q 0) := fun θ => o_qn θ _
 rw [hrep] at hren ⊢
 refine G1 (fs g1 (fs g2 (fs g3 g4))) ?_; try with_reducible exact tt
 refine AW.cond rfl (fun h => ?_) (fun h => ?_)
 ·simp at h
 ·refine G1 (fs e1 (fs e2 (fs e3 (fs e4 hren)))) ?_; try with_reducible exact tt

def vecD (w : Nat) (xs : List Nat) : List D := [.sl (nwP xs.length w) ((wordsP w xs).map fun x : Nat => D.int .u64 x), .int .i64 xs.length, .int .i64 w]

theorem o_qr (w : Nat) (xs : List Nat) (i : Nat) (hi : i < xs.length) (hn : xs.length ≤ 256) (hw : w ≤ 32) : Eqn Tryz.prog o_di [.ia (vecD w xs) 0, .d (.int .i64 i)] [] (.tup [.d (.int .i64 (i * w / 64 : Nat)), .d (.int .i64 (i * w % 64 : Nat))]) [] := by
 refine Eqn.pure o_dk Plain.ok ?_
 have hb : i * w ≤ 256 * 32 := Nat.mul_le_mul (by omega) hw
 have e1 : IntKind.i64.wrap ((i : Int) * w) = ((i * w : Nat) : Int) := by rw [w64 (by rw [← Int.natCast_mul]; omega) (by rw [← Int.natCast_mul]; omega), Int.natCast_mul]
 simp only [o_dj, vecD]
 generalize i * w = Z at *
 have e2 : IntKind.i64.wrap ((Z : Int) / 64) = ((Z / 64 : Nat) : Int) := by rw [w64 (by omega) (by omega)]; rfl
 have e3 : (Z : Int).tmod 64 = ((Z % 64 : Nat) : Int) := by rw [Int.tmod_eq_emod_of_nonneg (by omega)]; rfl
 generalize Z / 64 = q at *
 generalize Z % 64 = r at *
 refine G1 (fs e1 (fs e2 e3)) ?_; try with_reducible exact tt

theorem o_qs (w : Nat) (N : Nat) (L : List D) (n : Int) (hw : w ≤ 32) : Eqn Tryz.prog o_dl [.ia [.sl N L, .int .i64 n, .int .i64 w] 0] [] (.d (.int .u64 (2 ^ w - 1 : Nat))) [] := by
 refine Eqn.pure o_dn Plain.ok ?_
 have h32 : 2 ^ w ≤ 2 ^ 32 := Nat.pow_le_pow_right (by omega) hw
 have h0 : 0 < 2 ^ w := Nat.two_pow_pos w
 have e0 : (2 : Int) ^ w = (2 ^ w : Nat) := by rw [Int.natCast_pow]; rfl
 have hw64 : w ≤ 64 := by omega
 simp only [o_dm]
 generalize 2 ^ w = S at *
 have e3 : IntKind.u64.wrap (S : Int) = S := wu64 (by omega) (by omega)
 have e4 : IntKind.u64.wrap ((S : Int) - 1) = ((S - 1 : Nat) : Int) := by rw [wu64 (by omega) (by omega)]; omega
 refine G1 (fs e0 (fs e3 (fs e4 hw64))) ?_; try with_reducible exact tt

theorem o_qt (w : Nat) (xs : List Nat) (hw : w ≤ 32) : Eqn Tryz.prog o_dl [.ia (vecD w xs) 0] [] (.d (.int .u64 (2 ^ w - 1 : Nat))) [] := o_qs w _ _ _ hw

theorem o_qu (w : Nat) (xs : List Nat) : Eqn Tryz.prog o_cu [.ia (vecD w xs) 0] [] (.d (.int .i64 w)) [] := by
 refine Eqn.pure o_cw Plain.ok ?_
 simp only [o_cv, vecD]
 refine G0 ?_; try with_reducible exact tt

theorem o_qv (w : Nat) (xs : List Nat) (i : Nat) (hi : i < xs.length) (hn : xs.length ≤ 256) (hw0 : 0 < w) (hw : w ≤ 32) (hs : smallP w xs) : Eqn Tryz.prog o_b9 [.ia (vecD w xs) 0, .d (.int .i64 i)] [] (.tup [.d (.int .u64 (xs.getD i 0 : Nat)), .d (.int .i64 0)]) [] := by
 refine Eqn.pure o_bb Plain.ok ?_
 have hpl := o_qr w xs i hi hn hw
 have hma := o_qt w xs hw
 have g1 : ¬ (i : Int) < 0 := by omega
 have g2 : ¬ (xs.length : Int) ≤ i := by omega
 have e := Nat.div_add_mod (i * w) 64
 have hm64 : i * w % 64 < 64 := Nat.mod_lt _ (by omega)
 have hle : i * w + w ≤ xs.length * w := by rw [← Nat.succ_mul]; exact Nat.mul_le_mul_right w hi
 have hq : i * w / 64 < nwP xs.length w := by unfold nwP; omega
 have hq2 : 64 < i * w % 64 + w → i * w / 64 + 1 < nwP xs.length w := by intro h; unfold nwP; omega
 have hx1 := o_q4 (w := w) (xs := xs) (i * w / 64)
 have hx2 := o_q4 (w := w) (xs := xs) (i * w / 64 + 1)
 have hp1 := pget1 (i := i) hs hw hi
 have hp2 := pget2 (i := i) hs hw hi
 have hqb : i * w / 64 ≤ 1000 := by have : i * w ≤ 256 * 32 := Nat.mul_le_mul (by omega) hw; omega
 have hg1 : ∀ z : D, ((wordsP w xs).map fun x : Nat => D.int .u64 x)[i * w / 64]?.getD z = .int .u64 ((wordsP w xs).getD (i * w / 64) 0 : Nat) := fun z => by simp [hq]
 have hg2 : 64 < i * w % 64 + w → ∀ z : D, ((wordsP w xs).map fun x : Nat => D.int .u64 x)[i * w / 64 + 1]?.getD z = .int .u64 ((wordsP w xs).getD (i * w / 64 + 1) 0 : Nat) := fun h z => by simp [hq2 h]
 have h32 : 2 ^ w ≤ 2 ^ 32 := Nat.pow_le_pow_right (by omega) hw
 have hlen : ((wordsP w xs).map fun x : Nat => D.int .u64 x).length = nwP xs.length w := by simp
 simp only [o_ba, vecD] at hpl hma ⊢
 generalize (wordsP w xs).getD (i * w / 64) 0 = x1 at *
 generalize (wordsP w xs).getD (i * w / 64 + 1) 0 = x2 at *
 generalize xs.getD i 0 = res at *
 generalize i * w / 64 = q at *
 generalize i * w % 64 = r at *
 generalize ((wordsP w xs).map fun x : Nat => D.int .u64 x) = L at *
 generalize nwP xs.length w = NW at *
 have e1 : (x1 : Int) / 2 ^ r = ((x1 / 2 ^ r : Nat) : Int) := by rw [Int.natCast_ediv, Int.natCast_pow]; rfl
 have e2 : IntKind.i64.wrap ((r : Int) + w) = ((r + w : Nat) : Int) := by rw [w64 (by omega) (by omega)]; omega
 have hx1r : x1 / 2 ^ r ≤ x1 := Nat.div_le_self _ _
 have hr64 : (r : Int) ≤ 64 := by omega
 by_cases hrw : r + w ≤ 64
 ·replace hp1 := hp1 hrw
  have e3 := o_qo (x1 / 2 ^ r) (2 ^ w - 1) (by omega) (by omega)
  rw [hp1] at e3
  generalize x1 / 2 ^ r = X1 at *
  generalize 2 ^ w - 1 = M at *
  have g3 : ¬ (64 : Int) < (r : Int) + w := by omega
  have g3' : ¬ (64 : Int) < (r + w : Nat) := by omega
  have g3'' : ¬ 64 < r + w := by omega
  generalize r + w = rw_ at *
  refine G1 (fs g1 g2) ?_; try with_reducible exact tt
  refine AW.cond rfl (fun h => ?_) (fun h => ?_)
  ·simp [g1, g2] at h
  refine G0B ?_; try with_reducible exact tt
  refine CallS.pu (hpl) (R0 ?_); try with_reducible exact tt
  repeat (first | refine AW.seq ?_ | refine AW.block ?_ | (refine AW.reg mix ?_; simp -implicitDefEqProofs [hg1, e1, e2, hr64, g3, g3', g3'']; try simp (disch := omega) only [w64, wu64]) | (refine need.of (by first | omega | kernel_rfl) ?_) | (refine AW.fin ?_; try simp -implicitDefEqProofs [hg1, e1, e2, hr64, g3, g3', g3'']))
  (try (simp -implicitDefEqProofs [hg1, e1, e2, hr64, g3, g3', g3'']; try simp (disch := omega) only [w64, wu64]))
  repeat (first | refine AW.seq ?_ | refine AW.block ?_ | (refine AW.reg mix ?_; simp -implicitDefEqProofs [hg1, e1, e2, hr64, g3, g3', g3'']; try simp (disch := omega) only [w64, wu64]) | (refine need.of (by first | omega | kernel_rfl) ?_) | (refine AW.fin ?_; try simp -implicitDefEqProofs [hg1, e1, e2, hr64, g3, g3', g3'']))
  refine AW.cond rfl (fun h => ?_) (fun h => ?_)
  ·simp [g3''] at h
  refine G0 ?_; try with_reducible exact tt
  refine CallS.pu (hma) (R1 e3 ?_); try with_reducible exact tt
 ·have hr2 : 64 < r + w := by omega
  replace hp2 := hp2 hr2
  replace hg2 := hg2 hr2
  replace hq2 := hq2 hr2
  have e4 : IntKind.i64.wrap (64 - (r : Int)) = ((64 - r : Nat) : Int) := by rw [w64 (by omega) (by omega)]; omega
  have e5 : IntKind.u64.wrap ((x2 : Int) * 2 ^ (64 - r)) = ((x2 * 2 ^ (64 - r) % 2 ^ 64 : Nat) : Int) := by
   rw [IntKind.wrap_u64, Int.natCast_emod, Int.natCast_mul, Int.natCast_pow]; rfl
  have hx2m : x2 * 2 ^ (64 - r) % 2 ^ 64 < 2 ^ 64 := Nat.mod_lt _ (by omega)
  have e6 := o_p6 (x1 / 2 ^ r) (x2 * 2 ^ (64 - r) % 2 ^ 64) (by omega) (by omega)
  have hor := Nat.or_lt_two_pow (n := 64) (x := x1 / 2 ^ r) (y := x2 * 2 ^ (64 - r) % 2 ^ 64) (by omega) hx2m
  have e7 := o_qo (x1 / 2 ^ r ||| x2 * 2 ^ (64 - r) % 2 ^ 64) (2 ^ w - 1) (by omega) (by omega)
  rw [hp2] at e7
  have hs64 : ((64 - r : Nat) : Int) ≤ 64 := by omega
  generalize x1 / 2 ^ r = X1 at *
  generalize x2 * 2 ^ (64 - r) % 2 ^ 64 = X2 at *
  generalize X1 ||| X2 = X3 at *
  generalize 2 ^ w - 1 = M at *
  generalize 64 - r = s at *
  have g3 : (64 : Int) < (r + w : Nat) := by omega
  have e8 : IntKind.i64.wrap ((q : Int) + 1) = ((q + 1 : Nat) : Int) := by rw [w64 (by omega) (by omega)]; omega
  generalize r + w = rw_ at *
  obtain ⟨q1, hq1⟩ : ∃ q1, q1 = q + 1 := ⟨_, rfl⟩
  rw [← hq1] at hg2 hq2 e8
  refine G1 (fs g1 g2) ?_; try with_reducible exact tt
  refine AW.cond rfl (fun h => ?_) (fun h => ?_)
  ·simp [g1, g2] at h
  refine G0B ?_; try with_reducible exact tt
  refine CallS.pu (hpl) (R0 ?_); try with_reducible exact tt
  repeat (first | refine AW.seq ?_ | refine AW.block ?_ | (refine AW.reg mix ?_; simp -implicitDefEqProofs [hg1, e1, e2, hr64, g3, hr2]; try simp (disch := omega) only [w64, wu64]) | (refine need.of (by first | omega | kernel_rfl) ?_) | (refine AW.fin ?_; try simp -implicitDefEqProofs [hg1, e1, e2, hr64, g3, hr2]))
  (try (simp -implicitDefEqProofs [hg1, e1, e2, hr64, g3, hr2]; try simp (disch := omega) only [w64, wu64]))
  repeat (first | refine AW.seq ?_ | refine AW.block ?_ | (refine AW.reg mix ?_; simp -implicitDefEqProofs [hg1, e1, e2, hr64, g3, hr2]; try simp (disch := omega) only [w64, wu64]) | (refine need.of (by first | omega | kernel_rfl) ?_) | (refine AW.fin ?_; try simp -implicitDefEqProofs [hg1, e1, e2, hr64, g3, hr2]))
  refine AW.cond rfl (fun h => ?_) (fun h => ?_)
  ·repeat (first | refine AW.seq ?_ | refine AW.block ?_ | (refine AW.reg mix ?_; simp -implicitDefEqProofs [hg2, e4, e5, e6, e8, hs64]; try simp (disch := omega) only [w64, wu64]) | (refine need.of (by first | omega | kernel_rfl) ?_) | (refine AW.fin ?_; try simp -implicitDefEqProofs [hg2, e4, e5, e6, e8, hs64]))
   (try (simp -implicitDefEqProofs [hg2, e4, e5, e6, e8, hs64]; try simp (disch := omega) only [w64, wu64]))
   repeat (first | refine AW.seq ?_ | refine AW.block ?_ | (refine AW.reg mix ?_; simp -implicitDefEqProofs [hg2, e4, e5, e6, e8, hs64]; try simp (disch := omega) only [w64, wu64]) | (refine need.of (by first | omega | kernel_rfl) ?_) | (refine AW.fin ?_; try simp -implicitDefEqProofs [hg2, e4, e5, e6, e8, hs64]))
   refine CallS.pu (hma) (R1 e7 ?_); try with_reducible exact tt
  ·simp [hr2] at h
end
end Go.Proofs.YtdklbnemfelpnaaGreatDoor.Am
namespace Go.Proofs.YtdklbnemfelpnaaGreatDoor.Am
section
open Go.RowKit
set_option maxHeartbeats 1000000 in
theorem o_qw (w : Nat) (xs : List Nat) (i v : Nat) (hi : i < xs.length) (hn : xs.length ≤ 256) (hw0 : 0 < w) (hw : w ≤ 32) (hv : v < 2 ^ w) : Eqn Tryz.prog o_e0 [.p 0 0, .d (.int .i64 i), .d (.int .u64 v)] [vecO 1 xs.length w, vecB w xs] (.d (.int .i64 0)) [vecO 1 xs.length w, vecB w (xs.set i v)] := by
 refine Eqn.gen [0, 1] o_e2 (by simp) (by simp) (by rfl) (by decide) (by simp) (by simp [vecO, vecB]) ?_
 have hpl := o_qr w xs i hi hn hw
 have hma := fun N L n => o_qs w N L n hw
 have g1 : ¬ (i : Int) < 0 := by omega
 have g2 : ¬ (xs.length : Int) ≤ i := by omega
 have e := Nat.div_add_mod (i * w) 64
 have hm64 : i * w % 64 < 64 := Nat.mod_lt _ (by omega)
 have hle : i * w + w ≤ xs.length * w := by rw [← Nat.succ_mul]; exact Nat.mul_le_mul_right w hi
 have hq : i * w / 64 < (wordsP w xs).length := by rw [o_q2]; unfold nwP; omega
 have hq2 : 64 < i * w % 64 + w → i * w / 64 + 1 < (wordsP w xs).length := by intro h; rw [o_q2]; unfold nwP; omega
 have hx1 := o_q4 (w := w) (xs := xs) (i * w / 64)
 have hx2 := o_q4 (w := w) (xs := xs) (i * w / 64 + 1)
 have hp1 := pset1 (xs := xs) (i := i) hw hw0 hi hv
 have hp2 := pset2 (xs := xs) (i := i) hw hi hv
 have hqb : i * w / 64 ≤ 1000 := by have : i * w ≤ 256 * 32 := Nat.mul_le_mul (by omega) hw; omega
 have hg1 := o_qk hq
 have hg2 := fun h => o_qk (hq2 h)
 have hs1 := o_ql (wordsP w xs) (i * w / 64) (setW1 w ((wordsP w xs).getD (i * w / 64) 0) v (i * w % 64))
 have hs2 := o_ql ((wordsP w xs).set (i * w / 64) (setW1 w ((wordsP w xs).getD (i * w / 64) 0) v (i * w % 64))) (i * w / 64 + 1) (setW2 w ((wordsP w xs).getD (i * w / 64 + 1) 0) v (64 - i * w % 64))
 have hg3 : 64 < i * w % 64 + w → ((u64s (wordsP w xs)).set (i * w / 64) (V.d (.int .u64 (setW1 w ((wordsP w xs).getD (i * w / 64) 0) v (i * w % 64) : Nat))))[i * w / 64 + 1]? = some (.d (.int .u64 ((wordsP w xs).getD (i * w / 64 + 1) 0 : Nat))) := by
  intro h
  rw [List.getElem?_set, if_neg (by omega)]
  exact hg2 h
 have h32 : 2 ^ w ≤ 2 ^ 32 := Nat.pow_le_pow_right (by omega) hw
 have hlen := o_qj (wordsP w xs)
 have hnle : ¬ ((2 ^ w - 1 : Nat) : Int) < v := by omega
 have hnle' : ¬ (2 ^ w - 1 < v) := by omega
 have hlx : (xs.set i v).length = xs.length := List.length_set
 rw [o_q2] at hlen hq hq2
 -- the first word
 have w1 : IntKind.u64.wrap (((2 ^ w - 1 : Nat) : Int) * 2 ^ (i * w % 64)) = (((2 ^ w - 1) * 2 ^ (i * w % 64) % 2 ^ 64 : Nat) : Int) := by
  rw [IntKind.wrap_u64, Int.natCast_emod, Int.natCast_mul, Int.natCast_pow]; rfl
 have w2 : IntKind.u64.wrap ((v : Int) * 2 ^ (i * w % 64)) = ((v * 2 ^ (i * w % 64) % 2 ^ 64 : Nat) : Int) := by
  rw [IntKind.wrap_u64, Int.natCast_emod, Int.natCast_mul, Int.natCast_pow]; rfl
 have lt1 : (2 ^ w - 1) * 2 ^ (i * w % 64) % 2 ^ 64 < 2 ^ 64 := Nat.mod_lt _ (by omega)
 have lt2 : v * 2 ^ (i * w % 64) % 2 ^ 64 < 2 ^ 64 := Nat.mod_lt _ (by omega)
 have w3 := o_qp ((wordsP w xs).getD (i * w / 64) 0) ((2 ^ w - 1) * 2 ^ (i * w % 64) % 2 ^ 64) hx1 lt1
 have w4 := o_p6 (andN ((wordsP w xs).getD (i * w / 64) 0) ((2 ^ w - 1) * 2 ^ (i * w % 64) % 2 ^ 64)) (v * 2 ^ (i * w % 64) % 2 ^ 64) (o_qe hx1) lt2
 have w5 : andN ((wordsP w xs).getD (i * w / 64) 0) ((2 ^ w - 1) * 2 ^ (i * w % 64) % 2 ^ 64) ||| v * 2 ^ (i * w % 64) % 2 ^ 64 = setW1 w ((wordsP w xs).getD (i * w / 64) 0) v (i * w % 64) := rfl
 rw [w5] at w4
 clear w5
 -- the second one
 have w6 : (((2 ^ w - 1 : Nat) : Int)) / 2 ^ (64 - i * w % 64) = (((2 ^ w - 1) / 2 ^ (64 - i * w % 64) : Nat) : Int) := by rw [Int.natCast_ediv, Int.natCast_pow]; rfl
 have w7 : (v : Int) / 2 ^ (64 - i * w % 64) = ((v / 2 ^ (64 - i * w % 64) : Nat) : Int) := by rw [Int.natCast_ediv, Int.natCast_pow]; rfl
 have lt3 : (2 ^ w - 1) / 2 ^ (64 - i * w % 64) < 2 ^ 64 := Nat.lt_of_le_of_lt (Nat.div_le_self _ _) (by omega)
 have lt4 : v / 2 ^ (64 - i * w % 64) < 2 ^ 64 := Nat.lt_of_le_of_lt (Nat.div_le_self _ _) (by omega)
 have w8 := o_qp ((wordsP w xs).getD (i * w / 64 + 1) 0) ((2 ^ w - 1) / 2 ^ (64 - i * w % 64)) hx2 lt3
 have w9 := o_p6 (andN ((wordsP w xs).getD (i * w / 64 + 1) 0) ((2 ^ w - 1) / 2 ^ (64 - i * w % 64))) (v / 2 ^ (64 - i * w % 64)) (o_qe hx2) lt4
 have w10 : andN ((wordsP w xs).getD (i * w / 64 + 1) 0) ((2 ^ w - 1) / 2 ^ (64 - i * w % 64)) ||| v / 2 ^ (64 - i * w % 64) = setW2 w ((wordsP w xs).getD (i * w / 64 + 1) 0) v (64 - i * w % 64) := rfl
 rw [w10] at w9
 clear w10 lt1 lt2 lt3 lt4
 simp only [o_e1, vecO, vecB, hlx]
 have hL0 : u64s (wordsP w xs) = ((wordsP w xs).map fun x : Nat => D.int .u64 x).map V.d := by simp [u64s]
 have htk : ((wordsP w xs).map fun x : Nat => D.int .u64 x).take (nwP xs.length w) = (wordsP w xs).map fun x : Nat => D.int .u64 x := List.take_of_length_le (by simp)
 simp only [vecD] at hpl
 generalize hL : ((wordsP w xs).map fun x : Nat => D.int .u64 x) = L0 at *
 generalize hW : wordsP w (xs.set i v) = W2 at *
 generalize andN ((wordsP w xs).getD (i * w / 64) 0) ((2 ^ w - 1) * 2 ^ (i * w % 64) % 2 ^ 64) = A1 at *
 generalize andN ((wordsP w xs).getD (i * w / 64 + 1) 0) ((2 ^ w - 1) / 2 ^ (64 - i * w % 64)) = A2 at *
 generalize setW1 w ((wordsP w xs).getD (i * w / 64) 0) v (i * w % 64) = Y1 at *
 generalize setW2 w ((wordsP w xs).getD (i * w / 64 + 1) 0) v (64 - i * w % 64) = Y2 at *
 generalize (wordsP w xs).getD (i * w / 64) 0 = x1 at *
 generalize (wordsP w xs).getD (i * w / 64 + 1) 0 = x2 at *
 generalize (2 ^ w - 1) * 2 ^ (i * w % 64) % 2 ^ 64 = M1 at *
 generalize v * 2 ^ (i * w % 64) % 2 ^ 64 = v1 at *
 generalize (2 ^ w - 1) / 2 ^ (64 - i * w % 64) = M2 at *
 generalize v / 2 ^ (64 - i * w % 64) = v2 at *
 generalize 2 ^ w - 1 = M at *
 have hs64 : 64 - i * w % 64 ≤ 64 := by omega
 have e4 : IntKind.i64.wrap (64 - ((i * w % 64 : Nat) : Int)) = ((64 - i * w % 64 : Nat) : Int) := by rw [w64 (by omega) (by omega)]; omega
 have e8 : IntKind.i64.wrap (((i * w / 64 : Nat) : Int) + 1) = ((i * w / 64 + 1 : Nat) : Int) := by rw [w64 (by omega) (by omega)]; omega
 have e2 : IntKind.i64.wrap (((i * w % 64 : Nat) : Int) + w) = ((i * w % 64 + w : Nat) : Int) := by rw [w64 (by omega) (by omega)]; omega
 generalize 64 - i * w % 64 = s at *
 generalize i * w / 64 + 1 = q1 at *
 generalize i * w / 64 = q at *
 generalize i * w % 64 + w = rw_ at *
 generalize i * w % 64 = r at *
 generalize wordsP w xs = WS at *
 generalize nwP xs.length w = NW at *
 have hr64 : (r : Int) ≤ 64 := by omega
 have hs64' : (s : Int) ≤ 64 := by omega
 refine G1 (fs g1 g2) ?_; try with_reducible exact tt
 refine AW.cond rfl (fun h => ?_) (fun h => ?_)
 ·simp [g1, g2] at h
 refine G0 ?_; try with_reducible exact tt
 refine CallS.ro [(1, 1, L0), (0, 1, [.sl NW L0, .int .i64 xs.length, .int .i64 w])] (hma NW L0 xs.length) (R1 (fs hnle hnle') ?_) (hok := by first | (simp [frzOK, frzH, hL0, htk]; done) | (simp [frzOK, frzH, hL0, htk]; rfl)); try with_reducible exact tt
 refine AW.cond rfl (fun h => ?_) (fun h => ?_)
 ·simp [hnle'] at h
 refine G0 ?_; try with_reducible exact tt
 refine CallS.ro [(1, 1, L0), (0, 1, _)] (hpl) (R0 ?_) (hok := by first | (simp [frzOK, frzH, hL0, htk]; done) | (simp [frzOK, frzH, hL0, htk]; rfl)); try with_reducible exact tt
 refine CallS.ro [(1, 1, L0), (0, 1, [.sl NW L0, .int .i64 xs.length, .int .i64 w])] (hma NW L0 xs.length) (R0 ?_) (hok := by first | (simp [frzOK, frzH, hL0, htk]; done) | (simp [frzOK, frzH, hL0, htk]; rfl)); try with_reducible exact tt
 repeat (first | refine AW.seq ?_ | refine AW.block ?_ | (refine AW.reg mix ?_; simp -implicitDefEqProofs [hg1, w1, w2, w3, w4, hr64, e2]; try simp (disch := omega) only [w64, wu64]) | (refine need.of (by first | omega | kernel_rfl) ?_) | (refine AW.fin ?_; try simp -implicitDefEqProofs [hg1, w1, w2, w3, w4, hr64, e2]))
 (try (simp -implicitDefEqProofs [hg1, w1, w2, w3, w4, hr64, e2]; try simp (disch := omega) only [w64, wu64]))
 repeat (first | refine AW.seq ?_ | refine AW.block ?_ | (refine AW.reg mix ?_; simp -implicitDefEqProofs [hg1, w1, w2, w3, w4, hr64, e2]; try simp (disch := omega) only [w64, wu64]) | (refine need.of (by first | omega | kernel_rfl) ?_) | (refine AW.fin ?_; try simp -implicitDefEqProofs [hg1, w1, w2, w3, w4, hr64, e2]))
 by_cases hrw : rw_ ≤ 64
 ·replace hp1 := hp1 hrw
  have g3 : ¬ 64 < rw_ := by omega
  have g3' : ¬ (64 : Int) < rw_ := by omega
  refine AW.cond rfl (fun h => ?_) (fun h => ?_)
  ·exfalso; simp at h; omega
  refine G0 ?_; try with_reducible exact tt
  exact Subs.of (by rw [o_ql, hp1])
 ·have g3 : 64 < rw_ := by omega
  replace hp2 := hp2 g3
  replace hg3 := hg3 g3
  replace hq2 := hq2 g3
  obtain ⟨L1, hL1, hL1l⟩ : ∃ L1 : List D, (u64s WS).set q (V.d (.int .u64 Y1)) = L1.map V.d ∧ L1.length = NW := ⟨(WS.set q Y1).map fun x : Nat => D.int .u64 x, by rw [o_ql]; simp [u64s, Function.comp_def], by simp; have := o_qj WS; omega⟩
  have htk1 : L1.take NW = L1 := List.take_of_length_le (by omega)
  have hR : ((u64s WS).set q (V.d (.int .u64 Y1))).length = NW := by simp [hlen]
  refine AW.cond rfl (fun h => ?_) (fun h => ?_)
  ·refine G1 (fs e4 e8) ?_; try with_reducible exact tt
   refine CallS.ro [(1, 1, L1), (0, 1, [.sl NW L1, .int .i64 xs.length, .int .i64 w])] (hma NW L1 xs.length) (R0 ?_) (hok := by first | (simp [frzOK, frzH, hL1, htk1]; done) | (simp [frzOK, frzH, hL1, htk1]; rfl)); try with_reducible exact tt
   repeat (first | refine AW.seq ?_ | refine AW.block ?_ | (refine AW.reg mix ?_; simp -implicitDefEqProofs [hg3, w6, w7, w8, w9, hs64']; try simp (disch := omega) only [w64, wu64]) | (refine need.of (by first | omega | kernel_rfl) ?_) | (refine AW.fin ?_; try simp -implicitDefEqProofs [hg3, w6, w7, w8, w9, hs64']))
   (try (simp -implicitDefEqProofs [hg3, w6, w7, w8, w9, hs64']; try simp (disch := omega) only [w64, wu64]))
   repeat (first | refine AW.seq ?_ | refine AW.block ?_ | (refine AW.reg mix ?_; simp -implicitDefEqProofs [hg3, w6, w7, w8, w9, hs64']; try simp (disch := omega) only [w64, wu64]) | (refine need.of (by first | omega | kernel_rfl) ?_) | (refine AW.fin ?_; try simp -implicitDefEqProofs [hg3, w6, w7, w8, w9, hs64']))
   exact Subs.of (by rw [o_ql, o_ql, hp2])
  ·exfalso; simp at h; omega
end
end Go.Proofs.YtdklbnemfelpnaaGreatDoor.Am
namespace Go.Proofs.YtdklbnemfelpnaaGreatDoor.Am
section
open Go.RowKit
theorem o_qx : ∀ (n : Nat) (bs : List Bool), bs.length = n → bitsW (numB bs 0) n = bs
 | 0, bs, h => by rw [List.eq_nil_of_length_eq_zero h]; rfl
 | n + 1, bs, h => by
  rcases List.eq_nil_or_concat bs with rfl | ⟨l, b, rfl⟩
  ·simp at h
  ·simp at h
   rw [List.concat_eq_append, o_nz, show numB [b] (numB l 0) = 2 * numB l 0 + b2n b from rfl, o_o3]
   have hb : (2 * numB l 0 + b2n b) / 2 = numB l 0 := by have := o_ny b; omega
   have hb2 : decide ((2 * numB l 0 + b2n b) % 2 = 1) = b := by cases b <;> simp [b2n] <;> omega
   rw [hb, hb2, o_qx n l h]

def encN (k a b y t : Nat) (f : Bool) : Nat := numB (encR k a b y t f) 0
def wdR (k a b : Nat) : Nat := kwR k a b + twR k b + 1
theorem o_qy (k a b y t : Nat) (f : Bool) : encN k a b y t f < 2 ^ wdR k a b := by have := o_o1 (encR k a b y t f); rw [o_pv] at this; exact this
theorem o_qz (k a b y t : Nat) (f : Bool) : bitsW (encN k a b y t f) (wdR k a b) = encR k a b y t f := o_qx _ _ (o_pv k a b y t f)
theorem o_r0 {k a b : Nat} (h : GoodR k a b) : 0 < wdR k a b ∧ wdR k a b ≤ 16 := by
 have := (o_pp h); have := o_pq h; unfold wdR; omega

theorem o_r1 (bs : List Bool) (a n : Nat) (h : a + n ≤ bs.length) : ((bitsOf (bytesOf bs)).drop a).take n = (bs.drop a).take n := by
 have e := o_oi bs
 conv => rhs; rw [← e]
 rw [List.drop_take, List.take_take, Nat.min_eq_left (by omega)]
theorem o_r2 {k a b y t : Nat} {f : Bool} (hg : GoodR k a b) (h : WellR k a b y t f) : readR (bytesOf (encR k a b y t f)) k a b 0 = ((y, t, f), 0, wdR k a b) := by
 have hl := o_pv k a b y t f
 have hf := o_pr hg h
 have h1 : numAt (bytesOf (encR k a b y t f)) 0 (kwR k a b) = y := by
  unfold numAt
  rw [o_r1 _ _ _ (by omega), List.drop_zero]
  unfold encR
  rw [List.append_assoc, List.take_append_of_le_length (by simp), List.take_of_length_le (by simp), o_o4, Nat.mod_eq_of_lt hf.1]
 have h2 : numAt (bytesOf (encR k a b y t f)) (0 + kwR k a b) (twR k b) = t := by
  unfold numAt
  rw [o_r1 _ _ _ (by omega), Nat.zero_add]
  unfold encR
  rw [List.append_assoc, List.drop_append_of_le_length (by simp), List.drop_of_length_le (by simp), List.nil_append, List.take_append_of_le_length (by simp), List.take_of_length_le (by simp), o_o4, Nat.mod_eq_of_lt hf.2]
 have h3 : (bitsOf (bytesOf (encR k a b y t f))).getD (0 + kwR k a b + twR k b) false = f := by
  have e := o_r1 (encR k a b y t f) (kwR k a b + twR k b) 1 (by omega)
  have : ((encR k a b y t f).drop (kwR k a b + twR k b)).take 1 = [f] := by
   unfold encR
   rw [List.drop_append_of_le_length (by simp), List.drop_of_length_le (by simp)]; rfl
  rw [this] at e
  rw [Nat.zero_add, List.getD_eq_getElem?_getD]
  have e2 := congrArg (fun l => l[0]?) e
  simp only [List.getElem?_take, List.getElem?_drop] at e2
  simp at e2
  rw [e2]; rfl
 unfold readR
 rw [h1, h2, h3, if_neg (by rw [o_o7, hl]; omega), if_pos (o_pl.2 h)]
 simp [wdR]

abbrev ST := Nat × Nat × Bool
def encs (k a b : Nat) (l : List ST) : List Nat := l.map fun s => encN k a b s.1 s.2.1 s.2.2
def wells (k a b : Nat) (l : List ST) : Prop := ∀ s ∈ l, WellR k a b s.1 s.2.1 s.2.2
@[simp] theorem o_r3 (k a b : Nat) (l : List ST) : (encs k a b l).length = l.length := by simp [encs]
theorem o_r4 (k a b : Nat) (l : List ST) : smallP (wdR k a b) (encs k a b l) := by
 intro x hx
 obtain ⟨s, -, rfl⟩ := List.mem_map.1 hx
 exact o_qy _ _ _ _ _ _
theorem o_r5 {k a b : Nat} {l : List ST} {i : Nat} (h : i < l.length) : (encs k a b l).getD i 0 = encN k a b (l.getD i (0, 0, false)).1 (l.getD i (0, 0, false)).2.1 (l.getD i (0, 0, false)).2.2 := by simp [encs, h]
theorem o_r6 (k a b : Nat) (l : List ST) (i : Nat) (s : ST) : (encs k a b l).set i (encN k a b s.1 s.2.1 s.2.2) = encs k a b (l.set i s) := by simp [encs, List.map_set]
theorem o_r7 {k a b : Nat} {l : List ST} (h : wells k a b l) {i : Nat} (hi : i < l.length) : WellR k a b (l.getD i (0, 0, false)).1 (l.getD i (0, 0, false)).2.1 (l.getD i (0, 0, false)).2.2 := by
 rw [List.getD_eq_getElem?_getD, List.getElem?_eq_getElem hi]; exact h _ (List.getElem_mem hi)
def arrO (v : Nat) (k a b : Nat) : Ob := ⟨154, [.p v 0, .d (.int .i64 k), .d (.int .i64 a), .d (.int .i64 b)]⟩
def arrV (m : Nat) (k a b : Nat) (l : List ST) : Ob := vecO m l.length (wdR k a b)
def arrB (k a b : Nat) (l : List ST) : Ob := vecB (wdR k a b) (encs k a b l)

theorem o_r8 (bs : List Bool) : smallB (bytesOf bs) := by
 intro x hx
 obtain ⟨i, -, rfl⟩ := List.mem_map.1 hx
 exact o_o6 _ _

set_option maxHeartbeats 1000000 in
theorem o_r9 {k a b : Nat} (l : List ST) (i : Nat) (h : GoodR k a b) (hw : wells k a b l) (hi : i < l.length) (hn : l.length ≤ 256) :
  Eqn Tryz.prog o_al [.p 0 0, .d (.int .i64 i)] [arrO 1 k a b, arrV 2 k a b l, arrB k a b l] (.tup [.d (tsD (l.getD i (0, 0, false)).1 (l.getD i (0, 0, false)).2.1 (l.getD i (0, 0, false)).2.2), .d (.int .i64 0)]) [arrO 1 k a b, arrV 2 k a b l, arrB k a b l] := by
 refine Eqn.gen [0, 1, 2] o_an (by simp) (by simp) (by rfl) (by decide) (by simp [tsD]) (by simp [arrO, arrV, arrB, vecO, vecB]) ?_
 obtain ⟨w0, w16⟩ := o_r0 h
 have hg := o_qv (wdR k a b) (encs k a b l) i (by simpa using hi) (by simpa using hn) w0 (by omega) (o_r4 k a b l)
 have hwd := o_qu (wdR k a b) (encs k a b l)
 rw [o_r5 hi] at hg
 have hwi := o_r7 hw hi
 generalize l.getD i (0, 0, false) = s at *
 obtain ⟨y, t, f⟩ := s
 simp only at hg hwi ⊢
 have hlt := o_qy k a b y t f
 have h16 : 2 ^ wdR k a b ≤ 2 ^ 16 := Nat.pow_le_pow_right (by omega) w16
 have h3 := o_oz (encN k a b y t f) (wdR k a b) w0 (by omega) hlt (by omega)
 rw [o_qz] at h3
 have hne : encR k a b y t f ≠ [] := by simp [encR]
 have hel := o_pv k a b y t f
 have h4 := o_ou (encR k a b y t f) hne (by rw [hel]; unfold wdR at w16; omega)
 have h5 := o_p2 (bytesOf (encR k a b y t f)) (by rw [o_o7, hel]; unfold wdR at w16; omega)
 have h6 := o_py (bytesOf (encR k a b y t f)) (k := k) (a := a) (b := b) 0 h (o_r8 _) (by rw [o_o7, hel]; unfold wdR at w16; omega) (Nat.zero_le _) _ rfl
 rw [o_r2 h hwi] at h6
 have hwlen : ((wordsP (wdR k a b) (encs k a b l)).map fun x : Nat => D.int .u64 x).length = nwP l.length (wdR k a b) := by simp
 have htk : ((wordsP (wdR k a b) (encs k a b l)).map fun x : Nat => D.int .u64 x).take (nwP l.length (wdR k a b)) = (wordsP (wdR k a b) (encs k a b l)).map fun x : Nat => D.int .u64 x := List.take_of_length_le (by simp)
 have hL0 : u64s (wordsP (wdR k a b) (encs k a b l)) = ((wordsP (wdR k a b) (encs k a b l)).map fun x : Nat => D.int .u64 x).map V.d := by simp [u64s]
 have hB0 : u8s (bytesOf (encR k a b y t f)) = ((bytesOf (encR k a b y t f)).map fun x : Nat => D.int .u8 x).map V.d := by simp [u8s]
 have hBt : ((bytesOf (encR k a b y t f)).map fun x : Nat => D.int .u8 x).take (bytesOf (encR k a b y t f)).length = (bytesOf (encR k a b y t f)).map fun x : Nat => D.int .u8 x := List.take_of_length_le (by simp)
 have hBl : (bytesOf (encR k a b y t f)).length = ((encR k a b y t f).length + 7) / 8 := by simp
 simp only [o_am, arrO, arrV, arrB, vecO, vecB, vecD, o_r3, tsD, parD, rdO, BY, wrO, wrB] at hg hwd h3 h4 h5 h6 ⊢
 generalize encs k a b l = es at *
 generalize wordsP (wdR k a b) es = WS at *
 generalize encR k a b y t f = bs at *
 generalize bytesOf bs = bytes at *
 rw [← hBl] at h3 h4
 generalize hLL : (WS.map fun x : Nat => D.int .u64 x) = L0 at *
 generalize hBB : (bytes.map fun x : Nat => D.int .u8 x) = LB at *
 generalize encN k a b y t f = N at *
 generalize wdR k a b = w at *
 generalize nwP l.length w = NW at *
 refine G0 ?_; try with_reducible exact tt
 refine CallS.ro [(2, 1, L0), (1, 1, [.sl NW L0, .int .i64 l.length, .int .i64 w])] (hg) (R0 ?_) (hok := by first | (simp [frzOK, frzH, hL0, htk]; done) | (simp [frzOK, frzH, hL0, htk]; rfl)); try with_reducible exact tt
 refine AW.cond rfl (fun h => ?_) (fun h => ?_)
 ·simp at h
 refine G0 ?_; try with_reducible exact tt
 refine CallS.ro [(2, 1, L0), (1, 1, [.sl NW L0, .int .i64 l.length, .int .i64 w])] (hwd) (R0 ?_) (hok := by first | (simp [frzOK, frzH, hL0, htk]; done) | (simp [frzOK, frzH, hL0, htk]; rfl)); try with_reducible exact tt
 refine CallS.g [4] (h3) (R0 ?_); try with_reducible exact tt
 refine CallS.g [4, 5] (h4) (R0 ?_); try with_reducible exact tt
 rw [hB0]
 have h5' : Eqn Tryz.prog o_63 [.d (.sl bytes.length (List.take (bytes.length * 1) LB))] [] (.p 0 0) [⟨164, [.d (.sl bytes.length LB), .d (.int .i64 0)]⟩] := by rw [Nat.mul_one, hBt]; simpa using h5
 refine CallS.gf 6 1 ⟨5, LB.map V.d⟩ LB [] (h5') (R0 ?_); try with_reducible exact tt
 simp at h6
 refine CallS.g [7] (h6) (R0 ?_); try with_reducible exact tt
end
end Go.Proofs.YtdklbnemfelpnaaGreatDoor.Am
namespace Go.Proofs.YtdklbnemfelpnaaGreatDoor.Am
section
open Go.RowKit
theorem zeroS {k a b : Nat} (h : GoodR k a b) : WellR k a b 0 0 false := by
 rcases h with ⟨rfl, h⟩ | ⟨hk, h⟩
 ·exact .inl ⟨rfl, Nat.zero_le _, Nat.zero_le _, by simp⟩
 ·exact .inr ⟨hk, rfl, Nat.zero_le _, by simp⟩
theorem o_ra (k a b : Nat) : encN k a b 0 0 false = 0 := by
 have h : ∀ w, bitsW 0 w = List.replicate w false := by
  intro w
  apply List.ext_getElem?
  intro i
  simp only [bitsW, List.getElem?_map, List.getElem?_replicate]
  by_cases h : i < w
  ·rw [List.getElem?_range h, if_pos h]; simp
  ·rw [List.getElem?_eq_none (by simp; omega), if_neg h]; rfl
 have hz : ∀ w n, numB (List.replicate w false) n = n * 2 ^ w := by
  intro w
  induction w with
  | zero => intro n; simp [numB]
  | succ w ih => intro n; rw [List.replicate_succ, numB, ih, Nat.pow_succ]; simp [b2n]; rw [Nat.mul_comm 2 n, Nat.mul_assoc, Nat.mul_comm 2]
 unfold encN encR
 rw [h, h, show [false] = List.replicate 1 false from rfl, o_nz, o_nz, hz, hz, hz]
 simp

set_option maxHeartbeats 1000000 in
theorem o_rb {k a b : Nat} (l : List ST) (i : Nat) (y t : Nat) (f : Bool) (h : GoodR k a b) (hw : wells k a b l) (hi : i < l.length) (hn : l.length ≤ 256) (hs : WellR k a b y t f) :
  Eqn Tryz.prog o_bl [.p 0 0, .d (.int .i64 i), .d (tsD y t f)] [arrO 1 k a b, arrV 2 k a b l, arrB k a b l] (.d (.int .i64 0)) [arrO 1 k a b, arrV 2 k a b l, arrB k a b (l.set i (y, t, f))] := by
 refine Eqn.gen [0, 1, 2] o_bn (by simp) (by simp) (by rfl) (by decide) (by simp) (by simp [arrO, arrV, arrB, vecO, vecB]) ?_
 obtain ⟨w0, w16⟩ := o_r0 h
 have hg := o_qv (wdR k a b) (encs k a b l) i (by simpa using hi) (by simpa using hn) w0 (by omega) (o_r4 k a b l)
 generalize (encs k a b l).getD i 0 = was at hg
 have hwd := o_qu (wdR k a b) (encs k a b l)
 have hlt := o_qy k a b y t f
 have hps := o_qw (wdR k a b) (encs k a b l) i (encN k a b y t f) (by simpa using hi) (by simpa using hn) w0 (by omega) hlt
 have hset := o_r6 k a b l i (y, t, f)
 simp only at hset
 rw [hset] at hps
 have h16 : 2 ^ wdR k a b ≤ 2 ^ 16 := Nat.pow_le_pow_right (by omega) w16
 have h3 := o_pw h hs
 have hne : encR k a b y t f ≠ [] := by simp [encR]
 have hel := o_pv k a b y t f
 have h4 := o_ou (encR k a b y t f) hne (by rw [hel]; unfold wdR at w16; omega)
 have h5 := o_p2 (bytesOf (encR k a b y t f)) (by rw [o_o7, hel]; unfold wdR at w16; omega)
 have h6 := o_pc (bytesOf (encR k a b y t f)) 0 (wdR k a b) (o_r8 _) (by omega) (by rw [o_o7, hel]; unfold wdR at w16; omega) (by rw [o_o7, hel]; unfold wdR; omega)
 have h7 : numAt (bytesOf (encR k a b y t f)) 0 (wdR k a b) = encN k a b y t f := by
  unfold numAt encN
  rw [o_r1 _ _ _ (by rw [hel]; unfold wdR; omega), List.drop_zero, List.take_of_length_le (by rw [hel]; unfold wdR; omega)]
 rw [h7] at h6
 have htk : ((wordsP (wdR k a b) (encs k a b l)).map fun x : Nat => D.int .u64 x).take (nwP l.length (wdR k a b)) = (wordsP (wdR k a b) (encs k a b l)).map fun x : Nat => D.int .u64 x := List.take_of_length_le (by simp)
 have hL0 : u64s (wordsP (wdR k a b) (encs k a b l)) = ((wordsP (wdR k a b) (encs k a b l)).map fun x : Nat => D.int .u64 x).map V.d := by simp [u64s]
 have hB0 : u8s (bytesOf (encR k a b y t f)) = ((bytesOf (encR k a b y t f)).map fun x : Nat => D.int .u8 x).map V.d := by simp [u8s]
 have hBt : ((bytesOf (encR k a b y t f)).map fun x : Nat => D.int .u8 x).take (bytesOf (encR k a b y t f)).length = (bytesOf (encR k a b y t f)).map fun x : Nat => D.int .u8 x := List.take_of_length_le (by simp)
 have hBl : (bytesOf (encR k a b y t f)).length = ((encR k a b y t f).length + 7) / 8 := by simp
 simp only [o_bm, arrO, arrV, arrB, vecO, vecB, vecD, o_r3, List.length_set, tsD, parD, rdO, BY, wrO, wrB] at hg hwd hps h3 h4 h5 h6 ⊢
 generalize encs k a b (l.set i (y, t, f)) = es' at *
 generalize hWS' : wordsP (wdR k a b) es' = WS' at *
 generalize encs k a b l = es at *
 generalize hWS : wordsP (wdR k a b) es = WS at *
 generalize encR k a b y t f = bs at *
 generalize bytesOf bs = bytes at *
 rw [← hBl] at h3 h4
 generalize hLL : (WS.map fun x : Nat => D.int .u64 x) = L0 at *
 generalize hBB : (bytes.map fun x : Nat => D.int .u8 x) = LB at *
 generalize encN k a b y t f = N at *
 generalize wdR k a b = w at *
 generalize nwP l.length w = NW at *
 have h5' : Eqn Tryz.prog o_63 [.d (.sl bytes.length (List.take (bytes.length * 1) LB))] [] (.p 0 0) [⟨164, [.d (.sl bytes.length LB), .d (.int .i64 0)]⟩] := by rw [Nat.mul_one, hBt]; simpa using h5
 simp at h6
 refine G0 ?_; try with_reducible exact tt
 refine CallS.ro [(2, 1, L0), (1, 1, [.sl NW L0, .int .i64 l.length, .int .i64 w])] (hg) (R0 ?_) (hok := by first | (simp [frzOK, frzH, hL0, htk]; done) | (simp [frzOK, frzH, hL0, htk]; rfl)); try with_reducible exact tt
 refine AW.cond rfl (fun h => ?_) (fun h => ?_)
 ·simp at h
 refine G0 ?_; try with_reducible exact tt
 refine CallS.g [4] (h3) (R0 ?_); try with_reducible exact tt
 refine AW.cond rfl (fun h => ?_) (fun h => ?_)
 ·simp at h
 refine G0 ?_; try with_reducible exact tt
 refine CallS.g [4, 5] (h4) (R0 ?_); try with_reducible exact tt
 rw [hB0]
 refine CallS.gf 6 1 ⟨5, LB.map V.d⟩ LB [] (h5') (R0 ?_); try with_reducible exact tt
 refine CallS.ro [(2, 1, L0), (1, 1, [.sl NW L0, .int .i64 l.length, .int .i64 w])] (hwd) (R0 ?_) (hok := by first | (simp [frzOK, frzH, hL0, htk]; done) | (simp [frzOK, frzH, hL0, htk]; rfl)); try with_reducible exact tt
 refine CallS.g [7] (h6) (R0 ?_); try with_reducible exact tt
 refine CallS.g [1, 2] (hps) (R0 ?_); try with_reducible exact tt
end
end Go.Proofs.YtdklbnemfelpnaaGreatDoor.Am
namespace Go.Proofs.YtdklbnemfelpnaaGreatDoor.Am
section
open Go.RowKit
theorem o_rc {k a b : Nat} (h : GoodR k a b) (n : Nat) : wells k a b (List.replicate n (0, 0, false)) := by
 intro s hs
 rw [List.eq_of_mem_replicate hs]; exact zeroS h
theorem o_rd {k a b : Nat} {l : List ST} (h : wells k a b l) (i : Nat) {s : ST} (hs : WellR k a b s.1 s.2.1 s.2.2) : wells k a b (l.set i s) := by
 intro x hx
 rcases List.mem_or_eq_of_mem_set hx with hx | rfl
 ·exact h x hx
 ·exact hs

theorem o_re {k a b : Nat} (n : Nat) (h : GoodR k a b) (h1 : 1 ≤ n) (hn : n ≤ 256) :
  Eqn Tryz.prog o_a9 [.d (parD k a b), .d (.int .i64 n)] [] (.tup [.p 0 0, .d (.int .i64 0)]) [arrO 1 k a b, arrV 2 k a b (List.replicate n (0, 0, false)), arrB k a b (List.replicate n (0, 0, false))] := by
 refine Eqn.gen [3, 1, 2] o_ab (by simp) (by simp) (by rfl) (by decide) (by simp) (by simp [arrO, arrV, arrB, vecO, vecB]) ?_
 obtain ⟨w0, w16⟩ := o_r0 h
 have hc := o_pk h
 have hb := o_pu h
 have hp := o_qq n (wdR k a b) hn w0 (by omega)
 have he : encs k a b (List.replicate n (0, 0, false)) = List.replicate n 0 := by simp [encs, o_ra]
 have g1 : ¬ (n : Int) < 1 := by omega
 have g2 : ¬ (256 : Int) < n := by omega
 rw [show kwR k a b + twR k b + 1 = wdR k a b from rfl] at hb
 simp only [o_aa, arrO, arrV, arrB, vecO, vecB, parD, he, List.length_replicate] at hc hb hp ⊢
 generalize wdR k a b = w at *
 generalize wordsP w (List.replicate n 0) = WS at *
 generalize nwP n w = NW at *
 refine G0 ?_; try with_reducible exact tt
 refine CallS.pu (hc) (R1 (fs g1 g2) ?_); try with_reducible exact tt
 refine AW.cond rfl (fun h => ?_) (fun h => ?_)
 ·simp at h
 refine G0 ?_; try with_reducible exact tt
 refine CallS.pu (hb) (R0 ?_); try with_reducible exact tt
 refine CallS.g [] (hp) (R0 ?_); try with_reducible exact tt
 refine AW.cond rfl (fun h => ?_) (fun h => ?_)
 ·simp at h
 refine G0 ?_; try with_reducible exact tt

theorem o_rf {k a b : Nat} (cs : List Bool) (l : List ST) (i n p : Nat) (m : Int) (hmx : max 0 m = (n : Int)) (d : Bool) (h : GoodR k a b) (hw : wells k a b l) (hi : i < l.length) (hn : l.length ≤ 256) (hnn : m ≤ 1048576) (hp : p ≤ cs.length) (hc : cs.length ≤ 4000000) (R : TR) (hR : R = addRM cs k a b n (l.getD i (0, 0, false)).1 (l.getD i (0, 0, false)).2.1 (l.getD i (0, 0, false)).2.2 p d) :
  Eqn Tryz.prog o_ai [.p 0 0, .p 3 0, .d (.int .i64 i), .d (.int .i64 m)] [arrO 1 k a b, arrV 2 k a b l, arrB k a b l, tapeO cs p d] (.d (.int .i64 R.e)) [arrO 1 k a b, arrV 2 k a b l, arrB k a b (if R.e = 0 then l.set i (R.y, R.t, R.f) else l), tapeO cs R.p R.d] := by
 refine Eqn.gen [0, 1, 2, 3] o_ak (by simp) (by simp) (by rfl) (by decide) (by simp) (by simp [arrO, arrV, arrB, vecO, vecB, tapeO]) ?_
 have hg := o_r9 l i h hw hi hn
 have hwi := o_r7 hw hi
 generalize l.getD i (0, 0, false) = s at *
 obtain ⟨y, t, f⟩ := s
 simp only at hR hg hwi
 have ha := o_po cs k a b y t f n m hmx p d h hwi hnn hp hc R hR
 have hww := o_nx (cs := cs) (n := n) (y := y) (t := t) (f := f) (p := p) (d := d) h hwi hp hc
 rw [← hR] at hww
 clear hR
 obtain ⟨e, ry, rt, rf, rp, rd⟩ := R
 simp only at hww ⊢
 by_cases he : e = 0
 ·subst he
  have hs := o_rb l i ry rt rf h hw hi hn (hww.2 rfl)
  simp only [o_aj, arrO, arrV, arrB, vecO, vecB, parD, tsD, stR, if_true, List.length_set, o_r3] at hg ha hs ⊢
  generalize wordsP (wdR k a b) (encs k a b (l.set i (ry, rt, rf))) = WS' at *
  generalize wordsP (wdR k a b) (encs k a b l) = WS at *
  generalize nwP l.length (wdR k a b) = NW at *
  refine G0B ?_; try with_reducible exact tt
  refine CallS.g [0, 1, 2] (hg) (R0B ?_); try with_reducible exact tt
  refine AW.cond rfl (fun h => ?_) (fun h => ?_)
  ·simp at h
  refine G0B ?_; try with_reducible exact tt
  refine CallS.o1 3 (ha) (R0B ?_); try with_reducible exact tt
  refine AW.cond rfl (fun h => ?_) (fun h => ?_)
  ·simp at h
  refine G0B ?_; try with_reducible exact tt
  refine CallS.g [0, 1, 2] (hs) (R0B ?_); try with_reducible exact tt
 ·simp only [o_aj, arrO, arrV, arrB, vecO, vecB, parD, tsD, stR, if_neg he, o_r3] at hg ha ⊢
  generalize wordsP (wdR k a b) (encs k a b l) = WS at *
  generalize nwP l.length (wdR k a b) = NW at *
  refine G0B ?_; try with_reducible exact tt
  refine CallS.g [0, 1, 2] (hg) (R0B ?_); try with_reducible exact tt
  refine AW.cond rfl (fun h => ?_) (fun h => ?_)
  ·simp at h
  refine G0B ?_; try with_reducible exact tt
  refine CallS.o1 3 (ha) (R0B ?_); try with_reducible exact tt
  refine AW.cond rfl (fun h => ?_) (fun h => ?_)
  ·refine G0B ?_; try with_reducible exact tt
  ·simp [he] at h
theorem o_rg {k a b : Nat} (cs : List Bool) (l : List ST) (i n p : Nat) (d : Bool) (h : GoodR k a b) (hw : wells k a b l) (hi : i < l.length) (hn : l.length ≤ 256) (hnn : n ≤ 1048576) (hp : p ≤ cs.length) (hc : cs.length ≤ 4000000) (R : TR) (hR : R = addRM cs k a b n (l.getD i (0, 0, false)).1 (l.getD i (0, 0, false)).2.1 (l.getD i (0, 0, false)).2.2 p d) :
  Eqn Tryz.prog o_ai [.p 0 0, .p 3 0, .d (.int .i64 i), .d (.int .i64 n)] [arrO 1 k a b, arrV 2 k a b l, arrB k a b l, tapeO cs p d] (.d (.int .i64 R.e)) [arrO 1 k a b, arrV 2 k a b l, arrB k a b (if R.e = 0 then l.set i (R.y, R.t, R.f) else l), tapeO cs R.p R.d] :=
 o_rf cs l i n p n (by omega) d h hw hi hn (by omega) hp hc R hR
end
end Go.Proofs.YtdklbnemfelpnaaGreatDoor.Am
namespace Go.Proofs.YtdklbnemfelpnaaGreatDoor.Am
section
open Go.RowKit
theorem o_rh (ws vs : List Nat) (hn : ws.length ≤ 4000000) (hm : vs.length ≤ 4000000) : Eqn Tryz.prog o_e3 [.d (.sl ws.length (ws.map fun x : Nat => D.int .u64 x)), .d (.sl vs.length (vs.map fun x : Nat => D.int .u64 x))] [] (.d (.bool (decide (ws = vs)))) [] := by
 refine Eqn.pure o_e5 Plain.ok ?_
 simp only [o_e4]
 by_cases hl : ws.length = vs.length
 ·have hlp : (ws.length : Int) = vs.length := by omega
  refine G1 hlp ?_; try with_reducible exact tt
  refine AW.cond rfl (fun h => ?_) (fun h => ?_)
  ·simp [hlp] at h
  refine G1 hlp ?_; try with_reducible exact tt
  refine AW.loopT (α := Nat) 0 (fun s => [(13, .d (.int .i64 (s : Int)))]) (fun s => []) (fun s => s ≤ ws.length ∧ ws.take s = vs.take s) (fun s => ws.length - s) 0 ?_ ?_ ⟨Nat.zero_le _, by simp⟩ ?_ ?_ ?_
  ·simp
  ·simp
  ·simp
  ·simp
  rintro i ⟨hi, he⟩
  simp
  by_cases hi' : i < ws.length
  ·have h1 : (i : Int) < ws.length := by omega
   have h1v : (i : Int) < vs.length := by omega
   have hiv : i < vs.length := by omega
   have ew : IntKind.i64.wrap ((i : Int) + 1) = ((i + 1 : Nat) : Int) := by rw [w64 (by omega) (by omega)]; omega
   refine G1 (fs hi' (fs h1 (fs h1v (fs hiv hlp)))) ?_; try with_reducible exact tt
   refine AW.cond rfl (fun h => ?_) (fun h => ?_)
   ·clear h
    refine G1 (fs hi' (fs h1 (fs h1v (fs hiv hlp)))) ?_; try with_reducible exact tt
    refine AW.cond rfl (fun h => ?_) (fun h => ?_)
    ·refine G0 ?_; try with_reducible exact tt
     refine Sub1.bool ?_
     rw [eq_comm, decide_eq_false_iff_not]
     rintro rfl
     simp at h
    ·have hgg : ws[i] = vs[i] := by simp at h; exact Int.ofNat.inj h
     repeat (first | refine AW.seq ?_ | refine AW.block ?_ | (refine AW.reg mix ?_; simp -implicitDefEqProofs [ew]; try simp (disch := omega) only [w64, wu64]) | (refine need.of (by first | omega | kernel_rfl) ?_) | (refine AW.fin ?_; try simp -implicitDefEqProofs [ew]))
     (try (simp -implicitDefEqProofs [ew]; try simp (disch := omega) only [w64, wu64]))
     repeat (first | refine AW.seq ?_ | refine AW.block ?_ | (refine AW.reg mix ?_; simp -implicitDefEqProofs [ew]; try simp (disch := omega) only [w64, wu64]) | (refine need.of (by first | omega | kernel_rfl) ?_) | (refine AW.fin ?_; try simp -implicitDefEqProofs [ew]))
     refine ⟨i + 1, ⟨by omega, ?_⟩, by omega, by simp⟩
     rw [List.take_add_one, List.take_add_one, he, List.getElem?_eq_getElem hi', List.getElem?_eq_getElem hiv, hgg]
   ·simp [hi', h1, h1v, hiv, hlp] at h
  ·have hi2 : i = ws.length := by omega
   subst hi2
   refine G1 hlp ?_; try with_reducible exact tt
   refine AW.cond rfl (fun h => ?_) (fun h => ?_)
   ·simp [hlp] at h
   refine AW.exit ?_
   (try (simp -implicitDefEqProofs; try simp (disch := omega) only [w64, wu64]))
   refine G1 hlp ?_; try with_reducible exact tt
   refine Sub1.bool ?_
   rw [eq_comm, decide_eq_true_iff]
   rwa [List.take_length, hl, List.take_length] at he
 ·have hlp : ¬ (ws.length : Int) = vs.length := by omega
  refine G1 hlp ?_; try with_reducible exact tt
  refine AW.cond rfl (fun h => ?_) (fun h => ?_)
  ·refine G0 ?_; try with_reducible exact tt
   refine Sub1.bool ?_
   rw [eq_comm, decide_eq_false_iff_not]
   rintro rfl
   exact hl rfl
  ·simp [hlp] at h

theorem o_ri (w v : Nat) (xs ys : List Nat) (h1 : nwP xs.length w ≤ 4000000) (h2 : nwP ys.length v ≤ 4000000) :
  Eqn Tryz.prog o_bo [.ia (vecD w xs) 0, .ia (vecD v ys) 0] [] (.d (.bool (decide (xs.length = ys.length ∧ w = v ∧ wordsP w xs = wordsP v ys)))) [] := by
 refine Eqn.pure o_bq Plain.ok ?_
 have he := o_rh (wordsP w xs) (wordsP v ys) (by simpa using h1) (by simpa using h2)
 simp only [o_q2] at he
 simp only [o_bp, vecD]
 generalize wordsP w xs = ws at *
 generalize wordsP v ys = vs at *
 by_cases hl : xs.length = ys.length
 ·have hlp : (xs.length : Int) = ys.length := by omega
  by_cases hw : w = v
  ·subst hw
   refine G1 hlp ?_; try with_reducible exact tt
   refine CallS.pu (he) (R1 hlp ?_); try with_reducible exact tt
   exact Sub1.bool (by simp [hl])
  ·have hwp : ¬ (w : Int) = v := by omega
   refine G1 (fs hlp (fs hw hwp)) ?_; try with_reducible exact tt
 ·have hlp : ¬ (xs.length : Int) = ys.length := by omega
  refine G1 (fs hlp hl) ?_; try with_reducible exact tt

theorem o_rj {k a b : Nat} {s r : ST} (hg : GoodR k a b) (hs : WellR k a b s.1 s.2.1 s.2.2) (hr : WellR k a b r.1 r.2.1 r.2.2) (h : encN k a b s.1 s.2.1 s.2.2 = encN k a b r.1 r.2.1 r.2.2) : s = r := by
 have h1 := o_qz k a b s.1 s.2.1 s.2.2
 rw [h, o_qz] at h1
 have h2 := o_r2 hg hs
 rw [← h1, o_r2 hg hr] at h2
 have := congrArg Prod.fst h2
 simp only at this
 exact this.symm
theorem o_rk {k a b : Nat} (hg : GoodR k a b) : ∀ {l m : List ST}, wells k a b l → wells k a b m → encs k a b l = encs k a b m → l = m
 | [], [], _, _, _ => rfl
 | [], _ :: _, _, _, h => by simp [encs] at h
 | _ :: _, [], _, _, h => by simp [encs] at h
 | s :: l, r :: m, h1, h2, h => by
  simp only [encs, List.map_cons, List.cons.injEq] at h
  rw [o_rj hg (h1 s (by simp)) (h2 r (by simp)) h.1, o_rk hg (fun x hx => h1 x (by simp [hx])) (fun x hx => h2 x (by simp [hx])) h.2]
theorem o_rl {w : Nat} {xs ys : List Nat} (hw0 : 0 < w) (hl : xs.length = ys.length) (hx : smallP w xs) (hy : smallP w ys) (h : wordsP w xs = wordsP w ys) : xs = ys := by
 have hb : ∀ k, k < xs.length * w → bitX w xs k = bitX w ys k := by
  intro k hk
  have hj : k / 64 < nwP xs.length w := by unfold nwP; omega
  have h1 := o_q5 (w := w) (xs := xs) hj (Nat.mod_lt k (by omega : 0 < 64))
  have h2 := o_q5 (w := w) (xs := ys) (by rw [← hl]; exact hj) (Nat.mod_lt k (by omega : 0 < 64))
  rw [Nat.div_add_mod] at h1 h2
  rw [← h1, ← h2, h]
 apply List.ext_getElem? 
 intro i
 by_cases hi : i < xs.length
 ·have e : xs.getD i 0 = ys.getD i 0 := by
   apply Nat.eq_of_testBit_eq
   intro b
   by_cases hbw : b < w
   ·rw [← o_q6 hbw, ← o_q6 hbw]
    apply hb
    calc i * w + b < i * w + w := by omega
     _ = (i + 1) * w := by rw [Nat.succ_mul]
     _ ≤ xs.length * w := Nat.mul_le_mul_right _ hi
   ·rw [Nat.testBit_lt_two_pow (Nat.lt_of_lt_of_le (o_q8 hx i) (Nat.pow_le_pow_right (by omega) (by omega))), Nat.testBit_lt_two_pow (Nat.lt_of_lt_of_le (o_q8 hy i) (Nat.pow_le_pow_right (by omega) (by omega)))]
  simp only [List.getD_eq_getElem?_getD, List.getElem?_eq_getElem hi, List.getElem?_eq_getElem (hl ▸ hi), Option.getD_some] at e
  rw [List.getElem?_eq_getElem hi, List.getElem?_eq_getElem (hl ▸ hi), e]
 ·rw [List.getElem?_eq_none (by omega), List.getElem?_eq_none (by omega)]
theorem o_rm {k a b : Nat} {l m : List ST} (hg : GoodR k a b) (h1 : wells k a b l) (h2 : wells k a b m) : (l.length = m.length ∧ wordsP (wdR k a b) (encs k a b l) = wordsP (wdR k a b) (encs k a b m)) ↔ l = m := by
 constructor
 ·rintro ⟨hl, h⟩
  exact o_rk hg h1 h2 (o_rl (o_r0 hg).1 (by simpa using hl) (o_r4 _ _ _ _) (o_r4 _ _ _ _) h)
 ·rintro rfl; exact ⟨rfl, rfl⟩

theorem o_rn {k a b n : Nat} (hg : GoodR k a b) (h1 : 1 ≤ n) (hn : n ≤ 256) : 0 < nwP n (wdR k a b) ∧ nwP n (wdR k a b) ≤ 4000000 := by
 obtain ⟨w0, w16⟩ := o_r0 hg
 unfold nwP
 have h1' : n * 1 ≤ n * wdR k a b := Nat.mul_le_mul_left _ w0
 have h2' : n * wdR k a b ≤ 256 * 16 := Nat.mul_le_mul hn w16
 omega

theorem o_ro (n s : Nat) (ds : List D) (l : List D) : V.frzs n s ds (l.map V.d) = l.map V.d := by
 rw [o_3x]; simp [V.frz]
end
end Go.Proofs.YtdklbnemfelpnaaGreatDoor.Am
namespace Go.Proofs.YtdklbnemfelpnaaGreatDoor.Am
section
open Go.RowKit
end
end Go.Proofs.YtdklbnemfelpnaaGreatDoor.Am
namespace Go.Proofs.YtdklbnemfelpnaaGreatDoor.Am
section
def exitQ {β : Type} (id N : Nat) (T1 : β → List V) (H1 : β → List (Option Ob)) (R2 : β → Prop) (Q : Exit → List V → List (Option Ob) → Prop) : Exit → List V → List (Option Ob) → Prop
 | .exit j, T, H => if j = id then ∃ b, R2 b ∧ wk N T (T1 b) ∧ wkH N H (H1 b) else Q (.exit j) T H
 | .normal, _, _ => False
 | e, T, H => Q e T H
attribute [simp] exitQ
end
end Go.Proofs.YtdklbnemfelpnaaGreatDoor.Am
namespace Go.Proofs.YtdklbnemfelpnaaGreatDoor.Am
section
open Go.RowKit
def SmallR (k a b : Nat) : Prop := k = 4 ∧ 1 ≤ a ∧ a ≤ 8 ∧ b ≤ 3 ∨ k ≠ 4 ∧ GoodS k a b
theorem o_rp {k a b : Nat} (h : SmallR k a b) : GoodR k a b := by
 rcases h with ⟨rfl, h1, h2, h3⟩ | ⟨hk, h⟩
 ·exact .inl ⟨rfl, h1, by omega, by omega⟩
 ·exact .inr ⟨hk, o_nr h⟩

theorem o_rq (k a b : Int) : Eqn Tryz.prog o_au [.d (parD k a b)] [] (.d (parD k a b)) [] := by
 refine Eqn.pure o_aw Plain.ok ?_
 simp only [o_av, parD]
 refine G0 ?_; try with_reducible exact tt
theorem o_rr (y : Int) (m n : Nat) (hm : m ≤ 1000000) (hn : n ≤ 1000000) : ∃ (N Y : Nat), bits BinOp.and IntKind.i64 y (m : Int) = N ∧ IntKind.i64.wrap ((n : Int) + 1) = (n : Int) + 1 ∧ (N : Int).tmod ((n : Int) + 1) = Y ∧ Y ≤ n := by
 obtain ⟨N, h1, h2, h3⟩ := o_nc y m (by omega)
 have hY : N % (n + 1) ≤ n := by have := Nat.mod_lt N (show 0 < n + 1 by omega); omega
 refine ⟨N, N % (n + 1), h1, w64 (by omega) (by omega), ?_, hY⟩
 rw [Int.tmod_eq_emod_of_nonneg (by omega)]; norm_cast

theorem o_rs {k a b : Nat} (h : SmallR k a b) (y t : Int) (f : Bool) : ∃ (Y T : Nat) (F : Bool), WellR k a b Y T F ∧ Eqn Tryz.prog o_df [.d (parD k a b), .d (.agg [.int .i64 y, .int .i64 t, .bool f])] [] (.d (tsD Y T F)) [] := by
 rcases h with ⟨rfl, h1, h2, h3⟩ | ⟨hk, h⟩
 ·obtain ⟨N1, Y, a1, a2, a3, a4⟩ := o_rr y 7 a (by omega) (by omega)
  obtain ⟨N2, T, b1, b2, b3, b4⟩ := o_rr t 3 b (by omega) (by omega)
  replace a1 : bits BinOp.and IntKind.i64 y 7 = N1 := a1
  replace b1 : bits BinOp.and IntKind.i64 t 3 = N2 := b1
  refine ⟨Y, T, f && (T == b), .inl ⟨rfl, a4, b4, by simp⟩, ?_⟩
  refine Eqn.pure o_dh Plain.ok ?_
  have hF : ((T : Int) == (b : Int)) = (T == b) := by rw [Bool.eq_iff_iff]; simp; omega
  simp only [o_dg, parD, tsD]
  generalize (T == b) = F at *
  cases f with
  | true =>
   refine G0B ?_; try with_reducible exact tt
   refine AW.cond rfl (fun h => ?_) (fun h => ?_)
   ·refine G1B (fs a1 (fs a2 (fs a3 (fs b1 (fs b2 (fs b3 hF)))))) ?_; try with_reducible exact tt
   ·simp at h
  | false =>
   refine G0B ?_; try with_reducible exact tt
   refine AW.cond rfl (fun h => ?_) (fun h => ?_)
   ·refine G1B (fs a1 (fs a2 (fs a3 (fs b1 (fs b2 (fs b3 hF)))))) ?_; try with_reducible exact tt
   ·simp at h
 ·have hW : 2 ^ b - 1 ≤ 15 := by have := Nat.pow_le_pow_right (n := 2) (by omega) h.2.2; omega
  have hb2 : 0 < 2 ^ b := Nat.two_pow_pos b
  obtain ⟨N1, Y, a1, a2, a3, a4⟩ := o_rr y 15 (2 ^ b - 1) (by omega) (by omega)
  replace a1 : bits BinOp.and IntKind.i64 y 15 = N1 := a1
  refine ⟨Y, 0, f && (Y == 2 ^ b - 1), .inr ⟨hk, rfl, a4, by simp⟩, ?_⟩
  refine Eqn.pure o_dh Plain.ok ?_
  have hF : ((Y : Int) == ((2 ^ b - 1 : Nat) : Int)) = (Y == 2 ^ b - 1) := by rw [Bool.eq_iff_iff]; simp only [beq_iff_eq]; omega
  have e0 : (2 : Int) ^ b = (2 ^ b : Nat) := by rw [Int.natCast_pow]; rfl
  have hk' : ¬ (k : Int) = 4 := by omega
  have hb64 : b ≤ 64 := by have := h.2.2; omega
  simp only [o_dg, parD, tsD]
  generalize (Y == 2 ^ b - 1) = F at *
  generalize 2 ^ b = S at *
  have e3 : IntKind.i64.wrap (S : Int) = S := w64 (by omega) (by omega)
  have e4 : IntKind.i64.wrap ((S : Int) - 1) = ((S - 1 : Nat) : Int) := by rw [w64 (by omega) (by omega)]; omega
  generalize S - 1 = S1 at *
  cases f with
  | true =>
   refine G1B (fs hk hk') ?_; try with_reducible exact tt
   refine AW.cond rfl (fun h => ?_) (fun h => ?_)
   ·simp [hk'] at h
   ·refine G1B (fs a1 (fs a2 (fs a3 (fs e0 (fs e3 (fs e4 (fs hF hb64))))))) ?_; try with_reducible exact tt
  | false =>
   refine G1B (fs hk hk') ?_; try with_reducible exact tt
   refine AW.cond rfl (fun h => ?_) (fun h => ?_)
   ·simp [hk'] at h
   ·refine G1B (fs a1 (fs a2 (fs a3 (fs e0 (fs e3 (fs e4 (fs hF hb64))))))) ?_; try with_reducible exact tt

theorem o_rt (k a b : Int) : ∃ K A B : Nat, SmallR K A B ∧ ∀ (y t : Int) (f : Bool), ∃ (Y T : Nat) (F : Bool), WellR K A B Y T F ∧ Eqn Tryz.prog o_ar [.d (parD k a b), .d (.agg [.int .i64 y, .int .i64 t, .bool f])] [] (.tup [.d (parD K A B), .d (tsD Y T F)]) [] := by
 obtain ⟨e1, K, e2, hK, e3⟩ := o_nb k 4 (by omega) (by omega)
 obtain ⟨B1, B2, b1, b2, b3, b4⟩ := o_rr b 255 3 (by omega) (by omega)
 replace b1 : bits BinOp.and IntKind.i64 b 255 = B1 := b1
 replace b3 : (B1 : Int).tmod 4 = B2 := b3
 obtain ⟨B3, d1, d2, d3⟩ := o_nc b 3 (by omega)
 obtain ⟨A1, a1, a2, a3⟩ := o_nc a 3 (by omega)
 obtain ⟨A2, a4, a5, a6⟩ := o_nc a 1 (by omega)
 obtain ⟨A3, a7, a8, a9⟩ := o_nc a 7 (by omega)
 replace a1 : bits BinOp.and IntKind.i64 a 3 = A1 := a1
 replace a4 : bits BinOp.and IntKind.i64 a 1 = A2 := a4
 replace a7 : bits BinOp.and IntKind.i64 a 7 = A3 := a7
 replace d1 : bits BinOp.and IntKind.i64 b 3 = B3 := d1
 have e4 : IntKind.i64.wrap (1 + (B2 : Int)) = ((1 + B2 : Nat) : Int) := by rw [w64 (by omega) (by omega)]; omega
 have hK' : K = 0 ∨ K = 1 ∨ K = 2 ∨ K = 3 := by omega
 rcases hK' with rfl | rfl | rfl | rfl
 ·refine ⟨1, 1 + A1, 1 + B2, .inr ⟨by omega, by omega, by omega, by omega⟩, fun y t f => ?_⟩
  obtain ⟨Y, T, F, hw, hE⟩ := o_rs (k := 1) (a := 1 + A1) (b := 1 + B2) (.inr ⟨by omega, by omega, by omega, by omega⟩) y t f
  refine ⟨Y, T, F, hw, ?_⟩
  refine Eqn.pure o_at Plain.ok ?_
  simp only [o_as, parD, tsD] at hE ⊢
  generalize 1 + A1 = XA at *
  generalize 1 + B2 = XB at *
  refine G1B (fs e1 (fs e2 e3)) ?_; try with_reducible exact tt
  refine AW.cond rfl (fun h => ?_) (fun h => ?_)
  ·refine G1B (fs b1 (fs b3 (fs e4 (fs a1 a3)))) ?_; try with_reducible exact tt
   simp at hE
   refine CallS.pu (hE) (R0B ?_); try with_reducible exact tt
  ·simp at h
 ·refine ⟨2, A2, 1 + B2, .inr ⟨by omega, by omega, by omega, by omega⟩, fun y t f => ?_⟩
  obtain ⟨Y, T, F, hw, hE⟩ := o_rs (k := 2) (a := A2) (b := 1 + B2) (.inr ⟨by omega, by omega, by omega, by omega⟩) y t f
  refine ⟨Y, T, F, hw, ?_⟩
  refine Eqn.pure o_at Plain.ok ?_
  simp only [o_as, parD, tsD] at hE ⊢
  generalize 1 + B2 = XB at *
  refine G1B (fs e1 (fs e2 e3)) ?_; try with_reducible exact tt
  refine AW.cond rfl (fun h => ?_) (fun h => ?_)
  ·simp at h
  refine G0B ?_; try with_reducible exact tt
  refine AW.cond rfl (fun h => ?_) (fun h => ?_)
  ·refine G1B (fs b1 (fs b3 (fs e4 a4))) ?_; try with_reducible exact tt
   simp at hE
   refine CallS.pu (hE) (R0B ?_); try with_reducible exact tt
  ·simp at h
 ·refine ⟨3, 1 + A2, 1 + B2, .inr ⟨by omega, by omega, by omega, by omega⟩, fun y t f => ?_⟩
  obtain ⟨Y, T, F, hw, hE⟩ := o_rs (k := 3) (a := 1 + A2) (b := 1 + B2) (.inr ⟨by omega, by omega, by omega, by omega⟩) y t f
  refine ⟨Y, T, F, hw, ?_⟩
  refine Eqn.pure o_at Plain.ok ?_
  simp only [o_as, parD, tsD] at hE ⊢
  generalize 1 + A2 = XA at *
  generalize 1 + B2 = XB at *
  refine G1B (fs e1 (fs e2 e3)) ?_; try with_reducible exact tt
  refine AW.cond rfl (fun h => ?_) (fun h => ?_)
  ·simp at h
  refine G0B ?_; try with_reducible exact tt
  refine AW.cond rfl (fun h => ?_) (fun h => ?_)
  ·simp at h
  refine G0B ?_; try with_reducible exact tt
  refine AW.cond rfl (fun h => ?_) (fun h => ?_)
  ·refine G1B (fs b1 (fs b3 (fs e4 (fs a4 a6)))) ?_; try with_reducible exact tt
   simp at hE
   refine CallS.pu (hE) (R0B ?_); try with_reducible exact tt
  ·simp at h
 ·refine ⟨4, 1 + A3, B3, .inl ⟨rfl, by omega, by omega, by omega⟩, fun y t f => ?_⟩
  obtain ⟨Y, T, F, hw, hE⟩ := o_rs (k := 4) (a := 1 + A3) (b := B3) (.inl ⟨rfl, by omega, by omega, by omega⟩) y t f
  refine ⟨Y, T, F, hw, ?_⟩
  refine Eqn.pure o_at Plain.ok ?_
  simp only [o_as, parD, tsD] at hE ⊢
  generalize 1 + A3 = XA at *
  refine G1B (fs e1 (fs e2 e3)) ?_; try with_reducible exact tt
  refine AW.cond rfl (fun h => ?_) (fun h => ?_)
  ·simp at h
  refine G0B ?_; try with_reducible exact tt
  refine AW.cond rfl (fun h => ?_) (fun h => ?_)
  ·simp at h
  refine G0B ?_; try with_reducible exact tt
  refine AW.cond rfl (fun h => ?_) (fun h => ?_)
  ·simp at h
  ·refine G1B (fs d1 (fs a7 a9)) ?_; try with_reducible exact tt
   simp at hE
   refine CallS.pu (hE) (R0B ?_); try with_reducible exact tt
end
end Go.Proofs.YtdklbnemfelpnaaGreatDoor.Am
namespace Go.Proofs.YtdklbnemfelpnaaGreatDoor.Am
section
open Go.RowKit
end
end Go.Proofs.YtdklbnemfelpnaaGreatDoor.Am
namespace Go.Proofs.YtdklbnemfelpnaaGreatDoor.Am
section
open Go.RowKit
end
end Go.Proofs.YtdklbnemfelpnaaGreatDoor.Am
namespace Go.Proofs.YtdklbnemfelpnaaGreatDoor.Am
section
open Go.RowKit

theorem o_ru {P : Program} {f : FuncId} {c : C} {rs : List RV} {nt : Nat} (hf : fnOf P f = some (c, rs, nt, false)) (vs : Array Value) (w : World) : (callFunc f vs).run P w = .ok (.enter f vs) w := by
 unfold fnOf at hf
 split at hf
 ·rename_i fn hfn
  split at hf
  ·rename_i b hb
   simp only [Option.some.injEq, Prod.mk.injEq] at hf
   obtain ⟨h1, h2, h3, h4⟩ := hf
   have h1 : ¬ fn.name = "runtime.NumGoroutine" := by simpa using h4
   simp [callFunc, hfn, h1, hb]
  ·cases hf
 ·cases hf

abbrev memW (W : World) : Mem := ⟨fun _ => none, fun b => b < W.heap.size, W⟩

theorem o_rv {m : Mem} (h : ∀ g, tab g = none) : Tabs m := fun g l hg => by rw [h g] at hg; cases hg
theorem o_rw {P : Program} {f : FuncId} {args : List V} {c : C} {rs : List RV} {nt : Nat} (hf : fnOf P f = some (c, rs, nt, false)) (E : Eqn P f args [] (.d (.bool true)) []) {W : World} {vs : List Value} (h : V.reps (memW W) args vs) (ht : Tabs (memW W)) :
  Calls P f vs.toArray W (fun e W' => e = .returned (.bool true) ∧ Same W W') := by
 rcases E.run (memW W) vs ⟨fun b h => h, fun n b h => (by cases h), ht⟩ h (by simp) (fun n i b h => by simp at h) (fun _ _ => rfl) with ⟨v, h1, _⟩ | ⟨_, h2⟩
 ·rw [o_ru hf] at h1; cases h1
 ·refine h2.mono ?_
  rintro e w' ⟨v, m', rfl, rfl, hE⟩
  have hv := hE.rep
  rw [V.rep_d] at hv
  unfold D.rep at hv
  subst hv
  exact ⟨rfl, hE.le.os, hE.le.tape, hE.le.output, hE.le.size, fun k hk _ => hE.le.imm k hk⟩

theorem law_walk {P : Program} {f : FuncId} {args : List V} {c : C} {rs : List RV} {nt : Nat} (hf : fnOf P f = some (c, rs, nt, false)) (E : Eqn P f args [] (.d (.bool true)) []) {W : World} {vs : List Value} (h : V.reps (memW W) args vs) (ht : Tabs (memW W) := by exact o_rv fun _ => rfl) :
  Calls P f vs.toArray W (fun e W' => e = .returned (.bool true) ∧ Same W W') := o_rw hf E h ht

theorem reps_of {I : Nat → Prop} {w : World} {α : Type} (f : α → D) (g : α → Value) (h : ∀ a, D.rep I w (f a) (g a)) : ∀ l : List α, D.reps I w (l.map f) (l.map g)
 | [] => by simp
 | a :: l => by
  rw [List.map_cons, List.map_cons, D.reps_cons]
  exact ⟨h a, reps_of f g h l⟩

theorem o_rx {W : World} {v : Value} {α : Type} {l : List α} (f : α → D) (g : α → Value) (hg : ∀ a, (g a).oneCell' = true) (hr : ∀ a, D.rep (fun b => b < W.heap.size) W (f a) (g a)) (h : Cells W v 1 l.length (l.map g)) : V.rep (memW W) (.d (.sl l.length (l.map f))) v := by
 rw [V.rep_d]
 unfold D.rep
 obtain ⟨h1, p, cap, rfl, h2, h3, h4⟩ := h
 refine ⟨p, cap, rfl, h2, h3, l.map g, fun u hu => ?_, reps_of f g hr l, ?_⟩
 ·obtain ⟨a, -, rfl⟩ := List.mem_map.1 hu
  exact hg a
 ·rcases h4 with ⟨rfl, h5, h6⟩ | ⟨b, o, rfl, hb, hc⟩
  ·left
   exact ⟨rfl, h6, by rw [List.eq_nil_of_length_eq_zero h5]; rfl⟩
  ·exact .inr ⟨b, o, rfl, .inr hb, hc⟩

theorem o_ry {W : World} {l : List D} {vs : List Value} (h1 : ∀ u ∈ vs, u.oneCell' = true) (h : D.reps (fun b => b < W.heap.size) W l vs) : V.rep (memW W) (.d (.agg l)) (.agg vs.toArray) := by
 rw [V.rep_d]
 unfold D.rep
 exact ⟨vs, rfl, h1, h⟩
end
end Go.Proofs.YtdklbnemfelpnaaGreatDoor.Am
namespace Go.Proofs.YtdklbnemfelpnaaGreatDoor.Am
section
open Go.RowKit
def actM (cs : List Bool) (k a b y t : Nat) (f : Bool) (z u : Nat) (g : Bool) (n : Nat) (m : Bool) (p : Nat) (d : Bool) : TR := if m then mergeRM cs k a b y t f z u g p d else addRM cs k a b n y t f p d
end
end Go.Proofs.YtdklbnemfelpnaaGreatDoor.Am
namespace Go.Proofs.YtdklbnemfelpnaaGreatDoor.Am
section
open Go.RowKit
def aloneV (l : List ST) : List V := l.flatMap fun s => [.d (.int .i64 s.1), .d (.int .i64 s.2.1), .d (.bool s.2.2)]
@[simp] theorem o_rz (n : Nat) (l : List ST) : V.lowl n (aloneV l) = true := by induction l <;> simp_all [aloneV]

def actsL (l : List (Int × Int)) : List D := l.flatMap fun a => [.int .i64 a.1, .int .i64 a.2]
end
end Go.Proofs.YtdklbnemfelpnaaGreatDoor.Am
namespace Go.Proofs.YtdklbnemfelpnaaGreatDoor.Am
section
open Go.RowKit
def stL (l : List ST) : List D := l.flatMap fun s => [.int .i64 s.1, .int .i64 s.2.1, .bool s.2.2]
end
end Go.Proofs.YtdklbnemfelpnaaGreatDoor.Am
namespace Go.Proofs.YtdklbnemfelpnaaGreatDoor.Am
section
open Go.RowKit
abbrev RawS := Int × Int × Bool
def rawL (l : List RawS) : List D := l.flatMap fun s => [.int .i64 s.1, .int .i64 s.2.1, .bool s.2.2]
abbrev stV (l : List ST) : List V := (stL l).map .d
@[simp] theorem o_s0 (n : Nat) (l : List ST) : V.lowl n (stV l) = true := o_4q n _
@[simp] theorem o_s1 (θ : Nat → Nat) (l : List ST) : V.rens θ (stV l) = stV l := o_4p θ _

def upTo (l : List ST) (i : Nat) : List ST := l.take i ++ List.replicate (l.length - i) (0, 0, false)
end
end Go.Proofs.YtdklbnemfelpnaaGreatDoor.Am
namespace Go.Proofs.YtdklbnemfelpnaaGreatDoor.Am
section
open Go.RowKit
def packBits (w : Nat) (xs : List Nat) : List Bool := xs.flatMap fun x => bitsW x w
theorem o_s2 (w : Nat) (xs : List Nat) : (packBits w xs).length = xs.length * w := by
 induction xs with
 | nil => simp [packBits]
 | cons x xs ih => simp only [packBits, List.flatMap_cons, List.length_append, o_o2, List.length_cons, Nat.succ_mul] at ih ⊢; omega
theorem o_s3 (w : Nat) (xs : List Nat) (x : Nat) : packBits w (xs ++ [x]) = packBits w xs ++ bitsW x w := by simp [packBits]
theorem o_s4 {xs : List Nat} {i : Nat} (h : i < xs.length) : xs.take (i + 1) = xs.take i ++ [xs.getD i 0] := by
 rw [List.take_add_one, List.getElem?_eq_getElem h, List.getD_eq_getElem?_getD, List.getElem?_eq_getElem h]; rfl
end
end Go.Proofs.YtdklbnemfelpnaaGreatDoor.Am
namespace Go.Proofs.YtdklbnemfelpnaaGreatDoor.Am
section
open Go.RowKit
def bsPk (bs : List Bool) (w : Nat) (ys : List Nat) : List Bool := bs ++ packBits w ys

set_option maxHeartbeats 1000000 in
theorem o_s5 (bs : List Bool) (w : Nat) (xs : List Nat) (hbs : bs ≠ []) (hbl : bs.length ≤ 800000) (h0 : 1 ≤ xs.length) (hn : xs.length ≤ 256) (hw0 : 0 < w) (hw : w ≤ 32) (hs : smallP w xs) :
  EqnD Tryz.prog o_8c [.ia (vecD w xs) 0, .p 0 0] [wrO 1 bs, wrB bs] (.tup []) [wrO 2 (bs ++ packBits w xs), wrB bs, wrB (bs ++ packBits w xs)] [1] := by
 rw [show bs ++ packBits w xs = bsPk bs w xs from rfl]
 refine Eqn.gen [0, 1, 2] o_8e (by simp) (by simp) (by rfl) (by decide) (by simp) (by simp [wrO, wrB]) ?_
 simp only [o_8d, vecD, wrO, wrB]
 refine A00 ?_; try with_reducible exact tt
 refine AW.loopG (α := Nat) (fun i => [.ia [.sl (nwP xs.length w) ((wordsP w xs).map fun x : Nat => .int .u64 x), .int .i64 xs.length, .int .i64 w] 0, .p 0 0] ++ List.replicate 8 .junk ++ [.d (.int .i64 xs.length), .d (.int .i64 (i : Int))] ++ List.replicate 16 .junk) (fun i => if i = 0 then [some (wrO 1 bs), some (wrB bs)] else [some (wrO 2 (bsPk bs w (xs.take i))), none, some (wrB (bsPk bs w (xs.take i)))]) (fun i => i ≤ xs.length) (fun i => xs.length - i) 0 ?_ (Nat.zero_le _) ?_ ?_ ?_
 ·intro i hi; split <;> simp
 ·simp [vecD]
 ·simp [packBits, wrO, wrB]
 rintro i hi
 have hbl2 : (packBits w (xs.take i)).length = i * w := by rw [o_s2, List.length_take, Nat.min_eq_left hi]
 have hiw2 : i * w ≤ 256 * 32 := Nat.mul_le_mul (by omega) hw
 have hne : bs ++ packBits w (xs.take i) ≠ [] := fun h => hbs (List.append_eq_nil_iff.1 h).1
 have hbl3 : (bs ++ packBits w (xs.take i)).length ≤ 900000 := by rw [List.length_append]; omega
 by_cases hi' : i < xs.length
 ·have h1 : (i : Int) < xs.length := by omega
  have hg := o_qv w xs i hi' hn hw0 hw hs
  have hlt := o_q8 hs i
  have hsn := o_s3 w (xs.take i) (xs.getD i 0)
  rw [← o_s4 hi'] at hsn
  have ew : IntKind.i64.wrap ((i : Int) + 1) = ((i + 1 : Nat) : Int) := by rw [w64 (by omega) (by omega)]; omega
  have h32 : 2 ^ w ≤ 2 ^ 32 := Nat.pow_le_pow_right (by omega) hw
  generalize xs.getD i 0 = x at *
  have hB := o_p0 (bs ++ packBits w (xs.take i)) x w hne (by omega) (by omega) hlt (by omega)
  rw [List.append_assoc, ← hsn] at hB
  change EqnD _ _ _ _ _ [wrO _ (bsPk bs w (xs.take (i + 1))), _, wrB (bsPk bs w (xs.take (i + 1)))] _ at hB
  by_cases hi0 : i = 0
  ·subst hi0
   rw [if_pos rfl]
   rw [show bs ++ packBits w (xs.take 0) = bs by simp [packBits]] at hB
   simp only [vecD, wrO, wrB] at hg hB ⊢
   generalize hX2 : bsPk bs w (xs.take (0 + 1)) = X2 at *
   simp
   refine A11 (fs h1 hi') hg ?_; try with_reducible exact tt
   refine CallS.g [0, 1] (hB) (R1 ew ?_); try with_reducible exact tt
   refine ⟨1, 2, 2, by simp, by omega, by omega, ?_, ?_⟩
   ·rw [Nat.zero_add] at hX2
    simp [swT, swH, sw, Ob.sw, V.ren, V.rens, wrO, wrB, hX2, -List.length_append]
   ·rw [if_neg (by omega)]
    rw [Nat.zero_add] at hX2
    simp [swT, swH, sw, Ob.sw, V.ren, V.rens, wrO, wrB, hX2, -List.length_append]
  ·rw [if_neg hi0]
   simp only [vecD, wrO, wrB] at hg hB ⊢
   rw [show bs ++ packBits w (xs.take i) = bsPk bs w (xs.take i) from rfl] at hB
   generalize hX2 : bsPk bs w (xs.take (i + 1)) = X2 at *
   simp
   refine A11 (fs h1 hi') hg ?_; try with_reducible exact tt
   refine CallS.g [0, 2] (hB) (R1 ew ?_); try with_reducible exact tt
   refine ⟨i + 1, 2, 3, by simp, by omega, by omega, ?_, ?_⟩
   ·simp [swT, swH, sw, Ob.sw, V.ren, V.rens, wrO, wrB, hX2, -List.length_append]
   ·rw [if_neg (by omega)]
    simp [swT, swH, sw, Ob.sw, V.ren, V.rens, wrO, wrB, hX2, -List.length_append]
 ·have h2 : i = xs.length := by omega
  subst h2
  rw [List.take_length, if_neg (by omega)]
  simp only [wrO, wrB, vecD]
  refine A00 ?_; try with_reducible exact tt
end
end Go.Proofs.YtdklbnemfelpnaaGreatDoor.Am
namespace Go.Proofs.YtdklbnemfelpnaaGreatDoor.Am
section
open Go.RowKit
def grpN (n : Nat) : Nat := n % 128 + 128
theorem o_s6 (n : Nat) (h : n < 18446744073709551616) : bits BinOp.or IntKind.u64 (bits BinOp.and IntKind.u64 (n : Int) 127) 128 = ((grpN n : Nat) : Int) := by
 have h1 := o_qo n 127 h (by decide)
 rw [show ((127 : Nat) : Int) = 127 from rfl] at h1
 have h2 : n &&& 127 = n % 128 := Nat.and_two_pow_sub_one_eq_mod n 7
 rw [h1, h2]
 have h3 := o_p6 (n % 128) 128 (by omega) (by decide)
 rw [show ((128 : Nat) : Int) = 128 from rfl] at h3
 rw [h3]
 have h4 : n % 128 ||| 128 = 128 + n % 128 := by
  have := Nat.two_pow_add_eq_or_of_lt (i := 7) (b := n % 128) (Nat.mod_lt _ (by decide)) 1
  rw [Nat.or_comm]
  simpa using this.symm
 rw [h4]
 unfold grpN
 omega
def shV (n j : Nat) : Nat := n / 128 ^ j
theorem o_s7 (n j : Nat) : shV n (j + 1) = shV n j / 128 := by rw [shV, shV, Nat.div_div_eq_div_mul, Nat.pow_succ]
def preB (n : Nat) : Nat → List Bool
 | 0 => []
 | j + 1 => preB n j ++ bitsW (grpN (shV n j)) 8
theorem o_s8 (n : Nat) : ∀ j, (preB n j).length = 8 * j
 | 0 => rfl
 | j + 1 => by rw [preB, List.length_append, o_s8 n j, o_o2]; omega
def varB (n : Nat) : List Bool := if n < 128 then bitsW n 8 else bitsW (grpN n) 8 ++ varB (n / 128)
termination_by n
decreasing_by omega
theorem o_s9 (n : Nat) : ∀ j, (∀ i, i < j → 128 ≤ shV n i) → varB n = preB n j ++ varB (shV n j)
 | 0, _ => by simp [preB, shV]
 | j + 1, h => by
  rw [o_s9 n j fun i hi => h i (by omega), preB, List.append_assoc, o_s7]
  congr 1
  have := h j (by omega)
  conv => lhs; rw [varB]
  rw [if_neg (by omega)]
set_option maxHeartbeats 1000000 in
theorem o_sa (n : Nat) (hn : n < 4611686018427387904) : Eqn Tryz.prog o_86 [.p 0 0, .d (.int .u64 n)] [⟨78, [.d .nilsl, .d (.int .i64 0)]⟩] (.tup []) [wrO 1 (varB n), wrB (varB n)] := by
 by_cases h128 : n < 128
 ·refine Eqn.gen [0, 1] o_88 (by simp) (by simp) (by rfl) (by decide) (by simp) (by simp [wrO, wrB]) ?_
  have h1 := o_oz n 8 (by decide) (by decide) (by omega) (by omega)
  rw [varB, if_pos h128]
  simp only [o_87, wrO, wrB] at h1 ⊢
  have g1 : ¬ (128 : Int) ≤ n := by omega
  generalize bitsW n 8 = B at *
  refine A00 ?_; try with_reducible exact tt
  refine AW.loopT (α := Unit) 1 (fun s => [(1, .d (.int .u64 n))]) (fun s => []) (fun s => True) (fun s => 0) () ?_ ?_ trivial ?_ ?_ ?_
  ·simp
  ·simp
  ·simp
  ·simp
  rintro - -
  simp
  refine A10 g1 ?_; try with_reducible exact tt
  refine CallS.g [0] (h1) (R0 ?_); try with_reducible exact tt
 ·refine Eqn.gen [0, 2] o_88 (by simp) (by simp) (by rfl) (by decide) (by simp) (by simp [wrO, wrB]) ?_
  simp only [o_87]
  refine A00 ?_; try with_reducible exact tt
  refine AW.loopG (α := Nat) (fun j => [.p 0 0, .d (.int .u64 (shV n j : Nat))] ++ List.replicate 14 .junk) (fun j => if j = 0 then [some ⟨78, [.d .nilsl, .d (.int .i64 0)]⟩] else [some (wrO 1 (preB n j)), some (wrB (preB n j))]) (fun j => j ≤ 9 ∧ ∀ i, i < j → 128 ≤ shV n i) (fun j => 9 - j) 0 ?_ ⟨by omega, fun i hi => by omega⟩ ?_ ?_ ?_
  ·intro i hi; split <;> simp
  ·simp [shV]
  ·simp
  rintro j ⟨hj, hpre⟩
  have hsv : shV n j ≤ n := Nat.div_le_self _ _
  have hgr := o_s6 (shV n j) (by omega)
  have hss := o_s7 n j
  have hgl : grpN (shV n j) < 256 := by unfold grpN; omega
  have hpl := o_s8 n j
  have hpn : preB n (j + 1) = preB n j ++ bitsW (grpN (shV n j)) 8 := rfl
  have hvp := o_s9 n j hpre
  have h9 : 128 ≤ shV n j → j + 1 ≤ 9 := by
   intro h
   rcases Nat.lt_or_ge j 9 with h1 | h1
   ·omega
   ·obtain rfl : j = 9 := by omega
    have : shV n 9 = 0 := Nat.div_eq_of_lt (Nat.lt_of_lt_of_le hn (by decide))
    omega
  obtain ⟨w, hw⟩ : ∃ w, w = shV n j := ⟨_, rfl⟩
  rw [← hw] at hsv hgr hss hgl hpn hvp h9
  obtain ⟨g, hg⟩ : ∃ g, g = grpN w := ⟨_, rfl⟩
  rw [← hg] at hgr hgl hpn
  by_cases h0 : j = 0
  ·subst h0
   have hwn : w = n := by rw [hw]; simp [shV]
   have hge : (128 : Int) ≤ w := by omega
   have h1 := o_oz g 8 (by decide) (by decide) hgl (by omega)
   rw [if_pos rfl, ← hw]
   rw [show preB n 0 = [] from rfl, List.nil_append] at hpn
   simp only [Nat.zero_add] at hpn
   simp only [wrO, wrB] at h1 ⊢
   have sh7 : (w : Int) / 128 = (w / 128 : Nat) := by omega
   obtain ⟨w1, hw1⟩ : ∃ w1, w1 = w / 128 := ⟨_, rfl⟩
   rw [← hw1] at sh7 hss
   generalize bitsW g 8 = X at *
   clear hvp hwn hg
   simp
   refine A10 (fs hge hgr) ?_; try with_reducible exact tt
   refine CallS.g [0] (h1) (R1 sh7 ?_); try with_reducible exact tt
   refine ⟨1, 1, 1, by simp, ⟨by omega, fun i hi => ?_⟩, by omega, ?_, ?_⟩
   ·obtain rfl : i = 0 := by omega
    rw [← hw]; omega
   ·simp [swT, swH, sw, Ob.sw, V.ren, V.rens, hss]
   ·simp [swT, swH, sw, Ob.sw, V.ren, V.rens, wrO, wrB, hpn]
  ·have hne : preB n j ≠ [] := fun h => by rw [h] at hpl; simp at hpl; omega
   rw [if_neg h0, ← hw]
   by_cases hge : 128 ≤ w
   ·have hge' : (128 : Int) ≤ w := by omega
    have h2 := o_p0 (preB n j) g 8 hne (by omega) (by decide) hgl (by omega)
    rw [← hpn] at h2
    have sh7 : (w : Int) / 128 = (w / 128 : Nat) := by omega
    obtain ⟨w1, hw1⟩ : ∃ w1, w1 = w / 128 := ⟨_, rfl⟩
    rw [← hw1] at sh7 hss
    obtain ⟨Y, hY⟩ : ∃ Y, Y = preB n (j + 1) := ⟨_, rfl⟩
    rw [← hY] at h2
    generalize preB n j = X at *
    simp only [wrO, wrB] at h2 ⊢
    clear hvp hg hpn
    simp
    refine A10 (fs hge (fs hge' hgr)) ?_; try with_reducible exact tt
    refine CallS.g [0, 1] (h2) (R1 sh7 ?_); try with_reducible exact tt
    refine ⟨j + 1, 1, 2, by simp, ⟨h9 hge, fun i hi => ?_⟩, by omega, ?_, ?_⟩
    ·rcases Nat.lt_or_ge i j with h | h
     ·exact hpre i h
     ·obtain rfl : i = j := by omega
      rw [← hw]; exact hge
    ·simp [swT, swH, sw, Ob.sw, V.ren, V.rens, hss]
    ·simp [swT, swH, sw, Ob.sw, V.ren, V.rens, wrO, wrB, ← hY]
   ·have hge' : ¬ (128 : Int) ≤ w := by omega
    have h2 := o_p0 (preB n j) w 8 hne (by omega) (by decide) (by omega) (by omega)
    have hv : varB w = bitsW w 8 := by rw [varB, if_pos (by omega)]
    rw [hv] at hvp
    rw [← hvp] at h2
    generalize varB n = Y at *
    generalize preB n j = X at *
    simp only [wrO, wrB] at h2 ⊢
    clear hvp hg hpn hv
    simp
    refine A10 (fs hge hge') ?_; try with_reducible exact tt
    refine CallS.g [0, 1] (h2) (R0 ?_); try with_reducible exact tt
end
end Go.Proofs.YtdklbnemfelpnaaGreatDoor.Am
namespace Go.Proofs.YtdklbnemfelpnaaGreatDoor.Am
section
open Go.RowKit
section
variable {P : Program} {L : Nat} {Q : Exit → List V → List (Option Ob) → Prop} {T : List V} {H : List (Option Ob)} {x : C}
def AWu (P : Program) (L : Nat) (x : C) (Q : Exit → List V → List (Option Ob) → Prop) : Nat → List V → List (Option Ob) → Prop
 | 0, _, _ => False
 | n + 1, T, H => AW P L x (thenQ (AWu P L x Q n) Q) T H
theorem AW.rounds (n : Nat) (h : AWu P L x Q n T H) : AW P L (.loop x) Q T H := by
 refine AW.loop (fun k T H => AWu P L x Q k T H) n h fun k T H hk => ?_
 cases k with
 | zero => exact hk.elim
 | succ k =>
  refine AW.mono hk fun e T' H' hq => ?_
  cases e <;> first | exact ⟨k, Nat.lt_succ_self k, hq⟩ | exact hq
theorem AWu.next {n : Nat} (h : AW P L x (thenQ (AWu P L x Q n) Q) T H) : AWu P L x Q (n + 1) T H := h
end
theorem EqnD.sub {P : Program} {f : FuncId} {args args' : List V} {Hs Hs' : List Ob} {X : V} {dead : List Nat} (E : EqnD P f args' Hs X Hs' dead) (h : Subs args args') : EqnD P f args Hs X Hs' dead :=
 ⟨E.len, E.old, E.lowx, E.lowo, fun m vs hb hv => E.run m vs hb (h m vs hv)⟩
end
end Go.Proofs.YtdklbnemfelpnaaGreatDoor.Am
namespace Go.Proofs.YtdklbnemfelpnaaGreatDoor.Am
section
open Go.RowKit
attribute [simp] o_ro o_4p o_4q
@[simp] theorem o_sb (θ : Nat → Nat) : ∀ l k : List V, V.rens θ (l ++ k) = V.rens θ l ++ V.rens θ k
 | [], k => by simp [V.rens]
 | x :: l, k => by simp [V.rens, o_sb θ l k]
@[simp] theorem o_sc (n : Nat) : ∀ l k : List V, V.lowl n (l ++ k) = (V.lowl n l && V.lowl n k)
 | [], k => by simp [V.lowl]
 | x :: l, k => by simp [V.lowl, o_sc n l k, Bool.and_assoc]
def arrD (k a b : Nat) (l : List ST) : List D := [.ptr (vecD (wdR k a b) (encs k a b l)) 0, .int .i64 k, .int .i64 a, .int .i64 b]

theorem o_sd {k a b : Nat} (l : List ST) (i : Nat) (h : GoodR k a b) (hw : wells k a b l) (hi : i < l.length) (hn : l.length ≤ 256) :
  Eqn Tryz.prog o_al [.d (.ptr (arrD k a b l) 0), .d (.int .i64 i)] [] (.tup [.d (tsD (l.getD i (0, 0, false)).1 (l.getD i (0, 0, false)).2.1 (l.getD i (0, 0, false)).2.2), .d (.int .i64 0)]) [] := by
 refine Eqn.pure o_an Plain.ok ?_
 obtain ⟨w0, w16⟩ := o_r0 h
 have hg := o_qv (wdR k a b) (encs k a b l) i (by simpa using hi) (by simpa using hn) w0 (by omega) (o_r4 k a b l)
 have hwd := o_qu (wdR k a b) (encs k a b l)
 rw [o_r5 hi] at hg
 have hwi := o_r7 hw hi
 generalize l.getD i (0, 0, false) = s at *
 obtain ⟨y, t, f⟩ := s
 simp only at hg hwi ⊢
 have hlt := o_qy k a b y t f
 have h16 : 2 ^ wdR k a b ≤ 2 ^ 16 := Nat.pow_le_pow_right (by omega) w16
 have h3 := o_oz (encN k a b y t f) (wdR k a b) w0 (by omega) hlt (by omega)
 rw [o_qz] at h3
 have hne : encR k a b y t f ≠ [] := by simp [encR]
 have hel := o_pv k a b y t f
 have h4 := o_ou (encR k a b y t f) hne (by rw [hel]; unfold wdR at w16; omega)
 have h5 := o_p2 (bytesOf (encR k a b y t f)) (by rw [o_o7, hel]; unfold wdR at w16; omega)
 have h6 := o_py (bytesOf (encR k a b y t f)) (k := k) (a := a) (b := b) 0 h (o_r8 _) (by rw [o_o7, hel]; unfold wdR at w16; omega) (Nat.zero_le _) _ rfl
 rw [o_r2 h hwi] at h6
 have hB0 : u8s (bytesOf (encR k a b y t f)) = ((bytesOf (encR k a b y t f)).map fun x : Nat => D.int .u8 x).map V.d := by simp [u8s]
 have hBt : ((bytesOf (encR k a b y t f)).map fun x : Nat => D.int .u8 x).take (bytesOf (encR k a b y t f)).length = (bytesOf (encR k a b y t f)).map fun x : Nat => D.int .u8 x := List.take_of_length_le (by simp)
 have hBl : (bytesOf (encR k a b y t f)).length = ((encR k a b y t f).length + 7) / 8 := by simp
 simp only [o_am, arrD, o_r3, tsD, parD, rdO, BY, wrO, wrB] at hg hwd h3 h4 h5 h6 ⊢
 generalize vecD (wdR k a b) (encs k a b l) = VD at *
 generalize encR k a b y t f = bs at *
 generalize bytesOf bs = bytes at *
 rw [← hBl] at h3 h4
 generalize hBB : (bytes.map fun x : Nat => D.int .u8 x) = LB at *
 generalize encN k a b y t f = N at *
 generalize wdR k a b = w at *
 refine A02 hg hwd ?_; try with_reducible exact tt
 refine CallS.g [1] (h3) (R0 ?_); try with_reducible exact tt
 refine CallS.g [1, 2] (h4) (R0 ?_); try with_reducible exact tt
 rw [hB0]
 have h5' : Eqn Tryz.prog o_63 [.d (.sl bytes.length (List.take (bytes.length * 1) LB))] [] (.p 0 0) [⟨164, [.d (.sl bytes.length LB), .d (.int .i64 0)]⟩] := by rw [Nat.mul_one, hBt]; simpa using h5
 refine CallS.gf 3 1 ⟨5, LB.map V.d⟩ LB [] (h5') (R0 ?_); try with_reducible exact tt
 simp at h6
 refine CallS.g [4] (h6) (R0 ?_); try with_reducible exact tt

theorem o_se (ws : List Nat) (h0 : 0 < ws.length) (hn : ws.length ≤ 4000000) : Eqn Tryz.prog o_c0 [.d (.sl ws.length (ws.map fun x : Nat => D.int .u64 x))] [] (.own 0 1 ws.length) [⟨129, u64s ws⟩] := by
 refine Eqn.gen [0] o_c2 (by simp) (by simp) (by rfl) (by decide) (by simp) (by simp) ?_
 have hl : (ws.map fun x : Nat => V.d (D.int .u64 x)).take ws.length = u64s ws := List.take_of_length_le (by simp [u64s])
 have h0' : ws.length ≠ 0 := by omega
 simp only [o_c1]
 refine G0 ?_; try with_reducible exact tt
 refine AW.cond rfl (fun h => ?_) (fun h => ?_)
 ·simp at h
 ·repeat (first | refine AW.seq ?_ | refine AW.block ?_ | (refine AW.reg mix ?_; simp -implicitDefEqProofs [hl, h0', o_qj]; try simp (disch := omega) only [w64, wu64]) | (refine need.of (by first | omega | kernel_rfl) ?_) | (refine AW.fin ?_; try simp -implicitDefEqProofs [hl, h0', o_qj]))
  exact Subs.of (by simp [u64s, Function.comp_def])
theorem o_sf (w : Nat) (xs : List Nat) (h0 : 0 < nwP xs.length w) (hn : nwP xs.length w ≤ 4000000) :
  Eqn Tryz.prog o_ef [.d (.ptr (vecD w xs) 0)] [] (.p 0 0) [vecO 1 xs.length w, vecB w xs] := by
 refine Eqn.gen [1, 0] o_eh (by simp) (by simp) (by rfl) (by decide) (by simp) (by simp [vecO, vecB]) ?_
 have hc := o_se (wordsP w xs) (by simpa using h0) (by simpa using hn)
 have hlen := o_q2 w xs
 simp only [o_eg, vecO, vecB, vecD] at hc ⊢
 generalize wordsP w xs = ws at *
 rw [hlen] at hc
 generalize nwP xs.length w = NW at *
 refine G0 ?_; try with_reducible exact tt
 refine CallS.g [] (hc) (R0 ?_); try with_reducible exact tt
theorem o_sg {k a b : Nat} (l : List ST) (hg : GoodR k a b) (h1 : 1 ≤ l.length) (hn : l.length ≤ 256) :
  Eqn Tryz.prog o_cl [.d (.ptr (arrD k a b l) 0)] [] (.p 0 0) [arrO 1 k a b, arrV 2 k a b l, arrB k a b l] := by
 refine Eqn.gen [2, 0, 1] o_cn (by simp) (by simp) (by rfl) (by decide) (by simp) (by simp [arrO, arrV, arrB, vecO, vecB]) ?_
 obtain ⟨p1, p2⟩ := o_rn hg h1 hn
 have hc := o_sf (wdR k a b) (encs k a b l) (by simpa using p1) (by simpa using p2)
 simp only [o_cm, arrD, arrO, arrV, arrB, vecO, vecB, o_r3] at hc ⊢
 generalize wordsP (wdR k a b) (encs k a b l) = ws at *
 generalize vecD (wdR k a b) (encs k a b l) = VD at *
 refine G0 ?_; try with_reducible exact tt
 refine CallS.g [] (hc) (R0 ?_); try with_reducible exact tt
end
end Go.Proofs.YtdklbnemfelpnaaGreatDoor.Am
namespace Go.Proofs.YtdklbnemfelpnaaGreatDoor.Am
section
open Go.RowKit
def hP : Nat := 2305843009213693951
def hsum (a b key : Nat) : Nat := (a * key % hP + b) % hP
theorem hfold (x hi lo : Nat) (h1 : x / 18446744073709551616 = hi) (h2 : x % 18446744073709551616 = lo) (hx : x < 2305843009213693951 * 2305843009213693951) :
  hi < 288230376151711744 ∧ lo % 2305843009213693952 + (hi * 8 + lo / 2305843009213693952) < 18446744073709551616 ∧ (lo % 2305843009213693952 + (hi * 8 + lo / 2305843009213693952)) % 2305843009213693951 = x % 2305843009213693951 := by
 omega
theorem o_sh {a b : Nat} : a % 2305843009213693951 * (b % 2305843009213693951) < 2305843009213693951 * 2305843009213693951 := by
 have h1 : a % 2305843009213693951 < 2305843009213693951 := Nat.mod_lt _ (by decide)
 have h2 : b % 2305843009213693951 < 2305843009213693951 := Nat.mod_lt _ (by decide)
 exact Nat.mul_lt_mul'' h1 h2
theorem and61 (x : Nat) (hx : x < 18446744073709551616) : bits BinOp.and IntKind.u64 (x : Int) 2305843009213693951 = ((x % 2305843009213693952 : Nat) : Int) := by
 show IntKind.u64.wrap (((BitVec.ofInt 64 (x : Int)) &&& (BitVec.ofInt 64 2305843009213693951)).toNat : Int) = _
 rw [show (2305843009213693951 : Int) = ((2 ^ 61 - 1 : Nat) : Int) by rfl, BitVec.toNat_and, BitVec.ofInt_natCast, BitVec.ofInt_natCast, BitVec.toNat_ofNat, BitVec.toNat_ofNat, Nat.mod_eq_of_lt (show x < 2 ^ 64 by omega), Nat.mod_eq_of_lt (show 2 ^ 61 - 1 < 2 ^ 64 by decide), Nat.and_two_pow_sub_one_eq_mod]
 rw [IntKind.wrap_u64]
 omega
theorem o_si (h l : Nat) (hl : l < 8) (hh : h < 288230376151711744) : bits BinOp.or IntKind.u64 ((h * 8 : Nat) : Int) (l : Int) = ((h * 8 + l : Nat) : Int) := by
 show IntKind.u64.wrap (((BitVec.ofInt 64 ((h * 8 : Nat) : Int)) ||| (BitVec.ofInt 64 (l : Int))).toNat : Int) = _
 rw [BitVec.toNat_or, BitVec.ofInt_natCast, BitVec.ofInt_natCast, BitVec.toNat_ofNat, BitVec.toNat_ofNat, Nat.mod_eq_of_lt (by omega), Nat.mod_eq_of_lt (by omega)]
 have := Nat.two_pow_add_eq_or_of_lt (i := 3) (b := l) (by omega) h
 rw [show 2 ^ 3 * h = h * 8 by omega] at this
 rw [← this, IntKind.wrap_u64]
 omega
end
end Go.Proofs.YtdklbnemfelpnaaGreatDoor.Am
namespace Go.Proofs.YtdklbnemfelpnaaGreatDoor.Am
section
open Go.RowKit
theorem and32 (x : Nat) (h : x < 18446744073709551616) : bits BinOp.and IntKind.u64 (x : Int) 4294967295 = ((x % 4294967296 : Nat) : Int) := by
 have := bits_and_u64_nat x 4294967295 h (by omega)
 rw [show ((4294967295 : Nat) : Int) = 4294967295 by rfl] at this
 rw [this, show (4294967295 : Nat) = 2 ^ 32 - 1 by rfl, Nat.and_two_pow_sub_one_eq_mod]

theorem o_sj (x y : Nat) (hx : x < 18446744073709551616) (hy : y < 18446744073709551616) :
  let x0 := x % 4294967296; let x1 := x / 4294967296; let y0 := y % 4294967296; let y1 := y / 4294967296
  let w0 := x0 * y0; let t := x1 * y0 + w0 / 4294967296; let w1 := t % 4294967296 + x0 * y1
  w0 < 18446744073709551616 ∧ x1 * y0 < 18446744073709551616 ∧ t < 18446744073709551616 ∧ x0 * y1 < 18446744073709551616 ∧ w1 < 18446744073709551616 ∧ x1 * y1 < 18446744073709551616 ∧
  x1 * y1 + t / 4294967296 < 18446744073709551616 ∧ x1 * y1 + t / 4294967296 + w1 / 4294967296 < 18446744073709551616 ∧
  x * y = (x1 * y1 + t / 4294967296 + w1 / 4294967296) * 18446744073709551616 + x * y % 18446744073709551616 := by
 intro x0 x1 y0 y1 w0 t w1
 have hx0 : x0 < 4294967296 := Nat.mod_lt _ (by decide)
 have hy0 : y0 < 4294967296 := Nat.mod_lt _ (by decide)
 have hx1 : x1 < 4294967296 := by simp only [x1]; omega
 have hy1 : y1 < 4294967296 := by simp only [y1]; omega
 have ex : x = x1 * 4294967296 + x0 := by simp only [x1, x0]; omega
 have ey : y = y1 * 4294967296 + y0 := by simp only [y1, y0]; omega
 have b : ∀ {a c : Nat}, a < 4294967296 → c < 4294967296 → a * c ≤ 18446744065119617025 := fun {a c} ha hc => by
  have := Nat.mul_le_mul (show a ≤ 4294967295 by omega) (show c ≤ 4294967295 by omega)
  omega
 have b00 := b hx0 hy0
 have b10 := b hx1 hy0
 have b01 := b hx0 hy1
 have b11 := b hx1 hy1
 have exy : x * y = x1 * y1 * 18446744073709551616 + (x1 * y0 + x0 * y1) * 4294967296 + x0 * y0 := by
  rw [ex, ey]
  simp only [Nat.add_mul, Nat.mul_add]
  have e1 : x1 * 4294967296 * (y1 * 4294967296) = x1 * y1 * 18446744073709551616 := by
   rw [Nat.mul_mul_mul_comm]
  have e2 : x1 * 4294967296 * y0 = x1 * y0 * 4294967296 := by rw [Nat.mul_right_comm]
  have e3 : x0 * (y1 * 4294967296) = x0 * y1 * 4294967296 := by rw [Nat.mul_assoc]
  rw [e1, e2, e3]; omega
 have hw0 : w0 = x0 * y0 := rfl
 generalize x * y = xy at exy ⊢
 generalize x0 * y0 = a00 at *
 have ht : t = x1 * y0 + w0 / 4294967296 := rfl
 generalize x1 * y0 = a10 at *
 have hw1 : w1 = t % 4294967296 + x0 * y1 := rfl
 generalize x0 * y1 = a01 at *
 generalize x1 * y1 = a11 at *
 clear_value w0 t w1
 omega

theorem o_sk (x y : Nat) (hx : x < 18446744073709551616) (hy : y < 18446744073709551616) : Eqn Tryz.prog o_a3 [.d (.int .u64 x), .d (.int .u64 y)] [] (.tup [.d (.int .u64 (x * y / 18446744073709551616 : Nat)), .d (.int .u64 (x * y % 18446744073709551616 : Nat))]) [] := by
 refine Eqn.pure o_a5 (o_jd _ _) ?_
 simp only [o_a4]
 have hp := o_sj x y hx hy
 simp only at hp
 have a1 := and32 x hx
 have a2 := and32 y hy
 have d1 : (x : Int) / 4294967296 = (x / 4294967296 : Nat) := rfl
 have d2 : (y : Int) / 4294967296 = (y / 4294967296 : Nat) := rfl
 have l1 : x % 4294967296 < 4294967296 := Nat.mod_lt _ (by decide)
 generalize x % 4294967296 = x0 at hp a1 l1
 generalize x / 4294967296 = x1 at hp d1
 generalize y % 4294967296 = y0 at hp a2
 generalize y / 4294967296 = y1 at hp d2
 obtain ⟨p1, p2, p3, p4, p5, p6, p7, p8, p9⟩ := hp
 have m1 : IntKind.u64.wrap ((x0 : Int) * y0) = (x0 * y0 : Nat) := by rw [← Int.natCast_mul]; exact wu64 (by omega) (by omega)
 have m2 : IntKind.u64.wrap ((x1 : Int) * y0) = (x1 * y0 : Nat) := by rw [← Int.natCast_mul]; exact wu64 (by omega) (by omega)
 have m3 : IntKind.u64.wrap ((x0 : Int) * y1) = (x0 * y1 : Nat) := by rw [← Int.natCast_mul]; exact wu64 (by omega) (by omega)
 have m4 : IntKind.u64.wrap ((x1 : Int) * y1) = (x1 * y1 : Nat) := by rw [← Int.natCast_mul]; exact wu64 (by omega) (by omega)
 have m5 : IntKind.u64.wrap ((x : Int) * y) = (x * y % 18446744073709551616 : Nat) := by rw [IntKind.wrap_u64, Int.natCast_emod, Int.natCast_mul]; rfl
 have lo : x * y % 18446744073709551616 < 18446744073709551616 := Nat.mod_lt _ (by decide)
 generalize x * y % 18446744073709551616 = low at *
 generalize x * y = xy at *
 generalize x0 * y0 = a00 at *
 generalize x1 * y0 = a10 at *
 generalize x0 * y1 = a01 at *
 generalize x1 * y1 = a11 at *
 have q1 : (a00 : Int) / 4294967296 = (a00 / 4294967296 : Nat) := rfl
 generalize a00 / 4294967296 = b0 at *
 have s1 : IntKind.u64.wrap ((a10 : Int) + b0) = (a10 + b0 : Nat) := wu64 (by omega) (by omega)
 have a3 := and32 (a10 + b0) p3
 have q2 : ((a10 + b0 : Nat) : Int) / 4294967296 = ((a10 + b0) / 4294967296 : Nat) := rfl
 generalize (a10 + b0) / 4294967296 = t1 at *
 generalize (a10 + b0) % 4294967296 = t0 at *
 generalize a10 + b0 = t at *
 have s2 : IntKind.u64.wrap ((t0 : Int) + a01) = (t0 + a01 : Nat) := wu64 (by omega) (by omega)
 have q3 : ((t0 + a01 : Nat) : Int) / 4294967296 = ((t0 + a01) / 4294967296 : Nat) := rfl
 generalize (t0 + a01) / 4294967296 = v1 at *
 generalize t0 + a01 = v at *
 have s3 : IntKind.u64.wrap ((a11 : Int) + t1) = (a11 + t1 : Nat) := wu64 (by omega) (by omega)
 have s4 : IntKind.u64.wrap (((a11 + t1 : Nat) : Int) + v1) = (a11 + t1 + v1 : Nat) := wu64 (by omega) (by omega)
 have fin : xy / 18446744073709551616 = a11 + t1 + v1 := by omega
 rw [fin]
 generalize a11 + t1 + v1 = hi at *
 generalize a11 + t1 = r at *
 refine G1 (fs a1 (fs a2 (fs d1 (fs d2 (fs m1 (fs m2 (fs m3 (fs m4 (fs m5 (fs q1 (fs s1 (fs a3 (fs q2 (fs s2 (fs q3 (fs s3 s4)))))))))))))))) ?_; try with_reducible exact tt
end
end Go.Proofs.YtdklbnemfelpnaaGreatDoor.Am
namespace Go.Proofs.YtdklbnemfelpnaaGreatDoor.Am
section
open Go.RowKit
theorem o_sl (a b : Nat) (ha : a < 18446744073709551616) (hb : b < 18446744073709551616) : Eqn Tryz.prog o_ei [.d (.int .u64 a), .d (.int .u64 b)] [] (.d (.int .u64 (a * b % hP : Nat))) [] := by
 refine Eqn.pure o_ek Plain.ok ?_
 have hm := o_sk (a % 2305843009213693951) (b % 2305843009213693951) (by omega) (by omega)
 obtain ⟨h1, h2, h3⟩ := hfold _ _ _ rfl rfl (o_sh (a := a) (b := b))
 rw [show a % 2305843009213693951 * (b % 2305843009213693951) % 2305843009213693951 = a * b % hP from (Nat.mul_mod a b 2305843009213693951).symm] at h3
 generalize a % 2305843009213693951 * (b % 2305843009213693951) / 18446744073709551616 = hi at *
 have hlo : a % 2305843009213693951 * (b % 2305843009213693951) % 18446744073709551616 < 18446744073709551616 := Nat.mod_lt _ (by decide)
 generalize a % 2305843009213693951 * (b % 2305843009213693951) % 18446744073709551616 = lo at *
 have g1 := and61 lo hlo
 have g2 := o_si hi (lo / 2305843009213693952) (by omega) h1
 have g3 : IntKind.u64.wrap ((hi : Int) * 8) = ((hi * 8 : Nat) : Int) := by rw [IntKind.wrap_u64]; omega
 have g4 : (lo : Int) / 2305843009213693952 = ((lo / 2305843009213693952 : Nat) : Int) := rfl
 generalize lo / 2305843009213693952 = l3 at *
 generalize lo % 2305843009213693952 = l61 at *
 generalize a * b % hP = r at *
 simp only [o_ej]
 refine G0 ?_; try with_reducible exact tt
 replace g2 : bits BinOp.or IntKind.u64 ((hi : Int) * 8) (l3 : Int) = ((hi * 8 + l3 : Nat) : Int) := by rw [← g2]; rfl
 generalize hq : hi * 8 + l3 = q at *
 have g5 : IntKind.u64.wrap ((l61 : Int) + q) = ((l61 + q : Nat) : Int) := by rw [IntKind.wrap_u64]; omega
 refine CallS.pu (hm) (R1 (fs g1 (fs g2 (fs g3 (fs g4 g5)))) ?_); try with_reducible exact tt
 refine Sub1.int ?_
 rw [Int.tmod_eq_emod_of_nonneg (by omega)]
 omega

def hD (a b : Nat) : D := .agg [.int .u64 a, .int .u64 b]
theorem o_sm (a b : Nat) (ha : a < hP) (hb : b < hP) : Eqn Tryz.prog o_8o [.d (hD a b)] [] (.d (.int .i64 0)) [] := by
 refine Eqn.pure o_8q Plain.ok ?_
 unfold hP at ha hb
 have h1 : ¬ (2305843009213693951 : Int) ≤ a := by omega
 have h2 : ¬ (2305843009213693951 : Int) ≤ b := by omega
 have h3 : ¬ 2305843009213693951 ≤ a := by omega
 have h4 : ¬ 2305843009213693951 ≤ b := by omega
 simp only [o_8p, hD]
 refine A10 (fs h1 (fs h2 (fs h3 h4))) ?_; try with_reducible exact tt
theorem o_sn (a b key : Nat) (ha : a < hP) (hb : b < hP) (hk : key < 18446744073709551616) : Eqn Tryz.prog o_co [.d (hD a b), .d (.int .u64 key)] [] (.d (.int .u64 (hsum a b key : Nat))) [] := by
 refine Eqn.pure o_cq Plain.ok ?_
 have h1 := o_sl a key (by unfold hP at ha; omega) hk
 have h2 : a * key % hP < hP := Nat.mod_lt _ (by decide)
 unfold hsum
 generalize a * key % hP = x at *
 unfold hP at *
 simp only [o_cp, hD]
 have e1 : IntKind.u64.wrap ((x : Int) + b) = ((x + b : Nat) : Int) := by rw [IntKind.wrap_u64]; omega
 refine A11 e1 h1 ?_; try with_reducible exact tt
 refine Sub1.int ?_
 rw [Int.tmod_eq_emod_of_nonneg (by omega)]
theorem o_so (a b key cols : Nat) (ha : a < hP) (hb : b < hP) (hk : key < hP) (h1 : 1 ≤ cols) (hc : cols ≤ 64) : Eqn Tryz.prog o_af [.d (hD a b), .d (.int .u64 key), .d (.int .i64 cols)] [] (.tup [.d (.int .i64 (hsum a b key % cols : Nat)), .d (.int .i64 0)]) [] := by
 refine Eqn.pure o_ah Plain.ok ?_
 have g0 := o_sm a b ha hb
 have g1 := o_sn a b key ha hb (by unfold hP at hk; omega)
 unfold hP at hk
 have e1 : ¬ (2305843009213693951 : Int) ≤ key := by omega
 have e2 : ¬ 2305843009213693951 ≤ key := by omega
 have e3 : ¬ (cols : Int) < 1 := by omega
 have e4 : ¬ (64 : Int) < cols := by omega
 have e5 : ¬ cols < 1 := by omega
 have e6 : ¬ 64 < cols := by omega
 have e7 : IntKind.u64.wrap (cols : Int) = cols := by rw [IntKind.wrap_u64]; omega
 have e8 : IntKind.i64.wrap ((hsum a b key : Int) % cols) = ((hsum a b key % cols : Nat) : Int) := by
  rw [← Int.natCast_emod]
  have := Nat.mod_lt (hsum a b key) (show 0 < cols by omega)
  exact w64 (by omega) (by omega)
 generalize hsum a b key = x at *
 simp only [o_ag, hD] at g0 g1 ⊢
 have e9 : (x : Int).tmod cols = (x : Int) % cols := by rw [Int.tmod_eq_emod_of_nonneg (by omega)]
 refine A12 (fs e1 (fs e2 (fs e3 (fs e4 (fs e5 (fs e6 (fs e7 (fs e8 e9)))))))) g0 g1 ?_; try with_reducible exact tt
end
end Go.Proofs.YtdklbnemfelpnaaGreatDoor.Am
namespace Go.Proofs.YtdklbnemfelpnaaGreatDoor.Am
section
section
variable {α β : Type} {f : α → List β} {n : Nat}
theorem o_sp (hf : ∀ x, (f x).length = n) : ∀ l : List α, (l.flatMap f).length = l.length * n
 | [] => by simp
 | x :: l => by rw [List.flatMap_cons, List.length_append, hf, o_sp hf l, List.length_cons, Nat.add_mul]; omega
theorem o_sq (hf : ∀ x, (f x).length = n) : ∀ (l : List α) (i : Nat), (l.flatMap f).drop (i * n) = (l.drop i).flatMap f
 | l, 0 => by simp
 | [], i + 1 => by simp
 | x :: l, i + 1 => by
  rw [List.flatMap_cons, List.drop_succ_cons, ← o_sq hf l i]
  have h := hf x
  rw [List.drop_append, List.drop_of_length_le (by rw [h, Nat.add_mul]; omega), h, Nat.add_mul]
  simp
theorem o_sr (hf : ∀ x, (f x).length = n) (l : List α) (i : Nat) (h : i < l.length) : ((l.flatMap f).drop (i * n)).take n = f l[i] := by
 rw [o_sq hf, List.drop_eq_getElem_cons h, List.flatMap_cons]
 conv => lhs; arg 1; rw [← hf l[i]]
 simp
theorem seg2 {l : List β} {k : Nat} {a b : β} (h : (l.drop k).take 2 = [a, b]) : (∀ h' : k < l.length, l[k] = a) ∧ l[k]? = some a ∧ (∀ h' : k + 1 < l.length, l[k + 1] = b) ∧ l[k + 1]? = some b := by
 have h0 := congrArg (fun l => l[0]?) h
 have h1 := congrArg (fun l => l[1]?) h
 simp only [List.getElem?_take, List.getElem?_drop] at h0 h1
 simp at h0 h1
 exact ⟨fun h' => by rw [List.getElem?_eq_getElem h'] at h0; simpa using h0, h0, fun h' => by rw [List.getElem?_eq_getElem h'] at h1; simpa using h1, h1⟩
theorem o_ss (l : List α) (i : Nat) (h : i < l.length) : l.take (i + 1) = l.take i ++ [l[i]] := by
 rw [List.take_add_one, List.getElem?_eq_getElem h]; rfl
end
end
end Go.Proofs.YtdklbnemfelpnaaGreatDoor.Am
namespace Go.Proofs.YtdklbnemfelpnaaGreatDoor.Am
section
open Go.RowKit
structure Rw where
 a : Nat
 b : Nat
 l : List ST
def rowD (k a b : Nat) (r : Rw) : List D := [.int .u64 r.a, .int .u64 r.b, .ptr (arrD k a b r.l) 0]
def rowsD (k a b : Nat) (rs : List Rw) : List D := rs.flatMap (rowD k a b)
def skD (R C k a b : Nat) (rs : List Rw) (T : Nat) : List D := [.int .i64 R, .int .i64 C, .int .i64 k, .int .i64 a, .int .i64 b, .sl rs.length (rowsD k a b rs), .int .i64 T]
def skO (R C k a b : Nat) (rs : List Rw) (T : Nat) : Ob := ⟨147, (skD R C k a b rs T).map .d⟩
def cpD (R C k a b : Nat) : D := .agg [.int .i64 R, .int .i64 C, .int .i64 k, .int .i64 a, .int .i64 b]
def GoodP (R C k a b : Nat) : Prop := 1 ≤ R ∧ R ≤ 4 ∧ 1 ≤ C ∧ C ≤ 64 ∧ GoodR k a b
def GoodRow (C k a b : Nat) (r : Rw) : Prop := r.a < hP ∧ r.b < hP ∧ r.l.length = C ∧ wells k a b r.l
def hashesD (hs : List (Nat × Nat)) : List D := hs.flatMap fun h => [.int .u64 h.1, .int .u64 h.2]
def newRow (C : Nat) (h : Nat × Nat) : Rw := ⟨h.1, h.2, List.replicate C (0, 0, false)⟩

theorem o_st {R C k a b : Nat} (h : GoodP R C k a b) : Eqn Tryz.prog o_8f [.d (cpD R C k a b)] [] (.d (.int .i64 0)) [] := by
 refine Eqn.pure o_8h Plain.ok ?_
 obtain ⟨h1, h2, h3, h4, hg⟩ := h
 have hc := o_pk hg
 have g1 : ¬ (R : Int) < 1 := by omega
 have g2 : ¬ (4 : Int) < R := by omega
 have g3 : ¬ (C : Int) < 1 := by omega
 have g4 : ¬ (64 : Int) < C := by omega
 have n1 : ¬ R < 1 := by omega
 have n2 : ¬ 4 < R := by omega
 have n3 : ¬ C < 1 := by omega
 have n4 : ¬ 64 < C := by omega
 simp only [o_8g, cpD, parD] at hc ⊢
 refine A11 (fs g1 (fs g2 (fs g3 (fs g4 (fs n1 (fs n2 (fs n3 n4))))))) hc ?_; try with_reducible exact tt

set_option maxHeartbeats 1000000 in
theorem o_su {R C k a b : Nat} (h : GoodP R C k a b) (hs : List (Nat × Nat)) (hl : hs.length = R) (hh : ∀ x ∈ hs, x.1 < hP ∧ x.2 < hP) :
  Eqn Tryz.prog o_7l [.d (cpD R C k a b), .d (.sl R (hashesD hs))] [] (.tup [.p 0 0, .d (.int .i64 0)]) [skO R C k a b (hs.map (newRow C)) 0] := by
 refine Eqn.gen [1] o_7n (by simp) (by simp) (by rfl) (by decide) (by simp) (by simp [skO, skD]) ?_
 have hc := o_st h
 obtain ⟨h1, h2, h3, h4, hg⟩ := h
 have hn := o_re C hg h3 (by omega)
 have hhl : (hashesD hs).length = R * 2 := by rw [← hl]; exact o_sp (by simp) hs
 subst hl
 simp only [o_7m, cpD, arrO, arrV, arrB, vecO, vecB, List.length_replicate, parD] at hc hn ⊢
 have hL0 : u64s (wordsP (wdR k a b) (encs k a b (List.replicate C (0, 0, false)))) = ((wordsP (wdR k a b) (encs k a b (List.replicate C (0, 0, false)))).map fun x : Nat => D.int .u64 x).map V.d := by simp [u64s]
 have hrow : ∀ x : Nat × Nat, rowD k a b (newRow C x) = [.int .u64 x.1, .int .u64 x.2, .ptr [.ptr [.sl (nwP C (wdR k a b)) ((wordsP (wdR k a b) (encs k a b (List.replicate C (0, 0, false)))).map fun x : Nat => D.int .u64 x), .int .i64 C, .int .i64 (wdR k a b)] 0, .int .i64 k, .int .i64 a, .int .i64 b] 0] := by
  intro x
  simp [rowD, newRow, arrD, vecD]
 have hWl : ((wordsP (wdR k a b) (encs k a b (List.replicate C (0, 0, false)))).map fun x : Nat => D.int .u64 x).length = nwP C (wdR k a b) := by simp
 generalize hW : ((wordsP (wdR k a b) (encs k a b (List.replicate C (0, 0, false)))).map fun x : Nat => D.int .u64 x) = WD at *
 rw [hL0] at hn
 generalize nwP C (wdR k a b) = NW at *
 generalize wdR k a b = w at *
 have htk : WD.take NW = WD := List.take_of_length_le (by omega)
 obtain ⟨F, hF⟩ : ∃ F : Nat → List D, F = fun i => rowsD k a b ((hs.take i).map (newRow C)) := ⟨_, rfl⟩
 have hF0 : F 0 = [] := by rw [hF]; simp [rowsD]
 have hFn : F hs.length = rowsD k a b (hs.map (newRow C)) := by rw [hF]; simp
 have hFl : ∀ i, i ≤ hs.length → (F i).length = i * 3 := by
  intro i hi
  rw [hF]
  show (rowsD k a b ((hs.take i).map (newRow C))).length = i * 3
  unfold rowsD
  rw [o_sp (n := 3) (fun x => by simp [rowD]), List.length_map, List.length_take]; omega
 have hFs : ∀ i (h : i < hs.length), F (i + 1) = F i ++ [.int .u64 hs[i].1, .int .u64 hs[i].2, .ptr [.ptr [.sl NW WD, .int .i64 C, .int .i64 w] 0, .int .i64 k, .int .i64 a, .int .i64 b] 0] := by
  intro i hiN
  rw [hF]
  show rowsD k a b ((hs.take (i + 1)).map (newRow C)) = rowsD k a b ((hs.take i).map (newRow C)) ++ _
  rw [← hrow hs[i], o_ss _ _ hiN, List.map_append, rowsD, List.flatMap_append]; simp [rowsD]
 have hsk : skO hs.length C k a b (hs.map (newRow C)) 0 = ⟨147, [.d (.int .i64 hs.length), .d (.int .i64 C), .d (.int .i64 k), .d (.int .i64 a), .d (.int .i64 b), .d (.sl hs.length (F hs.length)), .d (.int .i64 (0 : Nat))]⟩ := by
  rw [hFn]; simp [skO, skD]
 rw [hsk]
 clear hF hFn hrow hsk
 refine A01 hc ?_; try with_reducible exact tt
 refine AW.loopG (α := Nat) (fun i => setS (List.replicate 64 .junk) [(2, .p 0 0), (7, .p 1 0), (28, .d (.sl hs.length (hashesD hs))), (29, .d (.int .i64 hs.length)), (30, .d (.int .i64 (i : Int)))]) (fun i => some ⟨88, [.d (.int .i64 hs.length), .d (.int .i64 C), .d (.int .i64 k), .d (.int .i64 a), .d (.int .i64 b)]⟩ :: (if i = 0 then [some ⟨147, [.d (.int .i64 hs.length), .d (.int .i64 C), .d (.int .i64 k), .d (.int .i64 a), .d (.int .i64 b), .d .nilsl, .d (.int .i64 0)]⟩] else [some ⟨147, [.d (.int .i64 hs.length), .d (.int .i64 C), .d (.int .i64 k), .d (.int .i64 a), .d (.int .i64 b), .own 2 3 i, .d (.int .i64 0)]⟩, some ⟨150, (F i).map .d⟩])) (fun i => i ≤ hs.length) (fun i => hs.length - i) 0 ?_ (Nat.zero_le _) ?_ ?_ ?_
 ·intro i hi; split <;> simp
 ·simp
 ·simp
 rintro i hi
 by_cases hiN : i < hs.length
 ·have hi1 : (i : Int) < hs.length := by omega
  have hgt := o_sr (f := fun h : Nat × Nat => [D.int .u64 h.1, D.int .u64 h.2]) (n := 2) (by simp) hs i hiN
  have hgt' : ((hashesD hs).drop (i * 2)).take 2 = [D.int .u64 hs[i].1, D.int .u64 hs[i].2] := hgt
  have hck := o_sm hs[i].1 hs[i].2 (hh _ (List.getElem_mem _)).1 (hh _ (List.getElem_mem _)).2
  have hsn := hFs i hiN
  have hbd : i * 2 + 2 ≤ hs.length * 2 := by omega
  have ew : IntKind.i64.wrap ((i : Int) + 1) = (i : Int) + 1 := w64 (by omega) (by omega)
  clear hgt
  generalize hs[i].1 = x1 at *
  generalize hs[i].2 = x2 at *
  by_cases hi0 : i = 0
  ·subst hi0
   simp [hF0] at hgt' hsn
   simp
   refine A11 (fs hiN (fs hi1 (fs hgt' hhl))) hck ?_; try with_reducible exact tt
   refine CallS.g [] (hn) (R0 ?_); try with_reducible exact tt
   refine AW.freeze 5 1 ⟨129, WD.map V.d⟩ WD (by simp) rfl ?_
   simp [frzH, htk]
   refine AW.freeze 4 1 ⟨223, [.d (.sl NW WD), .d (.int .i64 C), .d (.int .i64 w)]⟩ [.sl NW WD, .int .i64 C, .int .i64 w] (by rfl) rfl ?_
   simp [frzH]
   refine AW.freeze 3 1 ⟨154, [.d (.ptr [.sl NW WD, .int .i64 C, .int .i64 w] 0), .d (.int .i64 k), .d (.int .i64 a), .d (.int .i64 b)]⟩ [.ptr [.sl NW WD, .int .i64 C, .int .i64 w] 0, .int .i64 k, .int .i64 a, .int .i64 b] (by rfl) rfl ?_
   simp [frzH]
   refine A00 ?_; try with_reducible exact tt
   refine ⟨1, 2, 7, by simp, by omega, by omega, ?_, ?_⟩
   ·simp [swT, swH, sw, Ob.sw, V.ren, V.rens]
   ·simp [swT, swH, sw, Ob.sw, V.ren, V.rens, hsn]
  ·rw [if_neg hi0]
   simp
   refine A11 (fs hiN (fs hi1 (fs hgt' (fs hhl hbd)))) hck ?_; try with_reducible exact tt
   refine CallS.g [] (hn) (R0 ?_); try with_reducible exact tt
   refine AW.freeze 6 1 ⟨129, WD.map V.d⟩ WD (by simp) rfl ?_
   simp [frzH, htk]
   refine AW.freeze 5 1 ⟨223, [.d (.sl NW WD), .d (.int .i64 C), .d (.int .i64 w)]⟩ [.sl NW WD, .int .i64 C, .int .i64 w] (by rfl) rfl ?_
   simp [frzH]
   refine AW.freeze 4 1 ⟨154, [.d (.ptr [.sl NW WD, .int .i64 C, .int .i64 w] 0), .d (.int .i64 k), .d (.int .i64 a), .d (.int .i64 b)]⟩ [.ptr [.sl NW WD, .int .i64 C, .int .i64 w] 0, .int .i64 k, .int .i64 a, .int .i64 b] (by rfl) rfl ?_
   simp [frzH]
   have hfl := hFl i hi
   refine A10 (fs hfl ew) ?_; try with_reducible exact tt
   refine ⟨i + 1, 2, 8, by simp, by omega, by omega, ?_, ?_⟩
   ·simp [swT, swH, sw, Ob.sw, V.ren, V.rens]
   ·simp [swT, swH, sw, Ob.sw, V.ren, V.rens, hsn]
 ·have h2 : i = hs.length := by omega
  subst h2
  have hz : hs.length ≠ 0 := by omega
  have hfl := hFl hs.length (Nat.le_refl _)
  rw [if_neg hz]
  simp
  refine AW.freeze 2 3 ⟨150, (F hs.length).map .d⟩ (F hs.length) (by simp) rfl ?_
  have htk2 : (F hs.length).take (hs.length * 3) = F hs.length := List.take_of_length_le (by omega)
  simp [frzH, htk2]
  refine A00 ?_; try with_reducible exact tt
theorem o_sv (hs : List (Nat × Nat)) (i : Nat) (h : i < hs.length) : ((hashesD hs).drop (i * 2)).take 2 = [.int .u64 hs[i].1, .int .u64 hs[i].2] := o_sr (f := fun h : Nat × Nat => [D.int .u64 h.1, D.int .u64 h.2]) (n := 2) (by simp) hs i h
theorem o_sw (hs : List (Nat × Nat)) : (hashesD hs).length = hs.length * 2 := o_sp (f := fun h : Nat × Nat => [D.int .u64 h.1, D.int .u64 h.2]) (n := 2) (by simp) hs
end
end Go.Proofs.YtdklbnemfelpnaaGreatDoor.Am
namespace Go.Proofs.YtdklbnemfelpnaaGreatDoor.Am
section
open Go.RowKit
def rowB (k a b : Nat) (r : Rw) : List Bool := bitsW r.a 61 ++ (bitsW r.b 61 ++ packBits (wdR k a b) (encs k a b r.l))
def rowsB (k a b : Nat) (rs : List Rw) : List Bool := rs.flatMap (rowB k a b)
def skB (k a b T : Nat) (rs : List Rw) : List Bool := varB T ++ rowsB k a b rs
theorem o_sx (k a b T : Nat) (rs : List Rw) (r : Rw) : skB k a b T (rs ++ [r]) = ((skB k a b T rs ++ bitsW r.a 61) ++ bitsW r.b 61) ++ packBits (wdR k a b) (encs k a b r.l) := by
 simp [skB, rowsB, rowB]
theorem o_sy (n : Nat) : varB n ≠ [] := by
 intro h
 unfold varB at h
 split at h <;> simp [bitsW] at h
theorem o_sz {C k a b : Nat} (hg : GoodR k a b) (hC : C ≤ 64) {r : Rw} (hr : GoodRow C k a b r) : (rowB k a b r).length ≤ 1200 := by
 have h1 := (o_r0 hg).2
 have h2 := o_s2 (wdR k a b) (encs k a b r.l)
 rw [o_r3, hr.2.2.1] at h2
 have h3 : C * wdR k a b ≤ 64 * 16 := Nat.mul_le_mul hC h1
 simp only [rowB, List.length_append, o_o2, h2]
 omega
theorem o_t0 {C k a b : Nat} (hg : GoodR k a b) (hC : C ≤ 64) : ∀ rs : List Rw, (∀ r ∈ rs, GoodRow C k a b r) → (rowsB k a b rs).length ≤ rs.length * 1200
 | [], _ => by simp [rowsB]
 | r :: rs, h => by
  have h1 := o_sz hg hC (h r (by simp))
  have h2 := o_t0 hg hC rs fun x hx => h x (by simp [hx])
  have : rowsB k a b (r :: rs) = rowB k a b r ++ rowsB k a b rs := by simp [rowsB]
  rw [this, List.length_append, List.length_cons]
  omega
theorem o_t1 : ∀ (j n : Nat), n < 128 ^ (j + 1) → (varB n).length ≤ 8 * (j + 1)
 | 0, n, h => by
  unfold varB
  rw [if_pos (by simpa using h)]
  simp
 | j + 1, n, h => by
  unfold varB
  split
  ·simp; omega
  ·have h2 : n / 128 < 128 ^ (j + 1) := by
    rw [Nat.pow_succ] at h
    exact Nat.div_lt_of_lt_mul (by rw [Nat.mul_comm]; exact h)
   have := o_t1 j (n / 128) h2
   simp
   omega

set_option maxHeartbeats 1000000 in
theorem o_t2 {R C k a b T : Nat} (hg : GoodR k a b) (hC0 : 1 ≤ C) (hC : C ≤ 64) (rs : List Rw) (h1 : 1 ≤ rs.length) (h4 : rs.length ≤ 4) (hr : ∀ r ∈ rs, GoodRow C k a b r) (hT : T ≤ 1099511627776) :
  Eqn Tryz.prog o_5x [.p 0 0, .p 1 0] [skO R C k a b rs T, ⟨78, [.d .nilsl, .d (.int .i64 0)]⟩] (.tup []) [skO R C k a b rs T, wrO 2 (skB k a b T rs), wrB (skB k a b T rs)] := by
 refine Eqn.gen [0, 1, 2] o_5z (by simp) (by simp) (by rfl) (by decide) (by simp) (by simp [skO, skD, wrO, wrB]) ?_
 have hw := o_r0 hg
 have hpv := o_sa T (by omega)
 have hvl := o_t1 5 T (by simp; omega)
 have hrl : (rowsD k a b rs).length = rs.length * 3 := by rw [rowsD, o_sp (n := 3) (fun x => by simp [rowD])]
 simp only [o_5y, skO, skD, wrO, wrB] at hpv ⊢
 refine A00 ?_; try with_reducible exact tt
 refine CallS.g [1] (hpv) (R0 ?_); try with_reducible exact tt
 refine AW.loopG (α := Nat) (fun i => [.p 0 0, .p 1 0] ++ List.replicate 14 .junk ++ [.d (.sl rs.length (rowsD k a b rs)), .d (.int .i64 rs.length), .d (.int .i64 (i : Int))] ++ List.replicate 21 .junk) (fun i => [some (skO R C k a b rs T), some (wrO 2 (skB k a b T (rs.take i))), some (wrB (skB k a b T (rs.take i)))]) (fun i => i ≤ rs.length) (fun i => rs.length - i) 0 ?_ (Nat.zero_le _) ?_ ?_ ?_
 ·intro i hi; simp
 ·simp
 ·simp [skB, rowsB, wrO, wrB, skO, skD]
 rintro i hi
 have hbl := o_t0 hg hC (rs.take i) fun r h => hr r (List.mem_of_mem_take h)
 rw [List.length_take, Nat.min_eq_left hi] at hbl
 have hbl2 : (skB k a b T (rs.take i)).length ≤ 5000 := by rw [skB, List.length_append]; omega
 have hne : skB k a b T (rs.take i) ≠ [] := fun h => o_sy T (List.append_eq_nil_iff.1 h).1
 by_cases hi' : i < rs.length
 ·have h1' : (i : Int) < rs.length := by omega
  have hgt : ((rowsD k a b rs).drop (i * 3)).take 3 = rowD k a b rs[i] := o_sr (n := 3) (fun x => by simp [rowD]) rs i hi'
  obtain ⟨ha, hb, hl, hwl⟩ := hr _ (List.getElem_mem hi')
  have hsn := o_sx k a b T (rs.take i) rs[i]
  rw [← o_ss _ _ hi'] at hsn
  have ew : IntKind.i64.wrap ((i : Int) + 1) = ((i + 1 : Nat) : Int) := by rw [w64 (by omega) (by omega)]; omega
  have hbd : i * 3 + 3 ≤ rs.length * 3 := by omega
  have hP61 : hP < 2 ^ 61 := by decide
  generalize rs[i] = r at *
  generalize hX0 : skB k a b T (rs.take i) = X0 at *
  have hA := o_p0 X0 r.a 61 hne (by omega) (by omega) (by omega) (by omega)
  have hB := o_p0 (X0 ++ bitsW r.a 61) r.b 61 (by simp [hne]) (by simp; omega) (by omega) (by omega) (by omega)
  have hE := o_s5 ((X0 ++ bitsW r.a 61) ++ bitsW r.b 61) (wdR k a b) (encs k a b r.l) (by simp [hne]) (by simp; omega) (by simp; omega) (by simp; omega) (by omega) (by omega) (o_r4 _ _ _ _)
  rw [← hsn] at hE
  generalize X0 ++ bitsW r.a 61 = X1 at *
  generalize X1 ++ bitsW r.b 61 = X2 at *
  generalize hX3 : skB k a b T (rs.take (i + 1)) = X3 at *
  simp only [rowD, arrD] at hgt
  generalize vecD (wdR k a b) (encs k a b r.l) = VD at *
  simp only [skO, skD, wrO, wrB] at hA hB hE ⊢
  simp
  refine A10 (fs h1' (fs hi' (fs hgt (fs hrl hbd)))) ?_; try with_reducible exact tt
  refine CallS.g [1, 2] (hA) (R0 ?_); try with_reducible exact tt
  refine CallS.g [1, 4] (hB) (R0 ?_); try with_reducible exact tt
  refine CallS.g [1, 5] (hE) (R1 ew ?_); try with_reducible exact tt
  refine ⟨i + 1, 2, 6, by simp, by omega, by omega, ?_, ?_⟩
  ·simp [swT, swH, sw, Ob.sw, V.ren, V.rens]
  ·simp [swT, swH, sw, Ob.sw, V.ren, V.rens, hX3]
 ·have h2 : i = rs.length := by omega
  subst h2
  rw [List.take_length]
  simp only [skO, skD, wrO, wrB]
  refine A00 ?_; try with_reducible exact tt
end
end Go.Proofs.YtdklbnemfelpnaaGreatDoor.Am
namespace Go.Proofs.YtdklbnemfelpnaaGreatDoor.Am
section
open Go.RowKit
def varR (ws : List Nat) : Nat → Nat → Nat → Nat → Nat × Int × Nat
 | 0, _, _, a => (0, 4, a)
 | f + 1, j, n, a => if 8 * ws.length - a < 8 then (0, 5, a)
  else if (j = 9 ∧ 1 < numAt ws a 8 % 128) ∨ (0 < j ∧ numAt ws a 8 = 0) then (0, 4, a + 8)
  else if numAt ws a 8 < 128 then (n + numAt ws a 8 % 128 * 2 ^ (7 * j), 0, a + 8)
  else varR ws f (j + 1) (n + numAt ws a 8 % 128 * 2 ^ (7 * j)) (a + 8)
theorem o_t3 (ws : List Nat) (a : Nat) : numAt ws a 8 < 256 := by
 unfold numAt
 have h := o_o1 (((bitsOf ws).drop a).take 8)
 refine Nat.lt_of_lt_of_le h ?_
 have : (((bitsOf ws).drop a).take 8).length ≤ 8 := by rw [List.length_take]; omega
 exact Nat.pow_le_pow_right (by decide) this
theorem o_t4 (n p s : Nat) (h : n < 2 ^ s) : n ||| p * 2 ^ s = n + p * 2 ^ s := by
 have := Nat.two_pow_add_eq_or_of_lt (i := s) (b := n) h p
 rw [Nat.or_comm, Nat.mul_comm p, ← this, Nat.add_comm]
set_option maxHeartbeats 2000000 in
theorem o_t5 (ws : List Nat) (a0 : Nat) (hs : smallB ws) (hn : ws.length ≤ 400000) (ha : a0 ≤ 8 * ws.length) (R : Nat × Int × Nat) (hR : R = varR ws 10 0 0 a0) : Eqn Tryz.prog o_8i [.p 0 0] [rdO ws a0] (.tup [.d (.int .u64 R.1), .d (.int .i64 R.2.1)]) [rdO ws R.2.2] := by
 refine Eqn.obj1 o_8k Plain.ok ⟨rfl, fun _ => rfl⟩ ?_
 simp only [o_8j]
 refine A00 ?_; try with_reducible exact tt
 refine AW.loopT (α := Nat × Nat × Nat) 1 (fun s => [(4, .d (.int .u64 (s.2.1 : Nat))), (9, .d (.int .i64 (s.1 : Nat)))]) (fun s => [(0, rdO ws s.2.2)]) (fun s => s.1 ≤ 10 ∧ s.2.1 < 2 ^ (7 * s.1) ∧ s.2.2 ≤ 8 * ws.length ∧ varR ws (10 - s.1) s.1 s.2.1 s.2.2 = R) (fun s => 10 - s.1) (0, 0, a0) ?_ ?_ ⟨by simp, by simp, ha, hR.symm⟩ ?_ ?_ ?_
 ·simp
 ·simp
 ·simp
 ·simp [rdO]
 rintro ⟨j, n, a⟩ ⟨hj, hnl, hal, hRR⟩
 simp only at hj hnl hal hRR
 simp only [rdO]
 simp
 by_cases hj10 : j < 10
 ·have hj' : (j : Int) < 10 := by omega
  obtain ⟨f, hf⟩ : ∃ f, 10 - j = f + 1 := ⟨9 - j, by omega⟩
  rw [hf, varR] at hRR
  by_cases hend : 8 * ws.length - a < 8
  ·rw [if_pos hend] at hRR
   subst hRR
   have hre := o_pb ws a 8 (by decide) (by omega) hal hend
   simp only [rdO] at hre
   refine A10 (fs hj10 hj') ?_; try with_reducible exact tt
   refine CallS.o1 0 (hre) (R0 ?_); try with_reducible exact tt
   refine A00 ?_; try with_reducible exact tt
  ·rw [if_neg hend] at hRR
   have hre := o_pc ws a 8 hs (by decide) (by omega) (by omega)
   have hg8 := o_t3 ws a
   generalize numAt ws a 8 = g at *
   obtain ⟨p, hp⟩ : ∃ p, p = g % 128 := ⟨_, rfl⟩
   rw [← hp] at hRR
   have hand := o_qo g 127 (by omega) (by decide)
   rw [show g &&& 127 = g % 128 from Nat.and_two_pow_sub_one_eq_mod g 7, ← hp, show ((127 : Nat) : Int) = 127 from rfl] at hand
   simp only [rdO] at hre
   obtain ⟨s, hs7⟩ : ∃ s, s = 7 * j := ⟨_, rfl⟩
   rw [← hs7] at hRR hnl
   have hs63 : (s : Int) ≤ 64 := by omega
   have x7 : IntKind.i64.wrap (7 * (j : Int)) = s := by rw [w64 (by omega) (by omega)]; omega
   have hpl : p < 128 := by omega
   have hfx : (j = 9 → ¬ 1 < p) → ∃ n1 q : Nat, n1 = n + p * 2 ^ s ∧ q = p * 2 ^ s ∧ IntKind.u64.wrap ((p : Int) * 2 ^ s) = q ∧ bits BinOp.or IntKind.u64 (n : Int) (q : Int) = n1 ∧ n1 < 2 ^ (7 * (j + 1)) := by
    intro hc
    have h1 : p * 2 ^ s < 18446744073709551616 := by
     by_cases h9 : j = 9
     ·have : s = 63 := by omega
      subst this
      have := hc h9
      omega
     ·have h2 : p * 2 ^ s < 2 ^ 7 * 2 ^ s := Nat.mul_lt_mul_of_pos_right (by omega) (Nat.two_pow_pos s)
      rw [← Nat.pow_add] at h2
      exact Nat.lt_of_lt_of_le h2 (Nat.le_trans (Nat.pow_le_pow_right (by decide) (show 7 + s ≤ 64 by omega)) (by decide))
    have h2 : 2 ^ s ≤ 18446744073709551616 := Nat.le_trans (Nat.pow_le_pow_right (by decide) (show s ≤ 64 by omega)) (by decide)
    refine ⟨n + p * 2 ^ s, p * 2 ^ s, rfl, rfl, ?_, ?_, ?_⟩
    ·rw [show ((p : Int) * 2 ^ s) = ((p * 2 ^ s : Nat) : Int) by rw [Int.natCast_mul, Int.natCast_pow]; rfl]
     exact wu64 (by omega) (by omega)
    ·rw [o_p6 n (p * 2 ^ s) (by omega) h1, o_t4 n p s hnl]
    ·have h3 : 2 ^ (7 * (j + 1)) = 128 * 2 ^ s := by rw [show 7 * (j + 1) = s + 7 by omega, Nat.pow_add, Nat.mul_comm]
     rw [h3]
     have h4 : p * 2 ^ s ≤ 127 * 2 ^ s := Nat.mul_le_mul_right _ (by omega)
     generalize 2 ^ s = u at *
     generalize p * u = v at *
     omega
   by_cases hj9 : j = 9
   ·have hj9' : (j : Int) = 9 := by omega
    by_cases hp1 : 1 < p
    ·have hp1' : (1 : Int) < p := by omega
     rw [if_pos (by omega)] at hRR
     subst hRR
     refine A10 (fs hj10 hj') ?_; try with_reducible exact tt
     refine CallS.o1 0 (hre) (R1 (fs hand (fs hj9 (fs hj9' (fs hp1 hp1')))) ?_); try with_reducible exact tt
     refine A10 (fs hand (fs hj9 (fs hj9' (fs hp1 hp1')))) ?_; try with_reducible exact tt
    ·have hp1' : ¬ (1 : Int) < p := by omega
     have hj0 : 0 < j := by omega
     have hj0' : (0 : Int) < j := by omega
     by_cases hg0 : g = 0
     ·have hg0' : (g : Int) = 0 := by omega
      rw [if_pos (by omega)] at hRR
      subst hRR
      refine A10 (fs hj10 hj') ?_; try with_reducible exact tt
      refine CallS.o1 0 (hre) (R1 (fs hand (fs hj9 (fs hj9' (fs hp1 (fs hp1' (fs hj0 (fs hj0' (fs hg0 hg0')))))))) ?_); try with_reducible exact tt
      refine A10 (fs hand (fs hj9 (fs hj9' (fs hp1 (fs hp1' (fs hj0 (fs hj0' (fs hg0 hg0')))))))) ?_; try with_reducible exact tt
     ·have hg0' : ¬ (g : Int) = 0 := by omega
      obtain ⟨n1, q, hn1e, hqe, xsh, hor, hn1⟩ := hfx (by omega)
      rw [← hn1e] at hRR
      have hor9 : bits BinOp.or IntKind.u64 (n : Int) ((p : Int) * 9223372036854775808) = n1 := by
       rw [← hor, hqe, show s = 63 by omega]; rfl
      clear hfx hn1e hqe
      rw [if_neg (by omega)] at hRR
      by_cases hlt : g < 128
      ·rw [if_pos hlt] at hRR
       have hlt' : (g : Int) < 128 := by omega
       subst hRR
       refine A10 (fs hj10 hj') ?_; try with_reducible exact tt
       refine CallS.o1 0 (hre) (R1 (fs hand (fs hj9 (fs hj9' (fs hp1 (fs hp1' (fs hj0 (fs hj0' (fs hg0 hg0')))))))) ?_); try with_reducible exact tt
       refine A10 (fs hand (fs hj9 (fs hj9' (fs hp1 (fs hp1' (fs hj0 (fs hj0' (fs hg0 (fs hg0' (fs x7 (fs xsh (fs hor (fs hor9 (fs hlt (fs hlt' hs63))))))))))))))) ?_; try with_reducible exact tt
      ·rw [if_neg hlt] at hRR
       have hlt' : ¬ (g : Int) < 128 := by omega
       have xj : IntKind.i64.wrap ((j : Int) + 1) = ((j + 1 : Nat) : Int) := by rw [w64 (by omega) (by omega)]; omega
       refine A10 (fs hj10 hj') ?_; try with_reducible exact tt
       refine CallS.o1 0 (hre) (R1 (fs hand (fs hj9 (fs hj9' (fs hp1 (fs hp1' (fs hj0 (fs hj0' (fs hg0 hg0')))))))) ?_); try with_reducible exact tt
       refine A10 (fs hand (fs hj9 (fs hj9' (fs hp1 (fs hp1' (fs hj0 (fs hj0' (fs hg0 (fs hg0' (fs x7 (fs xsh (fs hor (fs hor9 (fs hlt (fs hlt' (fs hs63 xj)))))))))))))))) ?_; try with_reducible exact tt
       exact ⟨j + 1, n1, a + 8, ⟨by omega, hn1, by omega, by rw [show 10 - (j + 1) = f by omega]; exact hRR⟩, by omega, ⟨Sub1.refl _, Sub1.int (by omega)⟩, Subs.of (by simp)⟩
   ·have hj9' : ¬ (j : Int) = 9 := by omega
    by_cases hj0 : 0 < j
    ·have hj0' : (0 : Int) < j := by omega
     by_cases hg0 : g = 0
     ·have hg0' : (g : Int) = 0 := by omega
      rw [if_pos (by omega)] at hRR
      subst hRR
      refine A10 (fs hj10 hj') ?_; try with_reducible exact tt
      refine CallS.o1 0 (hre) (R1 (fs hand (fs hj9 (fs hj9' (fs hj0 (fs hj0' (fs hg0 hg0')))))) ?_); try with_reducible exact tt
      refine A10 (fs hand (fs hj9 (fs hj9' (fs hj0 (fs hj0' (fs hg0 hg0')))))) ?_; try with_reducible exact tt
     ·have hg0' : ¬ (g : Int) = 0 := by omega
      obtain ⟨n1, q, hn1e, hqe, xsh, hor, hn1⟩ := hfx (by omega)
      rw [← hn1e] at hRR
      clear hfx hn1e hqe
      rw [if_neg (by omega)] at hRR
      by_cases hlt : g < 128
      ·rw [if_pos hlt] at hRR
       have hlt' : (g : Int) < 128 := by omega
       subst hRR
       refine A10 (fs hj10 hj') ?_; try with_reducible exact tt
       refine CallS.o1 0 (hre) (R1 (fs hand (fs hj9 (fs hj9' (fs hj0 (fs hj0' (fs hg0 hg0')))))) ?_); try with_reducible exact tt
       refine A10 (fs hand (fs hj9 (fs hj9' (fs hj0 (fs hj0' (fs hg0 (fs hg0' (fs x7 (fs xsh (fs hor (fs hlt (fs hlt' hs63)))))))))))) ?_; try with_reducible exact tt
      ·rw [if_neg hlt] at hRR
       have hlt' : ¬ (g : Int) < 128 := by omega
       have xj : IntKind.i64.wrap ((j : Int) + 1) = ((j + 1 : Nat) : Int) := by rw [w64 (by omega) (by omega)]; omega
       refine A10 (fs hj10 hj') ?_; try with_reducible exact tt
       refine CallS.o1 0 (hre) (R1 (fs hand (fs hj9 (fs hj9' (fs hj0 (fs hj0' (fs hg0 hg0')))))) ?_); try with_reducible exact tt
       refine A10 (fs hand (fs hj9 (fs hj9' (fs hj0 (fs hj0' (fs hg0 (fs hg0' (fs x7 (fs xsh (fs hor (fs hlt (fs hlt' (fs hs63 xj))))))))))))) ?_; try with_reducible exact tt
       exact ⟨j + 1, n1, a + 8, ⟨by omega, hn1, by omega, by rw [show 10 - (j + 1) = f by omega]; exact hRR⟩, by omega, ⟨Sub1.refl _, Sub1.int (by omega)⟩, Subs.of (by simp)⟩
    ·have hj0' : ¬ (0 : Int) < j := by omega
     obtain ⟨n1, q, hn1e, hqe, xsh, hor, hn1⟩ := hfx (by omega)
     rw [← hn1e] at hRR
     clear hfx hn1e hqe
     rw [if_neg (by omega)] at hRR
     by_cases hlt : g < 128
     ·rw [if_pos hlt] at hRR
      have hlt' : (g : Int) < 128 := by omega
      subst hRR
      refine A10 (fs hj10 hj') ?_; try with_reducible exact tt
      refine CallS.o1 0 (hre) (R1 (fs hand (fs hj9 (fs hj9' (fs hj0 hj0')))) ?_); try with_reducible exact tt
      refine A10 (fs hand (fs hj9 (fs hj9' (fs hj0 (fs hj0' (fs x7 (fs xsh (fs hor (fs hlt (fs hlt' hs63)))))))))) ?_; try with_reducible exact tt
     ·rw [if_neg hlt] at hRR
      have hlt' : ¬ (g : Int) < 128 := by omega
      have xj : IntKind.i64.wrap ((j : Int) + 1) = ((j + 1 : Nat) : Int) := by rw [w64 (by omega) (by omega)]; omega
      refine A10 (fs hj10 hj') ?_; try with_reducible exact tt
      refine CallS.o1 0 (hre) (R1 (fs hand (fs hj9 (fs hj9' (fs hj0 hj0')))) ?_); try with_reducible exact tt
      refine A10 (fs hand (fs hj9 (fs hj9' (fs hj0 (fs hj0' (fs x7 (fs xsh (fs hor (fs hlt (fs hlt' (fs hs63 xj))))))))))) ?_; try with_reducible exact tt
      exact ⟨j + 1, n1, a + 8, ⟨by omega, hn1, by omega, by rw [show 10 - (j + 1) = f by omega]; exact hRR⟩, by omega, ⟨Sub1.refl _, Sub1.int (by omega)⟩, Subs.of (by simp)⟩
 ·obtain rfl : j = 10 := by omega
  have hR0 : R = (0, 4, a) := by rw [← hRR]; rfl
  subst hR0
  refine A00 ?_; try with_reducible exact tt
end
end Go.Proofs.YtdklbnemfelpnaaGreatDoor.Am
namespace Go.Proofs.YtdklbnemfelpnaaGreatDoor.Am
section
open Go.RowKit
structure MR where
 e : Int
 l : List ST
 p : Nat
 d : Bool
def mergeUp (cs : List Bool) (k a b : Nat) (l m : List ST) (p : Nat) (d : Bool) : Nat → MR
 | 0 => ⟨0, [], p, d⟩
 | i + 1 =>
  let S := mergeUp cs k a b l m p d i
  if S.e = 0 then
   let R := mergeRM cs k a b (l.getD i (0, 0, false)).1 (l.getD i (0, 0, false)).2.1 (l.getD i (0, 0, false)).2.2 (m.getD i (0, 0, false)).1 (m.getD i (0, 0, false)).2.1 (m.getD i (0, 0, false)).2.2 S.p S.d
   if R.e = 0 then ⟨0, S.l ++ [(R.y, R.t, R.f)], R.p, R.d⟩ else ⟨R.e, S.l, R.p, R.d⟩
  else S
def twin (l acc : List ST) : List ST := acc ++ l.drop acc.length
theorem o_t6 {l acc : List ST} (h : acc.length ≤ l.length) : (twin l acc).length = l.length := by simp [twin]; omega
theorem o_t7 (l : List ST) : twin l [] = l := by simp [twin]
theorem o_t8 {l acc : List ST} (h : acc.length = l.length) : twin l acc = acc := by simp [twin, h]
theorem o_t9 {l acc : List ST} (h : acc.length < l.length) (s : ST) : (twin l acc).set acc.length s = twin l (acc ++ [s]) := by
 simp only [twin]
 rw [List.set_append_right _ _ (Nat.le_refl _), Nat.sub_self, List.drop_eq_getElem_cons h, List.set_cons_zero, List.length_append, List.length_singleton, List.append_assoc]
 rfl
theorem o_ta {k a b : Nat} {l acc : List ST} (hl : wells k a b l) (ha : wells k a b acc) : wells k a b (twin l acc) := by
 intro s hs
 rcases List.mem_append.1 hs with hs | hs
 ·exact ha s hs
 ·exact hl s (List.mem_of_mem_drop hs)
end
end Go.Proofs.YtdklbnemfelpnaaGreatDoor.Am
namespace Go.Proofs.YtdklbnemfelpnaaGreatDoor.Am
section
open Go.RowKit
structure AR where
 e : Int
 l : List ST
 p : Nat
def readA (ws : List Nat) (k a b at_ : Nat) : Nat → AR
 | 0 => ⟨0, [], at_⟩
 | i + 1 => if (readA ws k a b at_ i).e = 0 then
   (if (readR ws k a b (readA ws k a b at_ i).p).2.1 = 0 then ⟨0, (readA ws k a b at_ i).l ++ [(readR ws k a b (readA ws k a b at_ i).p).1], (readR ws k a b (readA ws k a b at_ i).p).2.2⟩ else ⟨(readR ws k a b (readA ws k a b at_ i).p).2.1, [], (readR ws k a b (readA ws k a b at_ i).p).2.2⟩)
  else readA ws k a b at_ i
theorem o_tb {ws : List Nat} {k a b at_ i : Nat} (h : (readA ws k a b at_ i).e ≠ 0) : ∀ j, readA ws k a b at_ (i + j) = readA ws k a b at_ i
 | 0 => rfl
 | j + 1 => by rw [← Nat.add_assoc, readA, o_tb h j, if_neg h]
theorem o_tc {ws : List Nat} {k a b p : Nat} (hp : p ≤ 8 * ws.length) : (readR ws k a b p).2.2 ≤ 8 * ws.length ∧ ((readR ws k a b p).2.1 = 0 → WellR k a b (readR ws k a b p).1.1 (readR ws k a b p).1.2.1 (readR ws k a b p).1.2.2) := by
 unfold readR
 by_cases h1 : 8 * ws.length - p < kwR k a b + twR k b + 1
 ·rw [if_pos h1]; exact ⟨hp, fun h => by simp at h⟩
 ·rw [if_neg h1]
  split
  ·rename_i h2
   exact ⟨by simp only; omega, fun _ => o_pl.1 h2⟩
  ·exact ⟨by simp only; omega, fun h => by simp at h⟩
theorem o_td {ws : List Nat} {k a b at_ : Nat} (h : at_ ≤ 8 * ws.length) : ∀ i, (readA ws k a b at_ i).p ≤ 8 * ws.length ∧ wells k a b (readA ws k a b at_ i).l ∧ ((readA ws k a b at_ i).e = 0 → (readA ws k a b at_ i).l.length = i)
 | 0 => ⟨h, by intro s hs; simp [readA] at hs, fun _ => rfl⟩
 | i + 1 => by
  obtain ⟨h1, h2, h3⟩ := o_td (k := k) (a := a) (b := b) h i
  have hr := o_tc (k := k) (a := a) (b := b) h1
  rw [readA]
  by_cases he : (readA ws k a b at_ i).e = 0
  ·rw [if_pos he]
   generalize readR ws k a b (readA ws k a b at_ i).p = R at *
   by_cases hz : R.2.1 = 0
   ·rw [if_pos hz]
    refine ⟨hr.1, fun s hs => ?_, fun _ => by simp [h3 he]⟩
    rcases List.mem_append.1 hs with hs | hs
    ·exact h2 s hs
    ·rw [List.mem_singleton] at hs; rw [hs]; exact hr.2 hz
   ·rw [if_neg hz]
    exact ⟨hr.1, by intro s hs; simp at hs, fun h => absurd h hz⟩
  ·rw [if_neg he]
   exact ⟨h1, h2, fun h => absurd h he⟩

set_option maxHeartbeats 2000000 in
theorem o_te {k a b n : Nat} (h : GoodR k a b) (n1 : 1 ≤ n) (n2 : n ≤ 256) (ws : List Nat) (hs : smallB ws) (hn : ws.length ≤ 400000) (at_ : Nat) (hat : at_ ≤ 8 * ws.length) (S : AR) (hS : S = readA ws k a b at_ n) :
  (S.e = 0 → Eqn Tryz.prog o_8r [.p 0 0, .d (parD k a b), .d (.int .i64 n)] [rdO ws at_] (.tup [.p 1 0, .d (.int .i64 0)]) [rdO ws S.p, arrO 2 k a b, arrV 3 k a b S.l, arrB k a b S.l]) ∧
  (S.e ≠ 0 → Eqn Tryz.prog o_8r [.p 0 0, .d (parD k a b), .d (.int .i64 n)] [rdO ws at_] (.tup [.d .nilp, .d (.int .i64 S.e)]) [rdO ws S.p]) := by
 have hc := o_re (k := k) (a := a) (b := b) n h n1 n2
 have hgood := o_td (k := k) (a := a) (b := b) hat
 constructor
 ·intro he
  refine Eqn.gen [0, 2, 3, 4] o_8t (by simp) (by simp) (by rfl) (by decide) (by simp) (by simp [arrO, arrV, arrB, vecO, vecB, rdO]) ?_
  have hSl : S.l.length = n := by rw [hS]; exact (hgood n).2.2 (by rw [← hS]; exact he)
  simp only [o_8s, arrO, arrV, arrB, vecO, vecB, parD, rdO, o_r3, List.length_replicate, hSl] at hc ⊢
  refine A00B ?_; try with_reducible exact tt
  refine CallS.g [] (hc) (R0B ?_); try with_reducible exact tt
  refine A00B ?_; try with_reducible exact tt
  refine AW.loopT (α := Nat) 5 (fun i => [(23, .d (.int .i64 (i : Nat)))]) (fun i => [(0, ⟨164, [.d (BY ws), .d (.int .i64 ((readA ws k a b at_ i).p : Nat))]⟩), (4, ⟨129, u64s (wordsP (wdR k a b) (encs k a b (twin (List.replicate n (0, 0, false)) (readA ws k a b at_ i).l)))⟩)]) (fun i => i ≤ n ∧ (readA ws k a b at_ i).e = 0) (fun i => n - i) 0 ?_ ?_ ⟨Nat.zero_le _, rfl⟩ ?_ ?_ ?_
  ·simp
  ·simp
  ·simp [-Bool.exists_bool]
  ·simp [o_t7, readA, -Bool.exists_bool]
  rintro i ⟨hi, hie⟩
  simp [-Bool.exists_bool]
  obtain ⟨gp, gw, gl⟩ := hgood i
  replace gl := gl hie
  have hrd := o_py ws (k := k) (a := a) (b := b) (readA ws k a b at_ i).p h hs hn gp _ rfl
  have hrw := o_tc (k := k) (a := a) (b := b) gp
  have hst : readA ws k a b at_ (i + 1) = if (readR ws k a b (readA ws k a b at_ i).p).2.1 = 0 then ⟨0, (readA ws k a b at_ i).l ++ [(readR ws k a b (readA ws k a b at_ i).p).1], (readR ws k a b (readA ws k a b at_ i).p).2.2⟩ else ⟨(readR ws k a b (readA ws k a b at_ i).p).2.1, [], (readR ws k a b (readA ws k a b at_ i).p).2.2⟩ := by
   rw [readA, if_pos hie]
  have ew : IntKind.i64.wrap ((i : Int) + 1) = ((i + 1 : Nat) : Int) := by rw [w64 (by omega) (by omega)]; omega
  have hw0 : wells k a b (List.replicate n (0, 0, false)) := o_rc h n
  have htl : (twin (List.replicate n (0, 0, false)) (readA ws k a b at_ i).l).length = n := by rw [o_t6 (by simp; omega)]; simp
  by_cases hin : i < n
  ·have hz : (readR ws k a b (readA ws k a b at_ i).p).2.1 = 0 := by
    by_cases hz : (readR ws k a b (readA ws k a b at_ i).p).2.1 = 0
    ·exact hz
    ·exfalso
     rw [if_neg hz] at hst
     have := o_tb (ws := ws) (k := k) (a := a) (b := b) (at_ := at_) (i := i + 1) (by rw [hst]; exact hz) (n - (i + 1))
     rw [show i + 1 + (n - (i + 1)) = n by omega, ← hS, hst] at this
     rw [this] at he
     exact hz he
   have hin' : (i : Int) < n := by omega
   have hset := o_rb (k := k) (a := a) (b := b) (twin (List.replicate n (0, 0, false)) (readA ws k a b at_ i).l) i (readR ws k a b (readA ws k a b at_ i).p).1.1 (readR ws k a b (readA ws k a b at_ i).p).1.2.1 (readR ws k a b (readA ws k a b at_ i).p).1.2.2 h (o_ta hw0 gw) (by omega) (by omega) (hrw.2 hz)
   have hts := o_t9 (l := List.replicate n (0, 0, false)) (acc := (readA ws k a b at_ i).l) (by simp; omega) (readR ws k a b (readA ws k a b at_ i).p).1
   rw [gl] at hts
   rw [if_pos hz] at hst
   have htl2 : (twin (List.replicate n (0, 0, false)) ((readA ws k a b at_ i).l ++ [(readR ws k a b (readA ws k a b at_ i).p).1])).length = n := by rw [o_t6 (by simp; omega)]; simp
   rw [show ((readR ws k a b (readA ws k a b at_ i).p).1.1, (readR ws k a b (readA ws k a b at_ i).p).1.2.1, (readR ws k a b (readA ws k a b at_ i).p).1.2.2) = (readR ws k a b (readA ws k a b at_ i).p).1 from rfl, hts] at hset
   have hse : (readA ws k a b at_ (i + 1)).e = 0 := by rw [hst]
   have hsp : (readA ws k a b at_ (i + 1)).p = (readR ws k a b (readA ws k a b at_ i).p).2.2 := by rw [hst]
   have hsl : (readA ws k a b at_ (i + 1)).l = (readA ws k a b at_ i).l ++ [(readR ws k a b (readA ws k a b at_ i).p).1] := by rw [hst]
   rw [hz] at hrd
   simp only [arrO, arrV, arrB, vecO, vecB, o_r3, htl, htl2, parD, tsD, rdO] at hset hrd
   clear hst hts hrw
   generalize readR ws k a b (readA ws k a b at_ i).p = Q at *
   obtain ⟨⟨q1, q2, q3⟩, qe, qp⟩ := Q
   simp only at hrd hset hse hsp hsl hz
   refine A10B (fs hin hin') ?_; try with_reducible exact tt
   refine CallS.o1 0 (hrd) (R0B ?_); try with_reducible exact tt
   refine A00B ?_; try with_reducible exact tt
   refine CallS.g [2, 3, 4] (hset) (R1B ew ?_); try with_reducible exact tt
   refine A10B ew ?_; try with_reducible exact tt
   exact ⟨i + 1, ⟨by omega, hse⟩, by omega, Sub1.int (by omega), Subs.of (by simp [hsp]), Subs.of (by rw [hsl])⟩
  ·have h2 : i = n := by omega
   subst h2
   rw [← hS, o_t8 (by simp; omega)]
   clear hst hrd hrw
   refine A00B ?_; try with_reducible exact tt
 ·intro he
  refine Eqn.gen [0] o_8t (by simp) (by simp) (by rfl) (by decide) (by simp) (by simp [rdO]) ?_
  have hSl : True := trivial
  simp only [o_8s, arrO, arrV, arrB, vecO, vecB, parD, rdO, o_r3, List.length_replicate, hSl] at hc ⊢
  refine A00B ?_; try with_reducible exact tt
  refine CallS.g [] (hc) (R0B ?_); try with_reducible exact tt
  refine A00B ?_; try with_reducible exact tt
  refine AW.loopT (α := Nat) 5 (fun i => [(23, .d (.int .i64 (i : Nat)))]) (fun i => [(0, ⟨164, [.d (BY ws), .d (.int .i64 ((readA ws k a b at_ i).p : Nat))]⟩), (4, ⟨129, u64s (wordsP (wdR k a b) (encs k a b (twin (List.replicate n (0, 0, false)) (readA ws k a b at_ i).l)))⟩)]) (fun i => i ≤ n ∧ (readA ws k a b at_ i).e = 0) (fun i => n - i) 0 ?_ ?_ ⟨Nat.zero_le _, rfl⟩ ?_ ?_ ?_
  ·simp
  ·simp
  ·simp [-Bool.exists_bool]
  ·simp [o_t7, readA, -Bool.exists_bool]
  rintro i ⟨hi, hie⟩
  simp [-Bool.exists_bool]
  obtain ⟨gp, gw, gl⟩ := hgood i
  replace gl := gl hie
  have hrd := o_py ws (k := k) (a := a) (b := b) (readA ws k a b at_ i).p h hs hn gp _ rfl
  have hrw := o_tc (k := k) (a := a) (b := b) gp
  have hst : readA ws k a b at_ (i + 1) = if (readR ws k a b (readA ws k a b at_ i).p).2.1 = 0 then ⟨0, (readA ws k a b at_ i).l ++ [(readR ws k a b (readA ws k a b at_ i).p).1], (readR ws k a b (readA ws k a b at_ i).p).2.2⟩ else ⟨(readR ws k a b (readA ws k a b at_ i).p).2.1, [], (readR ws k a b (readA ws k a b at_ i).p).2.2⟩ := by
   rw [readA, if_pos hie]
  have ew : IntKind.i64.wrap ((i : Int) + 1) = ((i + 1 : Nat) : Int) := by rw [w64 (by omega) (by omega)]; omega
  have hw0 : wells k a b (List.replicate n (0, 0, false)) := o_rc h n
  have htl : (twin (List.replicate n (0, 0, false)) (readA ws k a b at_ i).l).length = n := by rw [o_t6 (by simp; omega)]; simp
  by_cases hin : i < n
  ·by_cases hz : (readR ws k a b (readA ws k a b at_ i).p).2.1 = 0
   ·have hin' : (i : Int) < n := by omega
    have hset := o_rb (k := k) (a := a) (b := b) (twin (List.replicate n (0, 0, false)) (readA ws k a b at_ i).l) i (readR ws k a b (readA ws k a b at_ i).p).1.1 (readR ws k a b (readA ws k a b at_ i).p).1.2.1 (readR ws k a b (readA ws k a b at_ i).p).1.2.2 h (o_ta hw0 gw) (by omega) (by omega) (hrw.2 hz)
    have hts := o_t9 (l := List.replicate n (0, 0, false)) (acc := (readA ws k a b at_ i).l) (by simp; omega) (readR ws k a b (readA ws k a b at_ i).p).1
    rw [gl] at hts
    rw [if_pos hz] at hst
    have htl2 : (twin (List.replicate n (0, 0, false)) ((readA ws k a b at_ i).l ++ [(readR ws k a b (readA ws k a b at_ i).p).1])).length = n := by rw [o_t6 (by simp; omega)]; simp
    rw [show ((readR ws k a b (readA ws k a b at_ i).p).1.1, (readR ws k a b (readA ws k a b at_ i).p).1.2.1, (readR ws k a b (readA ws k a b at_ i).p).1.2.2) = (readR ws k a b (readA ws k a b at_ i).p).1 from rfl, hts] at hset
    have hse : (readA ws k a b at_ (i + 1)).e = 0 := by rw [hst]
    have hsp : (readA ws k a b at_ (i + 1)).p = (readR ws k a b (readA ws k a b at_ i).p).2.2 := by rw [hst]
    have hsl : (readA ws k a b at_ (i + 1)).l = (readA ws k a b at_ i).l ++ [(readR ws k a b (readA ws k a b at_ i).p).1] := by rw [hst]
    rw [hz] at hrd
    simp only [arrO, arrV, arrB, vecO, vecB, o_r3, htl, htl2, parD, tsD, rdO] at hset hrd
    clear hst hts hrw
    generalize readR ws k a b (readA ws k a b at_ i).p = Q at *
    obtain ⟨⟨q1, q2, q3⟩, qe, qp⟩ := Q
    simp only at hrd hset hse hsp hsl hz
    refine A10B (fs hin hin') ?_; try with_reducible exact tt
    refine CallS.o1 0 (hrd) (R0B ?_); try with_reducible exact tt
    refine A00B ?_; try with_reducible exact tt
    refine CallS.g [2, 3, 4] (hset) (R1B ew ?_); try with_reducible exact tt
    refine A10B ew ?_; try with_reducible exact tt
    exact ⟨i + 1, ⟨by omega, hse⟩, by omega, Sub1.int (by omega), Subs.of (by simp [hsp]), Subs.of (by rw [hsl])⟩
   ·have hin' : (i : Int) < n := by omega
    rw [if_neg hz] at hst
    have := o_tb (ws := ws) (k := k) (a := a) (b := b) (at_ := at_) (i := i + 1) (by rw [hst]; exact hz) (n - (i + 1))
    rw [show i + 1 + (n - (i + 1)) = n by omega, ← hS, hst] at this
    rw [this]
    simp only [parD, tsD, rdO] at hrd
    clear this hst hrw
    generalize readR ws k a b (readA ws k a b at_ i).p = Q at *
    obtain ⟨⟨q1, q2, q3⟩, qe, qp⟩ := Q
    simp only at hrd hz ⊢
    refine A10B (fs hin hin') ?_; try with_reducible exact tt
    refine CallS.o1 0 (hrd) (R1B hz ?_); try with_reducible exact tt
    refine A10B hz ?_; try with_reducible exact tt
  ·have h2 : i = n := by omega
   subst h2
   rw [← hS] at hie
   exact absurd hie he
end
end Go.Proofs.YtdklbnemfelpnaaGreatDoor.Am
namespace Go.Proofs.YtdklbnemfelpnaaGreatDoor.Am
section
open Go.RowKit
theorem o_tf (a b : Nat) (ha : a < 2 ^ 61) (hb : b < 2 ^ 61) (h : ¬ (a < hP ∧ b < hP)) : ∃ e : Int, e ≠ 0 ∧ Eqn Tryz.prog o_8o [.d (hD a b)] [] (.d (.int .i64 e)) [] := by
 refine ⟨2, by decide, Eqn.pure o_8q Plain.ok ?_⟩
 unfold hP at h
 by_cases h1 : a < 2305843009213693951
 ·have h2 : ¬ b < 2305843009213693951 := fun h2 => h ⟨h1, h2⟩
  have h3 : (2305843009213693951 : Int) ≤ b := by omega
  have h4 : ¬ (2305843009213693951 : Int) ≤ a := by omega
  have h5 : 2305843009213693951 ≤ b := by omega
  have h6 : ¬ 2305843009213693951 ≤ a := by omega
  simp only [o_8p, hD]
  refine A10 (fs h3 (fs h4 (fs h5 h6))) ?_; try with_reducible exact tt
 ·have h4 : (2305843009213693951 : Int) ≤ a := by omega
  have h6 : 2305843009213693951 ≤ a := by omega
  simp only [o_8p, hD]
  refine A10 (fs h4 h6) ?_; try with_reducible exact tt

structure RR where
 e : Int
 r : Rw
 p : Nat
def readW (ws : List Nat) (C k a b p : Nat) : RR :=
 if 8 * ws.length - p < 61 then ⟨5, ⟨0, 0, []⟩, p⟩
 else if 8 * ws.length - (p + 61) < 61 then ⟨5, ⟨0, 0, []⟩, p + 61⟩
 else if numAt ws p 61 < hP ∧ numAt ws (p + 61) 61 < hP then
  (if (readA ws k a b (p + 122) C).e = 0 then ⟨0, ⟨numAt ws p 61, numAt ws (p + 61) 61, (readA ws k a b (p + 122) C).l⟩, (readA ws k a b (p + 122) C).p⟩
  else ⟨(readA ws k a b (p + 122) C).e, ⟨0, 0, []⟩, (readA ws k a b (p + 122) C).p⟩)
 else ⟨4, ⟨0, 0, []⟩, p + 122⟩
structure SR where
 e : Int
 rs : List Rw
 p : Nat
def readS (ws : List Nat) (C k a b p0 : Nat) : Nat → SR
 | 0 => ⟨0, [], p0⟩
 | i + 1 => if (readS ws C k a b p0 i).e = 0 then
   (if (readW ws C k a b (readS ws C k a b p0 i).p).e = 0 then ⟨0, (readS ws C k a b p0 i).rs ++ [(readW ws C k a b (readS ws C k a b p0 i).p).r], (readW ws C k a b (readS ws C k a b p0 i).p).p⟩
   else ⟨(readW ws C k a b (readS ws C k a b p0 i).p).e, [], (readW ws C k a b (readS ws C k a b p0 i).p).p⟩)
  else readS ws C k a b p0 i
theorem o_tg {ws : List Nat} {C k a b p0 i : Nat} (h : (readS ws C k a b p0 i).e ≠ 0) : ∀ j, readS ws C k a b p0 (i + j) = readS ws C k a b p0 i
 | 0 => rfl
 | j + 1 => by rw [← Nat.add_assoc, readS, o_tg h j, if_neg h]
theorem o_th {ws : List Nat} {C k a b p : Nat} (hp : p ≤ 8 * ws.length) : (readW ws C k a b p).p ≤ 8 * ws.length ∧ ((readW ws C k a b p).e = 0 → GoodRow C k a b (readW ws C k a b p).r) := by
 unfold readW
 split
 ·exact ⟨hp, fun h => by simp at h⟩
 split
 ·exact ⟨by simp only; omega, fun h => by simp at h⟩
 have hg := o_td (k := k) (a := a) (b := b) (ws := ws) (at_ := p + 122) (by omega) C
 split
 ·rename_i h3
  split
  ·rename_i h4
   exact ⟨hg.1, fun _ => ⟨h3.1, h3.2, hg.2.2 h4, hg.2.1⟩⟩
  ·rename_i h4
   exact ⟨hg.1, fun h => absurd h h4⟩
 ·exact ⟨by simp only; omega, fun h => by simp at h⟩
theorem o_ti {ws : List Nat} {C k a b p0 : Nat} (h : p0 ≤ 8 * ws.length) : ∀ i, (readS ws C k a b p0 i).p ≤ 8 * ws.length ∧ (∀ r ∈ (readS ws C k a b p0 i).rs, GoodRow C k a b r) ∧ ((readS ws C k a b p0 i).e = 0 → (readS ws C k a b p0 i).rs.length = i)
 | 0 => ⟨h, by intro s hs; simp [readS] at hs, fun _ => rfl⟩
 | i + 1 => by
  obtain ⟨h1, h2, h3⟩ := o_ti (C := C) (k := k) (a := a) (b := b) h i
  have hr := o_th (C := C) (k := k) (a := a) (b := b) h1
  rw [readS]
  by_cases he : (readS ws C k a b p0 i).e = 0
  ·rw [if_pos he]
   generalize readW ws C k a b (readS ws C k a b p0 i).p = R at *
   by_cases hz : R.e = 0
   ·rw [if_pos hz]
    refine ⟨hr.1, fun s hs => ?_, fun _ => by simp [h3 he]⟩
    rcases List.mem_append.1 hs with hs | hs
    ·exact h2 s hs
    ·rw [List.mem_singleton] at hs; rw [hs]; exact hr.2 hz
   ·rw [if_neg hz]
    exact ⟨hr.1, by intro s hs; simp at hs, fun h => absurd h hz⟩
  ·rw [if_neg he]
   exact ⟨h1, h2, fun h => absurd h he⟩
theorem numAt61 (ws : List Nat) (a : Nat) : numAt ws a 61 < 2 ^ 61 := by
 unfold numAt
 have h := o_o1 (((bitsOf ws).drop a).take 61)
 refine Nat.lt_of_lt_of_le h ?_
 have : (((bitsOf ws).drop a).take 61).length ≤ 61 := by rw [List.length_take]; omega
 exact Nat.pow_le_pow_right (by decide) this

set_option maxHeartbeats 4000000 in
theorem o_tj {R C k a b : Nat} (hP0 : GoodP R C k a b) (ws : List Nat) (hs : smallB ws) (hn : ws.length ≤ 400000) (V : Nat × Int × Nat) (hV : V = varR ws 10 0 0 0) (hVe : V.2.1 = 0) (hVp : V.2.2 ≤ 8 * ws.length) (hVn : V.1 ≤ 1099511627776) (S : SR) (hS : S = readS ws C k a b V.2.2 R) (he : S.e = 0) :
  Eqn Tryz.prog o_60 [.p 0 0, .d (cpD R C k a b)] [rdO ws 0] (.tup [.p 1 0, .d (.int .i64 0)]) [rdO ws S.p, skO R C k a b S.rs V.1] := by
 refine Eqn.gen [0, 2] o_62 (by simp) (by simp) (by rfl) (by decide) (by simp) (by simp [skO, skD, rdO]) ?_
 have hvar := o_t5 ws 0 hs hn (by omega) V hV
 have hpc := o_st hP0
 have hgood := o_ti (C := C) (k := k) (a := a) (b := b) hVp
 obtain ⟨n1, n2, n3, n4, hg⟩ := hP0
 rw [hVe] at hvar
 obtain ⟨v, ve, vp⟩ := V
 simp only at hvar hVn hVp hgood hS hVe
 have hvn : ¬ (1099511627776 : Int) < v := by omega
 have hvn' : ¬ 1099511627776 < v := by omega
 have hvc : IntKind.i64.wrap (v : Int) = (v : Int) := w64 (by omega) (by omega)
 clear hV hVe
 obtain ⟨F, hF⟩ : ∃ F : Nat → List D, F = fun i => rowsD k a b (readS ws C k a b vp i).rs := ⟨_, rfl⟩
 have hF0 : F 0 = [] := by rw [hF]; simp [rowsD, readS]
 have hSl : S.rs.length = R := by rw [hS]; exact (hgood R).2.2 (by rw [← hS]; exact he)
 have hFR : F R = rowsD k a b S.rs := by rw [hF, hS]
 have hFl : ∀ i, (readS ws C k a b vp i).e = 0 → (F i).length = i * 3 := by
  intro i hi
  rw [hF]
  show (rowsD k a b (readS ws C k a b vp i).rs).length = i * 3
  unfold rowsD
  rw [o_sp (n := 3) (fun x => by simp [rowD]), (hgood i).2.2 hi]
 have hsk : skO R C k a b S.rs v = ⟨147, [.d (.int .i64 R), .d (.int .i64 C), .d (.int .i64 k), .d (.int .i64 a), .d (.int .i64 b), .d (.sl R (F R)), .d (.int .i64 v)]⟩ := by
  rw [hFR]; simp [skO, skD, hSl]
 have hstay : ∀ i, i ≤ R → (readS ws C k a b vp i).e = 0 := by
  intro i hi
  apply Classical.byContradiction
  intro hne
  have := o_tg hne (R - i)
  rw [show i + (R - i) = R by omega, ← hS] at this
  exact hne (by rw [← this]; exact he)
 rw [hsk]
 simp only [o_61, cpD, rdO] at hvar hpc ⊢
 refine A11 (fs hvn (fs hvn' hvc)) hpc ?_; try with_reducible exact tt
 refine CallS.o1 0 (hvar) (R1 (fs hvn (fs hvn' hvc)) ?_); try with_reducible exact tt
 refine A10 (fs hvn (fs hvn' hvc)) ?_; try with_reducible exact tt
 refine AW.loopG (α := Nat) (fun i => setS (List.replicate 87 .junk) [(0, .p 0 0), (3, .p 1 0), (9, .p 2 0), (38, .d (.int .i64 R)), (39, .d (.int .i64 (i : Int)))]) (fun i => some ⟨164, [.d (BY ws), .d (.int .i64 ((readS ws C k a b vp i).p : Nat))]⟩ :: some ⟨88, [.d (.int .i64 R), .d (.int .i64 C), .d (.int .i64 k), .d (.int .i64 a), .d (.int .i64 b)]⟩ :: (if i = 0 then [some ⟨147, [.d (.int .i64 R), .d (.int .i64 C), .d (.int .i64 k), .d (.int .i64 a), .d (.int .i64 b), .d .nilsl, .d (.int .i64 v)]⟩] else [some ⟨147, [.d (.int .i64 R), .d (.int .i64 C), .d (.int .i64 k), .d (.int .i64 a), .d (.int .i64 b), .own 3 3 i, .d (.int .i64 v)]⟩, some ⟨150, (F i).map .d⟩])) (fun i => i ≤ R) (fun i => R - i) 0 ?_ (Nat.zero_le _) ?_ ?_ ?_
 ·intro i hi; split <;> simp
 ·simp
 ·simp [readS]
 rintro i hi
 by_cases hiN : i < R
 ·have hi1 : (i : Int) < R := by omega
  have hci := hstay i hi
  have hcn := hstay (i + 1) (by omega)
  obtain ⟨gp, gr, gl⟩ := hgood i
  have hst : readS ws C k a b vp (i + 1) = if (readW ws C k a b (readS ws C k a b vp i).p).e = 0 then ⟨0, (readS ws C k a b vp i).rs ++ [(readW ws C k a b (readS ws C k a b vp i).p).r], (readW ws C k a b (readS ws C k a b vp i).p).p⟩ else ⟨(readW ws C k a b (readS ws C k a b vp i).p).e, [], (readW ws C k a b (readS ws C k a b vp i).p).p⟩ := by
   rw [readS, if_pos hci]
  have hW : (readW ws C k a b (readS ws C k a b vp i).p).e = 0 := by
   apply Classical.byContradiction
   intro hne
   rw [hst, if_neg hne] at hcn
   exact hne hcn
  rw [if_pos hW] at hst
  have hsp : (readS ws C k a b vp (i + 1)).p = (readW ws C k a b (readS ws C k a b vp i).p).p := by rw [hst]
  have hsn : F (i + 1) = F i ++ rowD k a b (readW ws C k a b (readS ws C k a b vp i).p).r := by
   rw [hF]
   show rowsD k a b (readS ws C k a b vp (i + 1)).rs = rowsD k a b (readS ws C k a b vp i).rs ++ _
   rw [hst, rowsD, List.flatMap_append]; simp [rowsD]
  have hfl := hFl i hci
  have ew : IntKind.i64.wrap ((i : Int) + 1) = (i : Int) + 1 := w64 (by omega) (by omega)
  clear hst hcn hgood hFl hFR hstay hsk hF gr gl hci
  generalize (readS ws C k a b vp i).p = P at *
  unfold readW at hW hsp hsn
  by_cases hq1 : 8 * ws.length - P < 61
  ·rw [if_pos hq1] at hW; simp at hW
  rw [if_neg hq1] at hW hsp hsn
  by_cases hq2 : 8 * ws.length - (P + 61) < 61
  ·rw [if_pos hq2] at hW; simp at hW
  rw [if_neg hq2] at hW hsp hsn
  by_cases hxy : ¬ (numAt ws P 61 < hP ∧ numAt ws (P + 61) 61 < hP)
  ·rw [if_neg hxy] at hW; simp at hW
  replace hxy := Classical.not_not.1 hxy
  rw [if_pos hxy] at hW hsp hsn
  by_cases hA : ¬ (readA ws k a b (P + 122) C).e = 0
  ·rw [if_neg hA] at hW; exact absurd hW hA
  replace hA := Classical.not_not.1 hA
  rw [if_pos hA] at hsp hsn
  have hN1 := o_pc ws P 61 hs (by omega) (by omega) (by omega)
  have hN2 := o_pc ws (P + 61) 61 hs (by omega) (by omega) (by omega)
  rw [show P + 61 + 61 = P + 122 by omega] at hN2
  have hck := o_sm _ _ hxy.1 hxy.2
  have hcr := (o_te hg n3 (by omega : C ≤ 256) ws hs hn (P + 122) (by omega) _ rfl).1 hA
  have hgA := ((o_td (ws := ws) (k := k) (a := a) (b := b) (at_ := P + 122) (by omega) C).2.2 hA)
  generalize readA ws k a b (P + 122) C = A at *
  have hL0 : u64s (wordsP (wdR k a b) (encs k a b A.l)) = ((wordsP (wdR k a b) (encs k a b A.l)).map fun x : Nat => D.int .u64 x).map V.d := by simp [u64s]
  have hWl : ((wordsP (wdR k a b) (encs k a b A.l)).map fun x : Nat => D.int .u64 x).length = nwP C (wdR k a b) := by simp [hgA]
  simp only [rowD, arrD, vecD, o_r3, hgA] at hsn
  simp only [arrO, arrV, arrB, vecO, vecB, parD, o_r3, hgA, rdO, hD, hL0] at hcr hN1 hN2 hck
  generalize ((wordsP (wdR k a b) (encs k a b A.l)).map fun x : Nat => D.int .u64 x) = WD at *
  generalize nwP C (wdR k a b) = NW at *
  generalize wdR k a b = w at *
  have htk : WD.take NW = WD := List.take_of_length_le (by omega)
  clear hxy hA hW hL0
  generalize numAt ws P 61 = x at *
  generalize numAt ws (P + 61) 61 = y at *
  by_cases hi0 : i = 0
  ·subst hi0
   simp [hF0] at hsn
   rw [Nat.zero_add] at hsp
   simp
   refine A10 (fs hiN hi1) ?_; try with_reducible exact tt
   refine AW.loopT (α := Nat) 4 (fun j => [(44, .d (.int .i64 (j : Nat)))]) (fun j => [(0, ⟨164, [.d (BY ws), .d (.int .i64 ((P + 61 * j : Nat) : Int))]⟩), (3, ⟨131, [.d (.int .u64 ((if 1 ≤ j then x else 0 : Nat) : Int)), .d (.int .u64 ((if 2 ≤ j then y else 0 : Nat) : Int))]⟩)]) (fun j => j ≤ 2) (fun j => 2 - j) 0 ?_ ?_ (Nat.zero_le _) ?_ ?_ ?_
   ·simp
   ·simp
   ·simp
   ·simp
   rintro j hj
   obtain rfl | rfl | rfl : j = 0 ∨ j = 1 ∨ j = 2 := by omega
   ·simp
    refine A00 ?_; try with_reducible exact tt
    refine CallS.o1 0 (hN1) (R0 ?_); try with_reducible exact tt
    refine A00 ?_; try with_reducible exact tt
    exact ⟨1, by omega, by omega, Sub1.refl _, Subs.of (by simp), Subs.of (by simp)⟩
   ·simp
    refine A00 ?_; try with_reducible exact tt
    refine CallS.o1 0 (hN2) (R0 ?_); try with_reducible exact tt
    refine A00 ?_; try with_reducible exact tt
    exact ⟨2, by omega, by omega, Sub1.refl _, Subs.of (by simp), Subs.of (by simp)⟩
   ·simp
    refine A01 hck ?_; try with_reducible exact tt
    refine CallS.g [0] (hcr) (R0 ?_); try with_reducible exact tt
    refine AW.freeze 6 1 ⟨129, WD.map V.d⟩ WD (by simp) rfl ?_
    simp [frzH, htk]
    refine AW.freeze 5 1 ⟨223, [.d (.sl NW WD), .d (.int .i64 C), .d (.int .i64 w)]⟩ [.sl NW WD, .int .i64 C, .int .i64 w] (by rfl) rfl ?_
    simp [frzH]
    refine AW.freeze 4 1 ⟨154, [.d (.ptr [.sl NW WD, .int .i64 C, .int .i64 w] 0), .d (.int .i64 k), .d (.int .i64 a), .d (.int .i64 b)]⟩ [.ptr [.sl NW WD, .int .i64 C, .int .i64 w] 0, .int .i64 k, .int .i64 a, .int .i64 b] (by rfl) rfl ?_
    simp [frzH]
    refine A10 (fs hfl ew) ?_; try with_reducible exact tt
    refine ⟨1, 3, 8, by simp, by omega, by omega, ?_, ?_⟩
    ·simp [swT, swH, sw, Ob.sw, V.ren, V.rens]
    ·simp [swT, swH, sw, Ob.sw, V.ren, V.rens, hsn, hsp]
  ·rw [if_neg hi0]
   simp
   refine A10 (fs hiN hi1) ?_; try with_reducible exact tt
   refine AW.loopT (α := Nat) 5 (fun j => [(44, .d (.int .i64 (j : Nat)))]) (fun j => [(0, ⟨164, [.d (BY ws), .d (.int .i64 ((P + 61 * j : Nat) : Int))]⟩), (4, ⟨131, [.d (.int .u64 ((if 1 ≤ j then x else 0 : Nat) : Int)), .d (.int .u64 ((if 2 ≤ j then y else 0 : Nat) : Int))]⟩)]) (fun j => j ≤ 2) (fun j => 2 - j) 0 ?_ ?_ (Nat.zero_le _) ?_ ?_ ?_
   ·simp
   ·simp
   ·simp
   ·simp
   rintro j hj
   obtain rfl | rfl | rfl : j = 0 ∨ j = 1 ∨ j = 2 := by omega
   ·simp
    refine A00 ?_; try with_reducible exact tt
    refine CallS.o1 0 (hN1) (R0 ?_); try with_reducible exact tt
    refine A00 ?_; try with_reducible exact tt
    exact ⟨1, by omega, by omega, Sub1.refl _, Subs.of (by simp), Subs.of (by simp)⟩
   ·simp
    refine A00 ?_; try with_reducible exact tt
    refine CallS.o1 0 (hN2) (R0 ?_); try with_reducible exact tt
    refine A00 ?_; try with_reducible exact tt
    exact ⟨2, by omega, by omega, Sub1.refl _, Subs.of (by simp), Subs.of (by simp)⟩
   ·simp
    refine A01 hck ?_; try with_reducible exact tt
    refine CallS.g [0] (hcr) (R0 ?_); try with_reducible exact tt
    refine AW.freeze 7 1 ⟨129, WD.map V.d⟩ WD (by simp) rfl ?_
    simp [frzH, htk]
    refine AW.freeze 6 1 ⟨223, [.d (.sl NW WD), .d (.int .i64 C), .d (.int .i64 w)]⟩ [.sl NW WD, .int .i64 C, .int .i64 w] (by rfl) rfl ?_
    simp [frzH]
    refine AW.freeze 5 1 ⟨154, [.d (.ptr [.sl NW WD, .int .i64 C, .int .i64 w] 0), .d (.int .i64 k), .d (.int .i64 a), .d (.int .i64 b)]⟩ [.ptr [.sl NW WD, .int .i64 C, .int .i64 w] 0, .int .i64 k, .int .i64 a, .int .i64 b] (by rfl) rfl ?_
    simp [frzH]
    refine A10 (fs hfl ew) ?_; try with_reducible exact tt
    refine ⟨i + 1, 3, 9, by simp, by omega, by omega, ?_, ?_⟩
    ·simp [swT, swH, sw, Ob.sw, V.ren, V.rens]
    ·simp [swT, swH, sw, Ob.sw, V.ren, V.rens, hsn, hsp]
 ·have h2 : i = R := by omega
  subst h2
  have hz : i ≠ 0 := by omega
  have hfl := hFl i (hstay i (Nat.le_refl _))
  rw [if_neg hz, ← hS]
  simp
  refine AW.freeze 3 3 ⟨150, (F i).map .d⟩ (F i) (by simp) rfl ?_
  have htk2 : (F i).take (i * 3) = F i := List.take_of_length_le (by omega)
  simp [frzH, htk2]
  refine A00 ?_; try with_reducible exact tt
end
end Go.Proofs.YtdklbnemfelpnaaGreatDoor.Am
