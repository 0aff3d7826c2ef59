/- Parts of the proof: Thin1, Thin2, Thin3, Reg1, BitsM, Bits1, Bits2, Bits3, Reg2, Reg3, Reg4, PackM, Pack1, Pack2, Carr1, Carr2, Carr3, Carr6, AmUn, Cms1, HashM, Mul1, Hash1, FlatM, Cms2, Cms3, Div1, Mul2. -/
import Derived.Test.YtijbgbpjionfjaaGreatDoorPd
set_option linter.unusedVariables false
set_option linter.unusedSimpArgs false
set_option maxRecDepth 100000
namespace Go.Proofs.YtijbgbpjionfjaaGreatDoor.Am
section
open Go.RowKit
theorem o_82 {cs : List Bool} : ∀ (k p : Nat) (dd : Bool), p ≤ cs.length → (halfR cs k p dd).2.2.1 ≤ cs.length
 | 0, p, dd, h => h
 | k + 1, p, dd, h => by
  rw [halfR]
  split
  ·exact o_82 k _ _ (o_12 h)
  ·exact o_12 h

def binM (cs : List Bool) : Nat → Nat → Nat → Bool → Int × Nat × Nat × Bool
 | 0, c, p, d => (0, c, p, d)
 | n + 1, c, p, d => if flipE cs p d = 0 then binM cs n (if flipB cs p d then c + 1 else c) (flipP cs p d) (flipD cs p d) else (flipE cs p d, 0, flipP cs p d, flipD cs p d)
theorem o_83 (cs : List Bool) : ∀ (n c p : Nat) (d : Bool), p ≤ cs.length → (binM cs n c p d).2.2.1 ≤ cs.length ∧ (binM cs n c p d).2.1 ≤ c + n ∧ p ≤ (binM cs n c p d).2.2.1
 | 0, c, p, d, h => by simp [binM, h]
 | n + 1, c, p, d, h => by
  have hp := o_12 (dd := d) h
  have hp2 : p ≤ flipP cs p d := by unfold flipP; split <;> omega
  rw [binM]
  split
  ·have := o_83 cs n (if flipB cs p d then c + 1 else c) (flipP cs p d) (flipD cs p d) hp
   refine ⟨this.1, ?_, by omega⟩
   have h2 := this.2.1
   revert h2
   split <;> omega
  ·exact ⟨hp, Nat.zero_le _, hp2⟩

def thinM (cs : List Bool) (f : Bool) : Nat → Nat → Nat → Nat → Bool → TR
 | 0, y, t, p, d => ⟨0, y, t, f, p, d⟩
 | n + 1, y, t, p, d => if (binM cs y 0 p d).1 = 0 then thinM cs f n (binM cs y 0 p d).2.1 (t + 1) (binM cs y 0 p d).2.2.1 (binM cs y 0 p d).2.2.2 else ⟨(binM cs y 0 p d).1, y, t, f, (binM cs y 0 p d).2.2.1, (binM cs y 0 p d).2.2.2⟩
theorem o_84 (cs : List Bool) (f : Bool) : ∀ (n y t p : Nat) (d : Bool), p ≤ cs.length → (thinM cs f n y t p d).p ≤ cs.length ∧ (thinM cs f n y t p d).y ≤ y ∧ t ≤ (thinM cs f n y t p d).t ∧ (thinM cs f n y t p d).t ≤ t + n ∧ ((thinM cs f n y t p d).e = 0 → (thinM cs f n y t p d).t = t + n) ∧ (thinM cs f n y t p d).f = f ∧ p ≤ (thinM cs f n y t p d).p
 | 0, y, t, p, d, h => by simp [thinM, h]
 | n + 1, y, t, p, d, h => by
  have hb := o_83 cs y 0 p d h
  rw [thinM]
  split
  ·have := o_84 cs f n (binM cs y 0 p d).2.1 (t + 1) (binM cs y 0 p d).2.2.1 (binM cs y 0 p d).2.2.2 hb.1
   refine ⟨this.1, by omega, by omega, by omega, fun h => by have := this.2.2.2.2.1 h; omega, this.2.2.2.2.2.1, by omega⟩
  ·rename_i he
   refine ⟨hb.1, by simp, by simp, by simp, fun h => absurd h he, rfl, hb.2.2⟩
def downM (cs : List Bool) (most times : Nat) : Nat → Nat → Nat → Bool → Nat → Bool → TR
 | 0, y, t, f, p, d => ⟨0, y, t, f, p, d⟩
 | k + 1, y, t, f, p, d =>
  if most < y then
   if t = times then ⟨0, most, t, true, p, d⟩
   else if (thinM cs f 1 y t p d).e = 0 then downM cs most times k (thinM cs f 1 y t p d).y (thinM cs f 1 y t p d).t f (thinM cs f 1 y t p d).p (thinM cs f 1 y t p d).d
   else ⟨(thinM cs f 1 y t p d).e, y, t, f, (thinM cs f 1 y t p d).p, (thinM cs f 1 y t p d).d⟩
  else ⟨0, y, t, f, p, d⟩
theorem o_jz (cs : List Bool) (most times : Nat) : ∀ (k y t : Nat) (f : Bool) (p : Nat) (d : Bool), p ≤ cs.length → t ≤ times → times < t + k →
  (downM cs most times k y t f p d).p ≤ cs.length ∧ (downM cs most times k y t f p d).t ≤ times ∧ t ≤ (downM cs most times k y t f p d).t ∧ ((downM cs most times k y t f p d).e = 0 → (downM cs most times k y t f p d).y ≤ most) ∧ ((f = true → t = times) → (downM cs most times k y t f p d).f = true → (downM cs most times k y t f p d).t = times) ∧ p ≤ (downM cs most times k y t f p d).p
 | 0, y, t, f, p, d, h, h1, h2 => by omega
 | k + 1, y, t, f, p, d, h, h1, h2 => by
  rw [downM]
  have hb := o_84 cs f 1 y t p d h
  generalize thinM cs f 1 y t p d = B at *
  split
  ·split
   ·rename_i ht; exact ⟨h, h1, Nat.le_refl _, fun _ => Nat.le_refl _, fun _ _ => ht, Nat.le_refl _⟩
   ·split
    ·rename_i ht he
     have ht2 := hb.2.2.2.2.1 he
     have := o_jz cs most times k B.y B.t f B.p B.d hb.1 (by omega) (by omega)
     refine ⟨this.1, this.2.1, by omega, this.2.2.2.1, fun hf => this.2.2.2.2.1 (fun h => absurd (hf h) ht), by omega⟩
    ·rename_i ht he
     exact ⟨hb.1, h1, Nat.le_refl _, fun h => absurd h he, fun hf h => hf h, hb.2.2.2.2.2.2⟩
  ·rename_i hy
   exact ⟨h, h1, Nat.le_refl _, fun _ => by show y ≤ most; omega, fun hf h => hf h, Nat.le_refl _⟩
def oneM (cs : List Bool) (most times y t : Nat) (f : Bool) (p : Nat) (d : Bool) : TR :=
 if (halfR cs t p d).1 then downM cs most times (times - t + 1) (y + 1) t f (halfR cs t p d).2.2.1 (halfR cs t p d).2.2.2
 else ⟨(halfR cs t p d).2.1, y, t, f, (halfR cs t p d).2.2.1, (halfR cs t p d).2.2.2⟩
def addTM (cs : List Bool) (most times : Nat) : Nat → Nat → Nat → Bool → Nat → Bool → TR
 | 0, y, t, f, p, d => ⟨0, y, t, f, p, d⟩
 | n + 1, y, t, f, p, d => if (oneM cs most times y t f p d).e = 0 then addTM cs most times n (oneM cs most times y t f p d).y (oneM cs most times y t f p d).t (oneM cs most times y t f p d).f (oneM cs most times y t f p d).p (oneM cs most times y t f p d).d else oneM cs most times y t f p d
def mergeTM (cs : List Bool) (most times y t : Nat) (f : Bool) (z u : Nat) (g : Bool) (p : Nat) (d : Bool) : TR :=
 let A := thinM cs f (u - t) y t p d
 if A.e = 0 then
  let B := thinM cs g (t - u) z u A.p A.d
  if B.e = 0 then downM cs most times (times - A.t + 1) (A.y + B.y) A.t (f || g) B.p B.d else B
 else A

theorem o_vc (cs : List Bool) (n p : Nat) (d : Bool) (hn : n ≤ 4000000) (hp : p ≤ cs.length) (hc : cs.length ≤ 4000000) :
  Eqn Tryz.prog o_gd [.p 0 0, .d (.int .i64 n)] [tapeO cs p d] (.tup [.d (.int .i64 (binM cs n 0 p d).2.1), .d (.int .i64 (binM cs n 0 p d).1)]) [tapeO cs (binM cs n 0 p d).2.2.1 (binM cs n 0 p d).2.2.2] := by
 refine Eqn.obj1 o_r5 Plain.ok ⟨rfl, fun _ => rfl⟩ ?_
 obtain ⟨R, hR⟩ : ∃ R, R = binM cs n 0 p d := ⟨_, rfl⟩
 rw [← hR]
 have e0 : max 0 (n : Int) = n := by omega
 simp only [o_ge]
 refine G1B e0 ?_; try with_reducible exact tt
 refine AW.loopT (α := Nat × Nat × Nat × Bool) 1 (fun s => [(11, .d (.int .i64 (s.1 : Int))), (6, .d (.int .i64 (s.2.1 : Int)))]) (fun s => [(0, tapeO cs s.2.2.1 s.2.2.2)]) (fun s => s.1 ≤ n ∧ s.2.1 ≤ s.1 ∧ s.2.2.1 ≤ cs.length ∧ R = binM cs (n - s.1) s.2.1 s.2.2.1 s.2.2.2) (fun s => n - s.1) (0, 0, p, d) ?_ ?_ ⟨Nat.zero_le _, Nat.le_refl _, hp, hR⟩ ?_ ?_ ?_
 ·simp
 ·simp
 ·simp
 ·simp
 clear hR
 rintro ⟨i, c, q, dd⟩ ⟨hi, hci, hq, hR⟩
 simp only at hi hci hq hR
 simp [-Bool.exists_bool]
 by_cases h : i = n
 ·subst h
  rw [Nat.sub_self, binM] at hR
  refine G0B ?_; try with_reducible exact tt
  refine AW.cond rfl (fun h => ?_) (fun h => ?_)
  ·simp at h
  refine G0B ?_; try with_reducible exact tt
  simp [hR]
 ·have h1 : i < n := by omega
  have h2 : (i : Int) < n := by omega
  obtain ⟨r, hr⟩ : ∃ r, n - i = r + 1 := ⟨n - i - 1, by omega⟩
  rw [hr, binM] at hR
  have hf := o_7u cs q dd hq hc
  have hle := o_12 (dd := dd) hq
  have e1 : IntKind.i64.wrap ((i : Int) + 1) = ((i + 1 : Nat) : Int) := by rw [w64 (by omega) (by omega)]; omega
  have e2 : IntKind.i64.wrap ((c : Int) + 1) = ((c + 1 : Nat) : Int) := by rw [w64 (by omega) (by omega)]; omega
  generalize flipE cs q dd = E at *
  generalize flipB cs q dd = B at *
  generalize flipP cs q dd = Q at *
  generalize flipD cs q dd = dd2 at *
  refine G1B (fs h1 h2) ?_; try with_reducible exact tt
  refine AW.cond rfl (fun h => ?_) (fun h => ?_)
  ·clear h
   refine G0B ?_; try with_reducible exact tt
   refine CallS.o1 0 (hf) (R0B ?_); try with_reducible exact tt
   by_cases hE : E = 0
   ·subst hE
    rw [if_pos rfl] at hR
    refine AW.cond rfl (fun h => ?_) (fun h => ?_)
    ·simp at h
    refine G0B ?_; try with_reducible exact tt
    cases B with
    | true =>
     refine AW.cond rfl (fun h => ?_) (fun h => ?_)
     ·refine G1B (fs e1 e2) ?_; try with_reducible exact tt
      exact ⟨i + 1, c + 1, Q, dd2, ⟨by omega, by omega, hle, by rw [hR, if_pos rfl]; congr 1; omega⟩, by omega, by simp, by simp⟩
     ·simp at h
    | false =>
     refine AW.cond rfl (fun h => ?_) (fun h => ?_)
     ·simp at h
     ·refine G1B e1 ?_; try with_reducible exact tt
      exact ⟨i + 1, c, Q, dd2, ⟨by omega, by omega, hle, by rw [hR, if_neg (by simp)]; congr 1; omega⟩, by omega, by simp, by simp⟩
   ·rw [if_neg hE] at hR
    refine AW.cond rfl (fun h => ?_) (fun h => ?_)
    ·refine G0B ?_; try with_reducible exact tt
     simp [hR]
    ·simp [hE] at h
  ·simp [h1] at h

def tsD (y t : Nat) (f : Bool) : D := .agg [.int .i64 y, .int .i64 t, .bool f]

theorem o_vd (cs : List Bool) (y t : Nat) (f : Bool) (k : Int) (p : Nat) (d : Bool) (hk : k ≤ 100) (hy : y ≤ 100000) (ht : t ≤ 100000) (hp : p ≤ cs.length) (hc : cs.length ≤ 4000000) :
  Eqn Tryz.prog o_fl [.p 0 0, .d (tsD y t f), .d (.int .i64 k)] [tapeO cs p d] (.tup [.d (tsD (thinM cs f k.toNat y t p d).y (thinM cs f k.toNat y t p d).t f), .d (.int .i64 (thinM cs f k.toNat y t p d).e)]) [tapeO cs (thinM cs f k.toNat y t p d).p (thinM cs f k.toNat y t p d).d] := by
 refine Eqn.obj1 o_qs Plain.ok ⟨rfl, fun _ => rfl⟩ ?_
 obtain ⟨n, hn, e0⟩ : ∃ n : Nat, n = k.toNat ∧ max 0 k = (n : Int) := ⟨k.toNat, rfl, by omega⟩
 rw [← hn]
 obtain ⟨R, hR⟩ : ∃ R, R = thinM cs f n y t p d := ⟨_, rfl⟩
 rw [← hR]
 simp only [o_fm, tsD]
 refine G1B e0 ?_; try with_reducible exact tt
 refine AW.loopT (α := Nat × Nat × Nat × Nat × Bool) 3 (fun s => [(12, .d (.int .i64 (s.1 : Int)))]) (fun s => [(0, tapeO cs s.2.2.2.1 s.2.2.2.2), (1, ⟨139, [.d (.int .i64 (s.2.1 : Nat)), .d (.int .i64 (s.2.2.1 : Nat)), .d (.bool f)]⟩)]) (fun s => s.1 ≤ n ∧ s.2.1 ≤ 100000 ∧ s.2.2.1 ≤ 100000 + s.1 ∧ s.2.2.2.1 ≤ cs.length ∧ R = thinM cs f (n - s.1) s.2.1 s.2.2.1 s.2.2.2.1 s.2.2.2.2) (fun s => n - s.1) (0, y, t, p, d) ?_ ?_ ⟨Nat.zero_le _, hy, ht, hp, hR⟩ ?_ ?_ ?_
 ·simp
 ·simp
 ·simp
 ·simp
 clear hR
 rintro ⟨i, z, u, q, dd⟩ ⟨hi, hz, hu, hq, hR⟩
 simp only at hi hz hu hq hR
 simp [-Bool.exists_bool]
 by_cases h : i = n
 ·subst h
  rw [Nat.sub_self, thinM] at hR
  refine G0B ?_; try with_reducible exact tt
  refine AW.cond rfl (fun h => ?_) (fun h => ?_)
  ·simp at h
  refine G0B ?_; try with_reducible exact tt
  simp [hR]
 ·have h1 : i < n := by omega
  have h2 : (i : Int) < n := by omega
  obtain ⟨r, hr⟩ : ∃ r, n - i = r + 1 := ⟨n - i - 1, by omega⟩
  rw [hr, thinM] at hR
  have hb := o_vc cs z q dd (by omega) hq hc
  have hle := o_83 cs z 0 q dd hq
  have e1 : IntKind.i64.wrap ((i : Int) + 1) = ((i + 1 : Nat) : Int) := by rw [w64 (by omega) (by omega)]; omega
  have e2 : IntKind.i64.wrap ((u : Int) + 1) = ((u + 1 : Nat) : Int) := by rw [w64 (by omega) (by omega)]; omega
  generalize binM cs z 0 q dd = B at *
  obtain ⟨B1, B2, B3, B4⟩ := B
  simp only at hb hle hR
  refine G1B (fs h1 h2) ?_; try with_reducible exact tt
  refine AW.cond rfl (fun h => ?_) (fun h => ?_)
  ·clear h
   refine G0B ?_; try with_reducible exact tt
   refine CallS.o1 0 (hb) (R0B ?_); try with_reducible exact tt
   by_cases hE : B1 = 0
   ·subst hE
    rw [if_pos rfl] at hR
    refine AW.cond rfl (fun h => ?_) (fun h => ?_)
    ·simp at h
    refine G1B (fs e1 e2) ?_; try with_reducible exact tt
    exact ⟨i + 1, B2, u + 1, B3, B4, ⟨by omega, by omega, by omega, hle.1, by rw [hR]; congr 1; omega⟩, by omega, by simp, by simp⟩
   ·rw [if_neg hE] at hR
    refine AW.cond rfl (fun h => ?_) (fun h => ?_)
    ·refine G0B ?_; try with_reducible exact tt
     simp [hR]
    ·simp [hE] at h
  ·simp [h1] at h
end
end Go.Proofs.YtijbgbpjionfjaaGreatDoor.Am
namespace Go.Proofs.YtijbgbpjionfjaaGreatDoor.Am
section
open Go.RowKit
def tpD (a b : Int) : D := .agg [.int .i64 a, .int .i64 b]

theorem o_ve (cs : List Bool) (most times : Nat) (y t : Nat) (f : Bool) (p : Nat) (d : Bool) (hm : most ≤ 1023) (hts : times ≤ 20) (hy : y ≤ 100000) (ht : t ≤ times) (hp : p ≤ cs.length) (hc : cs.length ≤ 4000000) (R : TR) (hR : R = downM cs most times (times - t + 1) y t f p d) :
  Eqn Tryz.prog o_fn [.d (tpD most times), .p 0 0, .d (tsD y t f)] [tapeO cs p d] (.tup [.d (tsD R.y R.t R.f), .d (.int .i64 R.e)]) [tapeO cs R.p R.d] := by
 refine Eqn.obj1 o_qt Plain.ok ⟨rfl, fun _ => rfl⟩ ?_
 simp only [o_fo, tsD, tpD]
 refine G0B ?_; try with_reducible exact tt
 refine AW.loopT (α := Nat × Nat × Nat × Bool) 4 (fun s => []) (fun s => [(0, tapeO cs s.2.2.1 s.2.2.2), (2, ⟨139, [.d (.int .i64 (s.1 : Nat)), .d (.int .i64 (s.2.1 : Nat)), .d (.bool f)]⟩)]) (fun s => s.1 ≤ 100000 ∧ s.2.1 ≤ times ∧ s.2.2.1 ≤ cs.length ∧ R = downM cs most times (times - s.2.1 + 1) s.1 s.2.1 f s.2.2.1 s.2.2.2) (fun s => times - s.2.1) (y, t, p, d) ?_ ?_ ⟨hy, ht, hp, hR⟩ ?_ ?_ ?_
 ·simp
 ·simp
 ·simp
 ·simp
 clear hR
 rintro ⟨z, u, q, dd⟩ ⟨hz, hu, hq, hR⟩
 simp only at hz hu hq hR
 rw [downM] at hR
 simp [-Bool.exists_bool]
 by_cases h : most < z
 ·rw [if_pos h] at hR
  have h' : (most : Int) < z := by omega
  refine G1B (fs h h') ?_; try with_reducible exact tt
  refine AW.cond rfl (fun hh => ?_) (fun hh => ?_)
  ·by_cases hut : u = times
   ·subst hut
    rw [if_pos rfl] at hR
    refine G0B ?_; try with_reducible exact tt
    refine AW.cond rfl (fun hh => ?_) (fun hh => ?_)
    ·refine G0B ?_; try with_reducible exact tt
     simp [hR]
    ·simp at hh
   ·rw [if_neg hut] at hR
    have hut' : ¬ (u : Int) = times := by omega
    have hb := o_vd cs z u f 1 q dd (by omega) hz (by omega) hq hc
    have hle := o_84 cs f 1 z u q dd hq
    rw [show (1 : Int).toNat = 1 by rfl] at hb
    generalize thinM cs f 1 z u q dd = B at *
    obtain ⟨be, bz, bu, bf, bp, bd⟩ := B
    simp only [tsD] at hb hle hR
    refine G1B (fs hut hut') ?_; try with_reducible exact tt
    refine AW.cond rfl (fun hh => ?_) (fun hh => ?_)
    ·simp [hut, hut'] at hh
    refine G0B ?_; try with_reducible exact tt
    refine CallS.o1 0 (hb) (R0B ?_); try with_reducible exact tt
    by_cases hE : be = 0
    ·subst hE
     rw [if_pos rfl] at hR
     have := hle.2.2.2.2.1 rfl
     refine AW.cond rfl (fun hh => ?_) (fun hh => ?_)
     ·simp at hh
     refine G0B ?_; try with_reducible exact tt
     exact ⟨bz, bu, bp, bd, ⟨by omega, by omega, hle.1, by rw [hR]; congr 1; omega⟩, by omega, by simp, by simp⟩
    ·rw [if_neg hE] at hR
     refine AW.cond rfl (fun hh => ?_) (fun hh => ?_)
     ·refine G0B ?_; try with_reducible exact tt
      simp [hR]
     ·simp [hE] at hh
  ·simp [h] at hh
 ·rw [if_neg h] at hR
  have h' : ¬ (most : Int) < z := by omega
  refine G1B (fs h h') ?_; try with_reducible exact tt
  refine AW.cond rfl (fun hh => ?_) (fun hh => ?_)
  ·simp [h'] at hh
  refine G0B ?_; try with_reducible exact tt
  simp [hR]

theorem o_vf (cs : List Bool) (most times : Nat) (y t : Nat) (f : Bool) (p : Nat) (d : Bool) (hm : most ≤ 1023) (hts : times ≤ 20) (hy : y ≤ 90000) (ht : t ≤ times) (hp : p ≤ cs.length) (hc : cs.length ≤ 4000000) (R : TR) (hR : R = oneM cs most times y t f p d) :
  Eqn Tryz.prog o_f4 [.d (tpD most times), .p 0 0, .d (tsD y t f)] [tapeO cs p d] (.tup [.d (tsD R.y R.t R.f), .d (.int .i64 R.e)]) [tapeO cs R.p R.d] := by
 refine Eqn.obj1 o_qj Plain.ok ⟨rfl, fun _ => rfl⟩ ?_
 have hh := o_7v cs p d t (by omega) hp hc
 have hle := o_82 (cs := cs) t p d hp
 rw [show (t : Int).toNat = t by omega] at hh
 unfold oneM at hR
 generalize halfR cs t p d = H at *
 obtain ⟨h1, h2, h3, h4⟩ := H
 simp only at hh hR hle
 have e1 : IntKind.i64.wrap ((y : Int) + 1) = ((y + 1 : Nat) : Int) := by rw [w64 (by omega) (by omega)]; omega
 cases h1 with
 | true =>
  rw [if_pos rfl] at hR
  have hd := o_ve cs most times (y + 1) t f h3 h4 hm hts (by omega) ht hle hc R hR
  clear hR
  obtain ⟨re, ry, rt, rf, rp, rd⟩ := R
  simp only [o_6n, tsD, tpD] at hd ⊢
  refine G0B ?_; try with_reducible exact tt
  refine CallS.o1 0 (hh) (R0B ?_); try with_reducible exact tt
  refine AW.cond rfl (fun h => ?_) (fun h => ?_)
  ·simp at h
  refine G1B e1 ?_; try with_reducible exact tt
  refine CallS.o1 0 (hd) (R0B ?_); try with_reducible exact tt
 | false =>
  rw [if_neg (by simp)] at hR
  subst hR
  simp only [o_6n, tsD, tpD]
  refine G0B ?_; try with_reducible exact tt
  refine CallS.o1 0 (hh) (R0B ?_); try with_reducible exact tt
  refine AW.cond rfl (fun h => ?_) (fun h => ?_)
  ·refine G0B ?_; try with_reducible exact tt
  ·simp at h

theorem o_k0 {cs : List Bool} {most times y t : Nat} {f : Bool} {p : Nat} {d : Bool} (hp : p ≤ cs.length) (ht : t ≤ times) (hy : y ≤ most) :
  (oneM cs most times y t f p d).p ≤ cs.length ∧ (oneM cs most times y t f p d).t ≤ times ∧ ((oneM cs most times y t f p d).e = 0 → (oneM cs most times y t f p d).y ≤ most) ∧ ((f = true → t = times) → (oneM cs most times y t f p d).f = true → (oneM cs most times y t f p d).t = times) := by
 unfold oneM
 have hle := o_82 (cs := cs) t p d hp
 split
 ·have := o_jz cs most times (times - t + 1) (y + 1) t f (halfR cs t p d).2.2.1 (halfR cs t p d).2.2.2 hle ht (by omega)
  exact ⟨this.1, this.2.1, this.2.2.2.1, this.2.2.2.2.1⟩
 ·exact ⟨hle, ht, fun _ => hy, fun hf h => hf h⟩
theorem o_k1 {cs : List Bool} {most times : Nat} : ∀ (n y t : Nat) (f : Bool) (p : Nat) (d : Bool), p ≤ cs.length → t ≤ times → y ≤ most → (f = true → t = times) →
  (addTM cs most times n y t f p d).p ≤ cs.length ∧ (addTM cs most times n y t f p d).t ≤ times ∧ ((addTM cs most times n y t f p d).e = 0 → (addTM cs most times n y t f p d).y ≤ most) ∧ ((addTM cs most times n y t f p d).f = true → (addTM cs most times n y t f p d).t = times)
 | 0, y, t, f, p, d, hp, ht, hy, hf => ⟨hp, ht, fun _ => hy, hf⟩
 | n + 1, y, t, f, p, d, hp, ht, hy, hf => by
  have := o_k0 (cs := cs) (most := most) (times := times) (y := y) (t := t) (f := f) (p := p) (d := d) hp ht hy
  rw [addTM]
  split
  ·rename_i he
   exact o_k1 n _ _ _ _ _ this.1 this.2.1 (this.2.2.1 he) (this.2.2.2 hf)
  ·exact ⟨this.1, this.2.1, this.2.2.1, this.2.2.2 hf⟩
def GoodT (a b : Nat) : Prop := 1 ≤ a ∧ a ≤ 1023 ∧ b ≤ 20
def WellT (a b y t : Nat) (f : Bool) : Prop := y ≤ a ∧ t ≤ b ∧ (f = true → t = b)

theorem o_4e {a b : Nat} (h : GoodT a b) : Eqn Tryz.prog o_fd [.d (tpD a b)] [] (.d (.int .i64 0)) [] := by
 refine Eqn.pure o_qo Plain.ok ?_
 obtain ⟨h1, h2, h3⟩ := h
 have g1 : ¬ (a : Int) < 1 := by omega
 have g2 : ¬ (1023 : Int) < a := by omega
 have g3 : ¬ (b : Int) < 0 := by omega
 have g4 : ¬ (20 : Int) < b := by omega
 simp only [o_fe, tpD]
 refine G1 (fs g1 (fs g2 (fs g3 g4))) ?_; try with_reducible exact tt
 refine AW.cond rfl (fun h => ?_) (fun h => ?_)
 ·simp at h
 ·refine G0 ?_; try with_reducible exact tt
theorem o_vg {a b y t : Nat} {f : Bool} (h : GoodT a b) (hw : WellT a b y t f) : Eqn Tryz.prog o_6y [.d (tpD a b), .d (tsD y t f)] [] (.d (.bool true)) [] := by
 refine Eqn.pure o_g8 Plain.ok ?_
 have hc := o_4e h
 obtain ⟨h1, h2, h3⟩ := hw
 have g1 : (y : Int) ≤ a := by omega
 have g2 : (t : Int) ≤ b := by omega
 have g3 : (0 : Int) ≤ y := by omega
 have g4 : (0 : Int) ≤ t := by omega
 simp only [o_6z, tpD, tsD] at hc ⊢
 cases f with
 | true =>
  obtain rfl := h3 rfl
  refine G1 (fs g1 (fs g2 (fs g3 (fs g4 h1)))) ?_; try with_reducible exact tt
  refine CallS.pu (hc) (R1 (fs g1 (fs g2 (fs g3 (fs g4 h1)))) ?_); try with_reducible exact tt
 | false =>
  refine G1 (fs g1 (fs g2 (fs g3 (fs g4 (fs h1 h2))))) ?_; try with_reducible exact tt
  refine CallS.pu (hc) (R1 (fs g1 (fs g2 (fs g3 (fs g4 (fs h1 h2))))) ?_); try with_reducible exact tt

theorem o_k2 {a b y t : Nat} {f : Bool} (h : GoodT a b) (hw : WellT a b y t f) : Eqn Tryz.prog o_eu [.d (tpD a b), .d (.sl 1 [.int .i64 y, .int .i64 t, .bool f])] [] (.d (.int .i64 0)) [] := by
 refine Eqn.pure o_qe Plain.ok ?_
 have hc := o_4e h
 have hw := o_vg h hw
 simp only [o_ev, tpD, tsD] at hc hw ⊢
 refine G0 ?_; try with_reducible exact tt
 refine CallS.pu (hc) (R0 ?_); try with_reducible exact tt
 refine AW.cond rfl (fun h => ?_) (fun h => ?_)
 ·simp at h
 refine G0 ?_; try with_reducible exact tt
 refine AW.loopT (α := Nat) 1 (fun i => [(15, .d (.int .i64 (i : Int)))]) (fun i => []) (fun i => i ≤ 1) (fun i => 1 - i) 0 ?_ ?_ (Nat.zero_le _) ?_ ?_ ?_
 ·simp
 ·simp
 ·simp
 ·simp
 rintro i hi
 simp
 have hi' : i = 0 ∨ i = 1 := by omega
 rcases hi' with rfl | rfl
 ·refine G0 ?_; try with_reducible exact tt
  refine AW.cond rfl (fun h => ?_) (fun h => ?_)
  ·refine G0 ?_; try with_reducible exact tt
   refine CallS.pu (hw) (R0 ?_); try with_reducible exact tt
   refine AW.cond rfl (fun h => ?_) (fun h => ?_)
   ·simp at h
   have ew : IntKind.i64.wrap 1 = 1 := w64 (by omega) (by omega)
   refine G1 ew ?_; try with_reducible exact tt
   exact ⟨1, by omega, by omega, by simp⟩
  ·simp at h
 ·refine G0 ?_; try with_reducible exact tt
  refine AW.cond rfl (fun h => ?_) (fun h => ?_)
  ·simp at h
  refine AW.exit ?_
  (try (simp -implicitDefEqProofs; try simp (disch := omega) only [w64, wu64]))
  refine G0 ?_; try with_reducible exact tt
end
end Go.Proofs.YtijbgbpjionfjaaGreatDoor.Am
namespace Go.Proofs.YtijbgbpjionfjaaGreatDoor.Am
section
open Go.RowKit
theorem o_vh (cs : List Bool) (a b y t : Nat) (f : Bool) (k : Int) (p : Nat) (d : Bool) (hgt : GoodT a b) (hw : WellT a b y t f) (hk : k ≤ 1048576) (hp : p ≤ cs.length) (hc : cs.length ≤ 4000000) (R : TR) (hR : R = addTM cs a b k.toNat y t f p d) :
  Eqn Tryz.prog o_dh [.d (tpD a b), .p 0 0, .d (tsD y t f), .d (.int .i64 k)] [tapeO cs p d] (.tup [.d (if R.e = 0 then tsD R.y R.t R.f else tsD y t f), .d (.int .i64 R.e)]) [tapeO cs R.p R.d] := by
 refine Eqn.obj1 o_po Plain.ok ⟨rfl, fun _ => rfl⟩ ?_
 have hwr := o_k2 hgt hw
 obtain ⟨n, hn, e0⟩ : ∃ n : Nat, n = k.toNat ∧ max 0 k = (n : Int) := ⟨k.toNat, rfl, by omega⟩
 rw [← hn] at hR
 have g1 : ¬ (1048576 : Int) < k := by omega
 simp only [o_di, tsD, tpD] at hwr ⊢
 refine G0B ?_; try with_reducible exact tt
 refine CallS.pf 4 3 ⟨139, _⟩ [.int .i64 y, .int .i64 t, .bool f] (hwr) (by first | rfl | (simp [-Bool.exists_bool]; done)) (R0B ?_); try with_reducible exact tt
 refine AW.cond rfl (fun h => ?_) (fun h => ?_)
 ·simp at h
 refine G1B g1 ?_; try with_reducible exact tt
 refine AW.cond rfl (fun h => ?_) (fun h => ?_)
 ·simp [g1] at h
 refine G1B e0 ?_; try with_reducible exact tt
 refine AW.loopT (α := Nat × Nat × Nat × Bool × Nat × Bool) 6 (fun s => [(28, .d (.int .i64 (s.1 : Int)))]) (fun s => [(0, tapeO cs s.2.2.2.2.1 s.2.2.2.2.2), (5, ⟨139, [.d (.int .i64 (s.2.1 : Nat)), .d (.int .i64 (s.2.2.1 : Nat)), .d (.bool s.2.2.2.1)]⟩)]) (fun s => s.1 ≤ n ∧ WellT a b s.2.1 s.2.2.1 s.2.2.2.1 ∧ s.2.2.2.2.1 ≤ cs.length ∧ R = addTM cs a b (n - s.1) s.2.1 s.2.2.1 s.2.2.2.1 s.2.2.2.2.1 s.2.2.2.2.2) (fun s => n - s.1) (0, y, t, f, p, d) ?_ ?_ ⟨Nat.zero_le _, hw, hp, hR⟩ ?_ ?_ ?_
 ·simp
 ·simp
 ·simp
 ·simp
 clear hR
 rintro ⟨i, z, u, g, q, dd⟩ ⟨hi, hz, hq, hR⟩
 simp only at hi hz hq hR
 simp [-Bool.exists_bool]
 by_cases hin : i = n
 ·subst hin
  rw [Nat.sub_self, addTM] at hR
  refine G0B ?_; try with_reducible exact tt
  refine AW.cond rfl (fun h => ?_) (fun h => ?_)
  ·simp at h
  refine G0B ?_; try with_reducible exact tt
  simp [hR]
 ·have h1 : i < n := by omega
  have h2 : (i : Int) < n := by omega
  obtain ⟨r, hr⟩ : ∃ r, n - i = r + 1 := ⟨n - i - 1, by omega⟩
  rw [hr, addTM] at hR
  have hb := o_vf cs a b z u g q dd hgt.2.1 hgt.2.2 (by have := hz.1; have := hgt.2.1; omega) hz.2.1 hq hc _ rfl
  have hle := o_k0 (cs := cs) (most := a) (times := b) (y := z) (t := u) (f := g) (p := q) (d := dd) hq hz.2.1 hz.1
  have e1 : IntKind.i64.wrap ((i : Int) + 1) = ((i + 1 : Nat) : Int) := by rw [w64 (by omega) (by omega)]; omega
  generalize oneM cs a b z u g q dd = B at *
  obtain ⟨be, bz, bu, bf, bp, bd⟩ := B
  simp only [tsD, tpD] at hb hle hR
  refine G1B (fs h1 h2) ?_; try with_reducible exact tt
  refine AW.cond rfl (fun h => ?_) (fun h => ?_)
  ·clear h
   refine G0B ?_; try with_reducible exact tt
   refine CallS.o1 0 (hb) (R0B ?_); try with_reducible exact tt
   by_cases hE : be = 0
   ·subst hE
    rw [if_pos rfl] at hR
    refine AW.cond rfl (fun h => ?_) (fun h => ?_)
    ·simp at h
    refine G1B e1 ?_; try with_reducible exact tt
    exact ⟨i + 1, bz, bu, bf, bp, bd, ⟨by omega, ⟨hle.2.2.1 rfl, hle.2.1, hle.2.2.2 hz.2.2⟩, hle.1, by rw [hR]; congr 1; omega⟩, by omega, by simp, by simp⟩
   ·rw [if_neg hE] at hR
    refine AW.cond rfl (fun h => ?_) (fun h => ?_)
    ·refine G0B ?_; try with_reducible exact tt
     simp [hR, hE]
    ·simp [hE] at h
  ·simp [h1] at h
end
end Go.Proofs.YtijbgbpjionfjaaGreatDoor.Am
namespace Go.Proofs.YtijbgbpjionfjaaGreatDoor.Am
section
open Go.RowKit
def GoodC (k a w : Nat) : Prop := (k = 1 ∧ 1 ≤ a ∧ a ≤ 4096 ∧ bitsN (a + 1) * (2 ^ w - 1) ≤ 8192 ∨ k = 2 ∧ a ≤ 8 ∨ k = 3 ∧ 1 ≤ a ∧ a ≤ 5) ∧ 1 ≤ w ∧ w ≤ 10
theorem o_vi {k a w : Nat} (h : GoodS k a w) : GoodC k a w := by
 obtain ⟨h, h1, h2⟩ := h
 refine ⟨?_, h1, by omega⟩
 rcases h with ⟨rfl, h3, h4⟩ | ⟨rfl, h3⟩ | ⟨rfl, h3, h4⟩
 ·refine .inl ⟨rfl, h3, by omega, ?_⟩
  have ha : a = 1 ∨ a = 2 ∨ a = 3 ∨ a = 4 := by omega
  have hw : w = 1 ∨ w = 2 ∨ w = 3 ∨ w = 4 := by omega
  rcases ha with rfl | rfl | rfl | rfl <;> rcases hw with rfl | rfl | rfl | rfl <;> decide
 ·exact .inr (.inl ⟨rfl, by omega⟩)
 ·exact .inr (.inr ⟨rfl, h3, by omega⟩)
theorem o_4f {k a w : Nat} (h : GoodC k a w) : Eqn Tryz.prog o_y [.d (parD k a w)] [] (.d (.int .i64 0)) [] := by
 obtain ⟨h, h1, h2⟩ := h
 rcases h with ⟨rfl, h3, h4, h5⟩ | ⟨rfl, h3⟩ | ⟨rfl, h3, h4⟩
 ·exact o_uu a w h3 h4 h1 h2 h5
 ·exact o_uw a w h3 h1 h2
 ·exact o_ux a w h3 h4 h1 h2
theorem o_k3 {k a w : Nat} (h : GoodC k a w) (cs : List Bool) (hn : cs.length ≤ 4000000) : ∃ ti d g, StepOf cs ti d g (stOf cs k a) ∧ kindD k a = .ifc ti d := by
 obtain ⟨h, -⟩ := h
 rcases h with ⟨rfl, -⟩ | ⟨rfl, -⟩ | ⟨rfl, -⟩
 ·exact ⟨_, _, _, ⟨o_tn, fun x p dd hp => o_uy cs a x p dd hp hn, fun x p dd hp => o_v7 hp⟩, rfl⟩
 ·exact ⟨_, _, _, ⟨o_to, fun x p dd hp => o_v3 cs a x p dd hp hn, fun x p dd hp => o_v8 hp⟩, rfl⟩
 ·exact ⟨_, _, _, ⟨o_tp, fun x p dd hp => o_v5 cs a x p dd hp hn, fun x p dd hp => o_v9 hp⟩, rfl⟩
theorem o_vj {k a w : Nat} (h : GoodC k a w) (cs : List Bool) (hcs : cs.length ≤ 4000000) (x : Nat) (hx : x ≤ 2 ^ w - 1) (f : Bool) (n : Nat) (m : Int) (hmx : max 0 m = (n : Int)) (hn : m ≤ 1048576) (p : Nat) (dd : Bool) (hp : p ≤ cs.length) (S : Int × Nat × Bool × Nat × Bool) (hS : S = addL (stOf cs k a) (2 ^ w - 1) n x f p dd) :
  Eqn Tryz.prog o_6d [.d (parD k a w), .p 0 0, .d (.agg [.int .i64 x, .bool f]), .d (.int .i64 m)] [tapeO cs p dd] (.tup [.d (.agg [.int .i64 (if S.1 = 0 then S.2.1 else x : Nat), .bool (if S.1 = 0 then S.2.2.1 else f)]), .d (.int .i64 S.1)]) [tapeO cs S.2.2.2.1 S.2.2.2.2] := by
 obtain ⟨ti, d, g, h1, h2⟩ := o_k3 h cs hcs
 exact o_v6 cs k a w h.2.2 ti d g _ h1 h2 (o_4f h) x hx f n m hmx hn p dd hp S hS
theorem o_vk {k a w : Nat} (h : GoodC k a w) (cs : List Bool) (hn : cs.length ≤ 4000000) : ∀ x p d, p ≤ cs.length → (stOf cs k a x p d).2.2.1 ≤ cs.length := by
 obtain ⟨ti, d, g, h1, h2⟩ := o_k3 h cs hn
 exact h1.le
theorem o_k4 {st : StepT} {top : Nat} : ∀ (n x : Nat) (f : Bool) (p : Nat) (d : Bool), (f = true → x = top) → (addL st top n x f p d).2.2.1 = true → (addL st top n x f p d).2.1 = top
 | 0, x, f, p, d, hf, h => hf h
 | n + 1, x, f, p, d, hf, h => by
  rw [addL] at h ⊢
  by_cases hx : x = top
  ·simp only [if_pos hx]; exact hx
  ·simp only [if_neg hx] at h ⊢
   have hff : f = false := by cases f with | false => rfl | true => exact absurd (hf rfl) hx
   subst hff
   by_cases he : (st x p d).2.1 = 0
   ·simp only [if_pos he] at h ⊢
    simp only [Bool.false_eq_true, false_and, if_false] at h ⊢
    exact o_k4 n _ _ _ _ (by simp) h
   ·simp only [if_neg he] at h; cases h
def GoodR (k a b : Nat) : Prop := k = 4 ∧ GoodT a b ∨ k ≠ 4 ∧ GoodC k a b
def WellR (k a b y t : Nat) (f : Bool) : Prop := k = 4 ∧ WellT a b y t f ∨ k ≠ 4 ∧ t = 0 ∧ y ≤ 2 ^ b - 1 ∧ (f = true → y = 2 ^ b - 1)
def addRM (cs : List Bool) (k a b n y t : Nat) (f : Bool) (p : Nat) (d : Bool) : TR :=
 if k = 4 then addTM cs a b n y t f p d
 else ⟨(addL (stOf cs k a) (2 ^ b - 1) n y f p d).1, (addL (stOf cs k a) (2 ^ b - 1) n y f p d).2.1, 0, (addL (stOf cs k a) (2 ^ b - 1) n y f p d).2.2.1, (addL (stOf cs k a) (2 ^ b - 1) n y f p d).2.2.2.1, (addL (stOf cs k a) (2 ^ b - 1) n y f p d).2.2.2.2⟩
def mergeRM (cs : List Bool) (k a b y t : Nat) (f : Bool) (z u : Nat) (g : Bool) (p : Nat) (d : Bool) : TR :=
 if k = 4 then mergeTM cs a b y t f z u g p d
 else ⟨(mergeL (agOf cs k a) (2 ^ b - 1) z 0 y f p d).1, (mergeL (agOf cs k a) (2 ^ b - 1) z 0 y f p d).2.1, 0, (mergeL (agOf cs k a) (2 ^ b - 1) z 0 y f p d).2.2.1 || g, (mergeL (agOf cs k a) (2 ^ b - 1) z 0 y f p d).2.2.2.1, (mergeL (agOf cs k a) (2 ^ b - 1) z 0 y f p d).2.2.2.2⟩

theorem o_u {cs : List Bool} {k a b n y t : Nat} {f : Bool} {p : Nat} {d : Bool} (h : GoodR k a b) (hw : WellR k a b y t f) (hp : p ≤ cs.length) (hc : cs.length ≤ 4000000) :
  (addRM cs k a b n y t f p d).p ≤ cs.length ∧ ((addRM cs k a b n y t f p d).e = 0 → WellR k a b (addRM cs k a b n y t f p d).y (addRM cs k a b n y t f p d).t (addRM cs k a b n y t f p d).f) := by
 unfold addRM
 rcases hw with ⟨rfl, hw⟩ | ⟨hk, rfl, hy, hf⟩
 ·rw [if_pos rfl]
  have := o_k1 (cs := cs) n y t f p d hp hw.2.1 hw.1 hw.2.2
  exact ⟨this.1, fun he => .inl ⟨rfl, this.2.2.1 he, this.2.1, this.2.2.2⟩⟩
 ·rw [if_neg hk]
  rcases h with ⟨rfl, -⟩ | ⟨-, hg⟩
  ·exact absurd rfl hk
  have h1 := o_jx (top := 2 ^ b - 1) (o_vk hg cs hc) n y f p d hy hp
  exact ⟨h1.2.2, fun _ => .inr ⟨hk, rfl, h1.2.1, o_k4 n y f p d hf⟩⟩
end
end Go.Proofs.YtijbgbpjionfjaaGreatDoor.Am
namespace Go.Proofs.YtijbgbpjionfjaaGreatDoor.Am
section
def b2n (b : Bool) : Nat := if b then 1 else 0
@[simp] theorem o_4g (b : Bool) : b2n b ≤ 1 := by cases b <;> decide
def numB : List Bool → Nat → Nat
 | [], n => n
 | b :: l, n => numB l (2 * n + b2n b)
theorem o_22 : ∀ (l k : List Bool) (n : Nat), numB (l ++ k) n = numB k (numB l n)
 | [], k, n => rfl
 | b :: l, k, n => o_22 l k _
theorem o_85 : ∀ (l : List Bool) (n : Nat), numB l n = n * 2 ^ l.length + numB l 0
 | [], n => by simp [numB]
 | b :: l, n => by
  rw [numB, o_85 l, numB, o_85 l (2 * 0 + b2n b), List.length_cons, Nat.pow_succ, Nat.add_mul, Nat.mul_zero, Nat.zero_add, ← Nat.add_assoc, Nat.mul_comm 2 n, Nat.mul_assoc, Nat.mul_comm 2]
theorem o_86 : ∀ l : List Bool, numB l 0 < 2 ^ l.length
 | [] => by simp [numB]
 | b :: l => by
  rw [numB, o_85, List.length_cons, Nat.pow_succ]
  have := o_86 l
  have := o_4g b
  generalize 2 ^ l.length = v at *
  cases b <;> simp [b2n] <;> omega
def bitsW (n w : Nat) : List Bool := (List.range w).map fun i => decide (n / 2 ^ (w - 1 - i) % 2 = 1)
@[simp] theorem o_1n (n w : Nat) : (bitsW n w).length = w := by simp [bitsW]
theorem o_k5 (n w : Nat) : bitsW n (w + 1) = bitsW (n / 2) w ++ [decide (n % 2 = 1)] := by
 simp only [bitsW, List.range_succ, List.map_append, List.map_cons, List.map_nil]
 congr 1
 ·apply List.map_congr_left
  intro i hi
  have := List.mem_range.1 hi
  rw [Nat.div_div_eq_div_mul, ← Nat.pow_succ', show w + 1 - 1 - i = (w - 1 - i).succ by omega]
 ·simp
theorem o_87 : ∀ (w n : Nat), numB (bitsW n w) 0 = n % 2 ^ w
 | 0, n => by simp [bitsW, numB, Nat.mod_one]
 | w + 1, n => by
  rw [o_k5, o_22, o_87 w]
  simp only [numB]
  rw [Nat.pow_succ, Nat.mul_comm (2 ^ w) 2, Nat.mod_mul]
  have h2 : b2n (decide (n % 2 = 1)) = n % 2 := by
   rcases Nat.mod_two_eq_zero_or_one n with h | h <;> simp [h, b2n]
  rw [h2]; omega

def bit (bs : List Bool) (i : Nat) : Nat := b2n (bs.getD i false)
def byteAt (bs : List Bool) (i : Nat) : Nat := bit bs (8 * i) * 128 + bit bs (8 * i + 1) * 64 + bit bs (8 * i + 2) * 32 + bit bs (8 * i + 3) * 16 + bit bs (8 * i + 4) * 8 + bit bs (8 * i + 5) * 4 + bit bs (8 * i + 6) * 2 + bit bs (8 * i + 7)
theorem o_f (bs : List Bool) (i : Nat) : bit bs i ≤ 1 := o_4g _
theorem o_k6 (bs : List Bool) (i : Nat) : byteAt bs i < 256 := by
 unfold byteAt
 have h0 := o_f bs (8 * i); have h1 := o_f bs (8 * i + 1); have h2 := o_f bs (8 * i + 2); have h3 := o_f bs (8 * i + 3)
 have h4 := o_f bs (8 * i + 4); have h5 := o_f bs (8 * i + 5); have h6 := o_f bs (8 * i + 6); have h7 := o_f bs (8 * i + 7)
 omega
def bytesOf (bs : List Bool) : List Nat := (List.range ((bs.length + 7) / 8)).map (byteAt bs)
@[simp] theorem o_q (bs : List Bool) : (bytesOf bs).length = (bs.length + 7) / 8 := by simp [bytesOf]
theorem o_17 {bs : List Bool} {i : Nat} (h : bs.length ≤ i) : bit bs i = 0 := by
 unfold bit; rw [List.getD_eq_getElem?_getD, List.getElem?_eq_none h]; rfl
theorem o_18 {bs : List Bool} {b : Bool} {i : Nat} (h : i ≠ bs.length) : bit (bs ++ [b]) i = bit bs i := by
 unfold bit
 rw [List.getD_eq_getElem?_getD, List.getD_eq_getElem?_getD]
 rcases Nat.lt_or_gt_of_ne h with h' | h'
 ·rw [List.getElem?_append_left h']
 ·rw [List.getElem?_eq_none (by simp; omega), List.getElem?_eq_none (by omega)]
theorem o_vl {bs : List Bool} {b : Bool} : bit (bs ++ [b]) bs.length = b2n b := by
 unfold bit; rw [List.getD_eq_getElem?_getD]; simp
theorem o_k7 {bs : List Bool} {b : Bool} {i : Nat} (h : i ≠ bs.length / 8) : byteAt (bs ++ [b]) i = byteAt bs i := by
 unfold byteAt
 rw [o_18 (by omega), o_18 (by omega), o_18 (by omega), o_18 (by omega), o_18 (by omega), o_18 (by omega), o_18 (by omega), o_18 (by omega)]
theorem o_k8 {bs : List Bool} {b : Bool} : ∃ c, byteAt bs (bs.length / 8) = c * 2 ^ (8 - bs.length % 8) ∧ byteAt (bs ++ [b]) (bs.length / 8) = c * 2 ^ (8 - bs.length % 8) + b2n b * 2 ^ (7 - bs.length % 8) := by
 have hs : ∀ k, k ≠ bs.length % 8 → k < 8 → bit (bs ++ [b]) (8 * (bs.length / 8) + k) = bit bs (8 * (bs.length / 8) + k) := fun k hk h8 => o_18 (by omega)
 have ho : ∀ k, bs.length % 8 ≤ k → bit bs (8 * (bs.length / 8) + k) = 0 := fun k hk => o_17 (by omega)
 have hl : bit (bs ++ [b]) (8 * (bs.length / 8) + bs.length % 8) = b2n b := by rw [show 8 * (bs.length / 8) + bs.length % 8 = bs.length by omega]; exact o_vl
 have hr : bs.length % 8 < 8 := Nat.mod_lt _ (by omega)
 unfold byteAt
 rw [show 8 * (bs.length / 8) = 8 * (bs.length / 8) + 0 by rfl]
 generalize 8 * (bs.length / 8) = q at *
 generalize bs.length % 8 = r at *
 generalize hL : bs ++ [b] = L at *
 have hr' : r = 0 ∨ r = 1 ∨ r = 2 ∨ r = 3 ∨ r = 4 ∨ r = 5 ∨ r = 6 ∨ r = 7 := by omega
 simp only [Nat.add_zero] at *
 rcases hr' with rfl | rfl | rfl | rfl | rfl | rfl | rfl | rfl
 ·refine ⟨0, ?_, ?_⟩
  ·have := ho 0; have := ho 1; have := ho 2; have := ho 3; have := ho 4; have := ho 5; have := ho 6; have := ho 7; simp_all
  ·have := ho 0; have := ho 1; have := ho 2; have := ho 3; have := ho 4; have := ho 5; have := ho 6; have := ho 7; have := hs 1; have := hs 2; have := hs 3; have := hs 4; have := hs 5; have := hs 6; have := hs 7; simp_all
 ·refine ⟨bit bs q, ?_, ?_⟩
  ·have := ho 1; have := ho 2; have := ho 3; have := ho 4; have := ho 5; have := ho 6; have := ho 7; simp_all
  ·have := ho 1; have := ho 2; have := ho 3; have := ho 4; have := ho 5; have := ho 6; have := ho 7; have := hs 0; have := hs 2; have := hs 3; have := hs 4; have := hs 5; have := hs 6; have := hs 7; simp_all
 ·refine ⟨bit bs q * 2 + bit bs (q + 1), ?_, ?_⟩
  ·have := ho 2; have := ho 3; have := ho 4; have := ho 5; have := ho 6; have := ho 7; simp_all; omega
  ·have := ho 2; have := ho 3; have := ho 4; have := ho 5; have := ho 6; have := ho 7; have := hs 0; have := hs 1; have := hs 3; have := hs 4; have := hs 5; have := hs 6; have := hs 7; simp_all; omega
 ·refine ⟨bit bs q * 4 + bit bs (q + 1) * 2 + bit bs (q + 2), ?_, ?_⟩
  ·have := ho 3; have := ho 4; have := ho 5; have := ho 6; have := ho 7; simp_all; omega
  ·have := ho 3; have := ho 4; have := ho 5; have := ho 6; have := ho 7; have := hs 0; have := hs 1; have := hs 2; have := hs 4; have := hs 5; have := hs 6; have := hs 7; simp_all; omega
 ·refine ⟨bit bs q * 8 + bit bs (q + 1) * 4 + bit bs (q + 2) * 2 + bit bs (q + 3), ?_, ?_⟩
  ·have := ho 4; have := ho 5; have := ho 6; have := ho 7; simp_all; omega
  ·have := ho 4; have := ho 5; have := ho 6; have := ho 7; have := hs 0; have := hs 1; have := hs 2; have := hs 3; have := hs 5; have := hs 6; have := hs 7; simp_all; omega
 ·refine ⟨bit bs q * 16 + bit bs (q + 1) * 8 + bit bs (q + 2) * 4 + bit bs (q + 3) * 2 + bit bs (q + 4), ?_, ?_⟩
  ·have := ho 5; have := ho 6; have := ho 7; simp_all; omega
  ·have := ho 5; have := ho 6; have := ho 7; have := hs 0; have := hs 1; have := hs 2; have := hs 3; have := hs 4; have := hs 6; have := hs 7; simp_all; omega
 ·refine ⟨bit bs q * 32 + bit bs (q + 1) * 16 + bit bs (q + 2) * 8 + bit bs (q + 3) * 4 + bit bs (q + 4) * 2 + bit bs (q + 5), ?_, ?_⟩
  ·have := ho 6; have := ho 7; simp_all; omega
  ·have := ho 6; have := ho 7; have := hs 0; have := hs 1; have := hs 2; have := hs 3; have := hs 4; have := hs 5; have := hs 7; simp_all; omega
 ·refine ⟨bit bs q * 64 + bit bs (q + 1) * 32 + bit bs (q + 2) * 16 + bit bs (q + 3) * 8 + bit bs (q + 4) * 4 + bit bs (q + 5) * 2 + bit bs (q + 6), ?_, ?_⟩
  ·have := ho 7; simp_all; omega
  ·have := ho 7; have := hs 0; have := hs 1; have := hs 2; have := hs 3; have := hs 4; have := hs 5; have := hs 6; simp_all; omega

theorem o_vm {bs : List Bool} {b : Bool} (h : bs.length % 8 = 0) : bytesOf (bs ++ [b]) = bytesOf bs ++ [b2n b * 128] := by
 unfold bytesOf
 rw [List.length_append, List.length_singleton, show (bs.length + 1 + 7) / 8 = (bs.length + 7) / 8 + 1 by omega, List.range_succ, List.map_append]
 congr 1
 ·apply List.map_congr_left
  intro i hi
  have := List.mem_range.1 hi
  exact o_k7 (by omega)
 ·obtain ⟨c, h1, h2⟩ := o_k8 (bs := bs) (b := b)
  have h3 : byteAt bs (bs.length / 8) = 0 := by
   unfold byteAt
   rw [o_17 (by omega), o_17 (by omega), o_17 (by omega), o_17 (by omega), o_17 (by omega), o_17 (by omega), o_17 (by omega), o_17 (by omega)]
  rw [h3, h, Nat.sub_zero] at h1
  rw [h, Nat.sub_zero, Nat.sub_zero] at h2
  rw [List.map_singleton, show (bs.length + 7) / 8 = bs.length / 8 by omega, h2, ← h1]
  simp
theorem o_vn {bs : List Bool} {b : Bool} (h : bs.length % 8 ≠ 0) : ∃ c, (bytesOf bs).getD (bs.length / 8) 0 = c * 2 ^ (8 - bs.length % 8) ∧ bytesOf (bs ++ [b]) = (bytesOf bs).set (bs.length / 8) (c * 2 ^ (8 - bs.length % 8) + b2n b * 2 ^ (7 - bs.length % 8)) := by
 obtain ⟨c, h1, h2⟩ := o_k8 (bs := bs) (b := b)
 refine ⟨c, ?_, ?_⟩
 ·unfold bytesOf
  rw [List.getD_eq_getElem?_getD, List.getElem?_map, List.getElem?_range (by omega)]
  exact h1
 ·apply List.ext_getElem?
  intro i
  rw [List.getElem?_set]
  unfold bytesOf
  simp only [List.getElem?_map, List.length_map, List.length_range, List.length_append, List.length_singleton]
  rw [show (bs.length + 1 + 7) / 8 = (bs.length + 7) / 8 by omega]
  by_cases hi : bs.length / 8 = i
  ·subst hi
   rw [if_pos rfl, if_pos (by omega), List.getElem?_range (by omega), Option.map_some, h2]
  ·rw [if_neg hi]
   by_cases hl : i < (bs.length + 7) / 8
   ·rw [List.getElem?_range hl, Option.map_some, Option.map_some, o_k7 (fun h => hi h.symm)]
   ·rw [List.getElem?_eq_none (by simp; omega)]; rfl

def bitsOf1 (x : Nat) : List Bool := bitsW x 8
def bitsOf : List Nat → List Bool
 | [] => []
 | x :: l => bitsOf1 x ++ bitsOf l
@[simp] theorem o_vo : ∀ l : List Nat, (bitsOf l).length = 8 * l.length
 | [] => rfl
 | x :: l => by simp [bitsOf, bitsOf1, o_vo l]; omega
theorem o_vp : ∀ l k : List Nat, bitsOf (l ++ k) = bitsOf l ++ bitsOf k
 | [], k => rfl
 | x :: l, k => by simp [bitsOf, o_vp l k]
theorem o_88 : ∀ (l : List Nat) (i : Nat), i < 8 * l.length → (bitsOf l).getD i false = decide (l.getD (i / 8) 0 / 2 ^ (7 - i % 8) % 2 = 1)
 | [], i, h => by simp at h
 | x :: l, i, h => by
  rw [bitsOf, List.getD_eq_getElem?_getD]
  by_cases h8 : i < 8
  ·rw [List.getElem?_append_left (by simp [bitsOf1]; omega), bitsOf1, bitsW, List.getElem?_map, List.getElem?_range h8, show i / 8 = 0 by omega, show i % 8 = i by omega]
   rfl
  ·rw [List.getElem?_append_right (by simp [bitsOf1]; omega), ← List.getD_eq_getElem?_getD]
   have := o_88 l (i - 8) (by simp at h; omega)
   simp only [bitsOf1, o_1n]
   rw [this, show i / 8 = (i - 8) / 8 + 1 by omega, show (i - 8) % 8 = i % 8 by omega]
   simp
theorem o_vq (bs : List Bool) : (bitsOf (bytesOf bs)).take bs.length = bs := by
 apply List.ext_getElem?
 intro i
 rw [List.getElem?_take]
 by_cases h : i < bs.length
 ·rw [if_pos h, List.getElem?_eq_getElem (by simp; omega), List.getElem?_eq_getElem h]
  congr 1
  have h1 := o_88 (bytesOf bs) i (by simp; omega)
  rw [List.getD_eq_getElem?_getD, List.getElem?_eq_getElem (by simp; omega), Option.getD_some] at h1
  rw [h1]
  have h2 : (bytesOf bs).getD (i / 8) 0 = byteAt bs (i / 8) := by
   unfold bytesOf
   rw [List.getD_eq_getElem?_getD, List.getElem?_map, List.getElem?_range (by omega)]; rfl
  rw [h2]
  have h3 : bit bs i = b2n bs[i] := by unfold bit; rw [List.getD_eq_getElem?_getD, List.getElem?_eq_getElem h]; rfl
  have h4 : byteAt bs (i / 8) / 2 ^ (7 - i % 8) % 2 = bit bs i := by
   have e : i = 8 * (i / 8) + i % 8 := by omega
   have hr : i % 8 < 8 := Nat.mod_lt _ (by omega)
   conv => rhs; rw [e]
   unfold byteAt
   generalize i / 8 = q at *
   generalize i % 8 = r at *
   have g0 := o_f bs (8 * q); have g1 := o_f bs (8 * q + 1); have g2 := o_f bs (8 * q + 2); have g3 := o_f bs (8 * q + 3)
   have g4 := o_f bs (8 * q + 4); have g5 := o_f bs (8 * q + 5); have g6 := o_f bs (8 * q + 6); have g7 := o_f bs (8 * q + 7)
   have hr' : r = 0 ∨ r = 1 ∨ r = 2 ∨ r = 3 ∨ r = 4 ∨ r = 5 ∨ r = 6 ∨ r = 7 := by omega
   rcases hr' with rfl | rfl | rfl | rfl | rfl | rfl | rfl | rfl <;> simp only [Nat.add_zero, Nat.sub_zero, Nat.reducePow, Nat.reduceSub] <;> omega
  rw [h4, h3]
  cases bs[i] <;> rfl
 ·rw [if_neg h, List.getElem?_eq_none (by omega)]
end
end Go.Proofs.YtijbgbpjionfjaaGreatDoor.Am
namespace Go.Proofs.YtijbgbpjionfjaaGreatDoor.Am
section
open Go.RowKit
def u8s (ws : List Nat) : List V := ws.map fun x : Nat => V.d (.int .u8 x)
def BY (ws : List Nat) : D := .sl ws.length (ws.map fun x : Nat => .int .u8 x)
theorem o_4h (ws : List Nat) : (u8s ws).length = ws.length := by simp [u8s]
theorem o_k9 {ws : List Nat} {j : Nat} (h : j < ws.length) : (u8s ws)[j]? = some (.d (.int .u8 (ws.getD j 0 : Nat))) := by simp [u8s, h]
theorem o_vr (ws : List Nat) (j v : Nat) : (u8s ws).set j (.d (.int .u8 v)) = u8s (ws.set j v) := by simp [u8s, List.map_set]
theorem o_ka (ws : List Nat) (v : Nat) : u8s ws ++ [.d (.int .u8 v)] = u8s (ws ++ [v]) := by simp [u8s]
@[simp] theorem o_89 (n : Nat) (ws : List Nat) : V.lowl n (u8s ws) = true := by induction ws <;> simp_all [u8s]
@[simp] theorem o_vs (θ : Nat → Nat) (ws : List Nat) : V.rens θ (u8s ws) = u8s ws := by induction ws <;> simp_all [u8s]
def wrO (m : Nat) (bs : List Bool) : Ob := ⟨85, [.own m 1 ((bs.length + 7) / 8), .d (.int .i64 bs.length)]⟩
def wrB (bs : List Bool) : Ob := ⟨5, u8s (bytesOf bs)⟩

theorem o_vt (x y : Nat) (hx : x < 256) (hy : y < 256) : bits BinOp.or IntKind.u8 (x : Int) (y : Int) = ((x ||| y : Nat) : Int) := by
 show IntKind.u8.wrap (((BitVec.ofInt 8 (x : Int)) ||| (BitVec.ofInt 8 (y : Int))).toNat : Int) = _
 rw [BitVec.toNat_or, BitVec.ofInt_natCast, BitVec.ofInt_natCast, BitVec.toNat_ofNat, BitVec.toNat_ofNat, Nat.mod_eq_of_lt (by omega), Nat.mod_eq_of_lt (by omega)]
 have := Nat.or_lt_two_pow (n := 8) (x := x) (y := y) hx hy
 rw [IntKind.wrap_u8]
 omega
theorem o_vu {c r : Nat} (hr : r < 8) (h : c * 2 ^ (8 - r) < 256) : bits BinOp.or IntKind.u8 ((c * 2 ^ (8 - r) : Nat) : Int) ((2 ^ (7 - r) : Nat) : Int) = ((c * 2 ^ (8 - r) + 2 ^ (7 - r) : Nat) : Int) := by
 have h2 : 2 ^ (7 - r) < 2 ^ (8 - r) := Nat.pow_lt_pow_right (by omega) (by omega)
 have h3 : 2 ^ (7 - r) ≤ 2 ^ 7 := Nat.pow_le_pow_right (by omega) (by omega)
 rw [o_vt _ _ h (by omega), Nat.mul_comm c, Nat.two_pow_add_eq_or_of_lt h2]

theorem o_vv (b : Bool) : Eqn Tryz.prog o_6r [.p 0 0, .d (.bool b)] [⟨85, [.d .nilsl, .d (.int .i64 0)]⟩] (.tup []) [wrO 1 [b], wrB [b]] := by
 refine Eqn.gen [0, 2] o_6s (by simp) (by simp) (by rfl) (by decide) (by simp) (by simp [wrO, wrB, o_89]) ?_
 simp only [o_3t]
 have e1 : IntKind.i64.wrap 1 = 1 := w64 (by omega) (by omega)
 have e2 : bits BinOp.or IntKind.u8 0 (IntKind.u8.wrap 128) = 128 := by decide
 refine G0 ?_; try with_reducible exact tt
 refine AW.cond rfl (fun h => ?_) (fun h => ?_)
 ·refine G0 ?_; try with_reducible exact tt
  cases b with
  | true =>
   refine AW.cond rfl (fun h => ?_) (fun h => ?_)
   ·refine G1 (fs e1 e2) ?_; try with_reducible exact tt
    simp [wrO, wrB, u8s, bytesOf, byteAt, bit, b2n, List.range_succ]
   ·simp at h
  | false =>
   refine AW.cond rfl (fun h => ?_) (fun h => ?_)
   ·simp at h
   ·refine G1 (fs e1 e2) ?_; try with_reducible exact tt
    simp [wrO, wrB, u8s, bytesOf, byteAt, bit, b2n, List.range_succ]
 ·simp at h

theorem o_8a (bs : List Bool) (b : Bool) (h0 : bs ≠ []) (hn : bs.length ≤ 1000000) : EqnD Tryz.prog o_6r [.p 0 0, .d (.bool b)] [wrO 1 bs, wrB bs] (.tup []) [wrO 2 (bs ++ [b]), wrB bs, wrB (bs ++ [b])] [1] := by
 have e1 : IntKind.i64.wrap ((bs.length : Int) + 1) = (bs.length : Int) + 1 := w64 (by omega) (by omega)
 have e2 : ((bs.length : Nat) : Int).tmod 8 = ((bs.length % 8 : Nat) : Int) := by rw [Int.tmod_eq_emod_of_nonneg (by omega)]; rfl
 have e2' : ((bs.length : Nat) : Int) % 8 = ((bs.length % 8 : Nat) : Int) := rfl
 have e3 : IntKind.i64.wrap (((bs.length : Nat) : Int) / 8) = ((bs.length / 8 : Nat) : Int) := by rw [w64 (by omega) (by omega)]; rfl
 by_cases hr : bs.length % 8 = 0
 ·refine Eqn.gen [0, 1, 3] o_6s (by simp) (by simp) (by rfl) (by decide) (by simp) (by simp [wrO, wrB, o_89]) ?_
  have hb := o_vm (b := b) hr
  have hl : (bytesOf bs).length = bs.length / 8 := by rw [o_q]; omega
  simp only [o_3t, wrO, wrB, hb, List.length_append, List.length_singleton]
  rw [show (bs.length + 7) / 8 = bs.length / 8 by omega, show (bs.length + 1 + 7) / 8 = bs.length / 8 + 1 by omega]
  rw [hr] at e2 e2'
  have hg : (u8s (bytesOf bs ++ [0]))[bs.length / 8]? = some (.d (.int .u8 0)) := by rw [o_k9 (by simp; omega)]; simp [List.getD, ← hl]
  have hs : ∀ v, (u8s (bytesOf bs ++ [0])).set (bs.length / 8) (.d (.int .u8 v)) = u8s (bytesOf bs) ++ [.d (.int .u8 v)] := fun v => by simp [u8s, ← hl]
  have hu := o_ka (bytesOf bs) 0
  have hu2 := o_ka (bytesOf bs) (b2n b * 128)
  have hlen := o_4h (bytesOf bs)
  rw [hl] at hlen
  generalize bytesOf bs = ws at *
  have hq : bs.length / 8 ≤ 1000000 := by omega
  generalize bs.length / 8 = q at *
  generalize bs.length = n at *
  have e4 : bits BinOp.or IntKind.u8 0 (IntKind.u8.wrap 128) = 128 := by decide
  simp at hu
  have hlen2 : (u8s (ws ++ [0])).length = q + 1 := by rw [o_4h]; simp; omega
  refine G1 (fs e2 (fs e2' hu)) ?_; try with_reducible exact tt
  refine AW.cond rfl (fun h => ?_) (fun h => ?_)
  ·refine G1 (fs e2 (fs e2' hu)) ?_; try with_reducible exact tt
   cases b with
   | true =>
    simp [b2n] at hu2
    refine AW.cond rfl (fun h => ?_) (fun h => ?_)
    ·refine G1 (fs e1 (fs e2 (fs e2' (fs e3 (fs e4 (fs hg hs)))))) ?_; try with_reducible exact tt
     simp [hu2, b2n]
    ·simp at h
   | false =>
    simp [b2n] at hu2
    refine AW.cond rfl (fun h => ?_) (fun h => ?_)
    ·simp at h
    ·refine G1 e1 ?_; try with_reducible exact tt
     simp [hu2, b2n]
  ·simp at h
 ·refine Eqn.gen [0, 1, 1] o_6s (by simp) (by simp) (by rfl) (by decide) (by simp) (by simp [wrO, wrB, o_89]) ?_
  obtain ⟨c, hc, hb⟩ := o_vn (b := b) hr
  have hlt : c * 2 ^ (8 - bs.length % 8) < 256 := by
   rw [← hc]
   have : (bytesOf bs).getD (bs.length / 8) 0 = byteAt bs (bs.length / 8) := by
    unfold bytesOf
    rw [List.getD_eq_getElem?_getD, List.getElem?_map, List.getElem?_range (by omega)]; rfl
   rw [this]; exact o_k6 _ _
  have hor := o_vu (r := bs.length % 8) (Nat.mod_lt _ (by omega)) hlt
  have hR : bs.length % 8 < 8 := Nat.mod_lt _ (by omega)
  have hl : (bytesOf bs).length = bs.length / 8 + 1 := by rw [o_q]; omega
  have hg := o_k9 (ws := bytesOf bs) (j := bs.length / 8) (by omega)
  rw [hc] at hg
  have hs := o_vr (bytesOf bs) (bs.length / 8)
  have hset : c * 2 ^ (8 - bs.length % 8) = (bytesOf bs).getD (bs.length / 8) 0 := hc.symm
  have hkeep : (bytesOf bs).set (bs.length / 8) (c * 2 ^ (8 - bs.length % 8)) = bytesOf bs := by
   rw [hset]
   apply List.ext_getElem?
   intro i
   rw [List.getElem?_set]
   split
   ·rename_i h; subst h
    rw [if_pos (by omega), List.getD_eq_getElem?_getD, List.getElem?_eq_getElem (by omega)]; rfl
   ·rfl
  have h7 : 2 ^ (7 - bs.length % 8) ≤ 2 ^ 7 := Nat.pow_le_pow_right (by omega) (by omega)
  simp only [o_3t, wrO, wrB, hb, List.length_append, List.length_singleton]
  rw [show (bs.length + 7) / 8 = bs.length / 8 + 1 by omega, show (bs.length + 1 + 7) / 8 = bs.length / 8 + 1 by omega]
  have e5 : IntKind.i64.wrap (7 - ((bs.length % 8 : Nat) : Int)) = ((7 - bs.length % 8 : Nat) : Int) := by rw [w64 (by omega) (by omega)]; omega
  have e6 : IntKind.u8.wrap (2 ^ (7 - bs.length % 8)) = ((2 ^ (7 - bs.length % 8) : Nat) : Int) := by
   have : ((2 : Int) ^ (7 - bs.length % 8)) = ((2 ^ (7 - bs.length % 8) : Nat) : Int) := by rw [Int.natCast_pow]; rfl
   rw [IntKind.wrap_u8, this]
   exact Int.emod_eq_of_lt (Int.natCast_nonneg _) (by exact_mod_cast Nat.lt_of_le_of_lt h7 (by decide))
  have e7 : 7 - bs.length % 8 ≤ 7 := by omega
  have hlen := o_4h (bytesOf bs)
  rw [hl] at hlen
  clear hset hc hl hb
  generalize bytesOf bs = ws at *
  generalize bs.length / 8 = q at *
  generalize bs.length % 8 = r at *
  generalize bs.length = n at *
  generalize 2 ^ (7 - r) = P at *
  generalize c * 2 ^ (8 - r) = C at *
  have hCP : C + b2n b * P = if b then C + P else C := by cases b <;> simp [b2n]
  rw [hCP]
  have hr' : ¬ (r : Int) = 0 := by omega
  refine G1 (fs e2 (fs e2' (fs hr hr'))) ?_; try with_reducible exact tt
  refine AW.cond rfl (fun h => ?_) (fun h => ?_)
  ·simp [hr, hr'] at h
  ·refine G0 ?_; try with_reducible exact tt
   cases b with
   | true =>
    refine AW.cond rfl (fun h => ?_) (fun h => ?_)
    ·refine G1 (fs e1 (fs e2 (fs e2' (fs e3 (fs e5 (fs e6 (fs e7 (fs hg (fs hor hs))))))))) ?_; try with_reducible exact tt
     exact Subs.of (by rw [← hs]; simp)
    ·simp at h
   | false =>
    refine AW.cond rfl (fun h => ?_) (fun h => ?_)
    ·simp at h
    ·refine G1 e1 ?_; try with_reducible exact tt
     simp [hkeep]

theorem o_8b (bs : List Bool) (h0 : bs ≠ []) (hn : bs.length ≤ 1000000) : Eqn Tryz.prog o_bw [.p 0 0] [wrO 1 bs, wrB bs] (.own 2 1 (bytesOf bs).length) [wrO 1 bs, wrB bs, wrB bs] := by
 refine Eqn.gen [0, 1, 2] o_ou (by simp) (by simp) (by rfl) (by decide) (by simp) (by simp [wrO, wrB]) ?_
 have hl : 0 < bs.length := by cases bs with | nil => exact absurd rfl h0 | cons _ _ => simp
 simp only [o_bx, wrO, wrB, o_q]
 have hlen := o_4h (bytesOf bs)
 rw [o_q] at hlen
 have hq : (bs.length + 7) / 8 ≤ 1000000 := by omega
 have hset : setMany (List.replicate ((bs.length + 7) / 8) (V.d (.int .u8 0))) 0 (u8s (bytesOf bs)) = u8s (bytesOf bs) := by
  rw [o_5b _ _ _ (by simp [hlen])]
  simp [hlen]
 have htake : (u8s (bytesOf bs)).take ((bs.length + 7) / 8) = u8s (bytesOf bs) := List.take_of_length_le (by omega)
 have hren : ∀ θ, V.rens θ (u8s (bytesOf bs)) = u8s (bytesOf bs) := fun θ => o_vs θ _
 generalize u8s (bytesOf bs) = C at *
 generalize (bs.length + 7) / 8 = q at *
 generalize bs.length = n at *
 have e1 : IntKind.i64.wrap (q : Int) = q := w64 (by omega) (by omega)
 refine G1 (fs e1 (fs hset (fs htake hren))) ?_; try with_reducible exact tt

theorem o_8c (w : Int) : Eqn Tryz.prog o_ff [.d (.int .i64 w)] [] (.d (.bool (decide (0 ≤ w ∧ w ≤ 64)))) [] := by
 refine Eqn.pure o_qp (o_0 _) ?_
 simp only [o_fg]
 by_cases h : 0 ≤ w
 ·refine G1 h ?_; try with_reducible exact tt
 ·have h' : w < 0 := by omega
  refine G1 (fs h h') ?_; try with_reducible exact tt

theorem o_8d (n w : Nat) (hw : w ≤ 64) (h : n < 2 ^ w) : Eqn Tryz.prog o_fh [.d (.int .u64 n), .d (.int .i64 w)] [] (.d (.bool true)) [] := by
 refine Eqn.pure o_qq (o_0 _) ?_
 simp only [o_fi]
 by_cases h64 : w = 64
 ·subst h64
  refine G0 ?_; try with_reducible exact tt
 ·have h1 : ¬ (w : Int) = 64 := by omega
  have h2 : ((n : Int) / 2 ^ w) = 0 := by
   have : ((2 : Int) ^ w) = ((2 ^ w : Nat) : Int) := by rw [Int.natCast_pow]; rfl
   rw [this, ← Int.natCast_ediv, Nat.div_eq_of_lt h]; rfl
  have h3 : w < 64 := by omega
  refine G1 (fs h64 (fs h1 (fs h2 h3))) ?_; try with_reducible exact tt

theorem o_kb (x : Nat) (hx : x < 18446744073709551616) : bits BinOp.and IntKind.u64 (x : Int) 1 = ((x % 2 : Nat) : Int) := by
 show IntKind.u64.wrap (((BitVec.ofInt 64 (x : Int)) &&& (BitVec.ofInt 64 (1 : Int))).toNat : Int) = _
 have h1 : (BitVec.ofInt 64 (1 : Int)).toNat = 1 := by decide
 rw [BitVec.toNat_and, h1, BitVec.ofInt_natCast, BitVec.toNat_ofNat, Nat.mod_eq_of_lt (by omega), Nat.and_one_is_mod, IntKind.wrap_u64]
 omega

theorem o_kc (n w i : Nat) (h : i < w) : (bitsW n w).take (i + 1) = (bitsW n w).take i ++ [decide (n / 2 ^ (w - 1 - i) % 2 = 1)] := by
 rw [List.take_add_one, List.getElem?_eq_getElem (by simpa using h)]
 simp [bitsW]

set_option maxHeartbeats 1000000 in
theorem o_8e (n w : Nat) (h0 : 0 < w) (hw : w ≤ 64) (h : n < 2 ^ w) (hn : n < 18446744073709551616) : Eqn Tryz.prog o_6f [.p 0 0, .d (.int .u64 n), .d (.int .i64 w)] [⟨85, [.d .nilsl, .d (.int .i64 0)]⟩] (.d (.int .i64 0)) [wrO 1 (bitsW n w), wrB (bitsW n w)] := by
 refine Eqn.gen [0, 1] o_6g (by simp) (by simp) (by rfl) (by decide) (by simp) (by simp [wrO, wrB]) ?_
 simp only [o_3o]
 have hg := o_8c w
 rw [show decide (0 ≤ (w : Int) ∧ (w : Int) ≤ 64) = true by simp; omega] at hg
 refine G0 ?_; try with_reducible exact tt
 refine CallS.pu (hg) (R0 ?_); try with_reducible exact tt
 refine CallS.pu (o_8d n w hw h) (R0 ?_); try with_reducible exact tt
 refine AW.cond rfl (fun h => ?_) (fun h => ?_)
 ·simp at h
 clear h
 refine G0 ?_; try with_reducible exact tt
 refine AW.loopG (α := Nat) (fun i => [.p 0 0, .d (.int .u64 n), .d (.int .i64 w)] ++ List.replicate 3 .junk ++ [.d (.int .i64 0)] ++ List.replicate 10 .junk ++ [.d (.int .i64 w), .d (.int .i64 (i : Int))] ++ List.replicate 13 .junk) (fun i => if i = 0 then [some ⟨85, [.d .nilsl, .d (.int .i64 0)]⟩] else [some (wrO 1 ((bitsW n w).take i)), some (wrB ((bitsW n w).take i))]) (fun i => i ≤ w) (fun i => w - i) 0 ?_ (Nat.zero_le _) ?_ ?_ ?_
 ·intro i hi; split <;> simp
 ·simp
 ·simp
 rintro i hi
 obtain ⟨W, hW⟩ : ∃ W, W = w - 1 := ⟨_, rfl⟩
 have e2 : IntKind.i64.wrap ((w : Int) - 1) = (W : Int) := by rw [w64 (by omega) (by omega)]; omega
 have hnum : i < w → ∃ (S X : Nat) (b : Bool), IntKind.i64.wrap ((W : Int) - i) = (S : Int) ∧ S = W - i ∧ (n : Int) / 2 ^ S = (X : Int) ∧ bits BinOp.and IntKind.u64 (X : Int) 1 = (X : Int) % 2 ∧ ((X : Int) % 2 == 1) = b ∧ (bitsW n w).take (i + 1) = (bitsW n w).take i ++ [b] := by
  intro h
  refine ⟨W - i, n / 2 ^ (W - i), decide (n / 2 ^ (W - i) % 2 = 1), by rw [w64 (by omega) (by omega)]; omega, rfl, ?_, ?_, ?_, by rw [hW]; exact o_kc n w i h⟩
  ·rw [Int.natCast_ediv, Int.natCast_pow]; rfl
  ·exact o_kb _ (Nat.lt_of_le_of_lt (Nat.div_le_self _ _) hn)
  ·generalize n / 2 ^ (W - i) = z; rw [Bool.eq_iff_iff]; simp; omega
 have hend : (bitsW n w).take w = bitsW n w := List.take_of_length_le (by simp)
 have htl : ∀ k, k ≤ w → ((bitsW n w).take k).length = k := fun k h => by rw [List.length_take, o_1n]; omega
 have e1 : IntKind.i64.wrap ((i : Int) + 1) = ((i + 1 : Nat) : Int) := by rw [w64 (by omega) (by omega)]; omega
 by_cases hiw : i = w
 ·subst hiw
  rw [if_neg (by omega), hend]
  generalize bitsW n i = bs at *
  simp [wrO, wrB]
  refine G0 ?_; try with_reducible exact tt
  refine AW.cond rfl (fun h => ?_) (fun h => ?_)
  ·simp at h
  refine G0 ?_; try with_reducible exact tt
 ·have hlt : i < w := by omega
  have hlt' : (i : Int) < w := by omega
  obtain ⟨S, X, b, e3, e4, e5, e6, e7, e8⟩ := hnum hlt
  have e4' : (S : Int) ≤ 64 := by omega
  have e4w : (W : Int) ≤ 64 := by omega
  by_cases hi0 : i = 0
  ·subst hi0
   rw [if_pos rfl]
   rw [Nat.sub_zero] at e4
   subst e4
   simp
   refine G1 (fs hlt hlt') ?_; try with_reducible exact tt
   refine AW.cond rfl (fun h => ?_) (fun h => ?_)
   ·refine G1 (fs e2 (fs e4w (fs e5 (fs e6 e7)))) ?_; try with_reducible exact tt
    simp only [Int.toNat_natCast, e5, e6, e7]
    refine CallS.g [0] (o_vv b) (R0 ?_); try with_reducible exact tt
    refine ⟨1, 1, 1, by simp, by omega, by omega, ?_, ?_⟩
    ·simp [swT, sw, V.ren, V.rens]
    ·simp at e8
     simp [swH, sw, Ob.sw, V.ren, V.rens, e8, wrO, wrB]
   ·simp [hlt'] at h
  ·rw [if_neg hi0]
   have hne : (bitsW n w).take i ≠ [] := fun h => by have := htl i hi; rw [h] at this; simp at this; omega
   have hB := o_8a ((bitsW n w).take i) b hne (by have := htl i hi; omega)
   rw [← e8] at hB
   have hk := htl (i + 1) (by omega)
   have hk0 := htl i hi
   simp only [wrO, wrB, hk, hk0] at hB ⊢
   simp
   refine G1 (fs hlt hlt') ?_; try with_reducible exact tt
   refine AW.cond rfl (fun h => ?_) (fun h => ?_)
   ·refine G1 (fs e2 (fs e3 (fs e4' (fs e5 (fs e6 e7))))) ?_; try with_reducible exact tt
    refine CallS.g [0, 1] (hB) (R1 e1 ?_); try with_reducible exact tt
    refine ⟨i + 1, 1, 2, by simp, by omega, by omega, ?_, ?_⟩
    ·simp [swT, sw, V.ren, V.rens, e1]
    ·have hmin : min (i + 1) w = i + 1 := Nat.min_eq_left (by omega)
     simp [swH, sw, Ob.sw, V.ren, V.rens, hk, hmin]
   ·simp [hlt'] at h
end
end Go.Proofs.YtijbgbpjionfjaaGreatDoor.Am
namespace Go.Proofs.YtijbgbpjionfjaaGreatDoor.Am
section
open Go.RowKit
set_option maxHeartbeats 1000000 in
theorem o_vw (bs : List Bool) (n w : Nat) (hbs : bs ≠ []) (hbl : bs.length ≤ 900000) (hw : w ≤ 64) (h : n < 2 ^ w) (hn : n < 18446744073709551616) : EqnD Tryz.prog o_6f [.p 0 0, .d (.int .u64 n), .d (.int .i64 w)] [wrO 1 bs, wrB bs] (.d (.int .i64 0)) [wrO 2 (bs ++ bitsW n w), wrB bs, wrB (bs ++ bitsW n w)] [1] := by
 have hg := o_8c w
 rw [show decide (0 ≤ (w : Int) ∧ (w : Int) ≤ 64) = true by simp; omega] at hg
 by_cases hw0 : w = 0
 ·subst hw0
  refine Eqn.gen [0, 1, 1] o_6g (by simp) (by simp) (by rfl) (by decide) (by simp) (by simp [wrO, wrB]) ?_
  rw [show bitsW n 0 = [] by rfl, List.append_nil]
  simp only [o_3o, wrO, wrB]
  have hf := o_8d n 0 hw h
  simp at hg hf
  refine G0 ?_; try with_reducible exact tt
  refine CallS.pu (hg) (R0 ?_); try with_reducible exact tt
  refine CallS.pu (hf) (R0 ?_); try with_reducible exact tt
  refine AW.cond rfl (fun h => ?_) (fun h => ?_)
  ·simp at h
  clear h
  refine G0 ?_; try with_reducible exact tt
  refine AW.loopT (α := Nat) 2 (fun i => [(18, .d (.int .i64 0))]) (fun i => []) (fun i => i = 0) (fun i => i) 0 ?_ ?_ rfl ?_ ?_ ?_
  ·simp
  ·simp
  ·simp
  ·simp
  rintro i rfl
  simp
  refine G0 ?_; try with_reducible exact tt
  refine AW.cond rfl (fun h => ?_) (fun h => ?_)
  ·simp at h
  refine G0 ?_; try with_reducible exact tt
 have h0 : 0 < w := by omega
 refine Eqn.gen [0, 1, 2] o_6g (by simp) (by simp) (by rfl) (by decide) (by simp) (by simp [wrO, wrB]) ?_
 simp only [o_3o]
 refine G0 ?_; try with_reducible exact tt
 refine CallS.pu (hg) (R0 ?_); try with_reducible exact tt
 refine CallS.pu (o_8d n w hw h) (R0 ?_); try with_reducible exact tt
 refine AW.cond rfl (fun h => ?_) (fun h => ?_)
 ·simp at h
 clear h
 refine G0 ?_; try with_reducible exact tt
 refine AW.loopG (α := Nat) (fun i => [.p 0 0, .d (.int .u64 n), .d (.int .i64 w)] ++ List.replicate 3 .junk ++ [.d (.int .i64 0)] ++ List.replicate 10 .junk ++ [.d (.int .i64 w), .d (.int .i64 (i : Int))] ++ List.replicate 13 .junk) (fun i => if i = 0 then [some (wrO 1 bs), some (wrB bs)] else [some (wrO 2 (bs ++ (bitsW n w).take i)), none, some (wrB (bs ++ (bitsW n w).take i))]) (fun i => i ≤ w) (fun i => w - i) 0 ?_ (Nat.zero_le _) ?_ ?_ ?_
 ·intro i hi; split <;> simp
 ·simp
 ·simp [wrO, wrB]
 rintro i hi
 obtain ⟨W, hW⟩ : ∃ W, W = w - 1 := ⟨_, rfl⟩
 have e2 : IntKind.i64.wrap ((w : Int) - 1) = (W : Int) := by rw [w64 (by omega) (by omega)]; omega
 have hnum : i < w → ∃ (S X : Nat) (b : Bool), IntKind.i64.wrap ((W : Int) - i) = (S : Int) ∧ S = W - i ∧ (n : Int) / 2 ^ S = (X : Int) ∧ bits BinOp.and IntKind.u64 (X : Int) 1 = (X : Int) % 2 ∧ ((X : Int) % 2 == 1) = b ∧ bs ++ (bitsW n w).take (i + 1) = (bs ++ (bitsW n w).take i) ++ [b] := by
  intro h
  refine ⟨W - i, n / 2 ^ (W - i), decide (n / 2 ^ (W - i) % 2 = 1), by rw [w64 (by omega) (by omega)]; omega, rfl, ?_, ?_, ?_, by rw [hW, List.append_assoc]; congr 1; exact o_kc n w i h⟩
  ·rw [Int.natCast_ediv, Int.natCast_pow]; rfl
  ·exact o_kb _ (Nat.lt_of_le_of_lt (Nat.div_le_self _ _) hn)
  ·generalize n / 2 ^ (W - i) = z; rw [Bool.eq_iff_iff]; simp; omega
 have hend : (bitsW n w).take w = bitsW n w := List.take_of_length_le (by simp)
 have htl : ∀ k, k ≤ w → (bs ++ (bitsW n w).take k).length = bs.length + k := fun k h => by rw [List.length_append, List.length_take, o_1n]; omega
 have e1 : IntKind.i64.wrap ((i : Int) + 1) = ((i + 1 : Nat) : Int) := by rw [w64 (by omega) (by omega)]; omega
 by_cases hiw : i = w
 ·subst hiw
  rw [if_neg (by omega), hend]
  generalize bs ++ bitsW n i = cs at *
  simp [wrO, wrB]
  refine G0 ?_; try with_reducible exact tt
  refine AW.cond rfl (fun h => ?_) (fun h => ?_)
  ·simp at h
  refine G0 ?_; try with_reducible exact tt
 ·have hlt : i < w := by omega
  have hlt' : (i : Int) < w := by omega
  obtain ⟨S, X, b, e3, e4, e5, e6, e7, e8⟩ := hnum hlt
  have e4' : (S : Int) ≤ 64 := by omega
  have e4w : (W : Int) ≤ 64 := by omega
  have hne : bs ++ (bitsW n w).take i ≠ [] := fun h => hbs (List.append_eq_nil_iff.1 h).1
  have hB := o_8a (bs ++ (bitsW n w).take i) b hne (by have := htl i hi; omega)
  rw [← e8] at hB
  have hk := htl (i + 1) (by omega)
  have hk0 := htl i hi
  have hmin : min (i + 1) w = i + 1 := Nat.min_eq_left (by omega)
  generalize hX1 : bs ++ (bitsW n w).take (i + 1) = X1 at *
  by_cases hi0 : i = 0
  ·subst hi0
   rw [if_pos rfl]
   rw [Nat.sub_zero] at e4
   subst e4
   simp only [List.take_zero, List.append_nil] at hB
   simp only [wrO, wrB, hk] at hB ⊢
   simp
   refine G1 (fs hlt hlt') ?_; try with_reducible exact tt
   refine AW.cond rfl (fun h => ?_) (fun h => ?_)
   ·refine G1 (fs e2 (fs e4w (fs e5 (fs e6 e7)))) ?_; try with_reducible exact tt
    simp only [Int.toNat_natCast, e5, e6, e7]
    refine CallS.g [0, 1] (hB) (R1 e1 ?_); try with_reducible exact tt
    refine ⟨1, 2, 2, by simp, by omega, by omega, ?_, ?_⟩
    ·simp [swT, sw, V.ren, V.rens]
    ·simp at hX1
     have hmin1 : min 1 w = 1 := Nat.min_eq_left (by omega)
     simp [swH, sw, Ob.sw, V.ren, V.rens, hX1, hk, hmin1]
   ·simp [hlt'] at h
  ·rw [if_neg hi0]
   simp only [wrO, wrB, hk, hk0] at hB ⊢
   simp
   refine G1 (fs hlt hlt') ?_; try with_reducible exact tt
   refine AW.cond rfl (fun h => ?_) (fun h => ?_)
   ·refine G1 (fs e2 (fs e3 (fs e4' (fs e5 (fs e6 e7))))) ?_; try with_reducible exact tt
    refine CallS.g [0, 2] (hB) (R1 e1 ?_); try with_reducible exact tt
    refine ⟨i + 1, 2, 3, by simp, by omega, by omega, ?_, ?_⟩
    ·simp [swT, sw, V.ren, V.rens, e1]
    ·simp [swH, sw, Ob.sw, V.ren, V.rens, hX1, hk, hmin]
   ·simp [hlt'] at h

def rdO (ws : List Nat) (at_ : Nat) : Ob := ⟨174, [.d (BY ws), .d (.int .i64 at_)]⟩

theorem o_vx (n : Nat) (l : List D) (hl : l.length = n) (hn : n ≤ 4000000) : Eqn Tryz.prog o_dt [.d (.sl n l)] [] (.d (.sl n l)) [] := by
 refine Eqn.pure o_pv (o_0 _) ?_
 simp only [o_du]
 rcases Nat.eq_zero_or_pos n with rfl | h0
 ·have : l = [] := List.eq_nil_of_length_eq_zero hl
  subst this
  refine AW.empty 0 rfl ?_ ?_
  ·simp
   refine G0 ?_; try with_reducible exact tt
   refine AW.cond rfl (fun h => ?_) (fun h => ?_)
   ·refine G0 ?_; try with_reducible exact tt
    exact Sub1.nil
   ·simp at h
  ·simp
   refine G0 ?_; try with_reducible exact tt
   refine AW.cond rfl (fun h => ?_) (fun h => ?_)
   ·simp at h
   ·refine G0 ?_; try with_reducible exact tt
    exact Sub1.sl0
 ·refine G1 h0 ?_; try with_reducible exact tt
  refine AW.cond rfl (fun h => ?_) (fun h => ?_)
  ·simp at h
  ·refine G0 ?_; try with_reducible exact tt
   have h1 : ¬ n = 0 := by omega
   simp [h1, hl]
   refine need.of (by omega) ?_
   refine AW.freeze 0 1 ⟨5, l.map .d⟩ l (by simp) rfl ?_
   simp
   refine G0 ?_; try with_reducible exact tt
   have : l.take n = l := List.take_of_length_le (by omega)
   simp [this]

theorem o_8f (ws : List Nat) (hn : ws.length ≤ 4000000) : Eqn Tryz.prog o_2m [.d (BY ws)] [] (.p 0 0) [rdO ws 0] := by
 refine Eqn.new1 o_ot ⟨rfl, fun _ => rfl⟩ ?_
 simp only [o_bv, BY, rdO]
 refine G0 ?_; try with_reducible exact tt
 refine CallS.pu (o_vx _ (ws.map fun x : Nat => .int .u8 x) (by simp) hn) (R0 ?_); try with_reducible exact tt

theorem o_kd (ws : List Nat) (a : Nat) (hn : ws.length ≤ 4000000) (ha : a ≤ 8 * ws.length) : Eqn Tryz.prog o_c0 [.p 0 0] [rdO ws a] (.d (.int .i64 (8 * ws.length - a : Nat))) [rdO ws a] := by
 refine Eqn.obj1 o_ow (o_0 _) ⟨rfl, fun _ => rfl⟩ ?_
 simp only [o_c1, BY, rdO]
 have e1 : IntKind.i64.wrap (8 * (ws.length : Int)) = 8 * (ws.length : Int) := w64 (by omega) (by omega)
 have e2 : IntKind.i64.wrap (8 * (ws.length : Int) - a) = ((8 * ws.length - a : Nat) : Int) := by rw [w64 (by omega) (by omega)]; omega
 refine G1 (fs e1 e2) ?_; try with_reducible exact tt

theorem o_vy (x : Nat) (hx : x < 256) : bits BinOp.and IntKind.u8 (x : Int) 1 = (x : Int) % 2 := by
 show IntKind.u8.wrap (((BitVec.ofInt 8 (x : Int)) &&& (BitVec.ofInt 8 (1 : Int))).toNat : Int) = _
 have h1 : (BitVec.ofInt 8 (1 : Int)).toNat = 1 := by decide
 rw [BitVec.toNat_and, h1, BitVec.ofInt_natCast, BitVec.toNat_ofNat, Nat.mod_eq_of_lt (by omega), Nat.and_one_is_mod, IntKind.wrap_u8]
 omega

def smallB (ws : List Nat) : Prop := ∀ x ∈ ws, x < 256
theorem o_vz (ws : List Nat) (a : Nat) (hs : smallB ws) (hn : ws.length ≤ 4000000) (ha : a < 8 * ws.length) : Eqn Tryz.prog o_fj [.p 0 0] [rdO ws a] (.d (.int .u64 (b2n ((bitsOf ws).getD a false)))) [rdO ws (a + 1)] := by
 refine Eqn.obj1 o_qr (o_0 _) ⟨rfl, fun _ => rfl⟩ ?_
 rw [o_88 ws a ha]
 have hq : a / 8 < ws.length := by omega
 have hx : ws.getD (a / 8) 0 < 256 := by
  rw [List.getD_eq_getElem?_getD, List.getElem?_eq_getElem hq]; exact hs _ (List.getElem_mem hq)
 have hg : ∀ z : D, (ws.map fun x : Nat => D.int .u8 x)[a / 8]?.getD z = .int .u8 (ws.getD (a / 8) 0 : Nat) := fun z => by simp [hq]
 have e1 : IntKind.i64.wrap ((a : Int) / 8) = ((a / 8 : Nat) : Int) := by rw [w64 (by omega) (by omega)]; rfl
 have e2 : (a : Int).tmod 8 = ((a % 8 : Nat) : Int) := by rw [Int.tmod_eq_emod_of_nonneg (by omega)]; rfl
 have e2' : (a : Int) % 8 = ((a % 8 : Nat) : Int) := rfl
 have e3 : IntKind.i64.wrap (7 - ((a % 8 : Nat) : Int)) = ((7 - a % 8 : Nat) : Int) := by rw [w64 (by omega) (by omega)]; omega
 have e4 : ((7 - a % 8 : Nat) : Int) ≤ 8 := by omega
 have e7 : IntKind.i64.wrap ((a : Int) + 1) = ((a + 1 : Nat) : Int) := by rw [w64 (by omega) (by omega)]; omega
 simp only [o_fk, BY, rdO]
 generalize a % 8 = r at *
 generalize 7 - r = S at *
 generalize hb : ws.getD (a / 8) 0 = x at *
 have e5 : (x : Int) / 2 ^ S = ((x / 2 ^ S : Nat) : Int) := by rw [Int.natCast_ediv, Int.natCast_pow]; rfl
 have hxS : x / 2 ^ S < 256 := Nat.lt_of_le_of_lt (Nat.div_le_self _ _) hx
 generalize x / 2 ^ S = X at *
 have e6 := o_vy X hxS
 have e8 : IntKind.u64.wrap ((X : Int) % 2) = (b2n (decide (X % 2 = 1)) : Nat) := by
  rcases Nat.mod_two_eq_zero_or_one X with h | h
  ·rw [show (X : Int) % 2 = 0 by omega]; simp [h, b2n]; exact wu64 (by omega) (by omega)
  ·rw [show (X : Int) % 2 = 1 by omega]; simp [h, b2n]; exact wu64 (by omega) (by omega)
 generalize b2n (decide (X % 2 = 1)) = B at *
 generalize a / 8 = q at *
 have hq' : q < (ws.map fun x : Nat => D.int .u8 x).length := by simpa using hq
 generalize (ws.map fun x : Nat => D.int .u8 x) = l at *
 generalize ws.length = n at *
 refine G1 (fs e1 (fs e2 (fs e2' (fs e3 (fs e4 (fs e5 (fs e6 (fs e7 (fs e8 hg))))))))) ?_; try with_reducible exact tt
end
end Go.Proofs.YtijbgbpjionfjaaGreatDoor.Am
namespace Go.Proofs.YtijbgbpjionfjaaGreatDoor.Am
section
open Go.RowKit
theorem o_4i (x y : Nat) (hx : x < 18446744073709551616) (hy : y < 18446744073709551616) : bits BinOp.or IntKind.u64 (x : Int) (y : Int) = ((x ||| y : Nat) : Int) := by
 show IntKind.u64.wrap (((BitVec.ofInt 64 (x : Int)) ||| (BitVec.ofInt 64 (y : Int))).toNat : Int) = _
 rw [BitVec.toNat_or, BitVec.ofInt_natCast, BitVec.ofInt_natCast, BitVec.toNat_ofNat, BitVec.toNat_ofNat, Nat.mod_eq_of_lt (by omega), Nat.mod_eq_of_lt (by omega)]
 have := Nat.or_lt_two_pow (n := 64) (x := x) (y := y) hx hy
 rw [IntKind.wrap_u64]
 omega
theorem o_w0 (n b : Nat) (hb : b ≤ 1) : (n * 2) ||| b = n * 2 + b := by
 have := Nat.two_pow_add_eq_or_of_lt (i := 1) (b := b) (by omega) n
 rw [Nat.pow_one, Nat.mul_comm] at this
 exact this.symm

def numAt (ws : List Nat) (a w : Nat) : Nat := numB (((bitsOf ws).drop a).take w) 0
theorem o_ke (ws : List Nat) (a : Nat) : numAt ws a 0 = 0 := by simp [numAt, numB]
theorem o_kf (ws : List Nat) (a i : Nat) (h : a + i < 8 * ws.length) : numAt ws a (i + 1) = 2 * numAt ws a i + b2n ((bitsOf ws).getD (a + i) false) := by
 unfold numAt
 rw [List.take_add_one, o_22, List.getElem?_drop, List.getD_eq_getElem?_getD, List.getElem?_eq_getElem (by simpa using h)]
 rfl
theorem o_8g (ws : List Nat) (a w : Nat) : numAt ws a w < 2 ^ w := by
 unfold numAt
 refine Nat.lt_of_lt_of_le (o_86 _) (Nat.pow_le_pow_right (by omega) ?_)
 rw [List.length_take]; omega

theorem o_4j (ws : List Nat) (a w : Nat) (hs : smallB ws) (hw : w ≤ 64) (hn : ws.length ≤ 4000000) (h : a + w ≤ 8 * ws.length) : Eqn Tryz.prog o_dr [.p 0 0, .d (.int .i64 w)] [rdO ws a] (.tup [.d (.int .u64 (numAt ws a w)), .d (.int .i64 0)]) [rdO ws (a + w)] := by
 refine Eqn.obj1 o_pu Plain.ok ⟨rfl, fun _ => rfl⟩ ?_
 have hg := o_8c w
 rw [show decide (0 ≤ (w : Int) ∧ (w : Int) ≤ 64) = true by simp; omega] at hg
 have hl := o_kd ws a hn (by omega)
 have hnx := fun i (hi : i < w) => o_vz ws (a + i) hs hn (by omega)
 obtain ⟨F, hF⟩ : ∃ F, F = a + w := ⟨_, rfl⟩
 rw [← hF]
 simp only [o_ds, rdO] at hl hnx ⊢
 have hL : ¬ 8 * ws.length - a < w := by omega
 have hB := fun i (hi : i < w) => o_kf ws a i (by omega)
 have hlt := fun i => o_8g ws a i
 have hz := o_ke ws a
 have hbl : ∀ x, b2n ((bitsOf ws).getD x false) ≤ 1 := fun x => o_4g _
 generalize 8 * ws.length - a = L at *
 generalize BY ws = B at *
 generalize numAt ws a = N at *
 generalize bitsOf ws = bs at *
 have h' : ¬ (L : Int) < w := by omega
 refine G0 ?_; try with_reducible exact tt
 refine CallS.pu (hg) (R0 ?_); try with_reducible exact tt
 refine AW.cond rfl (fun h => ?_) (fun h => ?_)
 ·simp at h
 refine G0 ?_; try with_reducible exact tt
 refine CallS.o1 0 (hl) (R1 h' ?_); try with_reducible exact tt
 refine AW.cond rfl (fun h => ?_) (fun h => ?_)
 ·simp [h'] at h
 clear h
 refine G0 ?_; try with_reducible exact tt
 refine AW.loopT (α := Nat) 1 (fun i => [(6, .d (.int .u64 (N i : Nat))), (17, .d (.int .i64 (i : Int)))]) (fun i => [(0, ⟨174, [.d B, .d (.int .i64 (a + i : Nat))]⟩)]) (fun i => i ≤ w) (fun i => w - i) 0 ?_ ?_ (Nat.zero_le _) ?_ ?_ ?_
 ·simp
 ·simp
 ·simp [hz]
 ·simp
 rintro i hi
 obtain ⟨Q, hQ⟩ : ∃ Q, Q = a + i := ⟨_, rfl⟩
 rw [← hQ]
 simp
 by_cases hiw : i = w
 ·subst hiw
  obtain rfl : Q = F := by omega
  refine G0 ?_; try with_reducible exact tt
  refine AW.cond rfl (fun h => ?_) (fun h => ?_)
  ·simp at h
  refine G0 ?_; try with_reducible exact tt
 ·have hlt1 : i < w := by omega
  have hlt2 : (i : Int) < w := by omega
  have hb := hB i hlt1
  have hx := hnx i hlt1
  rw [← hQ] at hb hx
  have e1 : IntKind.i64.wrap ((i : Int) + 1) = ((i + 1 : Nat) : Int) := by rw [w64 (by omega) (by omega)]; omega
  have hp : (2 : Nat) ^ (i + 1) ≤ 2 ^ 64 := Nat.pow_le_pow_right (by omega) (by omega)
  have hN := hlt (i + 1)
  have hb1 := hbl Q
  generalize b2n (bs.getD Q false) = b at *
  have e2 : IntKind.u64.wrap ((N i : Int) * 2) = ((N i * 2 : Nat) : Int) := by rw [wu64 (by omega) (by omega)]; omega
  have e3 : bits BinOp.or IntKind.u64 ((N i * 2 : Nat) : Int) (b : Int) = (N (i + 1) : Nat) := by
   rw [o_4i _ _ (by omega) (by omega), o_w0 _ _ hb1, hb]; omega
  have eQ : Q + 1 = a + (i + 1) := by omega
  rw [eQ] at hx
  generalize N i * 2 = N2 at *
  refine G1 (fs hlt1 hlt2) ?_; try with_reducible exact tt
  refine AW.cond rfl (fun h => ?_) (fun h => ?_)
  ·refine G1 e2 ?_; try with_reducible exact tt
   refine CallS.o1 0 (hx) (R1 (fs e1 (fs e2 e3)) ?_); try with_reducible exact tt
   exact ⟨i + 1, by omega, by omega, by simp [e1, e3]; try omega⟩
  ·simp [hlt2] at h
end
end Go.Proofs.YtijbgbpjionfjaaGreatDoor.Am
namespace Go.Proofs.YtijbgbpjionfjaaGreatDoor.Am
section
open Go.RowKit
def wellTB (a b y t : Nat) (f : Bool) : Bool := decide (y ≤ a) && (decide (t ≤ b) && (!f || t == b))
theorem o_w1 {a b : Nat} (h : GoodT a b) (y t : Nat) (f : Bool) : Eqn Tryz.prog o_6y [.d (tpD a b), .d (tsD y t f)] [] (.d (.bool (wellTB a b y t f))) [] := by
 refine Eqn.pure o_g8 Plain.ok ?_
 have hc := o_4e h
 have g3 : (0 : Int) ≤ y := by omega
 have g4 : (0 : Int) ≤ t := by omega
 simp only [o_6z, tpD, tsD, wellTB] at hc ⊢
 by_cases h1 : y ≤ a
 ·have h1' : (y : Int) ≤ a := by omega
  by_cases h2 : t ≤ b
  ·have h2' : (t : Int) ≤ b := by omega
   cases f with
   | true =>
    by_cases h3 : t = b
    ·subst h3
     refine G1 (fs g3 (fs g4 (fs h1 (fs h1' (fs h2 h2'))))) ?_; try with_reducible exact tt
     refine CallS.pu (hc) (R1 (fs g3 (fs g4 (fs h1 (fs h1' (fs h2 h2'))))) ?_); try with_reducible exact tt
    ·have h3' : ¬ (t : Int) = b := by omega
     refine G1 (fs g3 (fs g4 (fs h1 (fs h1' (fs h2 (fs h2' (fs h3 h3'))))))) ?_; try with_reducible exact tt
     refine CallS.pu (hc) (R1 (fs g3 (fs g4 (fs h1 (fs h1' (fs h2 (fs h2' (fs h3 h3'))))))) ?_); try with_reducible exact tt
     exact Sub1.bool (by rw [Bool.eq_iff_iff]; simp; omega)
   | false =>
    refine G1 (fs g3 (fs g4 (fs h1 (fs h1' (fs h2 h2'))))) ?_; try with_reducible exact tt
    refine CallS.pu (hc) (R1 (fs g3 (fs g4 (fs h1 (fs h1' (fs h2 h2'))))) ?_); try with_reducible exact tt
  ·have h2' : ¬ (t : Int) ≤ b := by omega
   refine G1 (fs g3 (fs g4 (fs h1 (fs h1' (fs h2 h2'))))) ?_; try with_reducible exact tt
   refine CallS.pu (hc) (R1 (fs g3 (fs g4 (fs h1 (fs h1' (fs h2 h2'))))) ?_); try with_reducible exact tt
 ·have h1' : ¬ (y : Int) ≤ a := by omega
  refine G1 (fs g3 (fs g4 (fs h1 h1'))) ?_; try with_reducible exact tt
  refine CallS.pu (hc) (R1 (fs g3 (fs g4 (fs h1 h1'))) ?_); try with_reducible exact tt

theorem o_4k (k a b : Int) : Eqn Tryz.prog o_d1 [.d (parD k a b)] [] (.d (tpD a b)) [] := by
 refine Eqn.pure o_pg Plain.ok ?_
 simp only [o_d2, parD, tpD]
 refine G0 ?_; try with_reducible exact tt
theorem o_4l (k a b : Int) : Eqn Tryz.prog o_d9 [.d (parD k a b)] [] (.d (parD k a b)) [] := by
 refine Eqn.pure o_pk Plain.ok ?_
 simp only [o_da, parD]
 refine G0 ?_; try with_reducible exact tt
theorem o_8h (y t : Int) (f : Bool) : Eqn Tryz.prog o_d5 [.d (.agg [.int .i64 y, .int .i64 t, .bool f])] [] (.d (.agg [.int .i64 y, .int .i64 t, .bool f])) [] := by
 refine Eqn.pure o_pi Plain.ok ?_
 simp only [o_d6]
 refine G0 ?_; try with_reducible exact tt
theorem o_w2 (y t : Int) (f : Bool) : Eqn Tryz.prog o_dj [.d (.agg [.int .i64 y, .int .i64 t, .bool f])] [] (.d (.agg [.int .i64 y, .int .i64 t, .bool f])) [] := by
 refine Eqn.pure o_pp Plain.ok ?_
 simp only [o_dk]
 refine G0 ?_; try with_reducible exact tt
theorem o_w3 (y t : Int) (f : Bool) : Eqn Tryz.prog o_dm [.d (.agg [.int .i64 y, .int .i64 t, .bool f])] [] (.d (.agg [.int .i64 y, .bool f])) [] := by
 refine Eqn.pure o_pr Plain.ok ?_
 simp only [o_dn]
 refine G0 ?_; try with_reducible exact tt
theorem o_w4 (y : Int) (f : Bool) : Eqn Tryz.prog o_do [.d (.agg [.int .i64 y, .bool f])] [] (.d (.agg [.int .i64 y, .int .i64 0, .bool f])) [] := by
 refine Eqn.pure o_ps Plain.ok ?_
 simp only [o_dp]
 refine G0 ?_; try with_reducible exact tt

theorem o_23 {k a b : Nat} (h : GoodR k a b) : Eqn Tryz.prog o_dq [.d (parD k a b)] [] (.d (.int .i64 0)) [] := by
 refine Eqn.pure o_pt Plain.ok ?_
 rcases h with ⟨rfl, h⟩ | ⟨hk, h⟩
 ·have h1 := o_4k 4 a b
  have h2 := o_4e h
  simp only [o_6e, parD, tpD] at h1 h2 ⊢
  refine G0 ?_; try with_reducible exact tt
  refine AW.cond rfl (fun h => ?_) (fun h => ?_)
  ·refine G0 ?_; try with_reducible exact tt
   refine CallS.pu (h1) (R0 ?_); try with_reducible exact tt
   refine CallS.pu (h2) (R0 ?_); try with_reducible exact tt
  ·simp at h
 ·have h1 := o_4l k a b
  have h2 := o_4f h
  have hk' : ¬ (k : Int) = 4 := by omega
  simp only [o_6e, parD] at h1 h2 ⊢
  refine G1 (fs hk hk') ?_; try with_reducible exact tt
  refine AW.cond rfl (fun h => ?_) (fun h => ?_)
  ·simp [hk'] at h
  ·refine G0 ?_; try with_reducible exact tt
   refine CallS.pu (h1) (R0 ?_); try with_reducible exact tt
   refine CallS.pu (h2) (R0 ?_); try with_reducible exact tt

def wellRB (k a b y t : Nat) (f : Bool) : Bool := if k = 4 then wellTB a b y t f else (t == 0) && (decide (y ≤ 2 ^ b - 1) && (!f || y == 2 ^ b - 1))
theorem o_kg {k a b y t : Nat} {f : Bool} : wellRB k a b y t f = true ↔ WellR k a b y t f := by
 unfold wellRB WellR wellTB WellT
 by_cases hk : k = 4
 ·subst hk
  simp
  intro _ _
  cases f <;> simp
 ·simp [hk]
  intro _ _
  cases f <;> simp

theorem o_kh {k a b : Nat} (h : GoodR k a b) (y t : Nat) (f : Bool) : Eqn Tryz.prog o_et [.d (parD k a b), .d (tsD y t f)] [] (.d (.bool (wellRB k a b y t f))) [] := by
 refine Eqn.pure o_qd Plain.ok ?_
 have hc := o_23 h
 rcases h with ⟨rfl, h⟩ | ⟨hk, h⟩
 ·have h1 := o_4k 4 a b
  have h2 := o_w1 h y t f
  have h3 := o_8h y t f
  simp only [o_6m, parD, tpD, tsD, wellRB, if_true] at hc h1 h2 h3 ⊢
  generalize wellTB a b y t f = w at *
  refine G0 ?_; try with_reducible exact tt
  refine CallS.pu (hc) (R0 ?_); try with_reducible exact tt
  refine AW.cond rfl (fun h => ?_) (fun h => ?_)
  ·simp at h
  refine G0 ?_; try with_reducible exact tt
  refine AW.cond rfl (fun h => ?_) (fun h => ?_)
  ·refine G0 ?_; try with_reducible exact tt
   refine CallS.pu (h1) (R0 ?_); try with_reducible exact tt
   refine CallS.pu (h3) (R0 ?_); try with_reducible exact tt
   refine CallS.pu (h2) (R0 ?_); try with_reducible exact tt
  ·simp at h
 ·have h1 := o_4l k a b
  have h2 := o_2w k a b h.2.2 (o_4f h)
  have hk' : ¬ (k : Int) = 4 := by omega
  have g : (0 : Int) ≤ y := by omega
  simp only [o_6m, parD, tsD, wellRB, if_neg hk] at hc h1 h2 ⊢
  generalize 2 ^ b - 1 = S at *
  by_cases ht : t = 0
  ·subst ht
   by_cases hy : y ≤ S
   ·have hy' : (y : Int) ≤ S := by omega
    cases f with
    | true =>
     by_cases hs : y = S
     ·subst hs
      refine G1 (fs g (fs hk hk')) ?_; try with_reducible exact tt
      refine CallS.pu (hc) (R1 (fs g (fs hk hk')) ?_); try with_reducible exact tt
      refine AW.cond rfl (fun h => ?_) (fun h => ?_)
      ·simp at h
      refine G1 (fs g (fs hk hk')) ?_; try with_reducible exact tt
      refine AW.cond rfl (fun h => ?_) (fun h => ?_)
      ·simp [hk'] at h
      refine G1 g ?_; try with_reducible exact tt
      refine CallS.pu (h1) (R1 g ?_); try with_reducible exact tt
      refine CallS.pu (h2) (R1 g ?_); try with_reducible exact tt
     ·have hs' : ¬ (y : Int) = S := by omega
      refine G1 (fs g (fs hk (fs hk' (fs hy (fs hy' (fs hs hs')))))) ?_; try with_reducible exact tt
      refine CallS.pu (hc) (R1 (fs g (fs hk (fs hk' (fs hy (fs hy' (fs hs hs')))))) ?_); try with_reducible exact tt
      refine AW.cond rfl (fun h => ?_) (fun h => ?_)
      ·simp at h
      refine G1 (fs g (fs hk (fs hk' (fs hy (fs hy' (fs hs hs')))))) ?_; try with_reducible exact tt
      refine AW.cond rfl (fun h => ?_) (fun h => ?_)
      ·simp [hk'] at h
      refine G1 g ?_; try with_reducible exact tt
      refine CallS.pu (h1) (R1 g ?_); try with_reducible exact tt
      refine CallS.pu (h2) (R1 (fs g (fs hy (fs hy' (fs hs hs')))) ?_); try with_reducible exact tt
      exact Sub1.bool (by rw [Bool.eq_iff_iff]; simp; omega)
    | false =>
     refine G1 (fs g (fs hk (fs hk' (fs hy hy')))) ?_; try with_reducible exact tt
     refine CallS.pu (hc) (R1 (fs g (fs hk (fs hk' (fs hy hy')))) ?_); try with_reducible exact tt
     refine AW.cond rfl (fun h => ?_) (fun h => ?_)
     ·simp at h
     refine G1 (fs g (fs hk (fs hk' (fs hy hy')))) ?_; try with_reducible exact tt
     refine AW.cond rfl (fun h => ?_) (fun h => ?_)
     ·simp [hk'] at h
     refine G1 g ?_; try with_reducible exact tt
     refine CallS.pu (h1) (R1 g ?_); try with_reducible exact tt
     refine CallS.pu (h2) (R1 (fs g (fs hy hy')) ?_); try with_reducible exact tt
   ·have hy' : ¬ (y : Int) ≤ S := by omega
    refine G1 (fs g (fs hk (fs hk' (fs hy hy')))) ?_; try with_reducible exact tt
    refine CallS.pu (hc) (R1 (fs g (fs hk (fs hk' (fs hy hy')))) ?_); try with_reducible exact tt
    refine AW.cond rfl (fun h => ?_) (fun h => ?_)
    ·simp at h
    refine G1 (fs g (fs hk (fs hk' (fs hy hy')))) ?_; try with_reducible exact tt
    refine AW.cond rfl (fun h => ?_) (fun h => ?_)
    ·simp [hk'] at h
    refine G1 g ?_; try with_reducible exact tt
    refine CallS.pu (h1) (R1 g ?_); try with_reducible exact tt
    refine CallS.pu (h2) (R1 (fs g (fs hy hy')) ?_); try with_reducible exact tt
  ·have ht' : ¬ (t : Int) = 0 := by omega
   refine G1 (fs g (fs hk (fs hk' (fs ht ht')))) ?_; try with_reducible exact tt
   refine CallS.pu (hc) (R1 (fs g (fs hk (fs hk' (fs ht ht')))) ?_); try with_reducible exact tt
   refine AW.cond rfl (fun h => ?_) (fun h => ?_)
   ·simp at h
   refine G1 (fs g (fs hk (fs hk' (fs ht ht')))) ?_; try with_reducible exact tt
   refine AW.cond rfl (fun h => ?_) (fun h => ?_)
   ·simp [hk'] at h
   refine G1 g ?_; try with_reducible exact tt
   refine CallS.pu (h1) (R1 g ?_); try with_reducible exact tt
   refine CallS.pu (h2) (R1 (fs g (fs ht ht')) ?_); try with_reducible exact tt
   exact Sub1.bool (by simp [ht])

theorem o_8i {k a b y t : Nat} {f : Bool} (h : GoodR k a b) (hw : WellR k a b y t f) : Eqn Tryz.prog o_cz [.d (parD k a b), .d (.sl 1 [.int .i64 y, .int .i64 t, .bool f])] [] (.d (.int .i64 0)) [] := by
 refine Eqn.pure o_pf Plain.ok ?_
 have hc := o_23 h
 have hw1 := o_kh h y t f
 rw [o_kg.2 hw] at hw1
 simp only [o_d0, parD, tsD] at hc hw1 ⊢
 refine G0 ?_; try with_reducible exact tt
 refine CallS.pu (hc) (R0 ?_); try with_reducible exact tt
 refine AW.cond rfl (fun h => ?_) (fun h => ?_)
 ·simp at h
 refine G0 ?_; try with_reducible exact tt
 refine AW.loopT (α := Nat) 1 (fun i => [(15, .d (.int .i64 (i : Int)))]) (fun i => []) (fun i => i ≤ 1) (fun i => 1 - i) 0 ?_ ?_ (Nat.zero_le _) ?_ ?_ ?_
 ·simp
 ·simp
 ·simp
 ·simp
 rintro i hi
 simp
 have hi' : i = 0 ∨ i = 1 := by omega
 rcases hi' with rfl | rfl
 ·refine G0 ?_; try with_reducible exact tt
  refine AW.cond rfl (fun h => ?_) (fun h => ?_)
  ·refine G0 ?_; try with_reducible exact tt
   refine CallS.pu (hw1) (R0 ?_); try with_reducible exact tt
   refine AW.cond rfl (fun h => ?_) (fun h => ?_)
   ·simp at h
   have ew : IntKind.i64.wrap 1 = 1 := w64 (by omega) (by omega)
   refine G1 ew ?_; try with_reducible exact tt
   exact ⟨1, by omega, by omega, by simp⟩
  ·simp at h
 ·refine G0 ?_; try with_reducible exact tt
  refine AW.cond rfl (fun h => ?_) (fun h => ?_)
  ·simp at h
  refine AW.exit ?_
  (try (simp -implicitDefEqProofs; try simp (disch := omega) only [w64, wu64]))
  refine G0 ?_; try with_reducible exact tt
end
end Go.Proofs.YtijbgbpjionfjaaGreatDoor.Am
namespace Go.Proofs.YtijbgbpjionfjaaGreatDoor.Am
section
open Go.RowKit
def stR (R : TR) (y t : Nat) (f : Bool) : D := if R.e = 0 then tsD R.y R.t R.f else tsD y t f

theorem o_w5 (cs : List Bool) (k a b y t : Nat) (f : Bool) (n : Nat) (m : Int) (hmx : max 0 m = (n : Int)) (p : Nat) (d : Bool) (h : GoodR k a b) (hw : WellR k a b y t f) (hn : m ≤ 1048576) (hp : p ≤ cs.length) (hc : cs.length ≤ 4000000) (R : TR) (hR : R = addRM cs k a b n y t f p d) :
  Eqn Tryz.prog o_bs [.d (parD k a b), .p 0 0, .d (tsD y t f), .d (.int .i64 m)] [tapeO cs p d] (.tup [.d (stR R y t f), .d (.int .i64 R.e)]) [tapeO cs R.p R.d] := by
 refine Eqn.obj1 o_or Plain.ok ⟨rfl, fun _ => rfl⟩ ?_
 have hwr := o_8i h hw
 rcases hw with ⟨rfl, hw⟩ | ⟨hk, rfl, hy, hf⟩
 ·replace h : GoodT a b := by
   rcases h with ⟨-, h⟩ | ⟨hk, -⟩
   ·exact h
   ·exact absurd rfl hk
  rw [addRM, if_pos rfl] at hR
  have h1 := o_4k 4 a b
  have h2 := o_8h y t f
  have h3 := o_vh cs a b y t f m p d h hw (by omega) hp hc R (by rw [hR]; congr 1; omega)
  clear hR
  obtain ⟨e, ry, rt, rf, rp, rd⟩ := R
  have h4 : ∀ y t f, _ := o_w2
  simp only [o_64, parD, tpD, tsD, stR, show ((4 : Nat) : Int) = 4 from rfl] at hwr h1 h2 h3 ⊢
  obtain ⟨Y, T, F, hS⟩ : ∃ (Y T : Nat) (F : Bool), (if e = 0 then D.agg [.int .i64 ry, .int .i64 rt, .bool rf] else D.agg [.int .i64 y, .int .i64 t, .bool f]) = D.agg [.int .i64 Y, .int .i64 T, .bool F] := by
   split
   ·exact ⟨ry, rt, rf, rfl⟩
   ·exact ⟨y, t, f, rfl⟩
  rw [hS] at h3 ⊢
  refine G0B ?_; try with_reducible exact tt
  refine CallS.pf 4 3 ⟨64, _⟩ [.int .i64 y, .int .i64 t, .bool f] (hwr) (by first | rfl | (simp [-Bool.exists_bool]; done)) (R0B ?_); try with_reducible exact tt
  refine AW.cond rfl (fun h => ?_) (fun h => ?_)
  ·simp at h
  refine G0B ?_; try with_reducible exact tt
  refine AW.cond rfl (fun h => ?_) (fun h => ?_)
  ·refine G0B ?_; try with_reducible exact tt
   refine CallS.pu (h1) (R0B ?_); try with_reducible exact tt
   refine CallS.pu (h2) (R0B ?_); try with_reducible exact tt
   refine CallS.o1 0 (h3) (R0B ?_); try with_reducible exact tt
   refine CallS.pu (h4 Y T F) (R0B ?_); try with_reducible exact tt
  ·simp at h
 ·rcases h with ⟨rfl, -⟩ | ⟨-, h⟩
  ·exact absurd rfl hk
  rw [addRM, if_neg hk] at hR
  have h1 := o_4l k a b
  have h2 := o_w3 y 0 f
  have h3 := o_vj h cs hc y hy f n m hmx hn p d hp _ rfl
  have hk' : ¬ (k : Int) = 4 := by omega
  generalize addL (stOf cs k a) (2 ^ b - 1) n y f p d = S at *
  subst hR
  obtain ⟨e, sx, sf, sp, sd⟩ := S
  have h4 : ∀ y f, _ := o_w4
  simp only [o_64, parD, tsD, stR] at hwr h1 h2 h3 ⊢
  obtain ⟨Y, F, hS1, hS2, hS⟩ : ∃ (Y : Nat) (F : Bool), (if e = 0 then sx else y) = Y ∧ (if e = 0 then sf else f) = F ∧ (if e = 0 then D.agg [.int .i64 sx, .int .i64 (0 : Nat), .bool sf] else D.agg [.int .i64 y, .int .i64 (0 : Nat), .bool f]) = D.agg [.int .i64 Y, .int .i64 0, .bool F] := by
   by_cases he : e = 0
   ·simp only [if_pos he]; exact ⟨sx, sf, rfl, rfl, rfl⟩
   ·simp only [if_neg he]; exact ⟨y, f, rfl, rfl, rfl⟩
  rw [hS1, hS2] at h3
  rw [hS]
  simp only [Int.natCast_zero, show ((0 : Nat) : Int) = 0 by rfl] at hwr
  refine G0B ?_; try with_reducible exact tt
  refine CallS.pf 4 3 ⟨64, _⟩ [.int .i64 y, .int .i64 0, .bool f] (hwr) (by first | rfl | (simp [-Bool.exists_bool]; done)) (R0B ?_); try with_reducible exact tt
  refine AW.cond rfl (fun h => ?_) (fun h => ?_)
  ·simp at h
  refine G1B (fs hk hk') ?_; try with_reducible exact tt
  refine AW.cond rfl (fun h => ?_) (fun h => ?_)
  ·simp [hk'] at h
  ·refine G0B ?_; try with_reducible exact tt
   refine CallS.pu (h1) (R0B ?_); try with_reducible exact tt
   refine CallS.pu (h2) (R0B ?_); try with_reducible exact tt
   refine CallS.o1 0 (h3) (R0B ?_); try with_reducible exact tt
   refine CallS.pu (h4 Y F) (R0B ?_); try with_reducible exact tt
end
end Go.Proofs.YtijbgbpjionfjaaGreatDoor.Am
namespace Go.Proofs.YtijbgbpjionfjaaGreatDoor.Am
section
open Go.RowKit
def kwR (k a b : Nat) : Nat := if k = 4 then bitsN a else b
def twR (k b : Nat) : Nat := if k = 4 then bitsN b else 0
theorem o_4m {k a b : Nat} (h : GoodR k a b) : 0 < kwR k a b ∧ kwR k a b ≤ 10 := by
 unfold kwR
 rcases h with ⟨rfl, h⟩ | ⟨hk, h⟩
 ·rw [if_pos rfl]
  refine ⟨?_, o_p (by have := h.2.1; omega)⟩
  unfold bitsN; rw [if_neg (by have := h.1; omega)]; omega
 ·rw [if_neg hk]; exact ⟨h.2.1, h.2.2⟩
theorem o_4n {k a b : Nat} (h : GoodR k a b) : twR k b ≤ 5 := by
 unfold twR
 rcases h with ⟨rfl, h⟩ | ⟨hk, h⟩
 ·rw [if_pos rfl]; exact o_p (by have := h.2.2; omega)
 ·rw [if_neg hk]; omega
theorem o_ki {k a b y t : Nat} {f : Bool} (hg : GoodR k a b) (h : WellR k a b y t f) : y < 2 ^ kwR k a b ∧ t < 2 ^ twR k b := by
 unfold kwR twR
 rcases h with ⟨rfl, h1, h2, -⟩ | ⟨hk, rfl, h1, -⟩
 ·rw [if_pos rfl, if_pos rfl]
  exact ⟨Nat.lt_of_le_of_lt h1 (o_t a), Nat.lt_of_le_of_lt h2 (o_t b)⟩
 ·rw [if_neg hk, if_neg hk]
  have := Nat.two_pow_pos b
  omega

theorem o_kj (x : Nat) (hx : x < 18446744073709551616) : Eqn Tryz.prog o_72 [.d (.int .u64 x)] [] (.d (.int .i64 (bitsN x))) [] := by
 refine Eqn.pure o_gc Plain.ok ?_
 have hl := o_4b x hx
 simp only [o_73]
 refine G0 ?_; try with_reducible exact tt
 refine AW.cond rfl (fun h => ?_) (fun h => ?_)
 ·simp at h
 ·refine G0 ?_; try with_reducible exact tt
  refine CallS.pu (hl) (R0 ?_); try with_reducible exact tt

theorem o_8j {k a b : Nat} (h : GoodR k a b) : Eqn Tryz.prog o_fp [.d (parD k a b)] [] (.tup [.d (.int .i64 (kwR k a b)), .d (.int .i64 (twR k b))]) [] := by
 refine Eqn.pure o_qu Plain.ok ?_
 unfold kwR twR
 rcases h with ⟨rfl, h⟩ | ⟨hk, h⟩
 ·rw [if_pos rfl, if_pos rfl]
  have h1 := o_kj a (by have := h.2.1; omega)
  have h2 := o_kj b (by have := h.2.2; omega)
  have e1 : IntKind.u64.wrap (a : Int) = a := wu64 (by omega) (by have := h.2.1; omega)
  have e2 : IntKind.u64.wrap (b : Int) = b := wu64 (by omega) (by have := h.2.2; omega)
  simp only [o_6t, parD]
  refine G0 ?_; try with_reducible exact tt
  refine AW.cond rfl (fun h => ?_) (fun h => ?_)
  ·refine G1 (fs e1 e2) ?_; try with_reducible exact tt
   refine CallS.pu (h1) (R1 (fs e1 e2) ?_); try with_reducible exact tt
   refine CallS.pu (h2) (R0 ?_); try with_reducible exact tt
  ·simp at h
 ·rw [if_neg hk, if_neg hk]
  have hk' : ¬ (k : Int) = 4 := by omega
  simp only [o_6t, parD]
  refine G1 (fs hk hk') ?_; try with_reducible exact tt
  refine AW.cond rfl (fun h => ?_) (fun h => ?_)
  ·simp [hk'] at h
  ·refine G0 ?_; try with_reducible exact tt

theorem o_kk {k a b : Nat} (h : GoodR k a b) : Eqn Tryz.prog o_dz [.d (parD k a b)] [] (.d (.int .i64 (kwR k a b + twR k b + 1 : Nat))) [] := by
 refine Eqn.pure o_px Plain.ok ?_
 have h1 := o_23 h
 have h2 := o_8j h
 have b1 := (o_4m h).2
 have b2 := o_4n h
 simp only [o_e0, parD] at h1 h2 ⊢
 generalize kwR k a b = K at *
 generalize twR k b = T at *
 have e1 : IntKind.i64.wrap ((K : Int) + T) = (K : Int) + T := w64 (by omega) (by omega)
 have e2 : IntKind.i64.wrap ((K : Int) + T + 1) = (K : Int) + T + 1 := w64 (by omega) (by omega)
 refine G0 ?_; try with_reducible exact tt
 refine CallS.pu (h1) (R0 ?_); try with_reducible exact tt
 refine AW.cond rfl (fun h => ?_) (fun h => ?_)
 ·simp at h
 refine G0 ?_; try with_reducible exact tt
 refine CallS.pu (h2) (R1 (fs e1 e2) ?_); try with_reducible exact tt

def encR (k a b y t : Nat) (f : Bool) : List Bool := bitsW y (kwR k a b) ++ bitsW t (twR k b) ++ [f]
theorem o_24 (k a b y t : Nat) (f : Bool) : (encR k a b y t f).length = kwR k a b + twR k b + 1 := by simp [encR]; omega

theorem o_w6 {k a b y t : Nat} {f : Bool} (h : GoodR k a b) (hw : WellR k a b y t f) : Eqn Tryz.prog o_fs [.d (parD k a b), .p 0 0, .d (tsD y t f)] [⟨85, [.d .nilsl, .d (.int .i64 0)]⟩] (.d (.int .i64 0)) [wrO 1 (encR k a b y t f), wrB (encR k a b y t f)] := by
 refine Eqn.gen [0, 6] o_qw (by simp) (by simp) (by rfl) (by decide) (by simp) (by simp [wrO, wrB]) ?_
 have hwr := o_8i h hw
 have h2 := o_8j h
 have hkp := o_4m h
 have htl := o_4n h
 have hfit := o_ki h hw
 have h2k : 2 ^ kwR k a b ≤ 2 ^ 10 := Nat.pow_le_pow_right (by omega) hkp.2
 have h2t : 2 ^ twR k b ≤ 2 ^ 5 := Nat.pow_le_pow_right (by omega) htl
 have h3 := o_8e y (kwR k a b) hkp.1 (by omega) hfit.1 (by omega)
 have hne : bitsW y (kwR k a b) ≠ [] := fun he => by have := o_1n y (kwR k a b); rw [he] at this; simp at this; omega
 have h4 := o_vw (bitsW y (kwR k a b)) t (twR k b) hne (by rw [o_1n]; omega) (by omega) hfit.2 (by omega)
 have h5 := o_8a (bitsW y (kwR k a b) ++ bitsW t (twR k b)) f (fun he => hne (List.append_eq_nil_iff.1 he).1) (by rw [List.length_append, o_1n, o_1n]; omega)
 have e1 : IntKind.u64.wrap (y : Int) = y := wu64 (by omega) (by omega)
 have e2 : IntKind.u64.wrap (t : Int) = t := wu64 (by omega) (by omega)
 simp only [o_ft, parD, tsD, encR] at hwr h2 ⊢
 generalize bitsW y (kwR k a b) = X1 at *
 generalize X1 ++ bitsW t (twR k b) = X2 at *
 generalize hX3 : X2 ++ [f] = X3 at *
 generalize kwR k a b = K at *
 generalize twR k b = T at *
 simp only [wrO, wrB] at h3 h4 h5 ⊢
 refine G0 ?_; try with_reducible exact tt
 refine CallS.pf 3 3 ⟨64, _⟩ [.int .i64 y, .int .i64 t, .bool f] (hwr) (by first | rfl | (simp; done)) (R0 ?_); try with_reducible exact tt
 refine AW.cond rfl (fun h => ?_) (fun h => ?_)
 ·simp at h
 refine G0 ?_; try with_reducible exact tt
 refine CallS.pu (h2) (R1 (fs e1 e2) ?_); try with_reducible exact tt
 refine CallS.g [0] (h3) (R1 (fs e1 e2) ?_); try with_reducible exact tt
 refine CallS.g [0, 4] (h4) (R1 (fs e1 e2) ?_); try with_reducible exact tt
 refine CallS.g [0, 5] (h5) (R1 (fs e1 e2) ?_); try with_reducible exact tt

theorem o_w7 (ws : List Nat) (a : Nat) (hs : smallB ws) (hn : ws.length ≤ 4000000) (h : a < 8 * ws.length) : Eqn Tryz.prog o_by [.p 0 0] [rdO ws a] (.tup [.d (.bool ((bitsOf ws).getD a false)), .d (.int .i64 0)]) [rdO ws (a + 1)] := by
 refine Eqn.obj1 o_ov Plain.ok ⟨rfl, fun _ => rfl⟩ ?_
 have h1 := o_4j ws a 1 hs (by omega) hn (by omega)
 have h2 : numAt ws a 1 = b2n ((bitsOf ws).getD a false) := by
  have := o_kf ws a 0 (by omega)
  rw [o_ke] at this
  simpa using this
 rw [h2] at h1
 generalize (bitsOf ws).getD a false = b at *
 have hb : (((b2n b : Nat) : Int) == 1) = b := by cases b <;> rfl
 generalize b2n b = B at *
 simp only [o_bz, rdO] at h1 ⊢
 generalize a + 1 = a1 at *
 refine G0 ?_; try with_reducible exact tt
 simp at h1
 refine CallS.o1 0 (h1) (R1 hb ?_); try with_reducible exact tt

def readR (ws : List Nat) (k a b at_ : Nat) : (Nat × Nat × Bool) × Int × Nat :=
 if 8 * ws.length - at_ < kwR k a b + twR k b + 1 then ((0, 0, false), 5, at_)
 else if wellRB k a b (numAt ws at_ (kwR k a b)) (numAt ws (at_ + kwR k a b) (twR k b)) ((bitsOf ws).getD (at_ + kwR k a b + twR k b) false) then ((numAt ws at_ (kwR k a b), numAt ws (at_ + kwR k a b) (twR k b), (bitsOf ws).getD (at_ + kwR k a b + twR k b) false), 0, at_ + kwR k a b + twR k b + 1)
 else ((0, 0, false), 4, at_ + kwR k a b + twR k b + 1)

theorem o_kl (ws : List Nat) {k a b : Nat} (at_ : Nat) (h : GoodR k a b) (hs : smallB ws) (hn : ws.length ≤ 400000) (hat : at_ ≤ 8 * ws.length) (R : (Nat × Nat × Bool) × Int × Nat) (hR : R = readR ws k a b at_) :
  Eqn Tryz.prog o_e9 [.d (parD k a b), .p 0 0] [rdO ws at_] (.tup [.d (tsD R.1.1 R.1.2.1 R.1.2.2), .d (.int .i64 R.2.1)]) [rdO ws R.2.2] := by
 refine Eqn.obj1 o_q2 Plain.ok ⟨rfl, fun _ => rfl⟩ ?_
 have hc := o_23 h
 have hb := o_kk h
 have hl := o_kd ws at_ (by omega) hat
 have h2 := o_8j h
 have hkp := o_4m h
 have htl := o_4n h
 unfold readR at hR
 by_cases hend : 8 * ws.length - at_ < kwR k a b + twR k b + 1
 ·rw [if_pos hend] at hR
  subst hR
  have hi : ((8 * ws.length - at_ : Nat) : Int) < (kwR k a b + twR k b + 1 : Nat) := by omega
  simp only [o_6i, parD, tsD, rdO] at hc hb hl ⊢
  generalize kwR k a b + twR k b + 1 = N at *
  generalize 8 * ws.length - at_ = L at *
  refine G0 ?_; try with_reducible exact tt
  refine CallS.pu (hc) (R0 ?_); try with_reducible exact tt
  refine AW.cond rfl (fun h => ?_) (fun h => ?_)
  ·simp at h
  refine G0 ?_; try with_reducible exact tt
  refine CallS.o1 0 (hl) (R0 ?_); try with_reducible exact tt
  refine CallS.pu (hb) (R1 (fs hi hend) ?_); try with_reducible exact tt
  refine AW.cond rfl (fun h => ?_) (fun h => ?_)
  ·refine G0 ?_; try with_reducible exact tt
  ·simp [hend] at h
 ·rw [if_neg hend] at hR
  have n1 := o_4j ws at_ (kwR k a b) hs (by omega) (by omega) (by omega)
  have n2 := o_4j ws (at_ + kwR k a b) (twR k b) hs (by omega) (by omega) (by omega)
  have n3 := o_w7 ws (at_ + kwR k a b + twR k b) hs (by omega) (by omega)
  have lt1 := o_8g ws at_ (kwR k a b)
  have lt2 := o_8g ws (at_ + kwR k a b) (twR k b)
  have h2k : 2 ^ kwR k a b ≤ 2 ^ 10 := Nat.pow_le_pow_right (by omega) hkp.2
  have h2t : 2 ^ twR k b ≤ 2 ^ 5 := Nat.pow_le_pow_right (by omega) htl
  have hi : ¬ ((8 * ws.length - at_ : Nat) : Int) < (kwR k a b + twR k b + 1 : Nat) := by omega
  have hwl := o_kh h (numAt ws at_ (kwR k a b)) (numAt ws (at_ + kwR k a b) (twR k b)) ((bitsOf ws).getD (at_ + kwR k a b + twR k b) false)
  generalize numAt ws at_ (kwR k a b) = Y at *
  generalize numAt ws (at_ + kwR k a b) (twR k b) = T at *
  generalize (bitsOf ws).getD (at_ + kwR k a b + twR k b) false = F at *
  generalize hW : wellRB k a b Y T F = W at *
  have e1 : IntKind.i64.wrap (Y : Int) = Y := w64 (by omega) (by omega)
  have e2 : IntKind.i64.wrap (T : Int) = T := w64 (by omega) (by omega)
  simp only [o_6i, parD, tsD, rdO] at hc hb hl h2 n1 n2 n3 hwl ⊢
  generalize at_ + kwR k a b + twR k b + 1 = a3 at *
  generalize at_ + kwR k a b + twR k b = a2 at *
  generalize at_ + kwR k a b = a1 at *
  generalize kwR k a b + twR k b + 1 = N at *
  generalize kwR k a b = K at *
  generalize twR k b = TT at *
  generalize 8 * ws.length - at_ = L at *
  refine G0 ?_; try with_reducible exact tt
  refine CallS.pu (hc) (R0 ?_); try with_reducible exact tt
  refine AW.cond rfl (fun h => ?_) (fun h => ?_)
  ·simp at h
  refine G0 ?_; try with_reducible exact tt
  refine CallS.o1 0 (hl) (R0 ?_); try with_reducible exact tt
  refine CallS.pu (hb) (R1 (fs hi hend) ?_); try with_reducible exact tt
  refine AW.cond rfl (fun h => ?_) (fun h => ?_)
  ·simp [hend] at h
  refine G0 ?_; try with_reducible exact tt
  refine CallS.pu (h2) (R0 ?_); try with_reducible exact tt
  refine CallS.o1 0 (n1) (R0 ?_); try with_reducible exact tt
  refine CallS.o1 0 (n2) (R0 ?_); try with_reducible exact tt
  refine CallS.o1 0 (n3) (R1 (fs e1 e2) ?_); try with_reducible exact tt
  refine CallS.pu (hwl) (R0 ?_); try with_reducible exact tt
  cases W with
  | true =>
   rw [if_pos rfl] at hR
   subst hR
   refine AW.cond rfl (fun h => ?_) (fun h => ?_)
   ·simp at h
   ·refine G0 ?_; try with_reducible exact tt
  | false =>
   rw [if_neg (by simp)] at hR
   subst hR
   refine AW.cond rfl (fun h => ?_) (fun h => ?_)
   ·refine G0 ?_; try with_reducible exact tt
   ·simp at h
end
end Go.Proofs.YtijbgbpjionfjaaGreatDoor.Am
namespace Go.Proofs.YtijbgbpjionfjaaGreatDoor.Am
section
def ofB (f : Nat → Bool) : Nat → Nat
 | 0 => 0
 | n + 1 => ofB f n + (if f n then 2 ^ n else 0)
theorem o_4o (f : Nat → Bool) : ∀ n, ofB f n < 2 ^ n
 | 0 => by simp [ofB]
 | n + 1 => by
  have := o_4o f n
  rw [ofB, Nat.pow_succ]
  split <;> omega
theorem o_4p (f : Nat → Bool) : ∀ n i, i < n → (ofB f n).testBit i = f i
 | 0, i, h => by omega
 | n + 1, i, h => by
  have hl := o_4o f n
  rw [ofB]
  by_cases hi : i = n
  ·subst hi
   split
   ·rename_i hf
    rw [Nat.add_comm, Nat.testBit_two_pow_add_eq, Nat.testBit_lt_two_pow hl, hf]; rfl
   ·rename_i hf
    rw [Nat.add_zero, Nat.testBit_lt_two_pow hl]; simpa using hf
  ·split
   ·rw [Nat.add_comm, Nat.testBit_two_pow_add_gt (by omega), o_4p f n i (by omega)]
   ·rw [Nat.add_zero, o_4p f n i (by omega)]
theorem o_km {f g : Nat → Bool} : ∀ n, (∀ i, i < n → f i = g i) → ofB f n = ofB g n
 | 0, _ => rfl
 | n + 1, h => by rw [ofB, ofB, o_km n (fun i hi => h i (by omega)), h n (by omega)]
def bitX (w : Nat) (xs : List Nat) (k : Nat) : Bool := (xs.getD (k / w) 0).testBit (k % w)
def nwP (n w : Nat) : Nat := (n * w + 63) / 64
def wordsP (w : Nat) (xs : List Nat) : List Nat := (List.range (nwP xs.length w)).map fun j => ofB (fun b => bitX w xs (64 * j + b)) 64
@[simp] theorem o_4q (w : Nat) (xs : List Nat) : (wordsP w xs).length = nwP xs.length w := by simp [wordsP]
theorem o_4r {w : Nat} {xs : List Nat} {j : Nat} (h : j < nwP xs.length w) : (wordsP w xs).getD j 0 = ofB (fun b => bitX w xs (64 * j + b)) 64 := by
 unfold wordsP; rw [List.getD_eq_getElem?_getD, List.getElem?_map, List.getElem?_range h]; rfl
theorem o_19 {w : Nat} {xs : List Nat} (j : Nat) : (wordsP w xs).getD j 0 < 2 ^ 64 := by
 by_cases h : j < nwP xs.length w
 ·rw [o_4r h]; exact o_4o _ _
 ·rw [List.getD_eq_getElem?_getD, List.getElem?_eq_none (by simp; omega)]; simp
theorem o_2x {w : Nat} {xs : List Nat} {j b : Nat} (h : j < nwP xs.length w) (hb : b < 64) : ((wordsP w xs).getD j 0).testBit b = bitX w xs (64 * j + b) := by rw [o_4r h, o_4p _ _ _ hb]
theorem o_8k {w : Nat} {xs : List Nat} {i b : Nat} (hb : b < w) : bitX w xs (i * w + b) = (xs.getD i 0).testBit b := by
 unfold bitX
 rw [Nat.mul_comm, Nat.mul_add_div (by omega), Nat.div_eq_of_lt hb, Nat.add_zero, Nat.mul_add_mod, Nat.mod_eq_of_lt hb]
theorem o_8l {w : Nat} {xs : List Nat} {i v k : Nat} (hw : 0 < w) (hi : i < xs.length) : bitX w (xs.set i v) k = if i * w ≤ k ∧ k < i * w + w then v.testBit (k - i * w) else bitX w xs k := by
 unfold bitX
 have e := Nat.div_add_mod k w
 have hm := Nat.mod_lt k hw
 rw [List.getD_eq_getElem?_getD, List.getD_eq_getElem?_getD, List.getElem?_set]
 by_cases h : i = k / w
 ·subst h
  have e2 : k / w * w = w * (k / w) := Nat.mul_comm _ _
  rw [if_pos rfl, if_pos hi, if_pos (by omega), show k - k / w * w = k % w by omega]
  rfl
 ·rw [if_neg h, if_neg]
  rintro ⟨h1, h2⟩
  apply h
  have h3 : i ≤ k / w := (Nat.le_div_iff_mul_le hw).2 h1
  have h4 : k / w < i + 1 := (Nat.div_lt_iff_lt_mul hw).2 (by rw [Nat.add_mul]; omega)
  omega

def smallP (w : Nat) (xs : List Nat) : Prop := ∀ x ∈ xs, x < 2 ^ w
theorem o_8m {w : Nat} {xs : List Nat} (h : smallP w xs) (i : Nat) : xs.getD i 0 < 2 ^ w := by
 rw [List.getD_eq_getElem?_getD]
 cases hx : xs[i]? with
 | none => simp [Nat.two_pow_pos]
 | some x => exact h x (List.mem_of_getElem? hx)

theorem o_4s (x r b : Nat) : (x / 2 ^ r).testBit b = x.testBit (r + b) := by rw [Nat.testBit_div_two_pow, Nat.add_comm]
theorem o_8n (x s b : Nat) : (x * 2 ^ s % 2 ^ 64).testBit b = (decide (b < 64) && (decide (s ≤ b) && x.testBit (b - s))) := by rw [Nat.testBit_mod_two_pow, Nat.testBit_mul_two_pow]
theorem o_4t (w b : Nat) : (2 ^ w - 1).testBit b = decide (b < w) := Nat.testBit_two_pow_sub_one w b

theorem pget1 {w : Nat} {xs : List Nat} {i : Nat} (hs : smallP w xs) (hw : w ≤ 32) (hi : i < xs.length) (hr : i * w % 64 + w ≤ 64) : (wordsP w xs).getD (i * w / 64) 0 / 2 ^ (i * w % 64) &&& (2 ^ w - 1) = xs.getD i 0 := by
 have e := Nat.div_add_mod (i * w) 64
 by_cases hw0 : w = 0
 ·subst hw0
  have := o_8m hs i
  simp at this ⊢; omega
 have hle : i * w + w ≤ xs.length * w := by rw [← Nat.succ_mul]; exact Nat.mul_le_mul_right w hi
 apply Nat.eq_of_testBit_eq
 intro b
 rw [Nat.testBit_and, o_4t, o_4s]
 by_cases hb : b < w
 ·rw [o_2x (by unfold nwP; omega) (by omega), show 64 * (i * w / 64) + (i * w % 64 + b) = i * w + b by omega, o_8k hb]
  simp [hb]
 ·have : (xs.getD i 0).testBit b = false := Nat.testBit_lt_two_pow (Nat.lt_of_lt_of_le (o_8m hs i) (Nat.pow_le_pow_right (by omega) (by omega)))
  rw [this]; simp [hb]
theorem pget2 {w : Nat} {xs : List Nat} {i : Nat} (hs : smallP w xs) (hw : w ≤ 32) (hi : i < xs.length) (hr : 64 < i * w % 64 + w) : ((wordsP w xs).getD (i * w / 64) 0 / 2 ^ (i * w % 64) ||| (wordsP w xs).getD (i * w / 64 + 1) 0 * 2 ^ (64 - i * w % 64) % 2 ^ 64) &&& (2 ^ w - 1) = xs.getD i 0 := by
 have e := Nat.div_add_mod (i * w) 64
 have hle : i * w + w ≤ xs.length * w := by rw [← Nat.succ_mul]; exact Nat.mul_le_mul_right w hi
 apply Nat.eq_of_testBit_eq
 intro b
 rw [Nat.testBit_and, o_4t, Nat.testBit_or, o_4s, o_8n]
 by_cases hb : b < w
 ·by_cases h64 : i * w % 64 + b < 64
  ·rw [o_2x (by unfold nwP; omega) h64, show 64 * (i * w / 64) + (i * w % 64 + b) = i * w + b by omega, o_8k hb]
   have : ¬ 64 - i * w % 64 ≤ b := by omega
   simp [hb, this]
  ·have h1 : ((wordsP w xs).getD (i * w / 64) 0).testBit (i * w % 64 + b) = false := Nat.testBit_lt_two_pow (Nat.lt_of_lt_of_le (o_19 _) (Nat.pow_le_pow_right (by omega) (by omega)))
   rw [h1, o_2x (j := i * w / 64 + 1) (by unfold nwP; omega) (by omega), show 64 * (i * w / 64 + 1) + (b - (64 - i * w % 64)) = i * w + b by omega, o_8k hb]
   have h2 : 64 - i * w % 64 ≤ b := by omega
   have h3 : b < 64 := by omega
   simp [hb, h2, h3]
 ·have : (xs.getD i 0).testBit b = false := Nat.testBit_lt_two_pow (Nat.lt_of_lt_of_le (o_8m hs i) (Nat.pow_le_pow_right (by omega) (by omega)))
  rw [this]; simp [hb]

def andN (x y : Nat) : Nat := x &&& (2 ^ 64 - 1 - y)
theorem o_kn {x y : Nat} (hx : x < 2 ^ 64) (hy : y < 2 ^ 64) (b : Nat) : (andN x y).testBit b = (x.testBit b && !y.testBit b) := by
 unfold andN
 rw [Nat.testBit_and, Nat.sub_sub, Nat.add_comm 1 y, Nat.testBit_two_pow_sub_succ hy]
 by_cases hb : b < 64
 ·simp [hb]
 ·have : x.testBit b = false := Nat.testBit_lt_two_pow (Nat.lt_of_lt_of_le hx (Nat.pow_le_pow_right (by omega) (by omega)))
  simp [this]

theorem o_ko {x : Nat} {f : Nat → Bool} (hx : x < 2 ^ 64) (h : ∀ b, b < 64 → x.testBit b = f b) : x = ofB f 64 := by
 apply Nat.eq_of_testBit_eq
 intro b
 by_cases hb : b < 64
 ·rw [h b hb, o_4p _ _ _ hb]
 ·have h2 : 2 ^ 64 ≤ 2 ^ b := Nat.pow_le_pow_right (by omega) (by omega)
  rw [Nat.testBit_lt_two_pow (Nat.lt_of_lt_of_le hx h2), Nat.testBit_lt_two_pow (Nat.lt_of_lt_of_le (o_4o f 64) h2)]

def setW1 (w : Nat) (x v r : Nat) : Nat := andN x ((2 ^ w - 1) * 2 ^ r % 2 ^ 64) ||| v * 2 ^ r % 2 ^ 64
def setW2 (w : Nat) (x v s : Nat) : Nat := andN x ((2 ^ w - 1) / 2 ^ s) ||| v / 2 ^ s
theorem o_4u {x y : Nat} (hx : x < 2 ^ 64) : andN x y < 2 ^ 64 := Nat.lt_of_le_of_lt Nat.and_le_left hx
theorem o_kp {w : Nat} {xs : List Nat} {i v : Nat} (hw : w ≤ 32) (hw0 : 0 < w) (hi : i < xs.length) (hv : v < 2 ^ w) : setW1 w ((wordsP w xs).getD (i * w / 64) 0) v (i * w % 64) = (wordsP w (xs.set i v)).getD (i * w / 64) 0 := by
 have e := Nat.div_add_mod (i * w) 64
 have hle : i * w + w ≤ xs.length * w := by rw [← Nat.succ_mul]; exact Nat.mul_le_mul_right w hi
 have hm : i * w % 64 < 64 := Nat.mod_lt _ (by omega)
 rw [o_4r (xs := xs.set i v) (by simp only [List.length_set]; unfold nwP; omega)]
 apply o_ko
 ·exact Nat.or_lt_two_pow (o_4u (o_19 _)) (Nat.mod_lt _ (by omega))
 ·intro b hb
  unfold setW1
  rw [Nat.testBit_or, o_kn (o_19 _) (Nat.mod_lt _ (by omega)), o_8n, o_8n, o_4t, o_2x (by unfold nwP; omega) hb, o_8l hw0 hi]
  by_cases h1 : i * w % 64 ≤ b
  ·by_cases h2 : b < i * w % 64 + w
   ·rw [if_pos (by omega), show 64 * (i * w / 64) + b - i * w = b - i * w % 64 by omega]
    have h3 : b - i * w % 64 < w := by omega
    simp [hb, h1, h3]
   ·rw [if_neg (by omega)]
    have h3 : ¬ b - i * w % 64 < w := by omega
    have h4 : v.testBit (b - i * w % 64) = false := Nat.testBit_lt_two_pow (Nat.lt_of_lt_of_le hv (Nat.pow_le_pow_right (by omega) (by omega)))
    simp [hb, h1, h3, h4]
  ·rw [if_neg (by omega)]
   simp [hb, h1]
theorem o_w8 {w : Nat} {xs : List Nat} {i v : Nat} (hw : w ≤ 32) (hi : i < xs.length) (hv : v < 2 ^ w) (hr : 64 < i * w % 64 + w) : setW2 w ((wordsP w xs).getD (i * w / 64 + 1) 0) v (64 - i * w % 64) = (wordsP w (xs.set i v)).getD (i * w / 64 + 1) 0 := by
 have e := Nat.div_add_mod (i * w) 64
 have hle : i * w + w ≤ xs.length * w := by rw [← Nat.succ_mul]; exact Nat.mul_le_mul_right w hi
 have hm : i * w % 64 < 64 := Nat.mod_lt _ (by omega)
 have h32 : 2 ^ w ≤ 2 ^ 32 := Nat.pow_le_pow_right (by omega) hw
 have hv64 : v / 2 ^ (64 - i * w % 64) < 2 ^ 64 := Nat.lt_of_le_of_lt (Nat.div_le_self _ _) (by omega)
 have hm64 : (2 ^ w - 1) / 2 ^ (64 - i * w % 64) < 2 ^ 64 := Nat.lt_of_le_of_lt (Nat.div_le_self _ _) (by omega)
 rw [o_4r (xs := xs.set i v) (by simp only [List.length_set]; unfold nwP; omega)]
 apply o_ko
 ·exact Nat.or_lt_two_pow (o_4u (o_19 _)) hv64
 ·intro b hb
  unfold setW2
  rw [Nat.testBit_or, o_kn (o_19 _) hm64, o_4s, o_4s, o_4t, o_2x (by unfold nwP; omega) hb, o_8l (by omega) hi]
  by_cases h2 : 64 - i * w % 64 + b < w
  ·rw [if_pos (by omega), show 64 * (i * w / 64 + 1) + b - i * w = 64 - i * w % 64 + b by omega]
   simp [h2]
  ·rw [if_neg (by omega)]
   have h4 : v.testBit (64 - i * w % 64 + b) = false := Nat.testBit_lt_two_pow (Nat.lt_of_lt_of_le hv (Nat.pow_le_pow_right (by omega) (by omega)))
   simp [h2, h4]
theorem o_kq {w : Nat} {xs : List Nat} {i v j : Nat} (hw0 : 0 < w) (hi : i < xs.length) (h1 : j ≠ i * w / 64) (h2 : i * w % 64 + w ≤ 64 ∨ j ≠ i * w / 64 + 1) (hw : w ≤ 32) : (wordsP w (xs.set i v))[j]? = (wordsP w xs)[j]? := by
 have e := Nat.div_add_mod (i * w) 64
 have hm : i * w % 64 < 64 := Nat.mod_lt _ (by omega)
 unfold wordsP
 simp only [List.length_set, List.getElem?_map]
 cases hj : (List.range (nwP xs.length w))[j]? with
 | none => rfl
 | some j' =>
  have : j' = j := by
   have := List.getElem?_eq_some_iff.1 hj
   obtain ⟨h, rfl⟩ := this
   simp
  subst this
  simp only [Option.map_some, Option.some.injEq]
  apply o_km
  intro b hb
  rw [o_8l hw0 hi, if_neg]
  omega
theorem pset1 {w : Nat} {xs : List Nat} {i v : Nat} (hw : w ≤ 32) (hw0 : 0 < w) (hi : i < xs.length) (hv : v < 2 ^ w) (hr : i * w % 64 + w ≤ 64) : (wordsP w xs).set (i * w / 64) (setW1 w ((wordsP w xs).getD (i * w / 64) 0) v (i * w % 64)) = wordsP w (xs.set i v) := by
 have e := Nat.div_add_mod (i * w) 64
 have hle : i * w + w ≤ xs.length * w := by rw [← Nat.succ_mul]; exact Nat.mul_le_mul_right w hi
 have hq : i * w / 64 < nwP xs.length w := by unfold nwP; omega
 rw [o_kp hw hw0 hi hv]
 apply List.ext_getElem?
 intro j
 rw [List.getElem?_set]
 by_cases h : i * w / 64 = j
 ·subst h
  rw [if_pos rfl, if_pos (by simpa using hq), List.getD_eq_getElem?_getD, List.getElem?_eq_getElem (by simpa using hq)]; rfl
 ·rw [if_neg h, o_kq hw0 hi (fun h' => h h'.symm) (.inl hr) hw]
theorem pset2 {w : Nat} {xs : List Nat} {i v : Nat} (hw : w ≤ 32) (hi : i < xs.length) (hv : v < 2 ^ w) (hr : 64 < i * w % 64 + w) :
  ((wordsP w xs).set (i * w / 64) (setW1 w ((wordsP w xs).getD (i * w / 64) 0) v (i * w % 64))).set (i * w / 64 + 1) (setW2 w ((wordsP w xs).getD (i * w / 64 + 1) 0) v (64 - i * w % 64)) = wordsP w (xs.set i v) := by
 have e := Nat.div_add_mod (i * w) 64
 have hle : i * w + w ≤ xs.length * w := by rw [← Nat.succ_mul]; exact Nat.mul_le_mul_right w hi
 have hq : i * w / 64 + 1 < nwP xs.length w := by unfold nwP; omega
 rw [o_kp hw (by omega) hi hv, o_w8 hw hi hv hr]
 apply List.ext_getElem?
 intro j
 rw [List.getElem?_set, List.getElem?_set]
 by_cases h2 : i * w / 64 + 1 = j
 ·subst h2
  rw [if_pos rfl, if_pos (by simpa using hq), List.getD_eq_getElem?_getD, List.getElem?_eq_getElem (by simpa using hq)]; rfl
 ·rw [if_neg h2]
  by_cases h : i * w / 64 = j
  ·subst h
   rw [if_pos rfl, if_pos (by simp; omega), List.getD_eq_getElem?_getD, List.getElem?_eq_getElem (by simp; omega)]; rfl
  ·rw [if_neg h, o_kq (by omega) hi (fun h' => h h'.symm) (.inr fun h' => h2 h'.symm) hw]
theorem o_w9 (n w : Nat) : wordsP w (List.replicate n 0) = List.replicate (nwP n w) 0 := by
 apply List.ext_getElem?
 intro j
 unfold wordsP
 simp only [List.getElem?_map, List.length_replicate, List.getElem?_replicate]
 by_cases h : j < nwP n w
 ·rw [List.getElem?_range h, if_pos h]
  simp only [Option.map_some, Option.some.injEq]
  have h0 : ∀ k, bitX w (List.replicate n 0) k = false := by
   intro k
   unfold bitX
   have : (List.replicate n 0).getD (k / w) 0 = 0 := by
    rw [List.getD_eq_getElem?_getD, List.getElem?_replicate]; split <;> rfl
   rw [this]; simp
  simp only [h0]
  decide
 ·rw [List.getElem?_eq_none (by simp; omega), if_neg h]; rfl
end
end Go.Proofs.YtijbgbpjionfjaaGreatDoor.Am
namespace Go.Proofs.YtijbgbpjionfjaaGreatDoor.Am
section
open Go.RowKit
def u64s (ws : List Nat) : List V := ws.map fun x : Nat => V.d (.int .u64 x)
theorem o_4v (ws : List Nat) : (u64s ws).length = ws.length := by simp [u64s]
theorem o_kr {ws : List Nat} {j : Nat} (h : j < ws.length) : (u64s ws)[j]? = some (.d (.int .u64 (ws.getD j 0 : Nat))) := by simp [u64s, h]
theorem o_25 (ws : List Nat) (j v : Nat) : (u64s ws).set j (.d (.int .u64 v)) = u64s (ws.set j v) := by simp [u64s, List.map_set]
@[simp] theorem o_10i (n : Nat) (ws : List Nat) : V.lowl n (u64s ws) = true := by induction ws <;> simp_all [u64s]
@[simp] theorem o_wa (θ : Nat → Nat) (ws : List Nat) : V.rens θ (u64s ws) = u64s ws := by induction ws <;> simp_all [u64s]
def vecO (m n w : Nat) : Ob := ⟨218, [.own m 1 (nwP n w), .d (.int .i64 n), .d (.int .i64 w)]⟩
def vecB (w : Nat) (xs : List Nat) : Ob := ⟨28, u64s (wordsP w xs)⟩

theorem o_ks (x y : Nat) (hx : x < 18446744073709551616) (hy : y < 18446744073709551616) : bits BinOp.and IntKind.u64 (x : Int) (y : Int) = ((x &&& y : Nat) : Int) := by
 show IntKind.u64.wrap (((BitVec.ofInt 64 (x : Int)) &&& (BitVec.ofInt 64 (y : Int))).toNat : Int) = _
 rw [BitVec.toNat_and, BitVec.ofInt_natCast, BitVec.ofInt_natCast, BitVec.toNat_ofNat, BitVec.toNat_ofNat, Nat.mod_eq_of_lt (by omega), Nat.mod_eq_of_lt (by omega)]
 have : x &&& y ≤ x := Nat.and_le_left
 rw [IntKind.wrap_u64]
 omega
theorem o_kt (x y : Nat) (hx : x < 18446744073709551616) (hy : y < 18446744073709551616) : bits BinOp.andNot IntKind.u64 (x : Int) (y : Int) = ((andN x y : Nat) : Int) := by
 show IntKind.u64.wrap (((BitVec.ofInt 64 (x : Int)) &&& ~~~(BitVec.ofInt 64 (y : Int))).toNat : Int) = _
 rw [BitVec.toNat_and, BitVec.toNat_not, BitVec.ofInt_natCast, BitVec.ofInt_natCast, BitVec.toNat_ofNat, BitVec.toNat_ofNat, Nat.mod_eq_of_lt (by omega), Nat.mod_eq_of_lt (by omega)]
 have : x &&& (2 ^ 64 - 1 - y) ≤ x := Nat.and_le_left
 rw [IntKind.wrap_u64]
 unfold andN
 omega

theorem o_wb (n w : Nat) (hn : n ≤ 256) (hw0 : 0 < w) (hw : w ≤ 32) : Eqn Tryz.prog o_dx [.d (.int .i64 n), .d (.int .i64 w)] [] (.tup [.p 0 0, .d (.int .i64 0)]) [vecO 1 n w, vecB w (List.replicate n 0)] := by
 refine Eqn.gen [1, 0] o_pw (by simp) (by simp) (by rfl) (by decide) (by simp) (by simp [vecO, vecB]) ?_
 have hb : n * w ≤ 256 * 32 := Nat.mul_le_mul hn hw
 have g1 : ¬ (n : Int) < 0 := by omega
 have g2 : ¬ (256 : Int) < n := by omega
 have g3 : ¬ (w : Int) < 1 := by omega
 have g4 : ¬ (32 : Int) < w := by omega
 have e1 : IntKind.i64.wrap ((n : Int) * w) = ((n * w : Nat) : Int) := by rw [w64 (by rw [← Int.natCast_mul]; omega) (by rw [← Int.natCast_mul]; omega), Int.natCast_mul]
 simp only [o_dy, vecO, vecB, o_w9]
 unfold nwP
 generalize n * w = Z at *
 have e2 : IntKind.i64.wrap ((Z : Int) + 64) = ((Z + 64 : Nat) : Int) := by rw [w64 (by omega) (by omega)]; omega
 have e3 : IntKind.i64.wrap ((Z + 64 : Nat) - 1 : Int) = ((Z + 63 : Nat) : Int) := by rw [w64 (by omega) (by omega)]; omega
 have e4 : IntKind.i64.wrap (((Z + 63 : Nat) : Int) / 64) = (((Z + 63) / 64 : Nat) : Int) := by rw [w64 (by omega) (by omega)]; rfl
 have hq : (Z + 63) / 64 ≤ 1000 := by omega
 generalize (Z + 63) / 64 = q at *
 generalize Z + 63 = Z1 at *
 generalize Z + 64 = Z2 at *
 have hrep : u64s (List.replicate q 0) = List.replicate q (V.d (.int .u64 0)) := by simp [u64s]
 have hren : ∀ θ, V.rens θ (u64s (List.replicate q 0)) = u64s (List.replicate q 0) := fun θ => o_wa θ _
 rw [hrep] at hren ⊢
 refine G1 (fs g1 (fs g2 (fs g3 g4))) ?_; try with_reducible exact tt
 refine AW.cond rfl (fun h => ?_) (fun h => ?_)
 ·simp at h
 ·refine G1 (fs e1 (fs e2 (fs e3 (fs e4 hren)))) ?_; try with_reducible exact tt

def vecD (w : Nat) (xs : List Nat) : List D := [.sl (nwP xs.length w) ((wordsP w xs).map fun x : Nat => D.int .u64 x), .int .i64 xs.length, .int .i64 w]

theorem o_ku (w : Nat) (xs : List Nat) (i : Nat) (hi : i < xs.length) (hn : xs.length ≤ 256) (hw : w ≤ 32) : Eqn Tryz.prog o_fw [.ia (vecD w xs) 0, .d (.int .i64 i)] [] (.tup [.d (.int .i64 (i * w / 64 : Nat)), .d (.int .i64 (i * w % 64 : Nat))]) [] := by
 refine Eqn.pure o_qy Plain.ok ?_
 have hb : i * w ≤ 256 * 32 := Nat.mul_le_mul (by omega) hw
 have e1 : IntKind.i64.wrap ((i : Int) * w) = ((i * w : Nat) : Int) := by rw [w64 (by rw [← Int.natCast_mul]; omega) (by rw [← Int.natCast_mul]; omega), Int.natCast_mul]
 simp only [o_fx, vecD]
 generalize i * w = Z at *
 have e2 : IntKind.i64.wrap ((Z : Int) / 64) = ((Z / 64 : Nat) : Int) := by rw [w64 (by omega) (by omega)]; rfl
 have e3 : (Z : Int).tmod 64 = ((Z % 64 : Nat) : Int) := by rw [Int.tmod_eq_emod_of_nonneg (by omega)]; rfl
 generalize Z / 64 = q at *
 generalize Z % 64 = r at *
 refine G1 (fs e1 (fs e2 e3)) ?_; try with_reducible exact tt

theorem o_kv (w : Nat) (N : Nat) (L : List D) (n : Int) (hw : w ≤ 32) : Eqn Tryz.prog o_6u [.ia [.sl N L, .int .i64 n, .int .i64 w] 0] [] (.d (.int .u64 (2 ^ w - 1 : Nat))) [] := by
 refine Eqn.pure o_qz Plain.ok ?_
 have h32 : 2 ^ w ≤ 2 ^ 32 := Nat.pow_le_pow_right (by omega) hw
 have h0 : 0 < 2 ^ w := Nat.two_pow_pos w
 have e0 : (2 : Int) ^ w = (2 ^ w : Nat) := by rw [Int.natCast_pow]; rfl
 have hw64 : w ≤ 64 := by omega
 simp only [o_fy]
 generalize 2 ^ w = S at *
 have e3 : IntKind.u64.wrap (S : Int) = S := wu64 (by omega) (by omega)
 have e4 : IntKind.u64.wrap ((S : Int) - 1) = ((S - 1 : Nat) : Int) := by rw [wu64 (by omega) (by omega)]; omega
 refine G1 (fs e0 (fs e3 (fs e4 hw64))) ?_; try with_reducible exact tt

theorem o_wc (w : Nat) (xs : List Nat) (hw : w ≤ 32) : Eqn Tryz.prog o_6u [.ia (vecD w xs) 0] [] (.d (.int .u64 (2 ^ w - 1 : Nat))) [] := o_kv w _ _ _ hw

theorem o_8o (w : Nat) (xs : List Nat) : Eqn Tryz.prog o_e7 [.ia (vecD w xs) 0] [] (.d (.int .i64 w)) [] := by
 refine Eqn.pure o_q1 Plain.ok ?_
 simp only [o_e8, vecD]
 refine G0 ?_; try with_reducible exact tt

theorem o_8p (w : Nat) (xs : List Nat) (i : Nat) (hi : i < xs.length) (hn : xs.length ≤ 256) (hw0 : 0 < w) (hw : w ≤ 32) (hs : smallP w xs) : Eqn Tryz.prog o_e5 [.ia (vecD w xs) 0, .d (.int .i64 i)] [] (.tup [.d (.int .u64 (xs.getD i 0 : Nat)), .d (.int .i64 0)]) [] := by
 refine Eqn.pure o_q0 Plain.ok ?_
 have hpl := o_ku w xs i hi hn hw
 have hma := o_wc w xs hw
 have g1 : ¬ (i : Int) < 0 := by omega
 have g2 : ¬ (xs.length : Int) ≤ i := by omega
 have e := Nat.div_add_mod (i * w) 64
 have hm64 : i * w % 64 < 64 := Nat.mod_lt _ (by omega)
 have hle : i * w + w ≤ xs.length * w := by rw [← Nat.succ_mul]; exact Nat.mul_le_mul_right w hi
 have hq : i * w / 64 < nwP xs.length w := by unfold nwP; omega
 have hq2 : 64 < i * w % 64 + w → i * w / 64 + 1 < nwP xs.length w := by intro h; unfold nwP; omega
 have hx1 := o_19 (w := w) (xs := xs) (i * w / 64)
 have hx2 := o_19 (w := w) (xs := xs) (i * w / 64 + 1)
 have hp1 := pget1 (i := i) hs hw hi
 have hp2 := pget2 (i := i) hs hw hi
 have hqb : i * w / 64 ≤ 1000 := by have : i * w ≤ 256 * 32 := Nat.mul_le_mul (by omega) hw; omega
 have hg1 : ∀ z : D, ((wordsP w xs).map fun x : Nat => D.int .u64 x)[i * w / 64]?.getD z = .int .u64 ((wordsP w xs).getD (i * w / 64) 0 : Nat) := fun z => by simp [hq]
 have hg2 : 64 < i * w % 64 + w → ∀ z : D, ((wordsP w xs).map fun x : Nat => D.int .u64 x)[i * w / 64 + 1]?.getD z = .int .u64 ((wordsP w xs).getD (i * w / 64 + 1) 0 : Nat) := fun h z => by simp [hq2 h]
 have h32 : 2 ^ w ≤ 2 ^ 32 := Nat.pow_le_pow_right (by omega) hw
 have hlen : ((wordsP w xs).map fun x : Nat => D.int .u64 x).length = nwP xs.length w := by simp
 simp only [o_e6, vecD] at hpl hma ⊢
 generalize (wordsP w xs).getD (i * w / 64) 0 = x1 at *
 generalize (wordsP w xs).getD (i * w / 64 + 1) 0 = x2 at *
 generalize xs.getD i 0 = res at *
 generalize i * w / 64 = q at *
 generalize i * w % 64 = r at *
 generalize ((wordsP w xs).map fun x : Nat => D.int .u64 x) = L at *
 generalize nwP xs.length w = NW at *
 have e1 : (x1 : Int) / 2 ^ r = ((x1 / 2 ^ r : Nat) : Int) := by rw [Int.natCast_ediv, Int.natCast_pow]; rfl
 have e2 : IntKind.i64.wrap ((r : Int) + w) = ((r + w : Nat) : Int) := by rw [w64 (by omega) (by omega)]; omega
 have hx1r : x1 / 2 ^ r ≤ x1 := Nat.div_le_self _ _
 have hr64 : (r : Int) ≤ 64 := by omega
 by_cases hrw : r + w ≤ 64
 ·replace hp1 := hp1 hrw
  have e3 := o_ks (x1 / 2 ^ r) (2 ^ w - 1) (by omega) (by omega)
  rw [hp1] at e3
  generalize x1 / 2 ^ r = X1 at *
  generalize 2 ^ w - 1 = M at *
  have g3 : ¬ (64 : Int) < (r : Int) + w := by omega
  have g3' : ¬ (64 : Int) < (r + w : Nat) := by omega
  have g3'' : ¬ 64 < r + w := by omega
  generalize r + w = rw_ at *
  refine G1 (fs g1 g2) ?_; try with_reducible exact tt
  refine AW.cond rfl (fun h => ?_) (fun h => ?_)
  ·simp [g1, g2] at h
  refine G0B ?_; try with_reducible exact tt
  refine CallS.pu (hpl) (R0 ?_); try with_reducible exact tt
  repeat (first | refine AW.seq ?_ | refine AW.block ?_ | (refine AW.reg mix ?_; simp -implicitDefEqProofs [hg1, e1, e2, hr64, g3, g3', g3'']; try simp (disch := omega) only [w64, wu64]) | (refine need.of (by first | omega | kernel_rfl) ?_) | (refine AW.fin ?_; try simp -implicitDefEqProofs [hg1, e1, e2, hr64, g3, g3', g3'']))
  (try (simp -implicitDefEqProofs [hg1, e1, e2, hr64, g3, g3', g3'']; try simp (disch := omega) only [w64, wu64]))
  repeat (first | refine AW.seq ?_ | refine AW.block ?_ | (refine AW.reg mix ?_; simp -implicitDefEqProofs [hg1, e1, e2, hr64, g3, g3', g3'']; try simp (disch := omega) only [w64, wu64]) | (refine need.of (by first | omega | kernel_rfl) ?_) | (refine AW.fin ?_; try simp -implicitDefEqProofs [hg1, e1, e2, hr64, g3, g3', g3'']))
  refine AW.cond rfl (fun h => ?_) (fun h => ?_)
  ·simp [g3''] at h
  refine G0 ?_; try with_reducible exact tt
  refine CallS.pu (hma) (R1 e3 ?_); try with_reducible exact tt
 ·have hr2 : 64 < r + w := by omega
  replace hp2 := hp2 hr2
  replace hg2 := hg2 hr2
  replace hq2 := hq2 hr2
  have e4 : IntKind.i64.wrap (64 - (r : Int)) = ((64 - r : Nat) : Int) := by rw [w64 (by omega) (by omega)]; omega
  have e5 : IntKind.u64.wrap ((x2 : Int) * 2 ^ (64 - r)) = ((x2 * 2 ^ (64 - r) % 2 ^ 64 : Nat) : Int) := by
   rw [IntKind.wrap_u64, Int.natCast_emod, Int.natCast_mul, Int.natCast_pow]; rfl
  have hx2m : x2 * 2 ^ (64 - r) % 2 ^ 64 < 2 ^ 64 := Nat.mod_lt _ (by omega)
  have e6 := o_4i (x1 / 2 ^ r) (x2 * 2 ^ (64 - r) % 2 ^ 64) (by omega) (by omega)
  have hor := Nat.or_lt_two_pow (n := 64) (x := x1 / 2 ^ r) (y := x2 * 2 ^ (64 - r) % 2 ^ 64) (by omega) hx2m
  have e7 := o_ks (x1 / 2 ^ r ||| x2 * 2 ^ (64 - r) % 2 ^ 64) (2 ^ w - 1) (by omega) (by omega)
  rw [hp2] at e7
  have hs64 : ((64 - r : Nat) : Int) ≤ 64 := by omega
  generalize x1 / 2 ^ r = X1 at *
  generalize x2 * 2 ^ (64 - r) % 2 ^ 64 = X2 at *
  generalize X1 ||| X2 = X3 at *
  generalize 2 ^ w - 1 = M at *
  generalize 64 - r = s at *
  have g3 : (64 : Int) < (r + w : Nat) := by omega
  have e8 : IntKind.i64.wrap ((q : Int) + 1) = ((q + 1 : Nat) : Int) := by rw [w64 (by omega) (by omega)]; omega
  generalize r + w = rw_ at *
  obtain ⟨q1, hq1⟩ : ∃ q1, q1 = q + 1 := ⟨_, rfl⟩
  rw [← hq1] at hg2 hq2 e8
  refine G1 (fs g1 g2) ?_; try with_reducible exact tt
  refine AW.cond rfl (fun h => ?_) (fun h => ?_)
  ·simp [g1, g2] at h
  refine G0B ?_; try with_reducible exact tt
  refine CallS.pu (hpl) (R0 ?_); try with_reducible exact tt
  repeat (first | refine AW.seq ?_ | refine AW.block ?_ | (refine AW.reg mix ?_; simp -implicitDefEqProofs [hg1, e1, e2, hr64, g3, hr2]; try simp (disch := omega) only [w64, wu64]) | (refine need.of (by first | omega | kernel_rfl) ?_) | (refine AW.fin ?_; try simp -implicitDefEqProofs [hg1, e1, e2, hr64, g3, hr2]))
  (try (simp -implicitDefEqProofs [hg1, e1, e2, hr64, g3, hr2]; try simp (disch := omega) only [w64, wu64]))
  repeat (first | refine AW.seq ?_ | refine AW.block ?_ | (refine AW.reg mix ?_; simp -implicitDefEqProofs [hg1, e1, e2, hr64, g3, hr2]; try simp (disch := omega) only [w64, wu64]) | (refine need.of (by first | omega | kernel_rfl) ?_) | (refine AW.fin ?_; try simp -implicitDefEqProofs [hg1, e1, e2, hr64, g3, hr2]))
  refine AW.cond rfl (fun h => ?_) (fun h => ?_)
  ·repeat (first | refine AW.seq ?_ | refine AW.block ?_ | (refine AW.reg mix ?_; simp -implicitDefEqProofs [hg2, e4, e5, e6, e8, hs64]; try simp (disch := omega) only [w64, wu64]) | (refine need.of (by first | omega | kernel_rfl) ?_) | (refine AW.fin ?_; try simp -implicitDefEqProofs [hg2, e4, e5, e6, e8, hs64]))
   (try (simp -implicitDefEqProofs [hg2, e4, e5, e6, e8, hs64]; try simp (disch := omega) only [w64, wu64]))
   repeat (first | refine AW.seq ?_ | refine AW.block ?_ | (refine AW.reg mix ?_; simp -implicitDefEqProofs [hg2, e4, e5, e6, e8, hs64]; try simp (disch := omega) only [w64, wu64]) | (refine need.of (by first | omega | kernel_rfl) ?_) | (refine AW.fin ?_; try simp -implicitDefEqProofs [hg2, e4, e5, e6, e8, hs64]))
   refine CallS.pu (hma) (R1 e7 ?_); try with_reducible exact tt
  ·simp [hr2] at h
end
end Go.Proofs.YtijbgbpjionfjaaGreatDoor.Am
namespace Go.Proofs.YtijbgbpjionfjaaGreatDoor.Am
section
open Go.RowKit
set_option maxHeartbeats 1000000 in
theorem o_wd (w : Nat) (xs : List Nat) (i v : Nat) (hi : i < xs.length) (hn : xs.length ≤ 256) (hw0 : 0 < w) (hw : w ≤ 32) (hv : v < 2 ^ w) : Eqn Tryz.prog o_fu [.p 0 0, .d (.int .i64 i), .d (.int .u64 v)] [vecO 1 xs.length w, vecB w xs] (.d (.int .i64 0)) [vecO 1 xs.length w, vecB w (xs.set i v)] := by
 refine Eqn.gen [0, 1] o_qx (by simp) (by simp) (by rfl) (by decide) (by simp) (by simp [vecO, vecB]) ?_
 have hpl := o_ku w xs i hi hn hw
 have hma := fun N L n => o_kv w N L n hw
 have g1 : ¬ (i : Int) < 0 := by omega
 have g2 : ¬ (xs.length : Int) ≤ i := by omega
 have e := Nat.div_add_mod (i * w) 64
 have hm64 : i * w % 64 < 64 := Nat.mod_lt _ (by omega)
 have hle : i * w + w ≤ xs.length * w := by rw [← Nat.succ_mul]; exact Nat.mul_le_mul_right w hi
 have hq : i * w / 64 < (wordsP w xs).length := by rw [o_4q]; unfold nwP; omega
 have hq2 : 64 < i * w % 64 + w → i * w / 64 + 1 < (wordsP w xs).length := by intro h; rw [o_4q]; unfold nwP; omega
 have hx1 := o_19 (w := w) (xs := xs) (i * w / 64)
 have hx2 := o_19 (w := w) (xs := xs) (i * w / 64 + 1)
 have hp1 := pset1 (xs := xs) (i := i) hw hw0 hi hv
 have hp2 := pset2 (xs := xs) (i := i) hw hi hv
 have hqb : i * w / 64 ≤ 1000 := by have : i * w ≤ 256 * 32 := Nat.mul_le_mul (by omega) hw; omega
 have hg1 := o_kr hq
 have hg2 := fun h => o_kr (hq2 h)
 have hs1 := o_25 (wordsP w xs) (i * w / 64) (setW1 w ((wordsP w xs).getD (i * w / 64) 0) v (i * w % 64))
 have hs2 := o_25 ((wordsP w xs).set (i * w / 64) (setW1 w ((wordsP w xs).getD (i * w / 64) 0) v (i * w % 64))) (i * w / 64 + 1) (setW2 w ((wordsP w xs).getD (i * w / 64 + 1) 0) v (64 - i * w % 64))
 have hg3 : 64 < i * w % 64 + w → ((u64s (wordsP w xs)).set (i * w / 64) (V.d (.int .u64 (setW1 w ((wordsP w xs).getD (i * w / 64) 0) v (i * w % 64) : Nat))))[i * w / 64 + 1]? = some (.d (.int .u64 ((wordsP w xs).getD (i * w / 64 + 1) 0 : Nat))) := by
  intro h
  rw [List.getElem?_set, if_neg (by omega)]
  exact hg2 h
 have h32 : 2 ^ w ≤ 2 ^ 32 := Nat.pow_le_pow_right (by omega) hw
 have hlen := o_4v (wordsP w xs)
 have hnle : ¬ ((2 ^ w - 1 : Nat) : Int) < v := by omega
 have hnle' : ¬ (2 ^ w - 1 < v) := by omega
 have hlx : (xs.set i v).length = xs.length := List.length_set
 rw [o_4q] at hlen hq hq2
 -- the first word
 have w1 : IntKind.u64.wrap (((2 ^ w - 1 : Nat) : Int) * 2 ^ (i * w % 64)) = (((2 ^ w - 1) * 2 ^ (i * w % 64) % 2 ^ 64 : Nat) : Int) := by
  rw [IntKind.wrap_u64, Int.natCast_emod, Int.natCast_mul, Int.natCast_pow]; rfl
 have w2 : IntKind.u64.wrap ((v : Int) * 2 ^ (i * w % 64)) = ((v * 2 ^ (i * w % 64) % 2 ^ 64 : Nat) : Int) := by
  rw [IntKind.wrap_u64, Int.natCast_emod, Int.natCast_mul, Int.natCast_pow]; rfl
 have lt1 : (2 ^ w - 1) * 2 ^ (i * w % 64) % 2 ^ 64 < 2 ^ 64 := Nat.mod_lt _ (by omega)
 have lt2 : v * 2 ^ (i * w % 64) % 2 ^ 64 < 2 ^ 64 := Nat.mod_lt _ (by omega)
 have w3 := o_kt ((wordsP w xs).getD (i * w / 64) 0) ((2 ^ w - 1) * 2 ^ (i * w % 64) % 2 ^ 64) hx1 lt1
 have w4 := o_4i (andN ((wordsP w xs).getD (i * w / 64) 0) ((2 ^ w - 1) * 2 ^ (i * w % 64) % 2 ^ 64)) (v * 2 ^ (i * w % 64) % 2 ^ 64) (o_4u hx1) lt2
 have w5 : andN ((wordsP w xs).getD (i * w / 64) 0) ((2 ^ w - 1) * 2 ^ (i * w % 64) % 2 ^ 64) ||| v * 2 ^ (i * w % 64) % 2 ^ 64 = setW1 w ((wordsP w xs).getD (i * w / 64) 0) v (i * w % 64) := rfl
 rw [w5] at w4
 clear w5
 -- the second one
 have w6 : (((2 ^ w - 1 : Nat) : Int)) / 2 ^ (64 - i * w % 64) = (((2 ^ w - 1) / 2 ^ (64 - i * w % 64) : Nat) : Int) := by rw [Int.natCast_ediv, Int.natCast_pow]; rfl
 have w7 : (v : Int) / 2 ^ (64 - i * w % 64) = ((v / 2 ^ (64 - i * w % 64) : Nat) : Int) := by rw [Int.natCast_ediv, Int.natCast_pow]; rfl
 have lt3 : (2 ^ w - 1) / 2 ^ (64 - i * w % 64) < 2 ^ 64 := Nat.lt_of_le_of_lt (Nat.div_le_self _ _) (by omega)
 have lt4 : v / 2 ^ (64 - i * w % 64) < 2 ^ 64 := Nat.lt_of_le_of_lt (Nat.div_le_self _ _) (by omega)
 have w8 := o_kt ((wordsP w xs).getD (i * w / 64 + 1) 0) ((2 ^ w - 1) / 2 ^ (64 - i * w % 64)) hx2 lt3
 have w9 := o_4i (andN ((wordsP w xs).getD (i * w / 64 + 1) 0) ((2 ^ w - 1) / 2 ^ (64 - i * w % 64))) (v / 2 ^ (64 - i * w % 64)) (o_4u hx2) lt4
 have w10 : andN ((wordsP w xs).getD (i * w / 64 + 1) 0) ((2 ^ w - 1) / 2 ^ (64 - i * w % 64)) ||| v / 2 ^ (64 - i * w % 64) = setW2 w ((wordsP w xs).getD (i * w / 64 + 1) 0) v (64 - i * w % 64) := rfl
 rw [w10] at w9
 clear w10 lt1 lt2 lt3 lt4
 simp only [o_fv, vecO, vecB, hlx]
 have hL0 : u64s (wordsP w xs) = ((wordsP w xs).map fun x : Nat => D.int .u64 x).map V.d := by simp [u64s]
 have htk : ((wordsP w xs).map fun x : Nat => D.int .u64 x).take (nwP xs.length w) = (wordsP w xs).map fun x : Nat => D.int .u64 x := List.take_of_length_le (by simp)
 simp only [vecD] at hpl
 generalize hL : ((wordsP w xs).map fun x : Nat => D.int .u64 x) = L0 at *
 generalize hW : wordsP w (xs.set i v) = W2 at *
 generalize andN ((wordsP w xs).getD (i * w / 64) 0) ((2 ^ w - 1) * 2 ^ (i * w % 64) % 2 ^ 64) = A1 at *
 generalize andN ((wordsP w xs).getD (i * w / 64 + 1) 0) ((2 ^ w - 1) / 2 ^ (64 - i * w % 64)) = A2 at *
 generalize setW1 w ((wordsP w xs).getD (i * w / 64) 0) v (i * w % 64) = Y1 at *
 generalize setW2 w ((wordsP w xs).getD (i * w / 64 + 1) 0) v (64 - i * w % 64) = Y2 at *
 generalize (wordsP w xs).getD (i * w / 64) 0 = x1 at *
 generalize (wordsP w xs).getD (i * w / 64 + 1) 0 = x2 at *
 generalize (2 ^ w - 1) * 2 ^ (i * w % 64) % 2 ^ 64 = M1 at *
 generalize v * 2 ^ (i * w % 64) % 2 ^ 64 = v1 at *
 generalize (2 ^ w - 1) / 2 ^ (64 - i * w % 64) = M2 at *
 generalize v / 2 ^ (64 - i * w % 64) = v2 at *
 generalize 2 ^ w - 1 = M at *
 have hs64 : 64 - i * w % 64 ≤ 64 := by omega
 have e4 : IntKind.i64.wrap (64 - ((i * w % 64 : Nat) : Int)) = ((64 - i * w % 64 : Nat) : Int) := by rw [w64 (by omega) (by omega)]; omega
 have e8 : IntKind.i64.wrap (((i * w / 64 : Nat) : Int) + 1) = ((i * w / 64 + 1 : Nat) : Int) := by rw [w64 (by omega) (by omega)]; omega
 have e2 : IntKind.i64.wrap (((i * w % 64 : Nat) : Int) + w) = ((i * w % 64 + w : Nat) : Int) := by rw [w64 (by omega) (by omega)]; omega
 generalize 64 - i * w % 64 = s at *
 generalize i * w / 64 + 1 = q1 at *
 generalize i * w / 64 = q at *
 generalize i * w % 64 + w = rw_ at *
 generalize i * w % 64 = r at *
 generalize wordsP w xs = WS at *
 generalize nwP xs.length w = NW at *
 have hr64 : (r : Int) ≤ 64 := by omega
 have hs64' : (s : Int) ≤ 64 := by omega
 refine G1 (fs g1 g2) ?_; try with_reducible exact tt
 refine AW.cond rfl (fun h => ?_) (fun h => ?_)
 ·simp [g1, g2] at h
 refine G0 ?_; try with_reducible exact tt
 refine CallS.ro [(1, 1, L0), (0, 1, [.sl NW L0, .int .i64 xs.length, .int .i64 w])] (hma NW L0 xs.length) (R1 (fs hnle hnle') ?_) (hok := by first | (simp [frzOK, frzH, hL0, htk]; done) | (simp [frzOK, frzH, hL0, htk]; rfl)); try with_reducible exact tt
 refine AW.cond rfl (fun h => ?_) (fun h => ?_)
 ·simp [hnle'] at h
 refine G0 ?_; try with_reducible exact tt
 refine CallS.ro [(1, 1, L0), (0, 1, _)] (hpl) (R0 ?_) (hok := by first | (simp [frzOK, frzH, hL0, htk]; done) | (simp [frzOK, frzH, hL0, htk]; rfl)); try with_reducible exact tt
 refine CallS.ro [(1, 1, L0), (0, 1, [.sl NW L0, .int .i64 xs.length, .int .i64 w])] (hma NW L0 xs.length) (R0 ?_) (hok := by first | (simp [frzOK, frzH, hL0, htk]; done) | (simp [frzOK, frzH, hL0, htk]; rfl)); try with_reducible exact tt
 repeat (first | refine AW.seq ?_ | refine AW.block ?_ | (refine AW.reg mix ?_; simp -implicitDefEqProofs [hg1, w1, w2, w3, w4, hr64, e2]; try simp (disch := omega) only [w64, wu64]) | (refine need.of (by first | omega | kernel_rfl) ?_) | (refine AW.fin ?_; try simp -implicitDefEqProofs [hg1, w1, w2, w3, w4, hr64, e2]))
 (try (simp -implicitDefEqProofs [hg1, w1, w2, w3, w4, hr64, e2]; try simp (disch := omega) only [w64, wu64]))
 repeat (first | refine AW.seq ?_ | refine AW.block ?_ | (refine AW.reg mix ?_; simp -implicitDefEqProofs [hg1, w1, w2, w3, w4, hr64, e2]; try simp (disch := omega) only [w64, wu64]) | (refine need.of (by first | omega | kernel_rfl) ?_) | (refine AW.fin ?_; try simp -implicitDefEqProofs [hg1, w1, w2, w3, w4, hr64, e2]))
 by_cases hrw : rw_ ≤ 64
 ·replace hp1 := hp1 hrw
  have g3 : ¬ 64 < rw_ := by omega
  have g3' : ¬ (64 : Int) < rw_ := by omega
  refine AW.cond rfl (fun h => ?_) (fun h => ?_)
  ·exfalso; simp at h; omega
  refine G0 ?_; try with_reducible exact tt
  exact Subs.of (by rw [o_25, hp1])
 ·have g3 : 64 < rw_ := by omega
  replace hp2 := hp2 g3
  replace hg3 := hg3 g3
  replace hq2 := hq2 g3
  obtain ⟨L1, hL1, hL1l⟩ : ∃ L1 : List D, (u64s WS).set q (V.d (.int .u64 Y1)) = L1.map V.d ∧ L1.length = NW := ⟨(WS.set q Y1).map fun x : Nat => D.int .u64 x, by rw [o_25]; simp [u64s, Function.comp_def], by simp; have := o_4v WS; omega⟩
  have htk1 : L1.take NW = L1 := List.take_of_length_le (by omega)
  have hR : ((u64s WS).set q (V.d (.int .u64 Y1))).length = NW := by simp [hlen]
  refine AW.cond rfl (fun h => ?_) (fun h => ?_)
  ·refine G1 (fs e4 e8) ?_; try with_reducible exact tt
   refine CallS.ro [(1, 1, L1), (0, 1, [.sl NW L1, .int .i64 xs.length, .int .i64 w])] (hma NW L1 xs.length) (R0 ?_) (hok := by first | (simp [frzOK, frzH, hL1, htk1]; done) | (simp [frzOK, frzH, hL1, htk1]; rfl)); try with_reducible exact tt
   repeat (first | refine AW.seq ?_ | refine AW.block ?_ | (refine AW.reg mix ?_; simp -implicitDefEqProofs [hg3, w6, w7, w8, w9, hs64']; try simp (disch := omega) only [w64, wu64]) | (refine need.of (by first | omega | kernel_rfl) ?_) | (refine AW.fin ?_; try simp -implicitDefEqProofs [hg3, w6, w7, w8, w9, hs64']))
   (try (simp -implicitDefEqProofs [hg3, w6, w7, w8, w9, hs64']; try simp (disch := omega) only [w64, wu64]))
   repeat (first | refine AW.seq ?_ | refine AW.block ?_ | (refine AW.reg mix ?_; simp -implicitDefEqProofs [hg3, w6, w7, w8, w9, hs64']; try simp (disch := omega) only [w64, wu64]) | (refine need.of (by first | omega | kernel_rfl) ?_) | (refine AW.fin ?_; try simp -implicitDefEqProofs [hg3, w6, w7, w8, w9, hs64']))
   exact Subs.of (by rw [o_25, o_25, hp2])
  ·exfalso; simp at h; omega
end
end Go.Proofs.YtijbgbpjionfjaaGreatDoor.Am
namespace Go.Proofs.YtijbgbpjionfjaaGreatDoor.Am
section
open Go.RowKit
theorem o_kw : ∀ (n : Nat) (bs : List Bool), bs.length = n → bitsW (numB bs 0) n = bs
 | 0, bs, h => by rw [List.eq_nil_of_length_eq_zero h]; rfl
 | n + 1, bs, h => by
  rcases List.eq_nil_or_concat bs with rfl | ⟨l, b, rfl⟩
  ·simp at h
  ·simp at h
   rw [List.concat_eq_append, o_22, show numB [b] (numB l 0) = 2 * numB l 0 + b2n b from rfl, o_k5]
   have hb : (2 * numB l 0 + b2n b) / 2 = numB l 0 := by have := o_4g b; omega
   have hb2 : decide ((2 * numB l 0 + b2n b) % 2 = 1) = b := by cases b <;> simp [b2n] <;> omega
   rw [hb, hb2, o_kw n l h]

def encN (k a b y t : Nat) (f : Bool) : Nat := numB (encR k a b y t f) 0
def wdR (k a b : Nat) : Nat := kwR k a b + twR k b + 1
theorem o_4w (k a b y t : Nat) (f : Bool) : encN k a b y t f < 2 ^ wdR k a b := by have := o_86 (encR k a b y t f); rw [o_24] at this; exact this
theorem o_kx (k a b y t : Nat) (f : Bool) : bitsW (encN k a b y t f) (wdR k a b) = encR k a b y t f := o_kw _ _ (o_24 k a b y t f)
theorem o_2y {k a b : Nat} (h : GoodR k a b) : 0 < wdR k a b ∧ wdR k a b ≤ 16 := by
 have := (o_4m h); have := o_4n h; unfold wdR; omega

theorem o_4x (bs : List Bool) (a n : Nat) (h : a + n ≤ bs.length) : ((bitsOf (bytesOf bs)).drop a).take n = (bs.drop a).take n := by
 have e := o_vq bs
 conv => rhs; rw [← e]
 rw [List.drop_take, List.take_take, Nat.min_eq_left (by omega)]
theorem o_ky {k a b y t : Nat} {f : Bool} (hg : GoodR k a b) (h : WellR k a b y t f) : readR (bytesOf (encR k a b y t f)) k a b 0 = ((y, t, f), 0, wdR k a b) := by
 have hl := o_24 k a b y t f
 have hf := o_ki hg h
 have h1 : numAt (bytesOf (encR k a b y t f)) 0 (kwR k a b) = y := by
  unfold numAt
  rw [o_4x _ _ _ (by omega), List.drop_zero]
  unfold encR
  rw [List.append_assoc, List.take_append_of_le_length (by simp), List.take_of_length_le (by simp), o_87, Nat.mod_eq_of_lt hf.1]
 have h2 : numAt (bytesOf (encR k a b y t f)) (0 + kwR k a b) (twR k b) = t := by
  unfold numAt
  rw [o_4x _ _ _ (by omega), Nat.zero_add]
  unfold encR
  rw [List.append_assoc, List.drop_append_of_le_length (by simp), List.drop_of_length_le (by simp), List.nil_append, List.take_append_of_le_length (by simp), List.take_of_length_le (by simp), o_87, Nat.mod_eq_of_lt hf.2]
 have h3 : (bitsOf (bytesOf (encR k a b y t f))).getD (0 + kwR k a b + twR k b) false = f := by
  have e := o_4x (encR k a b y t f) (kwR k a b + twR k b) 1 (by omega)
  have : ((encR k a b y t f).drop (kwR k a b + twR k b)).take 1 = [f] := by
   unfold encR
   rw [List.drop_append_of_le_length (by simp), List.drop_of_length_le (by simp)]; rfl
  rw [this] at e
  rw [Nat.zero_add, List.getD_eq_getElem?_getD]
  have e2 := congrArg (fun l => l[0]?) e
  simp only [List.getElem?_take, List.getElem?_drop] at e2
  simp at e2
  rw [e2]; rfl
 unfold readR
 rw [h1, h2, h3, if_neg (by rw [o_q, hl]; omega), if_pos (o_kg.2 h)]
 simp [wdR]

abbrev ST := Nat × Nat × Bool
def encs (k a b : Nat) (l : List ST) : List Nat := l.map fun s => encN k a b s.1 s.2.1 s.2.2
def wells (k a b : Nat) (l : List ST) : Prop := ∀ s ∈ l, WellR k a b s.1 s.2.1 s.2.2
@[simp] theorem o_26 (k a b : Nat) (l : List ST) : (encs k a b l).length = l.length := by simp [encs]
theorem o_8q (k a b : Nat) (l : List ST) : smallP (wdR k a b) (encs k a b l) := by
 intro x hx
 obtain ⟨s, -, rfl⟩ := List.mem_map.1 hx
 exact o_4w _ _ _ _ _ _
theorem o_kz {k a b : Nat} {l : List ST} {i : Nat} (h : i < l.length) : (encs k a b l).getD i 0 = encN k a b (l.getD i (0, 0, false)).1 (l.getD i (0, 0, false)).2.1 (l.getD i (0, 0, false)).2.2 := by simp [encs, h]
theorem o_we (k a b : Nat) (l : List ST) (i : Nat) (s : ST) : (encs k a b l).set i (encN k a b s.1 s.2.1 s.2.2) = encs k a b (l.set i s) := by simp [encs, List.map_set]
theorem o_g {k a b : Nat} {l : List ST} (h : wells k a b l) {i : Nat} (hi : i < l.length) : WellR k a b (l.getD i (0, 0, false)).1 (l.getD i (0, 0, false)).2.1 (l.getD i (0, 0, false)).2.2 := by
 rw [List.getD_eq_getElem?_getD, List.getElem?_eq_getElem hi]; exact h _ (List.getElem_mem hi)
def arrO (v : Nat) (k a b : Nat) : Ob := ⟨166, [.p v 0, .d (.int .i64 k), .d (.int .i64 a), .d (.int .i64 b)]⟩
def arrV (m : Nat) (k a b : Nat) (l : List ST) : Ob := vecO m l.length (wdR k a b)
def arrB (k a b : Nat) (l : List ST) : Ob := vecB (wdR k a b) (encs k a b l)

theorem o_8r (bs : List Bool) : smallB (bytesOf bs) := by
 intro x hx
 obtain ⟨i, -, rfl⟩ := List.mem_map.1 hx
 exact o_k6 _ _

set_option maxHeartbeats 1000000 in
theorem o_wf {k a b : Nat} (l : List ST) (i : Nat) (h : GoodR k a b) (hw : wells k a b l) (hi : i < l.length) (hn : l.length ≤ 256) :
  Eqn Tryz.prog o_6a [.p 0 0, .d (.int .i64 i)] [arrO 1 k a b, arrV 2 k a b l, arrB k a b l] (.tup [.d (tsD (l.getD i (0, 0, false)).1 (l.getD i (0, 0, false)).2.1 (l.getD i (0, 0, false)).2.2), .d (.int .i64 0)]) [arrO 1 k a b, arrV 2 k a b l, arrB k a b l] := by
 refine Eqn.gen [0, 1, 2] o_cd (by simp) (by simp) (by rfl) (by decide) (by simp [tsD]) (by simp [arrO, arrV, arrB, vecO, vecB]) ?_
 obtain ⟨w0, w16⟩ := o_2y h
 have hg := o_8p (wdR k a b) (encs k a b l) i (by simpa using hi) (by simpa using hn) w0 (by omega) (o_8q k a b l)
 have hwd := o_8o (wdR k a b) (encs k a b l)
 rw [o_kz hi] at hg
 have hwi := o_g hw hi
 generalize l.getD i (0, 0, false) = s at *
 obtain ⟨y, t, f⟩ := s
 simp only at hg hwi ⊢
 have hlt := o_4w k a b y t f
 have h16 : 2 ^ wdR k a b ≤ 2 ^ 16 := Nat.pow_le_pow_right (by omega) w16
 have h3 := o_8e (encN k a b y t f) (wdR k a b) w0 (by omega) hlt (by omega)
 rw [o_kx] at h3
 have hne : encR k a b y t f ≠ [] := by simp [encR]
 have hel := o_24 k a b y t f
 have h4 := o_8b (encR k a b y t f) hne (by rw [hel]; unfold wdR at w16; omega)
 have h5 := o_8f (bytesOf (encR k a b y t f)) (by rw [o_q, hel]; unfold wdR at w16; omega)
 have h6 := o_kl (bytesOf (encR k a b y t f)) (k := k) (a := a) (b := b) 0 h (o_8r _) (by rw [o_q, hel]; unfold wdR at w16; omega) (Nat.zero_le _) _ rfl
 rw [o_ky h hwi] at h6
 have hwlen : ((wordsP (wdR k a b) (encs k a b l)).map fun x : Nat => D.int .u64 x).length = nwP l.length (wdR k a b) := by simp
 have htk : ((wordsP (wdR k a b) (encs k a b l)).map fun x : Nat => D.int .u64 x).take (nwP l.length (wdR k a b)) = (wordsP (wdR k a b) (encs k a b l)).map fun x : Nat => D.int .u64 x := List.take_of_length_le (by simp)
 have hL0 : u64s (wordsP (wdR k a b) (encs k a b l)) = ((wordsP (wdR k a b) (encs k a b l)).map fun x : Nat => D.int .u64 x).map V.d := by simp [u64s]
 have hB0 : u8s (bytesOf (encR k a b y t f)) = ((bytesOf (encR k a b y t f)).map fun x : Nat => D.int .u8 x).map V.d := by simp [u8s]
 have hBt : ((bytesOf (encR k a b y t f)).map fun x : Nat => D.int .u8 x).take (bytesOf (encR k a b y t f)).length = (bytesOf (encR k a b y t f)).map fun x : Nat => D.int .u8 x := List.take_of_length_le (by simp)
 have hBl : (bytesOf (encR k a b y t f)).length = ((encR k a b y t f).length + 7) / 8 := by simp
 simp only [o_6b, arrO, arrV, arrB, vecO, vecB, vecD, o_26, tsD, parD, rdO, BY, wrO, wrB] at hg hwd h3 h4 h5 h6 ⊢
 generalize encs k a b l = es at *
 generalize wordsP (wdR k a b) es = WS at *
 generalize encR k a b y t f = bs at *
 generalize bytesOf bs = bytes at *
 rw [← hBl] at h3 h4
 generalize hLL : (WS.map fun x : Nat => D.int .u64 x) = L0 at *
 generalize hBB : (bytes.map fun x : Nat => D.int .u8 x) = LB at *
 generalize encN k a b y t f = N at *
 generalize wdR k a b = w at *
 generalize nwP l.length w = NW at *
 refine G0 ?_; try with_reducible exact tt
 refine CallS.ro [(2, 1, L0), (1, 1, [.sl NW L0, .int .i64 l.length, .int .i64 w])] (hg) (R0 ?_) (hok := by first | (simp [frzOK, frzH, hL0, htk]; done) | (simp [frzOK, frzH, hL0, htk]; rfl)); try with_reducible exact tt
 refine AW.cond rfl (fun h => ?_) (fun h => ?_)
 ·simp at h
 refine G0 ?_; try with_reducible exact tt
 refine CallS.ro [(2, 1, L0), (1, 1, [.sl NW L0, .int .i64 l.length, .int .i64 w])] (hwd) (R0 ?_) (hok := by first | (simp [frzOK, frzH, hL0, htk]; done) | (simp [frzOK, frzH, hL0, htk]; rfl)); try with_reducible exact tt
 refine CallS.g [4] (h3) (R0 ?_); try with_reducible exact tt
 refine CallS.g [4, 5] (h4) (R0 ?_); try with_reducible exact tt
 rw [hB0]
 have h5' : Eqn Tryz.prog o_2m [.d (.sl bytes.length (List.take (bytes.length * 1) LB))] [] (.p 0 0) [⟨174, [.d (.sl bytes.length LB), .d (.int .i64 0)]⟩] := by rw [Nat.mul_one, hBt]; simpa using h5
 refine CallS.gf 6 1 ⟨5, LB.map V.d⟩ LB [] (h5') (R0 ?_); try with_reducible exact tt
 simp at h6
 refine CallS.g [7] (h6) (R0 ?_); try with_reducible exact tt
end
end Go.Proofs.YtijbgbpjionfjaaGreatDoor.Am
namespace Go.Proofs.YtijbgbpjionfjaaGreatDoor.Am
section
open Go.RowKit
theorem zeroS {k a b : Nat} (h : GoodR k a b) : WellR k a b 0 0 false := by
 rcases h with ⟨rfl, h⟩ | ⟨hk, h⟩
 ·exact .inl ⟨rfl, Nat.zero_le _, Nat.zero_le _, by simp⟩
 ·exact .inr ⟨hk, rfl, Nat.zero_le _, by simp⟩
theorem o_wg (k a b : Nat) : encN k a b 0 0 false = 0 := by
 have h : ∀ w, bitsW 0 w = List.replicate w false := by
  intro w
  apply List.ext_getElem?
  intro i
  simp only [bitsW, List.getElem?_map, List.getElem?_replicate]
  by_cases h : i < w
  ·rw [List.getElem?_range h, if_pos h]; simp
  ·rw [List.getElem?_eq_none (by simp; omega), if_neg h]; rfl
 have hz : ∀ w n, numB (List.replicate w false) n = n * 2 ^ w := by
  intro w
  induction w with
  | zero => intro n; simp [numB]
  | succ w ih => intro n; rw [List.replicate_succ, numB, ih, Nat.pow_succ]; simp [b2n]; rw [Nat.mul_comm 2 n, Nat.mul_assoc, Nat.mul_comm 2]
 unfold encN encR
 rw [h, h, show [false] = List.replicate 1 false from rfl, o_22, o_22, hz, hz, hz]
 simp

set_option maxHeartbeats 1000000 in
theorem o_wh {k a b : Nat} (l : List ST) (i : Nat) (y t : Nat) (f : Bool) (h : GoodR k a b) (hw : wells k a b l) (hi : i < l.length) (hn : l.length ≤ 256) (hs : WellR k a b y t f) :
  Eqn Tryz.prog o_e3 [.p 0 0, .d (.int .i64 i), .d (tsD y t f)] [arrO 1 k a b, arrV 2 k a b l, arrB k a b l] (.d (.int .i64 0)) [arrO 1 k a b, arrV 2 k a b l, arrB k a b (l.set i (y, t, f))] := by
 refine Eqn.gen [0, 1, 2] o_pz (by simp) (by simp) (by rfl) (by decide) (by simp) (by simp [arrO, arrV, arrB, vecO, vecB]) ?_
 obtain ⟨w0, w16⟩ := o_2y h
 have hg := o_8p (wdR k a b) (encs k a b l) i (by simpa using hi) (by simpa using hn) w0 (by omega) (o_8q k a b l)
 generalize (encs k a b l).getD i 0 = was at hg
 have hwd := o_8o (wdR k a b) (encs k a b l)
 have hlt := o_4w k a b y t f
 have hps := o_wd (wdR k a b) (encs k a b l) i (encN k a b y t f) (by simpa using hi) (by simpa using hn) w0 (by omega) hlt
 have hset := o_we k a b l i (y, t, f)
 simp only at hset
 rw [hset] at hps
 have h16 : 2 ^ wdR k a b ≤ 2 ^ 16 := Nat.pow_le_pow_right (by omega) w16
 have h3 := o_w6 h hs
 have hne : encR k a b y t f ≠ [] := by simp [encR]
 have hel := o_24 k a b y t f
 have h4 := o_8b (encR k a b y t f) hne (by rw [hel]; unfold wdR at w16; omega)
 have h5 := o_8f (bytesOf (encR k a b y t f)) (by rw [o_q, hel]; unfold wdR at w16; omega)
 have h6 := o_4j (bytesOf (encR k a b y t f)) 0 (wdR k a b) (o_8r _) (by omega) (by rw [o_q, hel]; unfold wdR at w16; omega) (by rw [o_q, hel]; unfold wdR; omega)
 have h7 : numAt (bytesOf (encR k a b y t f)) 0 (wdR k a b) = encN k a b y t f := by
  unfold numAt encN
  rw [o_4x _ _ _ (by rw [hel]; unfold wdR; omega), List.drop_zero, List.take_of_length_le (by rw [hel]; unfold wdR; omega)]
 rw [h7] at h6
 have htk : ((wordsP (wdR k a b) (encs k a b l)).map fun x : Nat => D.int .u64 x).take (nwP l.length (wdR k a b)) = (wordsP (wdR k a b) (encs k a b l)).map fun x : Nat => D.int .u64 x := List.take_of_length_le (by simp)
 have hL0 : u64s (wordsP (wdR k a b) (encs k a b l)) = ((wordsP (wdR k a b) (encs k a b l)).map fun x : Nat => D.int .u64 x).map V.d := by simp [u64s]
 have hB0 : u8s (bytesOf (encR k a b y t f)) = ((bytesOf (encR k a b y t f)).map fun x : Nat => D.int .u8 x).map V.d := by simp [u8s]
 have hBt : ((bytesOf (encR k a b y t f)).map fun x : Nat => D.int .u8 x).take (bytesOf (encR k a b y t f)).length = (bytesOf (encR k a b y t f)).map fun x : Nat => D.int .u8 x := List.take_of_length_le (by simp)
 have hBl : (bytesOf (encR k a b y t f)).length = ((encR k a b y t f).length + 7) / 8 := by simp
 simp only [o_e4, arrO, arrV, arrB, vecO, vecB, vecD, o_26, List.length_set, tsD, parD, rdO, BY, wrO, wrB] at hg hwd hps h3 h4 h5 h6 ⊢
 generalize encs k a b (l.set i (y, t, f)) = es' at *
 generalize hWS' : wordsP (wdR k a b) es' = WS' at *
 generalize encs k a b l = es at *
 generalize hWS : wordsP (wdR k a b) es = WS at *
 generalize encR k a b y t f = bs at *
 generalize bytesOf bs = bytes at *
 rw [← hBl] at h3 h4
 generalize hLL : (WS.map fun x : Nat => D.int .u64 x) = L0 at *
 generalize hBB : (bytes.map fun x : Nat => D.int .u8 x) = LB at *
 generalize encN k a b y t f = N at *
 generalize wdR k a b = w at *
 generalize nwP l.length w = NW at *
 have h5' : Eqn Tryz.prog o_2m [.d (.sl bytes.length (List.take (bytes.length * 1) LB))] [] (.p 0 0) [⟨174, [.d (.sl bytes.length LB), .d (.int .i64 0)]⟩] := by rw [Nat.mul_one, hBt]; simpa using h5
 simp at h6
 refine G0 ?_; try with_reducible exact tt
 refine CallS.ro [(2, 1, L0), (1, 1, [.sl NW L0, .int .i64 l.length, .int .i64 w])] (hg) (R0 ?_) (hok := by first | (simp [frzOK, frzH, hL0, htk]; done) | (simp [frzOK, frzH, hL0, htk]; rfl)); try with_reducible exact tt
 refine AW.cond rfl (fun h => ?_) (fun h => ?_)
 ·simp at h
 refine G0 ?_; try with_reducible exact tt
 refine CallS.g [4] (h3) (R0 ?_); try with_reducible exact tt
 refine AW.cond rfl (fun h => ?_) (fun h => ?_)
 ·simp at h
 refine G0 ?_; try with_reducible exact tt
 refine CallS.g [4, 5] (h4) (R0 ?_); try with_reducible exact tt
 rw [hB0]
 refine CallS.gf 6 1 ⟨5, LB.map V.d⟩ LB [] (h5') (R0 ?_); try with_reducible exact tt
 refine CallS.ro [(2, 1, L0), (1, 1, [.sl NW L0, .int .i64 l.length, .int .i64 w])] (hwd) (R0 ?_) (hok := by first | (simp [frzOK, frzH, hL0, htk]; done) | (simp [frzOK, frzH, hL0, htk]; rfl)); try with_reducible exact tt
 refine CallS.g [7] (h6) (R0 ?_); try with_reducible exact tt
 refine CallS.g [1, 2] (hps) (R0 ?_); try with_reducible exact tt
end
end Go.Proofs.YtijbgbpjionfjaaGreatDoor.Am
namespace Go.Proofs.YtijbgbpjionfjaaGreatDoor.Am
section
open Go.RowKit
theorem o_l0 {k a b : Nat} (h : GoodR k a b) (n : Nat) : wells k a b (List.replicate n (0, 0, false)) := by
 intro s hs
 rw [List.eq_of_mem_replicate hs]; exact zeroS h
theorem o_wi {k a b : Nat} {l : List ST} (h : wells k a b l) (i : Nat) {s : ST} (hs : WellR k a b s.1 s.2.1 s.2.2) : wells k a b (l.set i s) := by
 intro x hx
 rcases List.mem_or_eq_of_mem_set hx with hx | rfl
 ·exact h x hx
 ·exact hs

theorem o_wj {k a b : Nat} (n : Nat) (h : GoodR k a b) (h1 : 1 ≤ n) (hn : n ≤ 256) :
  Eqn Tryz.prog o_c7 [.d (parD k a b), .d (.int .i64 n)] [] (.tup [.p 0 0, .d (.int .i64 0)]) [arrO 1 k a b, arrV 2 k a b (List.replicate n (0, 0, false)), arrB k a b (List.replicate n (0, 0, false))] := by
 refine Eqn.gen [3, 1, 2] o_oz (by simp) (by simp) (by rfl) (by decide) (by simp) (by simp [arrO, arrV, arrB, vecO, vecB]) ?_
 obtain ⟨w0, w16⟩ := o_2y h
 have hc := o_23 h
 have hb := o_kk h
 have hp := o_wb n (wdR k a b) hn w0 (by omega)
 have he : encs k a b (List.replicate n (0, 0, false)) = List.replicate n 0 := by simp [encs, o_wg]
 have g1 : ¬ (n : Int) < 1 := by omega
 have g2 : ¬ (256 : Int) < n := by omega
 rw [show kwR k a b + twR k b + 1 = wdR k a b from rfl] at hb
 simp only [o_c8, arrO, arrV, arrB, vecO, vecB, parD, he, List.length_replicate] at hc hb hp ⊢
 generalize wdR k a b = w at *
 generalize wordsP w (List.replicate n 0) = WS at *
 generalize nwP n w = NW at *
 refine G0 ?_; try with_reducible exact tt
 refine CallS.pu (hc) (R1 (fs g1 g2) ?_); try with_reducible exact tt
 refine AW.cond rfl (fun h => ?_) (fun h => ?_)
 ·simp at h
 refine G0 ?_; try with_reducible exact tt
 refine CallS.pu (hb) (R0 ?_); try with_reducible exact tt
 refine CallS.g [] (hp) (R0 ?_); try with_reducible exact tt
 refine AW.cond rfl (fun h => ?_) (fun h => ?_)
 ·simp at h
 refine G0 ?_; try with_reducible exact tt

theorem o_wk {k a b : Nat} (cs : List Bool) (l : List ST) (i n p : Nat) (m : Int) (hmx : max 0 m = (n : Int)) (d : Bool) (h : GoodR k a b) (hw : wells k a b l) (hi : i < l.length) (hn : l.length ≤ 256) (hnn : m ≤ 1048576) (hp : p ≤ cs.length) (hc : cs.length ≤ 4000000) (R : TR) (hR : R = addRM cs k a b n (l.getD i (0, 0, false)).1 (l.getD i (0, 0, false)).2.1 (l.getD i (0, 0, false)).2.2 p d) :
  Eqn Tryz.prog o_68 [.p 0 0, .p 3 0, .d (.int .i64 i), .d (.int .i64 m)] [arrO 1 k a b, arrV 2 k a b l, arrB k a b l, tapeO cs p d] (.d (.int .i64 R.e)) [arrO 1 k a b, arrV 2 k a b l, arrB k a b (if R.e = 0 then l.set i (R.y, R.t, R.f) else l), tapeO cs R.p R.d] := by
 refine Eqn.gen [0, 1, 2, 3] o_p2 (by simp) (by simp) (by rfl) (by decide) (by simp) (by simp [arrO, arrV, arrB, vecO, vecB, tapeO]) ?_
 have hg := o_wf l i h hw hi hn
 have hwi := o_g hw hi
 generalize l.getD i (0, 0, false) = s at *
 obtain ⟨y, t, f⟩ := s
 simp only at hR hg hwi
 have ha := o_w5 cs k a b y t f n m hmx p d h hwi hnn hp hc R hR
 have hww := o_u (cs := cs) (n := n) (y := y) (t := t) (f := f) (p := p) (d := d) h hwi hp hc
 rw [← hR] at hww
 clear hR
 obtain ⟨e, ry, rt, rf, rp, rd⟩ := R
 simp only at hww ⊢
 by_cases he : e = 0
 ·subst he
  have hs := o_wh l i ry rt rf h hw hi hn (hww.2 rfl)
  simp only [o_69, arrO, arrV, arrB, vecO, vecB, parD, tsD, stR, if_true, List.length_set, o_26] at hg ha hs ⊢
  generalize wordsP (wdR k a b) (encs k a b (l.set i (ry, rt, rf))) = WS' at *
  generalize wordsP (wdR k a b) (encs k a b l) = WS at *
  generalize nwP l.length (wdR k a b) = NW at *
  refine G0B ?_; try with_reducible exact tt
  refine CallS.g [0, 1, 2] (hg) (R0B ?_); try with_reducible exact tt
  refine AW.cond rfl (fun h => ?_) (fun h => ?_)
  ·simp at h
  refine G0B ?_; try with_reducible exact tt
  refine CallS.o1 3 (ha) (R0B ?_); try with_reducible exact tt
  refine AW.cond rfl (fun h => ?_) (fun h => ?_)
  ·simp at h
  refine G0B ?_; try with_reducible exact tt
  refine CallS.g [0, 1, 2] (hs) (R0B ?_); try with_reducible exact tt
 ·simp only [o_69, arrO, arrV, arrB, vecO, vecB, parD, tsD, stR, if_neg he, o_26] at hg ha ⊢
  generalize wordsP (wdR k a b) (encs k a b l) = WS at *
  generalize nwP l.length (wdR k a b) = NW at *
  refine G0B ?_; try with_reducible exact tt
  refine CallS.g [0, 1, 2] (hg) (R0B ?_); try with_reducible exact tt
  refine AW.cond rfl (fun h => ?_) (fun h => ?_)
  ·simp at h
  refine G0B ?_; try with_reducible exact tt
  refine CallS.o1 3 (ha) (R0B ?_); try with_reducible exact tt
  refine AW.cond rfl (fun h => ?_) (fun h => ?_)
  ·refine G0B ?_; try with_reducible exact tt
  ·simp [he] at h
theorem o_13 {k a b : Nat} (cs : List Bool) (l : List ST) (i n p : Nat) (d : Bool) (h : GoodR k a b) (hw : wells k a b l) (hi : i < l.length) (hn : l.length ≤ 256) (hnn : n ≤ 1048576) (hp : p ≤ cs.length) (hc : cs.length ≤ 4000000) (R : TR) (hR : R = addRM cs k a b n (l.getD i (0, 0, false)).1 (l.getD i (0, 0, false)).2.1 (l.getD i (0, 0, false)).2.2 p d) :
  Eqn Tryz.prog o_68 [.p 0 0, .p 3 0, .d (.int .i64 i), .d (.int .i64 n)] [arrO 1 k a b, arrV 2 k a b l, arrB k a b l, tapeO cs p d] (.d (.int .i64 R.e)) [arrO 1 k a b, arrV 2 k a b l, arrB k a b (if R.e = 0 then l.set i (R.y, R.t, R.f) else l), tapeO cs R.p R.d] :=
 o_wk cs l i n p n (by omega) d h hw hi hn (by omega) hp hc R hR
end
end Go.Proofs.YtijbgbpjionfjaaGreatDoor.Am
namespace Go.Proofs.YtijbgbpjionfjaaGreatDoor.Am
section
open Go.RowKit
theorem o_wl {k a b n : Nat} (hg : GoodR k a b) (h1 : 1 ≤ n) (hn : n ≤ 256) : 0 < nwP n (wdR k a b) ∧ nwP n (wdR k a b) ≤ 4000000 := by
 obtain ⟨w0, w16⟩ := o_2y hg
 unfold nwP
 have h1' : n * 1 ≤ n * wdR k a b := Nat.mul_le_mul_left _ w0
 have h2' : n * wdR k a b ≤ 256 * 16 := Nat.mul_le_mul hn w16
 omega

theorem o_wm (n s : Nat) (ds : List D) (l : List D) : V.frzs n s ds (l.map V.d) = l.map V.d := by
 rw [o_5s]; simp [V.frz]
end
end Go.Proofs.YtijbgbpjionfjaaGreatDoor.Am
namespace Go.Proofs.YtijbgbpjionfjaaGreatDoor.Am
section
open Go.RowKit
section
variable {P : Program} {L : Nat} {Q : Exit → List V → List (Option Ob) → Prop} {T : List V} {H : List (Option Ob)} {x : C}
def AWu (P : Program) (L : Nat) (x : C) (Q : Exit → List V → List (Option Ob) → Prop) : Nat → List V → List (Option Ob) → Prop
 | 0, _, _ => False
 | n + 1, T, H => AW P L x (thenQ (AWu P L x Q n) Q) T H
theorem AW.rounds (n : Nat) (h : AWu P L x Q n T H) : AW P L (.loop x) Q T H := by
 refine AW.loop (fun k T H => AWu P L x Q k T H) n h fun k T H hk => ?_
 cases k with
 | zero => exact hk.elim
 | succ k =>
  refine AW.mono hk fun e T' H' hq => ?_
  cases e <;> first | exact ⟨k, Nat.lt_succ_self k, hq⟩ | exact hq
theorem AWu.next {n : Nat} (h : AW P L x (thenQ (AWu P L x Q n) Q) T H) : AWu P L x Q (n + 1) T H := h
end
theorem EqnD.sub {P : Program} {f : FuncId} {args args' : List V} {Hs Hs' : List Ob} {X : V} {dead : List Nat} (E : EqnD P f args' Hs X Hs' dead) (h : Subs args args') : EqnD P f args Hs X Hs' dead :=
 ⟨E.len, E.old, E.lowx, E.lowo, fun m vs hb hv => E.run m vs hb (h m vs hv)⟩
end
end Go.Proofs.YtijbgbpjionfjaaGreatDoor.Am
namespace Go.Proofs.YtijbgbpjionfjaaGreatDoor.Am
section
open Go.RowKit
attribute [simp] o_wm o_3j o_5v
@[simp] theorem o_wn (θ : Nat → Nat) : ∀ l k : List V, V.rens θ (l ++ k) = V.rens θ l ++ V.rens θ k
 | [], k => by simp [V.rens]
 | x :: l, k => by simp [V.rens, o_wn θ l k]
@[simp] theorem o_wo (n : Nat) : ∀ l k : List V, V.lowl n (l ++ k) = (V.lowl n l && V.lowl n k)
 | [], k => by simp [V.lowl]
 | x :: l, k => by simp [V.lowl, o_wo n l k, Bool.and_assoc]
def arrD (k a b : Nat) (l : List ST) : List D := [.ptr (vecD (wdR k a b) (encs k a b l)) 0, .int .i64 k, .int .i64 a, .int .i64 b]

theorem o_l1 {k a b : Nat} (l : List ST) (i : Nat) (h : GoodR k a b) (hw : wells k a b l) (hi : i < l.length) (hn : l.length ≤ 256) :
  Eqn Tryz.prog o_6a [.d (.ptr (arrD k a b l) 0), .d (.int .i64 i)] [] (.tup [.d (tsD (l.getD i (0, 0, false)).1 (l.getD i (0, 0, false)).2.1 (l.getD i (0, 0, false)).2.2), .d (.int .i64 0)]) [] := by
 refine Eqn.pure o_cd Plain.ok ?_
 obtain ⟨w0, w16⟩ := o_2y h
 have hg := o_8p (wdR k a b) (encs k a b l) i (by simpa using hi) (by simpa using hn) w0 (by omega) (o_8q k a b l)
 have hwd := o_8o (wdR k a b) (encs k a b l)
 rw [o_kz hi] at hg
 have hwi := o_g hw hi
 generalize l.getD i (0, 0, false) = s at *
 obtain ⟨y, t, f⟩ := s
 simp only at hg hwi ⊢
 have hlt := o_4w k a b y t f
 have h16 : 2 ^ wdR k a b ≤ 2 ^ 16 := Nat.pow_le_pow_right (by omega) w16
 have h3 := o_8e (encN k a b y t f) (wdR k a b) w0 (by omega) hlt (by omega)
 rw [o_kx] at h3
 have hne : encR k a b y t f ≠ [] := by simp [encR]
 have hel := o_24 k a b y t f
 have h4 := o_8b (encR k a b y t f) hne (by rw [hel]; unfold wdR at w16; omega)
 have h5 := o_8f (bytesOf (encR k a b y t f)) (by rw [o_q, hel]; unfold wdR at w16; omega)
 have h6 := o_kl (bytesOf (encR k a b y t f)) (k := k) (a := a) (b := b) 0 h (o_8r _) (by rw [o_q, hel]; unfold wdR at w16; omega) (Nat.zero_le _) _ rfl
 rw [o_ky h hwi] at h6
 have hB0 : u8s (bytesOf (encR k a b y t f)) = ((bytesOf (encR k a b y t f)).map fun x : Nat => D.int .u8 x).map V.d := by simp [u8s]
 have hBt : ((bytesOf (encR k a b y t f)).map fun x : Nat => D.int .u8 x).take (bytesOf (encR k a b y t f)).length = (bytesOf (encR k a b y t f)).map fun x : Nat => D.int .u8 x := List.take_of_length_le (by simp)
 have hBl : (bytesOf (encR k a b y t f)).length = ((encR k a b y t f).length + 7) / 8 := by simp
 simp only [o_6b, arrD, o_26, tsD, parD, rdO, BY, wrO, wrB] at hg hwd h3 h4 h5 h6 ⊢
 generalize vecD (wdR k a b) (encs k a b l) = VD at *
 generalize encR k a b y t f = bs at *
 generalize bytesOf bs = bytes at *
 rw [← hBl] at h3 h4
 generalize hBB : (bytes.map fun x : Nat => D.int .u8 x) = LB at *
 generalize encN k a b y t f = N at *
 generalize wdR k a b = w at *
 refine A02 hg hwd ?_; try with_reducible exact tt
 refine CallS.g [1] (h3) (R0 ?_); try with_reducible exact tt
 refine CallS.g [1, 2] (h4) (R0 ?_); try with_reducible exact tt
 rw [hB0]
 have h5' : Eqn Tryz.prog o_2m [.d (.sl bytes.length (List.take (bytes.length * 1) LB))] [] (.p 0 0) [⟨174, [.d (.sl bytes.length LB), .d (.int .i64 0)]⟩] := by rw [Nat.mul_one, hBt]; simpa using h5
 refine CallS.gf 3 1 ⟨5, LB.map V.d⟩ LB [] (h5') (R0 ?_); try with_reducible exact tt
 simp at h6
 refine CallS.g [4] (h6) (R0 ?_); try with_reducible exact tt

theorem o_wp (ws : List Nat) (h0 : 0 < ws.length) (hn : ws.length ≤ 4000000) : Eqn Tryz.prog o_3u [.d (.sl ws.length (ws.map fun x : Nat => D.int .u64 x))] [] (.own 0 1 ws.length) [⟨28, u64s ws⟩] := by
 refine Eqn.gen [0] o_6v (by simp) (by simp) (by rfl) (by decide) (by simp) (by simp) ?_
 have hl : (ws.map fun x : Nat => V.d (D.int .u64 x)).take ws.length = u64s ws := List.take_of_length_le (by simp [u64s])
 have h0' : ws.length ≠ 0 := by omega
 simp only [o_3v]
 refine G0 ?_; try with_reducible exact tt
 refine AW.cond rfl (fun h => ?_) (fun h => ?_)
 ·simp at h
 ·repeat (first | refine AW.seq ?_ | refine AW.block ?_ | (refine AW.reg mix ?_; simp -implicitDefEqProofs [hl, h0', o_4v]; try simp (disch := omega) only [w64, wu64]) | (refine need.of (by first | omega | kernel_rfl) ?_) | (refine AW.fin ?_; try simp -implicitDefEqProofs [hl, h0', o_4v]))
  exact Subs.of (by simp [u64s, Function.comp_def])
theorem o_wq (w : Nat) (xs : List Nat) (h0 : 0 < nwP xs.length w) (hn : nwP xs.length w ≤ 4000000) :
  Eqn Tryz.prog o_f2 [.d (.ptr (vecD w xs) 0)] [] (.p 0 0) [vecO 1 xs.length w, vecB w xs] := by
 refine Eqn.gen [1, 0] o_qi (by simp) (by simp) (by rfl) (by decide) (by simp) (by simp [vecO, vecB]) ?_
 have hc := o_wp (wordsP w xs) (by simpa using h0) (by simpa using hn)
 have hlen := o_4q w xs
 simp only [o_f3, vecO, vecB, vecD] at hc ⊢
 generalize wordsP w xs = ws at *
 rw [hlen] at hc
 generalize nwP xs.length w = NW at *
 refine G0 ?_; try with_reducible exact tt
 refine CallS.g [] (hc) (R0 ?_); try with_reducible exact tt
theorem o_14 {k a b : Nat} (l : List ST) (hg : GoodR k a b) (h1 : 1 ≤ l.length) (hn : l.length ≤ 256) :
  Eqn Tryz.prog o_df [.d (.ptr (arrD k a b l) 0)] [] (.p 0 0) [arrO 1 k a b, arrV 2 k a b l, arrB k a b l] := by
 refine Eqn.gen [2, 0, 1] o_pn (by simp) (by simp) (by rfl) (by decide) (by simp) (by simp [arrO, arrV, arrB, vecO, vecB]) ?_
 obtain ⟨p1, p2⟩ := o_wl hg h1 hn
 have hc := o_wq (wdR k a b) (encs k a b l) (by simpa using p1) (by simpa using p2)
 simp only [o_dg, arrD, arrO, arrV, arrB, vecO, vecB, o_26] at hc ⊢
 generalize wordsP (wdR k a b) (encs k a b l) = ws at *
 generalize vecD (wdR k a b) (encs k a b l) = VD at *
 refine G0 ?_; try with_reducible exact tt
 refine CallS.g [] (hc) (R0 ?_); try with_reducible exact tt
end
end Go.Proofs.YtijbgbpjionfjaaGreatDoor.Am
namespace Go.Proofs.YtijbgbpjionfjaaGreatDoor.Am
section
open Go.RowKit
def hP : Nat := 2305843009213693951
def hsum (a b key : Nat) : Nat := (a * key % hP + b) % hP
theorem hfold (x hi lo : Nat) (h1 : x / 18446744073709551616 = hi) (h2 : x % 18446744073709551616 = lo) (hx : x < 2305843009213693951 * 2305843009213693951) :
  hi < 288230376151711744 ∧ lo % 2305843009213693952 + (hi * 8 + lo / 2305843009213693952) < 18446744073709551616 ∧ (lo % 2305843009213693952 + (hi * 8 + lo / 2305843009213693952)) % 2305843009213693951 = x % 2305843009213693951 := by
 omega
theorem o_wr {a b : Nat} : a % 2305843009213693951 * (b % 2305843009213693951) < 2305843009213693951 * 2305843009213693951 := by
 have h1 : a % 2305843009213693951 < 2305843009213693951 := Nat.mod_lt _ (by decide)
 have h2 : b % 2305843009213693951 < 2305843009213693951 := Nat.mod_lt _ (by decide)
 exact Nat.mul_lt_mul'' h1 h2
theorem and61 (x : Nat) (hx : x < 18446744073709551616) : bits BinOp.and IntKind.u64 (x : Int) 2305843009213693951 = ((x % 2305843009213693952 : Nat) : Int) := by
 show IntKind.u64.wrap (((BitVec.ofInt 64 (x : Int)) &&& (BitVec.ofInt 64 2305843009213693951)).toNat : Int) = _
 rw [show (2305843009213693951 : Int) = ((2 ^ 61 - 1 : Nat) : Int) by rfl, BitVec.toNat_and, BitVec.ofInt_natCast, BitVec.ofInt_natCast, BitVec.toNat_ofNat, BitVec.toNat_ofNat, Nat.mod_eq_of_lt (show x < 2 ^ 64 by omega), Nat.mod_eq_of_lt (show 2 ^ 61 - 1 < 2 ^ 64 by decide), Nat.and_two_pow_sub_one_eq_mod]
 rw [IntKind.wrap_u64]
 omega
theorem o_ws (h l : Nat) (hl : l < 8) (hh : h < 288230376151711744) : bits BinOp.or IntKind.u64 ((h * 8 : Nat) : Int) (l : Int) = ((h * 8 + l : Nat) : Int) := by
 show IntKind.u64.wrap (((BitVec.ofInt 64 ((h * 8 : Nat) : Int)) ||| (BitVec.ofInt 64 (l : Int))).toNat : Int) = _
 rw [BitVec.toNat_or, BitVec.ofInt_natCast, BitVec.ofInt_natCast, BitVec.toNat_ofNat, BitVec.toNat_ofNat, Nat.mod_eq_of_lt (by omega), Nat.mod_eq_of_lt (by omega)]
 have := Nat.two_pow_add_eq_or_of_lt (i := 3) (b := l) (by omega) h
 rw [show 2 ^ 3 * h = h * 8 by omega] at this
 rw [← this, IntKind.wrap_u64]
 omega
theorem o_wt (a b key : Nat) : hsum a b key = (a * key + b) % hP := by unfold hsum; rw [Nat.mod_add_mod]
end
end Go.Proofs.YtijbgbpjionfjaaGreatDoor.Am
namespace Go.Proofs.YtijbgbpjionfjaaGreatDoor.Am
section
open Go.RowKit
theorem and32 (x : Nat) (h : x < 18446744073709551616) : bits BinOp.and IntKind.u64 (x : Int) 4294967295 = ((x % 4294967296 : Nat) : Int) := by
 have := bits_and_u64_nat x 4294967295 h (by omega)
 rw [show ((4294967295 : Nat) : Int) = 4294967295 by rfl] at this
 rw [this, show (4294967295 : Nat) = 2 ^ 32 - 1 by rfl, Nat.and_two_pow_sub_one_eq_mod]

theorem o_wu (x y : Nat) (hx : x < 18446744073709551616) (hy : y < 18446744073709551616) :
  let x0 := x % 4294967296; let x1 := x / 4294967296; let y0 := y % 4294967296; let y1 := y / 4294967296
  let w0 := x0 * y0; let t := x1 * y0 + w0 / 4294967296; let w1 := t % 4294967296 + x0 * y1
  w0 < 18446744073709551616 ∧ x1 * y0 < 18446744073709551616 ∧ t < 18446744073709551616 ∧ x0 * y1 < 18446744073709551616 ∧ w1 < 18446744073709551616 ∧ x1 * y1 < 18446744073709551616 ∧
  x1 * y1 + t / 4294967296 < 18446744073709551616 ∧ x1 * y1 + t / 4294967296 + w1 / 4294967296 < 18446744073709551616 ∧
  x * y = (x1 * y1 + t / 4294967296 + w1 / 4294967296) * 18446744073709551616 + x * y % 18446744073709551616 := by
 intro x0 x1 y0 y1 w0 t w1
 have hx0 : x0 < 4294967296 := Nat.mod_lt _ (by decide)
 have hy0 : y0 < 4294967296 := Nat.mod_lt _ (by decide)
 have hx1 : x1 < 4294967296 := by simp only [x1]; omega
 have hy1 : y1 < 4294967296 := by simp only [y1]; omega
 have ex : x = x1 * 4294967296 + x0 := by simp only [x1, x0]; omega
 have ey : y = y1 * 4294967296 + y0 := by simp only [y1, y0]; omega
 have b : ∀ {a c : Nat}, a < 4294967296 → c < 4294967296 → a * c ≤ 18446744065119617025 := fun {a c} ha hc => by
  have := Nat.mul_le_mul (show a ≤ 4294967295 by omega) (show c ≤ 4294967295 by omega)
  omega
 have b00 := b hx0 hy0
 have b10 := b hx1 hy0
 have b01 := b hx0 hy1
 have b11 := b hx1 hy1
 have exy : x * y = x1 * y1 * 18446744073709551616 + (x1 * y0 + x0 * y1) * 4294967296 + x0 * y0 := by
  rw [ex, ey]
  simp only [Nat.add_mul, Nat.mul_add]
  have e1 : x1 * 4294967296 * (y1 * 4294967296) = x1 * y1 * 18446744073709551616 := by
   rw [Nat.mul_mul_mul_comm]
  have e2 : x1 * 4294967296 * y0 = x1 * y0 * 4294967296 := by rw [Nat.mul_right_comm]
  have e3 : x0 * (y1 * 4294967296) = x0 * y1 * 4294967296 := by rw [Nat.mul_assoc]
  rw [e1, e2, e3]; omega
 have hw0 : w0 = x0 * y0 := rfl
 generalize x * y = xy at exy ⊢
 generalize x0 * y0 = a00 at *
 have ht : t = x1 * y0 + w0 / 4294967296 := rfl
 generalize x1 * y0 = a10 at *
 have hw1 : w1 = t % 4294967296 + x0 * y1 := rfl
 generalize x0 * y1 = a01 at *
 generalize x1 * y1 = a11 at *
 clear_value w0 t w1
 omega

theorem o_8s (x y : Nat) (hx : x < 18446744073709551616) (hy : y < 18446744073709551616) : Eqn Tryz.prog o_fz [.d (.int .u64 x), .d (.int .u64 y)] [] (.tup [.d (.int .u64 (x * y / 18446744073709551616 : Nat)), .d (.int .u64 (x * y % 18446744073709551616 : Nat))]) [] := by
 refine Eqn.pure o_r0 (o_5 _ _) ?_
 simp only [o_g0]
 have hp := o_wu x y hx hy
 simp only at hp
 have a1 := and32 x hx
 have a2 := and32 y hy
 have d1 : (x : Int) / 4294967296 = (x / 4294967296 : Nat) := rfl
 have d2 : (y : Int) / 4294967296 = (y / 4294967296 : Nat) := rfl
 have l1 : x % 4294967296 < 4294967296 := Nat.mod_lt _ (by decide)
 generalize x % 4294967296 = x0 at hp a1 l1
 generalize x / 4294967296 = x1 at hp d1
 generalize y % 4294967296 = y0 at hp a2
 generalize y / 4294967296 = y1 at hp d2
 obtain ⟨p1, p2, p3, p4, p5, p6, p7, p8, p9⟩ := hp
 have m1 : IntKind.u64.wrap ((x0 : Int) * y0) = (x0 * y0 : Nat) := by rw [← Int.natCast_mul]; exact wu64 (by omega) (by omega)
 have m2 : IntKind.u64.wrap ((x1 : Int) * y0) = (x1 * y0 : Nat) := by rw [← Int.natCast_mul]; exact wu64 (by omega) (by omega)
 have m3 : IntKind.u64.wrap ((x0 : Int) * y1) = (x0 * y1 : Nat) := by rw [← Int.natCast_mul]; exact wu64 (by omega) (by omega)
 have m4 : IntKind.u64.wrap ((x1 : Int) * y1) = (x1 * y1 : Nat) := by rw [← Int.natCast_mul]; exact wu64 (by omega) (by omega)
 have m5 : IntKind.u64.wrap ((x : Int) * y) = (x * y % 18446744073709551616 : Nat) := by rw [IntKind.wrap_u64, Int.natCast_emod, Int.natCast_mul]; rfl
 have lo : x * y % 18446744073709551616 < 18446744073709551616 := Nat.mod_lt _ (by decide)
 generalize x * y % 18446744073709551616 = low at *
 generalize x * y = xy at *
 generalize x0 * y0 = a00 at *
 generalize x1 * y0 = a10 at *
 generalize x0 * y1 = a01 at *
 generalize x1 * y1 = a11 at *
 have q1 : (a00 : Int) / 4294967296 = (a00 / 4294967296 : Nat) := rfl
 generalize a00 / 4294967296 = b0 at *
 have s1 : IntKind.u64.wrap ((a10 : Int) + b0) = (a10 + b0 : Nat) := wu64 (by omega) (by omega)
 have a3 := and32 (a10 + b0) p3
 have q2 : ((a10 + b0 : Nat) : Int) / 4294967296 = ((a10 + b0) / 4294967296 : Nat) := rfl
 generalize (a10 + b0) / 4294967296 = t1 at *
 generalize (a10 + b0) % 4294967296 = t0 at *
 generalize a10 + b0 = t at *
 have s2 : IntKind.u64.wrap ((t0 : Int) + a01) = (t0 + a01 : Nat) := wu64 (by omega) (by omega)
 have q3 : ((t0 + a01 : Nat) : Int) / 4294967296 = ((t0 + a01) / 4294967296 : Nat) := rfl
 generalize (t0 + a01) / 4294967296 = v1 at *
 generalize t0 + a01 = v at *
 have s3 : IntKind.u64.wrap ((a11 : Int) + t1) = (a11 + t1 : Nat) := wu64 (by omega) (by omega)
 have s4 : IntKind.u64.wrap (((a11 + t1 : Nat) : Int) + v1) = (a11 + t1 + v1 : Nat) := wu64 (by omega) (by omega)
 have fin : xy / 18446744073709551616 = a11 + t1 + v1 := by omega
 rw [fin]
 generalize a11 + t1 + v1 = hi at *
 generalize a11 + t1 = r at *
 refine G1 (fs a1 (fs a2 (fs d1 (fs d2 (fs m1 (fs m2 (fs m3 (fs m4 (fs m5 (fs q1 (fs s1 (fs a3 (fs q2 (fs s2 (fs q3 (fs s3 s4)))))))))))))))) ?_; try with_reducible exact tt
end
end Go.Proofs.YtijbgbpjionfjaaGreatDoor.Am
namespace Go.Proofs.YtijbgbpjionfjaaGreatDoor.Am
section
open Go.RowKit
theorem o_wv (a b : Nat) (ha : a < 18446744073709551616) (hb : b < 18446744073709551616) : Eqn Tryz.prog o_fq [.d (.int .u64 a), .d (.int .u64 b)] [] (.d (.int .u64 (a * b % hP : Nat))) [] := by
 refine Eqn.pure o_qv Plain.ok ?_
 have hm := o_8s (a % 2305843009213693951) (b % 2305843009213693951) (by omega) (by omega)
 obtain ⟨h1, h2, h3⟩ := hfold _ _ _ rfl rfl (o_wr (a := a) (b := b))
 rw [show a % 2305843009213693951 * (b % 2305843009213693951) % 2305843009213693951 = a * b % hP from (Nat.mul_mod a b 2305843009213693951).symm] at h3
 generalize a % 2305843009213693951 * (b % 2305843009213693951) / 18446744073709551616 = hi at *
 have hlo : a % 2305843009213693951 * (b % 2305843009213693951) % 18446744073709551616 < 18446744073709551616 := Nat.mod_lt _ (by decide)
 generalize a % 2305843009213693951 * (b % 2305843009213693951) % 18446744073709551616 = lo at *
 have g1 := and61 lo hlo
 have g2 := o_ws hi (lo / 2305843009213693952) (by omega) h1
 have g3 : IntKind.u64.wrap ((hi : Int) * 8) = ((hi * 8 : Nat) : Int) := by rw [IntKind.wrap_u64]; omega
 have g4 : (lo : Int) / 2305843009213693952 = ((lo / 2305843009213693952 : Nat) : Int) := rfl
 generalize lo / 2305843009213693952 = l3 at *
 generalize lo % 2305843009213693952 = l61 at *
 generalize a * b % hP = r at *
 simp only [o_fr]
 refine G0 ?_; try with_reducible exact tt
 replace g2 : bits BinOp.or IntKind.u64 ((hi : Int) * 8) (l3 : Int) = ((hi * 8 + l3 : Nat) : Int) := by rw [← g2]; rfl
 generalize hq : hi * 8 + l3 = q at *
 have g5 : IntKind.u64.wrap ((l61 : Int) + q) = ((l61 + q : Nat) : Int) := by rw [IntKind.wrap_u64]; omega
 refine CallS.pu (hm) (R1 (fs g1 (fs g2 (fs g3 (fs g4 g5)))) ?_); try with_reducible exact tt
 refine Sub1.int ?_
 rw [Int.tmod_eq_emod_of_nonneg (by omega)]
 omega

def hD (a b : Nat) : D := .agg [.int .u64 a, .int .u64 b]
theorem o_8t (a b : Nat) (ha : a < hP) (hb : b < hP) : Eqn Tryz.prog o_c5 [.d (hD a b)] [] (.d (.int .i64 0)) [] := by
 refine Eqn.pure o_oy Plain.ok ?_
 unfold hP at ha hb
 have h1 : ¬ (2305843009213693951 : Int) ≤ a := by omega
 have h2 : ¬ (2305843009213693951 : Int) ≤ b := by omega
 have h3 : ¬ 2305843009213693951 ≤ a := by omega
 have h4 : ¬ 2305843009213693951 ≤ b := by omega
 simp only [o_c6, hD]
 refine A10 (fs h1 (fs h2 (fs h3 h4))) ?_; try with_reducible exact tt
theorem o_ww (a b key : Nat) (ha : a < hP) (hb : b < hP) (hk : key < 18446744073709551616) : Eqn Tryz.prog o_e1 [.d (hD a b), .d (.int .u64 key)] [] (.d (.int .u64 (hsum a b key : Nat))) [] := by
 refine Eqn.pure o_py Plain.ok ?_
 have h1 := o_wv a key (by unfold hP at ha; omega) hk
 have h2 : a * key % hP < hP := Nat.mod_lt _ (by decide)
 unfold hsum
 generalize a * key % hP = x at *
 unfold hP at *
 simp only [o_e2, hD]
 have e1 : IntKind.u64.wrap ((x : Int) + b) = ((x + b : Nat) : Int) := by rw [IntKind.wrap_u64]; omega
 refine A11 e1 h1 ?_; try with_reducible exact tt
 refine Sub1.int ?_
 rw [Int.tmod_eq_emod_of_nonneg (by omega)]
theorem o_v (a b key cols : Nat) (ha : a < hP) (hb : b < hP) (hk : key < hP) (h1 : 1 ≤ cols) (hc : cols ≤ 64) : Eqn Tryz.prog o_66 [.d (hD a b), .d (.int .u64 key), .d (.int .i64 cols)] [] (.tup [.d (.int .i64 (hsum a b key % cols : Nat)), .d (.int .i64 0)]) [] := by
 refine Eqn.pure o_cc Plain.ok ?_
 have g0 := o_8t a b ha hb
 have g1 := o_ww a b key ha hb (by unfold hP at hk; omega)
 unfold hP at hk
 have e1 : ¬ (2305843009213693951 : Int) ≤ key := by omega
 have e2 : ¬ 2305843009213693951 ≤ key := by omega
 have e3 : ¬ (cols : Int) < 1 := by omega
 have e4 : ¬ (64 : Int) < cols := by omega
 have e5 : ¬ cols < 1 := by omega
 have e6 : ¬ 64 < cols := by omega
 have e7 : IntKind.u64.wrap (cols : Int) = cols := by rw [IntKind.wrap_u64]; omega
 have e8 : IntKind.i64.wrap ((hsum a b key : Int) % cols) = ((hsum a b key % cols : Nat) : Int) := by
  rw [← Int.natCast_emod]
  have := Nat.mod_lt (hsum a b key) (show 0 < cols by omega)
  exact w64 (by omega) (by omega)
 generalize hsum a b key = x at *
 simp only [o_67, hD] at g0 g1 ⊢
 have e9 : (x : Int).tmod cols = (x : Int) % cols := by rw [Int.tmod_eq_emod_of_nonneg (by omega)]
 refine A12 (fs e1 (fs e2 (fs e3 (fs e4 (fs e5 (fs e6 (fs e7 (fs e8 e9)))))))) g0 g1 ?_; try with_reducible exact tt
theorem o_wx (a b key cols : Nat) (ha : a < hP) (hb : b < hP) (hk : hP ≤ key) (h1 : 1 ≤ cols) (hc : cols ≤ 64) : Eqn Tryz.prog o_66 [.d (hD a b), .d (.int .u64 key), .d (.int .i64 cols)] [] (.tup [.d (.int .i64 0), .d (.int .i64 2)]) [] := by
 refine Eqn.pure o_cc Plain.ok ?_
 have g0 := o_8t a b ha hb
 unfold hP at hk
 have e1 : (2305843009213693951 : Int) ≤ key := by omega
 have e2 : 2305843009213693951 ≤ key := by omega
 simp only [o_67, hD] at g0 ⊢
 have e3 : ¬ (cols : Int) < 1 := by omega
 have e4 : ¬ (64 : Int) < cols := by omega
 have e5 : ¬ cols < 1 := by omega
 have e6 : ¬ 64 < cols := by omega
 refine A11 (fs e1 (fs e2 (fs e3 (fs e4 (fs e5 e6))))) g0 ?_; try with_reducible exact tt
end
end Go.Proofs.YtijbgbpjionfjaaGreatDoor.Am
namespace Go.Proofs.YtijbgbpjionfjaaGreatDoor.Am
section
section
variable {α β : Type} {f : α → List β} {n : Nat}
theorem o_1a (hf : ∀ x, (f x).length = n) : ∀ l : List α, (l.flatMap f).length = l.length * n
 | [] => by simp
 | x :: l => by rw [List.flatMap_cons, List.length_append, hf, o_1a hf l, List.length_cons, Nat.add_mul]; omega
theorem o_l2 (hf : ∀ x, (f x).length = n) : ∀ (l : List α) (i : Nat), (l.flatMap f).drop (i * n) = (l.drop i).flatMap f
 | l, 0 => by simp
 | [], i + 1 => by simp
 | x :: l, i + 1 => by
  rw [List.flatMap_cons, List.drop_succ_cons, ← o_l2 hf l i]
  have h := hf x
  rw [List.drop_append, List.drop_of_length_le (by rw [h, Nat.add_mul]; omega), h, Nat.add_mul]
  simp
theorem o_4y (hf : ∀ x, (f x).length = n) (l : List α) (i : Nat) (h : i < l.length) : ((l.flatMap f).drop (i * n)).take n = f l[i] := by
 rw [o_l2 hf, List.drop_eq_getElem_cons h, List.flatMap_cons]
 conv => lhs; arg 1; rw [← hf l[i]]
 simp
theorem seg2 {l : List β} {k : Nat} {a b : β} (h : (l.drop k).take 2 = [a, b]) : (∀ h' : k < l.length, l[k] = a) ∧ l[k]? = some a ∧ (∀ h' : k + 1 < l.length, l[k + 1] = b) ∧ l[k + 1]? = some b := by
 have h0 := congrArg (fun l => l[0]?) h
 have h1 := congrArg (fun l => l[1]?) h
 simp only [List.getElem?_take, List.getElem?_drop] at h0 h1
 simp at h0 h1
 exact ⟨fun h' => by rw [List.getElem?_eq_getElem h'] at h0; simpa using h0, h0, fun h' => by rw [List.getElem?_eq_getElem h'] at h1; simpa using h1, h1⟩
theorem o_8u (l : List α) (i : Nat) (h : i < l.length) : l.take (i + 1) = l.take i ++ [l[i]] := by
 rw [List.take_add_one, List.getElem?_eq_getElem h]; rfl
end
end
end Go.Proofs.YtijbgbpjionfjaaGreatDoor.Am
namespace Go.Proofs.YtijbgbpjionfjaaGreatDoor.Am
section
open Go.RowKit
structure Rw where
 a : Nat
 b : Nat
 l : List ST
def rowD (k a b : Nat) (r : Rw) : List D := [.int .u64 r.a, .int .u64 r.b, .ptr (arrD k a b r.l) 0]
def rowsD (k a b : Nat) (rs : List Rw) : List D := rs.flatMap (rowD k a b)
def skD (R C k a b : Nat) (rs : List Rw) (T : Nat) : List D := [.int .i64 R, .int .i64 C, .int .i64 k, .int .i64 a, .int .i64 b, .sl rs.length (rowsD k a b rs), .int .i64 T]
def skO (R C k a b : Nat) (rs : List Rw) (T : Nat) : Ob := ⟨106, (skD R C k a b rs T).map .d⟩
def cpD (R C k a b : Nat) : D := .agg [.int .i64 R, .int .i64 C, .int .i64 k, .int .i64 a, .int .i64 b]
def GoodP (R C k a b : Nat) : Prop := 1 ≤ R ∧ R ≤ 4 ∧ 1 ≤ C ∧ C ≤ 64 ∧ GoodR k a b
def GoodRow (C k a b : Nat) (r : Rw) : Prop := r.a < hP ∧ r.b < hP ∧ r.l.length = C ∧ wells k a b r.l
def hashesD (hs : List (Nat × Nat)) : List D := hs.flatMap fun h => [.int .u64 h.1, .int .u64 h.2]
def newRow (C : Nat) (h : Nat × Nat) : Rw := ⟨h.1, h.2, List.replicate C (0, 0, false)⟩

theorem o_wy {R C k a b : Nat} (h : GoodP R C k a b) : Eqn Tryz.prog o_bt [.d (cpD R C k a b)] [] (.d (.int .i64 0)) [] := by
 refine Eqn.pure o_os Plain.ok ?_
 obtain ⟨h1, h2, h3, h4, hg⟩ := h
 have hc := o_23 hg
 have g1 : ¬ (R : Int) < 1 := by omega
 have g2 : ¬ (4 : Int) < R := by omega
 have g3 : ¬ (C : Int) < 1 := by omega
 have g4 : ¬ (64 : Int) < C := by omega
 have n1 : ¬ R < 1 := by omega
 have n2 : ¬ 4 < R := by omega
 have n3 : ¬ C < 1 := by omega
 have n4 : ¬ 64 < C := by omega
 simp only [o_bu, cpD, parD] at hc ⊢
 refine A11 (fs g1 (fs g2 (fs g3 (fs g4 (fs n1 (fs n2 (fs n3 n4))))))) hc ?_; try with_reducible exact tt

set_option maxHeartbeats 1000000 in
theorem o_l3 {R C k a b : Nat} (h : GoodP R C k a b) (hs : List (Nat × Nat)) (hl : hs.length = R) (hh : ∀ x ∈ hs, x.1 < hP ∧ x.2 < hP) :
  Eqn Tryz.prog o_b2 [.d (cpD R C k a b), .d (.sl R (hashesD hs))] [] (.tup [.p 0 0, .d (.int .i64 0)]) [skO R C k a b (hs.map (newRow C)) 0] := by
 refine Eqn.gen [1] o_od (by simp) (by simp) (by rfl) (by decide) (by simp) (by simp [skO, skD]) ?_
 have hc := o_wy h
 obtain ⟨h1, h2, h3, h4, hg⟩ := h
 have hn := o_wj C hg h3 (by omega)
 have hhl : (hashesD hs).length = R * 2 := by rw [← hl]; exact o_1a (by simp) hs
 subst hl
 simp only [o_b3, cpD, arrO, arrV, arrB, vecO, vecB, List.length_replicate, parD] at hc hn ⊢
 have hL0 : u64s (wordsP (wdR k a b) (encs k a b (List.replicate C (0, 0, false)))) = ((wordsP (wdR k a b) (encs k a b (List.replicate C (0, 0, false)))).map fun x : Nat => D.int .u64 x).map V.d := by simp [u64s]
 have hrow : ∀ x : Nat × Nat, rowD k a b (newRow C x) = [.int .u64 x.1, .int .u64 x.2, .ptr [.ptr [.sl (nwP C (wdR k a b)) ((wordsP (wdR k a b) (encs k a b (List.replicate C (0, 0, false)))).map fun x : Nat => D.int .u64 x), .int .i64 C, .int .i64 (wdR k a b)] 0, .int .i64 k, .int .i64 a, .int .i64 b] 0] := by
  intro x
  simp [rowD, newRow, arrD, vecD]
 have hWl : ((wordsP (wdR k a b) (encs k a b (List.replicate C (0, 0, false)))).map fun x : Nat => D.int .u64 x).length = nwP C (wdR k a b) := by simp
 generalize hW : ((wordsP (wdR k a b) (encs k a b (List.replicate C (0, 0, false)))).map fun x : Nat => D.int .u64 x) = WD at *
 rw [hL0] at hn
 generalize nwP C (wdR k a b) = NW at *
 generalize wdR k a b = w at *
 have htk : WD.take NW = WD := List.take_of_length_le (by omega)
 obtain ⟨F, hF⟩ : ∃ F : Nat → List D, F = fun i => rowsD k a b ((hs.take i).map (newRow C)) := ⟨_, rfl⟩
 have hF0 : F 0 = [] := by rw [hF]; simp [rowsD]
 have hFn : F hs.length = rowsD k a b (hs.map (newRow C)) := by rw [hF]; simp
 have hFl : ∀ i, i ≤ hs.length → (F i).length = i * 3 := by
  intro i hi
  rw [hF]
  show (rowsD k a b ((hs.take i).map (newRow C))).length = i * 3
  unfold rowsD
  rw [o_1a (n := 3) (fun x => by simp [rowD]), List.length_map, List.length_take]; omega
 have hFs : ∀ i (h : i < hs.length), F (i + 1) = F i ++ [.int .u64 hs[i].1, .int .u64 hs[i].2, .ptr [.ptr [.sl NW WD, .int .i64 C, .int .i64 w] 0, .int .i64 k, .int .i64 a, .int .i64 b] 0] := by
  intro i hiN
  rw [hF]
  show rowsD k a b ((hs.take (i + 1)).map (newRow C)) = rowsD k a b ((hs.take i).map (newRow C)) ++ _
  rw [← hrow hs[i], o_8u _ _ hiN, List.map_append, rowsD, List.flatMap_append]; simp [rowsD]
 have hsk : skO hs.length C k a b (hs.map (newRow C)) 0 = ⟨106, [.d (.int .i64 hs.length), .d (.int .i64 C), .d (.int .i64 k), .d (.int .i64 a), .d (.int .i64 b), .d (.sl hs.length (F hs.length)), .d (.int .i64 (0 : Nat))]⟩ := by
  rw [hFn]; simp [skO, skD]
 rw [hsk]
 clear hF hFn hrow hsk
 refine A01 hc ?_; try with_reducible exact tt
 refine AW.loopG (α := Nat) (fun i => setS (List.replicate 64 .junk) [(2, .p 0 0), (7, .p 1 0), (28, .d (.sl hs.length (hashesD hs))), (29, .d (.int .i64 hs.length)), (30, .d (.int .i64 (i : Int)))]) (fun i => some ⟨32, [.d (.int .i64 hs.length), .d (.int .i64 C), .d (.int .i64 k), .d (.int .i64 a), .d (.int .i64 b)]⟩ :: (if i = 0 then [some ⟨106, [.d (.int .i64 hs.length), .d (.int .i64 C), .d (.int .i64 k), .d (.int .i64 a), .d (.int .i64 b), .d .nilsl, .d (.int .i64 0)]⟩] else [some ⟨106, [.d (.int .i64 hs.length), .d (.int .i64 C), .d (.int .i64 k), .d (.int .i64 a), .d (.int .i64 b), .own 2 3 i, .d (.int .i64 0)]⟩, some ⟨111, (F i).map .d⟩])) (fun i => i ≤ hs.length) (fun i => hs.length - i) 0 ?_ (Nat.zero_le _) ?_ ?_ ?_
 ·intro i hi; split <;> simp
 ·simp
 ·simp
 rintro i hi
 by_cases hiN : i < hs.length
 ·have hi1 : (i : Int) < hs.length := by omega
  have hgt := o_4y (f := fun h : Nat × Nat => [D.int .u64 h.1, D.int .u64 h.2]) (n := 2) (by simp) hs i hiN
  have hgt' : ((hashesD hs).drop (i * 2)).take 2 = [D.int .u64 hs[i].1, D.int .u64 hs[i].2] := hgt
  have hck := o_8t hs[i].1 hs[i].2 (hh _ (List.getElem_mem _)).1 (hh _ (List.getElem_mem _)).2
  have hsn := hFs i hiN
  have hbd : i * 2 + 2 ≤ hs.length * 2 := by omega
  have ew : IntKind.i64.wrap ((i : Int) + 1) = (i : Int) + 1 := w64 (by omega) (by omega)
  clear hgt
  generalize hs[i].1 = x1 at *
  generalize hs[i].2 = x2 at *
  by_cases hi0 : i = 0
  ·subst hi0
   simp [hF0] at hgt' hsn
   simp
   refine A11 (fs hiN (fs hi1 (fs hgt' hhl))) hck ?_; try with_reducible exact tt
   refine CallS.g [] (hn) (R0 ?_); try with_reducible exact tt
   refine AW.freeze 5 1 ⟨28, WD.map V.d⟩ WD (by simp) rfl ?_
   simp [frzH, htk]
   refine AW.freeze 4 1 ⟨218, [.d (.sl NW WD), .d (.int .i64 C), .d (.int .i64 w)]⟩ [.sl NW WD, .int .i64 C, .int .i64 w] (by rfl) rfl ?_
   simp [frzH]
   refine AW.freeze 3 1 ⟨166, [.d (.ptr [.sl NW WD, .int .i64 C, .int .i64 w] 0), .d (.int .i64 k), .d (.int .i64 a), .d (.int .i64 b)]⟩ [.ptr [.sl NW WD, .int .i64 C, .int .i64 w] 0, .int .i64 k, .int .i64 a, .int .i64 b] (by rfl) rfl ?_
   simp [frzH]
   refine A00 ?_; try with_reducible exact tt
   refine ⟨1, 2, 7, by simp, by omega, by omega, ?_, ?_⟩
   ·simp [swT, swH, sw, Ob.sw, V.ren, V.rens]
   ·simp [swT, swH, sw, Ob.sw, V.ren, V.rens, hsn]
  ·rw [if_neg hi0]
   simp
   refine A11 (fs hiN (fs hi1 (fs hgt' (fs hhl hbd)))) hck ?_; try with_reducible exact tt
   refine CallS.g [] (hn) (R0 ?_); try with_reducible exact tt
   refine AW.freeze 6 1 ⟨28, WD.map V.d⟩ WD (by simp) rfl ?_
   simp [frzH, htk]
   refine AW.freeze 5 1 ⟨218, [.d (.sl NW WD), .d (.int .i64 C), .d (.int .i64 w)]⟩ [.sl NW WD, .int .i64 C, .int .i64 w] (by rfl) rfl ?_
   simp [frzH]
   refine AW.freeze 4 1 ⟨166, [.d (.ptr [.sl NW WD, .int .i64 C, .int .i64 w] 0), .d (.int .i64 k), .d (.int .i64 a), .d (.int .i64 b)]⟩ [.ptr [.sl NW WD, .int .i64 C, .int .i64 w] 0, .int .i64 k, .int .i64 a, .int .i64 b] (by rfl) rfl ?_
   simp [frzH]
   have hfl := hFl i hi
   refine A10 (fs hfl ew) ?_; try with_reducible exact tt
   refine ⟨i + 1, 2, 8, by simp, by omega, by omega, ?_, ?_⟩
   ·simp [swT, swH, sw, Ob.sw, V.ren, V.rens]
   ·simp [swT, swH, sw, Ob.sw, V.ren, V.rens, hsn]
 ·have h2 : i = hs.length := by omega
  subst h2
  have hz : hs.length ≠ 0 := by omega
  have hfl := hFl hs.length (Nat.le_refl _)
  rw [if_neg hz]
  simp
  refine AW.freeze 2 3 ⟨111, (F hs.length).map .d⟩ (F hs.length) (by simp) rfl ?_
  have htk2 : (F hs.length).take (hs.length * 3) = F hs.length := List.take_of_length_le (by omega)
  simp [frzH, htk2]
  refine A00 ?_; try with_reducible exact tt
theorem o_wz (hs : List (Nat × Nat)) (i : Nat) (h : i < hs.length) : ((hashesD hs).drop (i * 2)).take 2 = [.int .u64 hs[i].1, .int .u64 hs[i].2] := o_4y (f := fun h : Nat × Nat => [D.int .u64 h.1, D.int .u64 h.2]) (n := 2) (by simp) hs i h
theorem o_x0 (hs : List (Nat × Nat)) : (hashesD hs).length = hs.length * 2 := o_1a (f := fun h : Nat × Nat => [D.int .u64 h.1, D.int .u64 h.2]) (n := 2) (by simp) hs
end
end Go.Proofs.YtijbgbpjionfjaaGreatDoor.Am
namespace Go.Proofs.YtijbgbpjionfjaaGreatDoor.Am
section
open Go.RowKit
theorem o_4z (n : Nat) (L : List D) (h0 : 0 < n) (hl : L.length = n * 3) (hn : n ≤ 4000) : Eqn Tryz.prog o_dd [.d (.sl n L)] [] (.own 0 3 n) [⟨111, L.map .d⟩] := by
 refine Eqn.gen [0] o_pm (by simp) (by simp) (by rfl) (by decide) (by simp) (by simp) ?_
 have h0' : n ≠ 0 := by omega
 have hlt : L.take (n * 3) = L := List.take_of_length_le (by omega)
 have hb : (n : Int) * 24 ≤ 140737488355328 := by omega
 simp only [o_de]
 refine A10 (fs h0' (fs hl (fs hlt hb))) ?_; try with_reducible exact tt

theorem o_x1 {C k a b T : Nat} (hg : GoodR k a b) (h1 : 1 ≤ C) (h2 : C ≤ 64) (r : Rw) (hr : GoodRow C k a b r) :
  Eqn Tryz.prog o_2k [.p 0 0] [skO 1 C k a b [r] T] (.p 1 0) [skO 1 C k a b [r] T, ⟨106, [.d (.int .i64 (1 : Nat)), .d (.int .i64 C), .d (.int .i64 k), .d (.int .i64 a), .d (.int .i64 b), .own 2 3 1, .d (.int .i64 T)]⟩, ⟨111, [.d (.int .u64 r.a), .d (.int .u64 r.b), .p 3 0]⟩, arrO 4 k a b, arrV 5 k a b r.l, arrB k a b r.l] := by
 obtain ⟨A, B, l⟩ := r
 obtain ⟨-, -, hl, hw⟩ := hr
 simp only at hl
 refine Eqn.gen [0, 1, 2, 4, 5, 6] o_3m (by simp) (by simp) (by rfl) (by decide) (by simp) (by simp [skO, skD, arrO, arrV, arrB, vecO, vecB, u64s]) ?_
 have hc := o_4z 1 [.int .u64 A, .int .u64 B, .ptr (arrD k a b l) 0] (by omega) rfl (by omega)
 have hd := o_14 l hg (by omega) (by omega)
 simp only [o_2l, skO, skD, rowsD, rowD, List.flatMap_cons, List.flatMap_nil, List.append_nil, List.map_cons, List.map_nil, List.length_cons, List.length_nil, arrO, arrV, arrB, vecO, vecB] at hc hd ⊢
 generalize arrD k a b l = AD at *
 generalize wordsP (wdR k a b) (encs k a b l) = WS at *
 generalize nwP l.length (wdR k a b) = NW at *
 generalize wdR k a b = w at *
 refine G0 ?_; try with_reducible exact tt
 refine CallS.g [] (hc) (R0 ?_); try with_reducible exact tt
 refine AW.rounds 2 ?_
 refine A00 ?_; try with_reducible exact tt
 refine CallS.g [] (hd) (R0 ?_); try with_reducible exact tt
 refine A00 ?_; try with_reducible exact tt

def colOf (C A B key : Nat) : Nat := hsum A B key % C
set_option maxHeartbeats 1000000 in
theorem o_8v {C k a b T : Nat} (hg : GoodR k a b) (h1 : 1 ≤ C) (h2 : C ≤ 64) (A B : Nat) (l : List ST) (hr : GoodRow C k a b ⟨A, B, l⟩) (cs : List Bool) (key n p : Nat) (d : Bool) (hk : key < hP) (hn : n ≤ 1048576) (hT : T + n ≤ 1099511627776) (hp : p ≤ cs.length) (hc : cs.length ≤ 4000000) (R : TR)
  (hR : R = addRM cs k a b n (l.getD (colOf C A B key) (0, 0, false)).1 (l.getD (colOf C A B key) (0, 0, false)).2.1 (l.getD (colOf C A B key) (0, 0, false)).2.2 p d) :
  Eqn Tryz.prog o_1w [.p 0 0, .p 1 0, .d (.int .u64 key), .d (.int .i64 n)] [skO 1 C k a b [⟨A, B, l⟩] T, tapeO cs p d] (.d (.int .i64 R.e))
   [if R.e = 0 then skO 1 C k a b [⟨A, B, l.set (colOf C A B key) (R.y, R.t, R.f)⟩] (T + n) else skO 1 C k a b [⟨A, B, l⟩] T, tapeO cs R.p R.d] := by
 have hcl := o_x1 (T := T) hg h1 h2 ⟨A, B, l⟩ hr
 obtain ⟨hA, hB, hl, hw⟩ := hr
 simp only at hA hB hl hw
 have hcol : colOf C A B key < C := Nat.mod_lt _ (by omega)
 have hof := o_v A B key C hA hB hk h1 h2
 rw [show hsum A B key % C = colOf C A B key from rfl] at hof
 have hadd := o_13 cs l (colOf C A B key) n p d hg hw (by omega) (by omega) hn hp hc R hR
 clear hR
 generalize colOf C A B key = col at *
 obtain ⟨e, ry, rt, rf, rp, rd⟩ := R
 simp only at hadd ⊢
 refine Eqn.gen [0, 1] o_3l (by simp) (by simp) (by rfl) (by decide) (by simp) (by intro ob hob; simp at hob; rcases hob with rfl | rfl; (split <;> simp [skO, skD]); simp [tapeO]) ?_
 have g1 : ¬ (2305843009213693951 : Int) ≤ key := by unfold hP at hk; omega
 have g2 : ¬ 2305843009213693951 ≤ key := by unfold hP at hk; omega
 have g3 : ¬ (n : Int) < 0 := by omega
 have g4 : ¬ (1048576 : Int) < n := by omega
 have g5 : ¬ 1048576 < n := by omega
 have g6 : IntKind.i64.wrap ((T : Int) + n) = ((T + n : Nat) : Int) := by rw [w64 (by omega) (by omega)]; omega
 have g7 : ¬ (1099511627776 : Int) < (T : Int) + n := by omega
 have g8 : ¬ 1099511627776 < T + n := by omega
 have hdr : (arrD k a b l) = arrD k a b l := rfl
 simp only [o_2j, skO, skD, rowsD, rowD, List.flatMap_cons, List.flatMap_nil, List.append_nil, List.map_cons, List.map_nil, List.length_cons, List.length_nil, arrO, arrV, arrB, vecO, vecB, hD] at hcl hof hadd ⊢
 by_cases he : e = 0
 ·subst he
  simp only [if_true, List.length_set] at hadd ⊢
  have hAD : arrD k a b (l.set col (ry, rt, rf)) = [.ptr [.sl (nwP l.length (wdR k a b)) ((wordsP (wdR k a b) (encs k a b (l.set col (ry, rt, rf)))).map fun x : Nat => D.int .u64 x), .int .i64 l.length, .int .i64 (wdR k a b)] 0, .int .i64 k, .int .i64 a, .int .i64 b] := by simp [arrD, vecD]
  rw [hAD]
  generalize hAl : arrD k a b l = AD at *
  have hL0 : u64s (wordsP (wdR k a b) (encs k a b (l.set col (ry, rt, rf)))) = ((wordsP (wdR k a b) (encs k a b (l.set col (ry, rt, rf)))).map fun x : Nat => D.int .u64 x).map V.d := by simp [u64s]
  have hWl : ((wordsP (wdR k a b) (encs k a b (l.set col (ry, rt, rf)))).map fun x : Nat => D.int .u64 x).length = nwP l.length (wdR k a b) := by simp
  rw [hL0] at hadd
  generalize ((wordsP (wdR k a b) (encs k a b (l.set col (ry, rt, rf)))).map fun x : Nat => D.int .u64 x) = WD at *
  generalize wordsP (wdR k a b) (encs k a b l) = WS at *
  generalize nwP l.length (wdR k a b) = NW at *
  have htk : WD.take NW = WD := List.take_of_length_le (by omega)
  generalize wdR k a b = w at *
  refine A10 (fs g1 (fs g2 (fs g3 (fs g4 (fs g5 (fs g6 (fs g7 g8))))))) ?_; try with_reducible exact tt
  refine CallS.g [0] (hcl) (R0 ?_); try with_reducible exact tt
  refine AW.rounds 2 ?_
  refine A01 hof ?_; try with_reducible exact tt
  refine CallS.g [4, 5, 6, 1] (hadd) (R0 ?_); try with_reducible exact tt
  refine AW.freeze 6 1 ⟨28, WD.map V.d⟩ WD (by simp) rfl ?_
  simp [frzH, htk]
  refine AW.freeze 5 1 ⟨218, [.d (.sl NW WD), .d (.int .i64 l.length), .d (.int .i64 w)]⟩ [.sl NW WD, .int .i64 l.length, .int .i64 w] (by rfl) rfl ?_
  simp [frzH]
  refine AW.freeze 4 1 ⟨166, [.d (.ptr [.sl NW WD, .int .i64 l.length, .int .i64 w] 0), .d (.int .i64 k), .d (.int .i64 a), .d (.int .i64 b)]⟩ [.ptr [.sl NW WD, .int .i64 l.length, .int .i64 w] 0, .int .i64 k, .int .i64 a, .int .i64 b] (by rfl) rfl ?_
  simp [frzH]
  refine AW.freeze 3 3 ⟨111, [.d (.int .u64 A), .d (.int .u64 B), .d (.ptr [.ptr [.sl NW WD, .int .i64 l.length, .int .i64 w] 0, .int .i64 k, .int .i64 a, .int .i64 b] 0)]⟩ [.int .u64 A, .int .u64 B, .ptr [.ptr [.sl NW WD, .int .i64 l.length, .int .i64 w] 0, .int .i64 k, .int .i64 a, .int .i64 b] 0] (by rfl) rfl ?_
  simp [frzH]
  refine A10 g6 ?_; try with_reducible exact tt
 ·simp only [if_neg he, List.length_set] at hadd ⊢
  generalize hAl : arrD k a b l = AD at *
  generalize wordsP (wdR k a b) (encs k a b l) = WS at *
  generalize nwP l.length (wdR k a b) = NW at *
  generalize wdR k a b = w at *
  refine A10 (fs g1 (fs g2 (fs g3 (fs g4 (fs g5 (fs g6 (fs g7 g8))))))) ?_; try with_reducible exact tt
  refine CallS.g [0] (hcl) (R0 ?_); try with_reducible exact tt
  refine AW.rounds 2 ?_
  refine A01 hof ?_; try with_reducible exact tt
  refine CallS.g [4, 5, 6, 1] (hadd) (R0 ?_); try with_reducible exact tt
  refine A10 he ?_; try with_reducible exact tt
end
end Go.Proofs.YtijbgbpjionfjaaGreatDoor.Am
namespace Go.Proofs.YtijbgbpjionfjaaGreatDoor.Am
section
open Go.RowKit
theorem o_x2 (hi lo y : Nat) (h0 : hi < y) (hl : lo < 18446744073709551616) (hy : y < 18446744073709551616) :
  ∃ s Y u v : Nat, s = 64 - bitsN y ∧ s ≤ 63 ∧ y * 2 ^ s = Y ∧ Y < 18446744073709551616 ∧ 9223372036854775808 ≤ Y ∧ hi * 2 ^ s < 18446744073709551616 ∧ hi * 2 ^ s ||| lo / 2 ^ (64 - s) = u ∧ lo * 2 ^ s % 18446744073709551616 = v ∧ u < Y ∧ v < 18446744073709551616 ∧
   (hi * 18446744073709551616 + lo) * 2 ^ s = u * 18446744073709551616 + v := by
 obtain ⟨b1, b2⟩ := o_jh (n := y) (by omega)
 have b3 := o_t y
 have b4 : bitsN y ≤ 64 := o_p (by omega)
 have hs : 64 - bitsN y ≤ 63 := by omega
 have hY1 : y * 2 ^ (64 - bitsN y) < 18446744073709551616 := by
  have : 2 ^ bitsN y * 2 ^ (64 - bitsN y) = 18446744073709551616 := by rw [← Nat.pow_add, show bitsN y + (64 - bitsN y) = 64 by omega]
  rw [← this]
  exact Nat.mul_lt_mul_of_pos_right b3 (Nat.two_pow_pos _)
 have hY2 : 9223372036854775808 ≤ y * 2 ^ (64 - bitsN y) := by
  have : 2 ^ (bitsN y - 1) * 2 ^ (64 - bitsN y) = 9223372036854775808 := by rw [← Nat.pow_add, show bitsN y - 1 + (64 - bitsN y) = 63 by omega]
  rw [← this]
  exact Nat.mul_le_mul_right _ b1
 generalize 64 - bitsN y = s at *
 have hB : (18446744073709551616 : Nat) = 2 ^ s * 2 ^ (64 - s) := by rw [← Nat.pow_add, show s + (64 - s) = 64 by omega]
 have hp := Nat.two_pow_pos s
 have hp' := Nat.two_pow_pos (64 - s)
 have hh : hi * 2 ^ s < y * 2 ^ s := Nat.mul_lt_mul_of_pos_right h0 hp
 have hlq : lo / 2 ^ (64 - s) < 2 ^ s := by rw [Nat.div_lt_iff_lt_mul hp', ← hB]; exact hl
 have hor : hi * 2 ^ s ||| lo / 2 ^ (64 - s) = hi * 2 ^ s + lo / 2 ^ (64 - s) := by
  rw [Nat.mul_comm, ← Nat.two_pow_add_eq_or_of_lt hlq]
 have hlo : lo * 2 ^ s = lo / 2 ^ (64 - s) * 18446744073709551616 + lo * 2 ^ s % 18446744073709551616 := by
  have h1 : lo * 2 ^ s / 18446744073709551616 = lo / 2 ^ (64 - s) := by
   conv => lhs; rw [hB]
   rw [Nat.mul_comm lo, Nat.mul_div_mul_left _ _ hp]
  have h2 := Nat.div_add_mod (lo * 2 ^ s) 18446744073709551616
  rw [h1] at h2
  omega
 have hlm : lo * 2 ^ s % 18446744073709551616 < 18446744073709551616 := Nat.mod_lt _ (by decide)
 have hN : (hi * 18446744073709551616 + lo) * 2 ^ s = (hi * 2 ^ s) * 18446744073709551616 + lo * 2 ^ s := by
  rw [Nat.add_mul, Nat.mul_right_comm]
 refine ⟨s, y * 2 ^ s, hi * 2 ^ s + lo / 2 ^ (64 - s), lo * 2 ^ s % 18446744073709551616, rfl, hs, rfl, hY1, hY2, by omega, hor, rfl, ?_, hlm, ?_⟩
 ·have h1 : (hi + 1) * 2 ^ s ≤ y * 2 ^ s := Nat.mul_le_mul_right _ h0
  rw [Nat.add_mul, Nat.one_mul] at h1
  omega
 ·rw [hN, hlo, Nat.add_mul]
  generalize lo * 2 ^ s % 18446744073709551616 = a at *
  generalize lo / 2 ^ (64 - s) = b at *
  generalize hi * 2 ^ s = c at *
  omega

def hInv (Y1 Y0 u v : Nat) (q r : Nat) : Prop := q * Y1 + r = u ∧ u * 4294967296 + v < (q + 1) * (Y1 * 4294967296 + Y0) ∧ r < 4294967296

theorem o_l4 {Y1 Y0 u v : Nat} (h1 : 0 < Y1) (h2 : Y1 < 4294967296) (hv : v < 4294967296) : hInv Y1 Y0 u v (u / Y1) (u % Y1) := by
 refine ⟨?_, o_tu h1 hv, ?_⟩
 ·rw [Nat.mul_comm]; exact Nat.div_add_mod u Y1
 ·have := Nat.mod_lt u h1; omega

set_option maxHeartbeats 8000000 in
theorem o_l5 (hi lo y : Nat) (h0 : hi < y) (hl : lo < 18446744073709551616) (hy : y < 18446744073709551616) : Eqn Tryz.prog o_6w [.d (.int .u64 hi), .d (.int .u64 lo), .d (.int .u64 y)] [] (.tup [.d (.int .u64 ((hi * 18446744073709551616 + lo) / y : Nat)), .d (.int .u64 ((hi * 18446744073709551616 + lo) % y : Nat))]) [] := by
 rcases Nat.eq_zero_or_pos hi with rfl | hpos
 ·rw [Nat.zero_mul, Nat.zero_add]
  exact o_j8 lo y hl (by omega)
 refine Eqn.pure o_g1 (o_5 _ _) ?_
 simp only [o_6x]
 obtain ⟨s, Y, u, v, hs, hs63, hY, hYl, hYg, hhs, hor, hv, hu, hvl, hN⟩ := o_x2 hi lo y h0 hl hy
 have hq : (hi * 18446744073709551616 + lo) / y = (u * 18446744073709551616 + v) / Y := by rw [← hN, ← hY]; exact o_7x.1.symm
 have hr : (hi * 18446744073709551616 + lo) % y = (u * 18446744073709551616 + v) % Y / 2 ^ s := by rw [← hN, ← hY]; exact o_7x.2.symm
 rw [hq, hr]
 clear hq hr hN
 obtain ⟨Qf, hQf⟩ : ∃ Qf, Qf = (u * 18446744073709551616 + v) / Y := ⟨_, rfl⟩
 obtain ⟨Rf, hRf⟩ : ∃ Rf, Rf = (u * 18446744073709551616 + v) % Y / 2 ^ s := ⟨_, rfl⟩
 rw [← hQf, ← hRf]
 have h1 : ¬ y = 0 := by omega
 have h2 : ¬ (y : Int) ≤ hi := by omega
 have h3 : ¬ hi = 0 := by omega
 have h1' : ¬ (y : Int) = 0 := by omega
 have h3' : ¬ (hi : Int) = 0 := by omega
 refine G1 (fs h1 h1') ?_; try with_reducible exact tt
 refine AW.cond rfl (fun h => ?_) (fun h => ?_)
 ·simp [h1] at h
 refine G1 h2 ?_; try with_reducible exact tt
 refine AW.cond rfl (fun h => ?_) (fun h => ?_)
 ·simp [h2] at h
 refine G1 (fs h3 h3') ?_; try with_reducible exact tt
 refine AW.cond rfl (fun h => ?_) (fun h => ?_)
 ·simp [h3] at h
 refine G0 ?_; try with_reducible exact tt
 have hlead := o_jm y hy
 rw [← hs] at hlead
 have hq1' := Nat.div_add_mod Y 4294967296
 have hY0' : Y % 4294967296 < 4294967296 := Nat.mod_lt _ (by decide)
 have hv' := Nat.div_add_mod v 4294967296
 have hv0' : v % 4294967296 < 4294967296 := Nat.mod_lt _ (by decide)
 have f1 : IntKind.u64.wrap (s : Int) = s := wu64 (by omega) (by omega)
 have f2 : IntKind.u64.wrap ((y : Int) * 2 ^ s) = Y := by
  rw [show (y : Int) * 2 ^ s = ((y * 2 ^ s : Nat) : Int) by rw [Int.natCast_mul, Int.natCast_pow]; rfl, hY]; exact wu64 (by omega) (by omega)
 have f3 : (Y : Int) / 4294967296 = (Y / 4294967296 : Nat) := rfl
 have f4 := and32 Y hYl
 have f5 : IntKind.u64.wrap ((hi : Int) * 2 ^ s) = (hi * 2 ^ s : Nat) := by
  rw [show (hi : Int) * 2 ^ s = ((hi * 2 ^ s : Nat) : Int) by rw [Int.natCast_mul, Int.natCast_pow]; rfl]; exact wu64 (by omega) (by omega)
 have f6 : IntKind.u64.wrap ((64 : Int) - s) = (64 : Int) - s := wu64 (by omega) (by omega)
 have f7 : ((64 : Int) - s).toNat = 64 - s := by omega
 have f8 : (lo : Int) / 2 ^ (64 - s) = (lo / 2 ^ (64 - s) : Nat) := by rw [Int.natCast_ediv, Int.natCast_pow]; rfl
 have hll : lo / 2 ^ (64 - s) ≤ lo := Nat.div_le_self _ _
 have f9 := bits_or_u64_nat (hi * 2 ^ s) (lo / 2 ^ (64 - s)) hhs (by omega)
 rw [hor] at f9
 have f10 : IntKind.u64.wrap ((lo : Int) * 2 ^ s) = v := by
  rw [IntKind.wrap_u64, show (lo : Int) * 2 ^ s = ((lo * 2 ^ s : Nat) : Int) by rw [Int.natCast_mul, Int.natCast_pow]; rfl, ← hv]; rfl
 have f11 : (v : Int) / 4294967296 = (v / 4294967296 : Nat) := rfl
 have f12 := and32 v hvl
 have f13 : (s : Int) ≤ 64 := by omega
 have f14 : (0 : Int) ≤ 64 - s := by omega
 have f15 : (64 : Int) - s ≤ 64 := by omega
 generalize Y / 4294967296 = Y1 at *
 generalize Y % 4294967296 = Y0 at *
 generalize v / 4294967296 = v1 at *
 generalize v % 4294967296 = v0 at *
 generalize hi * 2 ^ s = h' at *
 generalize lo / 2 ^ (64 - s) = l' at *
 have hYY : Y = Y1 * 4294967296 + Y0 := by omega
 have hvv : v = v1 * 4294967296 + v0 := by omega
 have hY1 : 2147483648 ≤ Y1 := by omega
 have hY1l : Y1 < 4294967296 := by omega
 have hY0 : Y0 < 4294967296 := by omega
 have hv1 : v1 < 4294967296 := by omega
 have hv0 : v0 < 4294967296 := by omega
 have hYn : ¬ (Y1 : Int) = 0 := by omega
 have hYn' : ¬ Y1 = 0 := by omega
 have huq := Nat.div_add_mod u Y1
 have hqle : u / Y1 ≤ u := Nat.div_le_self _ _
 have g1 : IntKind.u64.wrap ((u : Int) / Y1) = (u / Y1 : Nat) := by rw [← Int.natCast_ediv]; generalize u / Y1 = q at *; exact wu64 (by omega) (by omega)
 have g2 : IntKind.u64.wrap (((u / Y1 : Nat) : Int) * Y1) = (u / Y1 * Y1 : Nat) := by
  rw [Nat.mul_comm] at huq
  rw [← Int.natCast_mul]; generalize u / Y1 * Y1 = q at *; exact wu64 (by omega) (by omega)
 have g3 : IntKind.u64.wrap ((u : Int) - (u / Y1 * Y1 : Nat)) = (u % Y1 : Nat) := by
  rw [Nat.mul_comm] at huq
  generalize u / Y1 * Y1 = q at *
  generalize u % Y1 = r at *
  rw [wu64 (by omega) (by omega)]; omega
 obtain ⟨q1, hq1⟩ : ∃ q1, q1 = (u * 4294967296 + v1) / Y := ⟨_, rfl⟩
 have gA : IntKind.u64.wrap ((u : Int) - IntKind.u64.wrap ((u : Int) / Y1 * Y1)) = (u : Int) % Y1 := by
  have h1 : ((u : Int) / Y1 * Y1) = ((u / Y1 : Nat) : Int) * Y1 := by rw [Int.natCast_ediv]
  rw [h1, g2, g3, Int.natCast_emod]
 refine G0 ?_; try with_reducible exact tt
 refine CallS.pu (hlead) (R1 (fs f1 (fs f2 (fs f3 (fs f4 (fs f5 (fs f6 (fs f7 (fs f8 (fs f9 (fs f10 (fs f11 (fs f12 (fs f13 (fs f14 (fs f15 (fs hYn (fs hYn' g1))))))))))))))))) ?_); try with_reducible exact tt
 refine AW.blockCut 0 [(15, .d (.int .u64 q1))] [] (by simp) (by simp) ?_ ?_
 ·-- the half digit 15
  refine AW.loopT (α := Nat × Nat) 0 (fun a => [(15, .d (.int .u64 (a.1 : Int))), (16, .d (.int .u64 (a.2 : Int)))]) (fun _ => []) (fun a => hInv Y1 Y0 u v1 a.1 a.2) (fun a => a.1) (u / Y1, u % Y1) (by simp) (by simp) (o_l4 (by omega) (by omega) (by omega)) (by simp [gA]) (by simp) ?_
  rintro ⟨q, r⟩ ⟨i1, i2, i3⟩
  simp only at i1 i2 i3
  have hqY : q * 2147483648 ≤ q * Y1 := Nat.mul_le_mul_left _ hY1
  have hend : q * Y0 ≤ r * 4294967296 + v1 → q1 = q := fun h => by rw [hq1, hYY]; exact o_4a i1 h i2
  have hnext : (4294967296 ≤ q ∨ r * 4294967296 + v1 < q * Y0) → 0 < q ∧ (q - 1) * Y1 + (r + Y1) = u ∧ u * 4294967296 + v1 < (q - 1 + 1) * (Y1 * 4294967296 + Y0) := fun h => o_ji i1 (by omega) (by omega) h
  have hstep : ∀ (T : List V) , (4294967296 ≤ q ∨ r * 4294967296 + v1 < q * Y0) → 0 < q ∧ hInv Y1 Y0 u v1 (q - 1) (r + Y1) ∨ (0 < q ∧ 4294967296 ≤ r + Y1 ∧ q1 = q - 1) := fun _ h => by
   obtain ⟨n1, n2, n3⟩ := hnext h
   rcases Nat.lt_or_ge (r + Y1) 4294967296 with h1 | h1
   ·exact .inl ⟨n1, n2, n3, h1⟩
   ·refine .inr ⟨n1, h1, ?_⟩
    rw [hq1, hYY]
    exact o_4a n2 (o_jj n2 (by omega) hY0 h1 _) n3
  have b1 : IntKind.u64.wrap ((r : Int) + Y1) = ((r + Y1 : Nat) : Int) := wu64 (by omega) (by omega)
  have body : (4294967296 ≤ q ∨ r * 4294967296 + v1 < q * Y0) → IntKind.u64.wrap ((q : Int) - 1) = ((q - 1 : Nat) : Int) := fun h => by
   have := (hnext h).1
   rw [wu64 (by omega) (by omega)]; omega
  by_cases c1 : 4294967296 ≤ q
  ·have c1' : (4294967296 : Int) ≤ q := by omega
   refine G1 c1' ?_; try with_reducible exact tt
   refine AW.cond rfl (fun h => ?_) (fun h => ?_)
   ·have e1 := body (.inl c1)
    rcases hstep [] (.inl c1) with ⟨n1, n2⟩ | ⟨n1, n2, n3⟩
    ·have n4 : ¬ (4294967296 : Int) ≤ ((r + Y1 : Nat) : Int) := by have := n2.2.2; omega
     generalize hr' : r + Y1 = r' at *
     generalize hq' : q - 1 = q' at *
     refine G1 (fs e1 (fs b1 n4)) ?_; try with_reducible exact tt
     refine AW.cond rfl (fun h => ?_) (fun h => ?_)
     ·first | (simp [n4] at h; done) | (simp [n4] at h; omega)
     refine G0 ?_; try with_reducible exact tt
     exact ⟨q', r', n2, by omega, by simp, by simp⟩
    ·have n4 : (4294967296 : Int) ≤ ((r + Y1 : Nat) : Int) := by omega
     generalize hr' : r + Y1 = r' at *
     generalize hq' : q - 1 = q' at *
     refine G1 (fs e1 (fs b1 n4)) ?_; try with_reducible exact tt
     refine AW.cond rfl (fun h => ?_) (fun h => ?_)
     ·refine AW.exit ?_
      (try (simp -implicitDefEqProofs; try simp (disch := omega) only [w64, wu64]))
      rw [n3]
      exact Sub1.refl _
     ·first | (simp at h; done) | (simp at h; omega)
   ·simp [c1'] at h
  ·have c1' : ¬ (4294967296 : Int) ≤ q := by omega
   have hqy : q * Y0 ≤ 4294967295 * 4294967295 := Nat.mul_le_mul (by omega) (by omega)
   have e1 : IntKind.u64.wrap ((q : Int) * Y0) = ((q * Y0 : Nat) : Int) := by rw [← Int.natCast_mul]; exact wu64 (by omega) (by omega)
   have e2 : IntKind.u64.wrap (4294967296 * (r : Int)) = ((4294967296 * r : Nat) : Int) := wu64 (by omega) (by omega)
   have e3 : IntKind.u64.wrap (((4294967296 * r : Nat) : Int) + v1) = ((4294967296 * r + v1 : Nat) : Int) := wu64 (by omega) (by omega)
   by_cases c2 : r * 4294967296 + v1 < q * Y0
   ·have c2' : ((4294967296 * r + v1 : Nat) : Int) < ((q * Y0 : Nat) : Int) := by omega
    have e4 := body (.inr c2)
    have hs := hstep [] (.inr c2)
    clear hend hnext hstep body
    generalize q * Y0 = m at *
    generalize 4294967296 * r = m2 at *
    generalize m2 + v1 = m3 at *
    refine G1 (fs c1' (fs e1 (fs e2 (fs e3 c2')))) ?_; try with_reducible exact tt
    refine AW.cond rfl (fun h => ?_) (fun h => ?_)
    ·rcases hs with ⟨n1, n2⟩ | ⟨n1, n2, n3⟩
     ·have n4 : ¬ (4294967296 : Int) ≤ ((r + Y1 : Nat) : Int) := by have := n2.2.2; omega
      generalize hr' : r + Y1 = r' at *
      generalize hq' : q - 1 = q' at *
      refine G1 (fs e4 (fs b1 n4)) ?_; try with_reducible exact tt
      refine AW.cond rfl (fun h => ?_) (fun h => ?_)
      ·first | (simp at h; done) | (simp at h; omega)
      refine G0 ?_; try with_reducible exact tt
      exact ⟨q', r', n2, by omega, by simp, by simp⟩
     ·have n4 : (4294967296 : Int) ≤ ((r + Y1 : Nat) : Int) := by omega
      generalize hr' : r + Y1 = r' at *
      generalize hq' : q - 1 = q' at *
      refine G1 (fs e4 (fs b1 n4)) ?_; try with_reducible exact tt
      refine AW.cond rfl (fun h => ?_) (fun h => ?_)
      ·refine AW.exit ?_
       (try (simp -implicitDefEqProofs; try simp (disch := omega) only [w64, wu64]))
       rw [n3]
       exact Sub1.refl _
      ·first | (simp at h; done) | (simp at h; omega)
    ·first | (simp at h; done) | (simp at h; omega)
   ·have c2' : ¬ ((4294967296 * r + v1 : Nat) : Int) < ((q * Y0 : Nat) : Int) := by omega
    have e4 := hend (by omega)
    clear hend hnext hstep body
    generalize q * Y0 = m at *
    generalize 4294967296 * r = m2 at *
    generalize m2 + v1 = m3 at *
    refine G1 (fs c1' (fs e1 (fs e2 (fs e3 c2')))) ?_; try with_reducible exact tt
    refine AW.cond rfl (fun h => ?_) (fun h => ?_)
    ·first | (simp at h; done) | (simp at h; omega)
    ·refine AW.exit ?_
     (try (simp -implicitDefEqProofs; try simp (disch := omega) only [w64, wu64]))
     rw [e4]
     exact Sub1.refl _
 obtain ⟨r1, hr1⟩ : ∃ r1, r1 = u * 4294967296 + v1 - q1 * Y := ⟨_, rfl⟩
 have hd := Nat.div_add_mod (u * 4294967296 + v1) Y
 have hm := Nat.mod_lt (u * 4294967296 + v1) (show Y > 0 by omega)
 rw [← hq1, Nat.mul_comm] at hd
 have hr1l : r1 < Y := by omega
 have hq1l : q1 < 4294967296 := by
  rw [hq1, Nat.div_lt_iff_lt_mul (by omega)]
  omega
 have p1 : IntKind.u64.wrap ((u : Int) * 4294967296) = (u * 4294967296 % 18446744073709551616 : Nat) := by rw [IntKind.wrap_u64]; rfl
 have p2 : IntKind.u64.wrap (((u * 4294967296 % 18446744073709551616 : Nat) : Int) + v1) = ((u * 4294967296 + v1) % 18446744073709551616 : Nat) := by rw [IntKind.wrap_u64]; omega
 have p3 : IntKind.u64.wrap ((q1 : Int) * Y) = (q1 * Y % 18446744073709551616 : Nat) := by rw [IntKind.wrap_u64, ← Int.natCast_mul]; rfl
 have p4 : IntKind.u64.wrap (((((u * 4294967296 + v1) % 18446744073709551616 : Nat)) : Int) - (q1 * Y % 18446744073709551616 : Nat)) = (r1 : Int) := by
  rw [IntKind.wrap_u64]
  generalize q1 * Y = m at *
  omega
 have hrq := Nat.div_add_mod r1 Y1
 have hrle : r1 / Y1 ≤ r1 := Nat.div_le_self _ _
 have g1' : IntKind.u64.wrap ((r1 : Int) / Y1) = (r1 / Y1 : Nat) := by rw [← Int.natCast_ediv]; generalize r1 / Y1 = q at *; exact wu64 (by omega) (by omega)
 have g2' : IntKind.u64.wrap (((r1 / Y1 : Nat) : Int) * Y1) = (r1 / Y1 * Y1 : Nat) := by
  rw [Nat.mul_comm] at hrq
  rw [← Int.natCast_mul]; generalize r1 / Y1 * Y1 = q at *; exact wu64 (by omega) (by omega)
 have g3' : IntKind.u64.wrap ((r1 : Int) - (r1 / Y1 * Y1 : Nat)) = (r1 % Y1 : Nat) := by
  rw [Nat.mul_comm] at hrq
  generalize r1 / Y1 * Y1 = q at *
  generalize r1 % Y1 = r at *
  rw [wu64 (by omega) (by omega)]; omega
 have gA' : IntKind.u64.wrap ((r1 : Int) - IntKind.u64.wrap ((r1 : Int) / Y1 * Y1)) = (r1 : Int) % Y1 := by
  have h1 : ((r1 : Int) / Y1 * Y1) = ((r1 / Y1 : Nat) : Int) * Y1 := by rw [Int.natCast_ediv]
  rw [h1, g2', g3', Int.natCast_emod]
 have hp := halves' (y := Y) (a := u * 4294967296 + v1) (b := 4294967296) (v0 := v0) (q1 := q1) (q0 := (r1 * 4294967296 + v0) / Y) (by omega) hq1.symm (by rw [← hr1])
 rw [← hr1] at hp
 obtain ⟨q0, hq0⟩ : ∃ q0, q0 = (r1 * 4294967296 + v0) / Y := ⟨_, rfl⟩
 rw [← hq0] at hp
 rw [show u * 18446744073709551616 + v = (u * 4294967296 + v1) * 4294967296 + v0 by omega] at hQf hRf
 rw [hp.1] at hQf
 rw [hp.2] at hRf
 have hd0 := Nat.div_add_mod (r1 * 4294967296 + v0) Y
 have hm0 := Nat.mod_lt (r1 * 4294967296 + v0) (show Y > 0 by omega)
 rw [← hq0, Nat.mul_comm] at hd0
 obtain ⟨r0, hr0⟩ : ∃ r0, r0 = r1 * 4294967296 + v0 - q0 * Y := ⟨_, rfl⟩
 rw [← hr0] at hRf
 have hq0l : q0 < 4294967296 := by
  rw [hq0, Nat.div_lt_iff_lt_mul (by omega)]
  omega
 have s1 : IntKind.u64.wrap ((r1 : Int) * 4294967296) = (r1 * 4294967296 % 18446744073709551616 : Nat) := by rw [IntKind.wrap_u64]; rfl
 have s2 : IntKind.u64.wrap (((r1 * 4294967296 % 18446744073709551616 : Nat) : Int) + v0) = ((r1 * 4294967296 + v0) % 18446744073709551616 : Nat) := by rw [IntKind.wrap_u64]; omega
 have s3 : IntKind.u64.wrap ((q0 : Int) * Y) = (q0 * Y % 18446744073709551616 : Nat) := by rw [IntKind.wrap_u64, ← Int.natCast_mul]; rfl
 have s4 : IntKind.u64.wrap (((((r1 * 4294967296 + v0) % 18446744073709551616 : Nat)) : Int) - (q0 * Y % 18446744073709551616 : Nat)) = (r0 : Int) := by
  rw [IntKind.wrap_u64]
  generalize q0 * Y = m at *
  omega
 have s5 : IntKind.u64.wrap ((q1 : Int) * 4294967296) = (q1 * 4294967296 : Nat) := wu64 (by omega) (by omega)
 have s6 : IntKind.u64.wrap (((q1 * 4294967296 : Nat) : Int) + q0) = (q1 * 4294967296 + q0 : Nat) := wu64 (by omega) (by omega)
 have s7 : (r0 : Int) / 2 ^ s = (r0 / 2 ^ s : Nat) := by rw [Int.natCast_ediv, Int.natCast_pow]; rfl
 rw [← hRf] at s7
 rw [← hQf] at s6
 clear hp hd hm hr1 hq1 hr0 hd0 hm0 hRf hQf
 obtain ⟨t3, ht3⟩ : ∃ t, t = q1 * Y % 18446744073709551616 := ⟨_, rfl⟩
 rw [← ht3] at p3 p4
 obtain ⟨t2, ht2⟩ : ∃ t, t = (u * 4294967296 + v1) % 18446744073709551616 := ⟨_, rfl⟩
 rw [← ht2] at p2 p4
 obtain ⟨t1, ht1⟩ : ∃ t, t = u * 4294967296 % 18446744073709551616 := ⟨_, rfl⟩
 rw [← ht1] at p1 p2
 clear ht1 ht2 ht3
 simp
 repeat (first | refine AW.seq ?_ | refine AW.block ?_ | (refine AW.reg mix ?_; simp -implicitDefEqProofs [p1, p2, p3, p4, hYn, hYn', g1']; try simp (disch := omega) only [w64, wu64]) | (refine need.of (by first | omega | kernel_rfl) ?_) | (refine AW.fin ?_; try simp -implicitDefEqProofs [p1, p2, p3, p4, hYn, hYn', g1']))
 refine AW.blockCut 0 [(18, .d (.int .u64 q0))] [] (by simp) (by simp) ?_ ?_
 ·-- the other half digit
  refine AW.loopT (α := Nat × Nat) 0 (fun a => [(18, .d (.int .u64 (a.1 : Int))), (16, .d (.int .u64 (a.2 : Int)))]) (fun _ => []) (fun a => hInv Y1 Y0 r1 v0 a.1 a.2) (fun a => a.1) (r1 / Y1, r1 % Y1) (by simp) (by simp) (o_l4 (by omega) (by omega) (by omega)) (by simp [gA']) (by simp) ?_
  rintro ⟨q, r⟩ ⟨i1, i2, i3⟩
  simp only at i1 i2 i3
  have hqY : q * 2147483648 ≤ q * Y1 := Nat.mul_le_mul_left _ hY1
  have hend : q * Y0 ≤ r * 4294967296 + v0 → q0 = q := fun h => by rw [hq0, hYY]; exact o_4a i1 h i2
  have hnext : (4294967296 ≤ q ∨ r * 4294967296 + v0 < q * Y0) → 0 < q ∧ (q - 1) * Y1 + (r + Y1) = r1 ∧ r1 * 4294967296 + v0 < (q - 1 + 1) * (Y1 * 4294967296 + Y0) := fun h => o_ji i1 (by omega) (by omega) h
  have hstep : ∀ (T : List V) , (4294967296 ≤ q ∨ r * 4294967296 + v0 < q * Y0) → 0 < q ∧ hInv Y1 Y0 r1 v0 (q - 1) (r + Y1) ∨ (0 < q ∧ 4294967296 ≤ r + Y1 ∧ q0 = q - 1) := fun _ h => by
   obtain ⟨n1, n2, n3⟩ := hnext h
   rcases Nat.lt_or_ge (r + Y1) 4294967296 with h1 | h1
   ·exact .inl ⟨n1, n2, n3, h1⟩
   ·refine .inr ⟨n1, h1, ?_⟩
    rw [hq0, hYY]
    exact o_4a n2 (o_jj n2 (by omega) hY0 h1 _) n3
  have b1 : IntKind.u64.wrap ((r : Int) + Y1) = ((r + Y1 : Nat) : Int) := wu64 (by omega) (by omega)
  have body : (4294967296 ≤ q ∨ r * 4294967296 + v0 < q * Y0) → IntKind.u64.wrap ((q : Int) - 1) = ((q - 1 : Nat) : Int) := fun h => by
   have := (hnext h).1
   rw [wu64 (by omega) (by omega)]; omega
  by_cases c1 : 4294967296 ≤ q
  ·have c1' : (4294967296 : Int) ≤ q := by omega
   refine G1 c1' ?_; try with_reducible exact tt
   refine AW.cond rfl (fun h => ?_) (fun h => ?_)
   ·have e1 := body (.inl c1)
    rcases hstep [] (.inl c1) with ⟨n1, n2⟩ | ⟨n1, n2, n3⟩
    ·have n4 : ¬ (4294967296 : Int) ≤ ((r + Y1 : Nat) : Int) := by have := n2.2.2; omega
     generalize hr' : r + Y1 = r' at *
     generalize hq' : q - 1 = q' at *
     refine G1 (fs e1 (fs b1 n4)) ?_; try with_reducible exact tt
     refine AW.cond rfl (fun h => ?_) (fun h => ?_)
     ·first | (simp [n4] at h; done) | (simp [n4] at h; omega)
     refine G0 ?_; try with_reducible exact tt
     exact ⟨q', r', n2, by omega, by simp, by simp⟩
    ·have n4 : (4294967296 : Int) ≤ ((r + Y1 : Nat) : Int) := by omega
     generalize hr' : r + Y1 = r' at *
     generalize hq' : q - 1 = q' at *
     refine G1 (fs e1 (fs b1 n4)) ?_; try with_reducible exact tt
     refine AW.cond rfl (fun h => ?_) (fun h => ?_)
     ·refine AW.exit ?_
      (try (simp -implicitDefEqProofs; try simp (disch := omega) only [w64, wu64]))
      rw [n3]
      exact Sub1.refl _
     ·first | (simp at h; done) | (simp at h; omega)
   ·simp [c1'] at h
  ·have c1' : ¬ (4294967296 : Int) ≤ q := by omega
   have hqy : q * Y0 ≤ 4294967295 * 4294967295 := Nat.mul_le_mul (by omega) (by omega)
   have e1 : IntKind.u64.wrap ((q : Int) * Y0) = ((q * Y0 : Nat) : Int) := by rw [← Int.natCast_mul]; exact wu64 (by omega) (by omega)
   have e2 : IntKind.u64.wrap (4294967296 * (r : Int)) = ((4294967296 * r : Nat) : Int) := wu64 (by omega) (by omega)
   have e3 : IntKind.u64.wrap (((4294967296 * r : Nat) : Int) + v0) = ((4294967296 * r + v0 : Nat) : Int) := wu64 (by omega) (by omega)
   by_cases c2 : r * 4294967296 + v0 < q * Y0
   ·have c2' : ((4294967296 * r + v0 : Nat) : Int) < ((q * Y0 : Nat) : Int) := by omega
    have e4 := body (.inr c2)
    have hs := hstep [] (.inr c2)
    clear hend hnext hstep body
    generalize q * Y0 = m at *
    generalize 4294967296 * r = m2 at *
    generalize m2 + v0 = m3 at *
    refine G1 (fs c1' (fs e1 (fs e2 (fs e3 c2')))) ?_; try with_reducible exact tt
    refine AW.cond rfl (fun h => ?_) (fun h => ?_)
    ·rcases hs with ⟨n1, n2⟩ | ⟨n1, n2, n3⟩
     ·have n4 : ¬ (4294967296 : Int) ≤ ((r + Y1 : Nat) : Int) := by have := n2.2.2; omega
      generalize hr' : r + Y1 = r' at *
      generalize hq' : q - 1 = q' at *
      refine G1 (fs e4 (fs b1 n4)) ?_; try with_reducible exact tt
      refine AW.cond rfl (fun h => ?_) (fun h => ?_)
      ·first | (simp at h; done) | (simp at h; omega)
      refine G0 ?_; try with_reducible exact tt
      exact ⟨q', r', n2, by omega, by simp, by simp⟩
     ·have n4 : (4294967296 : Int) ≤ ((r + Y1 : Nat) : Int) := by omega
      generalize hr' : r + Y1 = r' at *
      generalize hq' : q - 1 = q' at *
      refine G1 (fs e4 (fs b1 n4)) ?_; try with_reducible exact tt
      refine AW.cond rfl (fun h => ?_) (fun h => ?_)
      ·refine AW.exit ?_
       (try (simp -implicitDefEqProofs; try simp (disch := omega) only [w64, wu64]))
       rw [n3]
       exact Sub1.refl _
      ·first | (simp at h; done) | (simp at h; omega)
    ·first | (simp at h; done) | (simp at h; omega)
   ·have c2' : ¬ ((4294967296 * r + v0 : Nat) : Int) < ((q * Y0 : Nat) : Int) := by omega
    have e4 := hend (by omega)
    clear hend hnext hstep body
    generalize q * Y0 = m at *
    generalize 4294967296 * r = m2 at *
    generalize m2 + v0 = m3 at *
    refine G1 (fs c1' (fs e1 (fs e2 (fs e3 c2')))) ?_; try with_reducible exact tt
    refine AW.cond rfl (fun h => ?_) (fun h => ?_)
    ·first | (simp at h; done) | (simp at h; omega)
    ·refine AW.exit ?_
     (try (simp -implicitDefEqProofs; try simp (disch := omega) only [w64, wu64]))
     rw [e4]
     exact Sub1.refl _
 clear hq0
 obtain ⟨t6, ht6⟩ : ∃ t, t = q0 * Y % 18446744073709551616 := ⟨_, rfl⟩
 rw [← ht6] at s3 s4
 obtain ⟨t5, ht5⟩ : ∃ t, t = (r1 * 4294967296 + v0) % 18446744073709551616 := ⟨_, rfl⟩
 rw [← ht5] at s2 s4
 obtain ⟨t4, ht4⟩ : ∃ t, t = r1 * 4294967296 % 18446744073709551616 := ⟨_, rfl⟩
 rw [← ht4] at s1 s2
 obtain ⟨t7, ht7⟩ : ∃ t, t = q1 * 4294967296 := ⟨_, rfl⟩
 rw [← ht7] at s5 s6
 clear ht4 ht5 ht6 ht7
 simp
 refine G1 (fs s1 (fs s2 (fs s3 (fs s4 (fs s5 (fs s6 (fs s7 f13))))))) ?_; try with_reducible exact tt
end
end Go.Proofs.YtijbgbpjionfjaaGreatDoor.Am
namespace Go.Proofs.YtijbgbpjionfjaaGreatDoor.Am
section
open Go.RowKit
theorem o_8w : ∀ (ws : List Nat) (j v : Nat), j < ws.length → wval (ws.set j v) + 18446744073709551616 ^ j * ws.getD j 0 = wval ws + 18446744073709551616 ^ j * v
 | [], j, v, h => by simp at h
 | x :: l, 0, v, h => by simp [wval]; omega
 | x :: l, j + 1, v, h => by
  have ih := o_8w l j v (by simpa using h)
  simp only [List.set_cons_succ, wval, Nat.pow_succ, List.getD_cons_succ]
  have e : ∀ z, 18446744073709551616 ^ j * 18446744073709551616 * z = 18446744073709551616 * (18446744073709551616 ^ j * z) := fun z => by
   rw [Nat.mul_right_comm, Nat.mul_comm]
  rw [e, e]
  omega
theorem o_l6 {ws : List Nat} (h : small ws) (j v : Nat) (hv : v < 18446744073709551616) : small (ws.set j v) := by
 intro x hx
 rcases List.mem_or_eq_of_mem_set hx with hx | rfl
 ·exact h x hx
 ·exact hv
def uW (ws : List Nat) : List V := U ws
theorem o_1g (ws : List Nat) : (uW ws).length = ws.length := by simp [uW, U]
theorem o_27 {ws : List Nat} {j : Nat} (h : j < ws.length) : (uW ws)[j]? = some (.d (.int .u64 (ws.getD j 0 : Nat))) := by
 simp [uW, U, List.getD, h]
theorem o_50 (ws : List Nat) (j v : Nat) : (uW ws).set j (.d (.int .u64 v)) = uW (ws.set j v) := by simp [uW, U, List.map_set]
theorem o_d (n : Nat) (ws : List Nat) : V.lowl n (uW ws) = true := o_45 n ws

theorem o_x3 {vn v z1 z2 p b xy o c l2 h2 : Nat} (hs2 : vn + p * o = v + p * l2) (hv : v + p * c = z2 + z1) (htot : xy + o + c = l2 + b * h2) : vn + p * b * h2 = z2 + (z1 + p * xy) := by
 have e2 := congrArg (p * ·) htot
 simp only [Nat.mul_add] at e2
 rw [← Nat.mul_assoc] at e2
 omega
set_option maxHeartbeats 4000000 in
theorem o_1o (m n : Nat) (hm : size m ≤ 1000000) (hn : size n ≤ 1000000) : Eqn Tryz.prog o_ed [.d (.agg [natW m]), .d (.agg [natW n])] [] (.d (.agg [natW (m * n)])) [] := by
 refine Eqn.pure o_q4 (o_0 _) ?_
 unfold size at hm hn
 rw [← o_1 m, ← o_1 n]
 have hsA := o_4 m
 have hsB := o_4 n
 rw [show natW (wval (words m)) = W (words m) by rw [o_1]; rfl, show natW (wval (words n)) = W (words n) by rw [o_1]; rfl]
 generalize words m = A at *
 generalize words n = B at *
 simp only [o_ee, W]
 have hlen : ((A.length : Int) + B.length).toNat = A.length + B.length := by omega
 refine G1 hlen ?_; try with_reducible exact tt
 rw [show List.replicate (A.length + B.length) (V.d (.int .u64 0)) = uW (List.replicate (A.length + B.length) 0) by simp [uW, U]]
 refine AW.loopT (α := Nat × List Nat) 4 (fun s => [(25, .d (.int .i64 (s.1 : Int)))]) (fun s => [(3, ⟨28, uW s.2⟩)]) (fun s => s.1 ≤ A.length ∧ s.2.length = A.length + B.length ∧ small s.2 ∧ wval s.2 = wval (A.take s.1) * wval B ∧ ∀ j, s.1 + B.length ≤ j → s.2.getD j 0 = 0) (fun s => A.length - s.1) (0, List.replicate (A.length + B.length) 0) ?_ ?_ ?_ ?_ ?_ ?_
 ·simp
 ·simp
 ·refine ⟨Nat.zero_le _, by simp, fun x hx => by rw [List.eq_of_mem_replicate hx]; omega, by simp [o_io, wval], fun j _ => ?_⟩
  simp [List.getD, List.getElem?_replicate]
  split <;> rfl
 ·simp
 ·simp [o_d]
 rintro ⟨i, ws⟩ ⟨hi, hl, hs, hv, hz⟩
 simp only at hi hl hs hv hz
 simp
 by_cases h : i = A.length
 ·subst h
  rw [List.take_length] at hv
  refine G0 ?_; try with_reducible exact tt
  refine AW.cond rfl (fun h => ?_) (fun h => ?_)
  ·simp at h
  refine AW.exit ?_
  (try (simp -implicitDefEqProofs; try simp (disch := omega) only [w64, wu64]))
  have hcell : uW ws = (ws.map fun x : Nat => D.int .u64 x).map V.d := by simp [uW, U]
  rw [hcell]
  refine AW.freeze 3 1 ⟨28, _⟩ (ws.map fun x : Nat => .int .u64 x) (by rfl) (by rfl) ?_
  simp [← hl, List.take_of_length_le]
  refine G0 ?_; try with_reducible exact tt
  refine CallS.pu (o_11 ws hs (by omega)) (R0 ?_); try with_reducible exact tt
  refine Sub1.of ?_
  rw [hv]
 ·have hi' : i < A.length := by omega
  have hp : (i : Int) < A.length := by omega
  refine G1 (fs hi' hp) ?_; try with_reducible exact tt
  refine AW.cond rfl (fun h => ?_) (fun h => ?_)
  ·refine G1 (fs hi' hp) ?_; try with_reducible exact tt
   have hwA : A[i] = A.getD i 0 := o_9 hi'
   have hx : A[i] < 18446744073709551616 := hsA _ (List.getElem_mem _)
   generalize A[i] = x at hwA hx ⊢
   refine AW.loopT (α := Nat × Nat × List Nat) 4 (fun s => [(33, .d (.int .i64 (s.1 : Int))), (8, .d (.int .u64 (s.2.1 : Int)))]) (fun s => [(3, ⟨28, uW s.2.2⟩)]) (fun s => s.1 ≤ B.length ∧ s.2.1 < 18446744073709551616 ∧ s.2.2.length = A.length + B.length ∧ small s.2.2 ∧ wval s.2.2 + 18446744073709551616 ^ (i + s.1) * s.2.1 = wval (A.take i) * wval B + 18446744073709551616 ^ i * (x * wval (B.take s.1)) ∧ ∀ j, i + B.length ≤ j → s.2.2.getD j 0 = 0) (fun s => B.length - s.1) (0, 0, ws) ?_ ?_ ⟨Nat.zero_le _, by simp, hl, hs, by simp [hv, wval], hz⟩ ?_ ?_ ?_
   ·simp
   ·simp
   ·simp
   ·simp [o_d]
   clear hl hs hv hz
   rintro ⟨k, c, ws'⟩ ⟨hk, hc, hl, hs, hv, hz⟩
   simp only at hk hc hl hs hv hz
   simp
   have hlen' : ((i : Int) + B.length).toNat = i + B.length := by omega
   have ew : IntKind.i64.wrap ((i : Int) + B.length) = ((i + B.length : Nat) : Int) := w64 (by omega) (by omega)
   have eu := o_1g ws'
   have eset := fun j v => o_50 ws' j v
   by_cases hkl : k = B.length
   ·subst hkl
    rw [List.take_length] at hv
    refine G0 ?_; try with_reducible exact tt
    refine AW.cond rfl (fun h => ?_) (fun h => ?_)
    ·simp at h
    have hg : (uW ws').length = A.length + B.length := by rw [eu]; exact hl
    have e2 : IntKind.i64.wrap ((i : Int) + 1) = (i : Int) + 1 := w64 (by omega) (by omega)
    refine G1 (fs hg (fs eset e2)) ?_; try with_reducible exact tt
    refine ⟨i + 1, ws'.set (i + B.length) c, ⟨hi', by simp [hl], o_l6 hs _ _ hc, ?_, fun j hj => ?_⟩, by omega, by simp, by rw [hlen']; simp, o_d _ _⟩
    ·have h1 := o_8w ws' (i + B.length) c (by omega)
     rw [hz _ (Nat.le_refl _), Nat.mul_zero, Nat.add_zero] at h1
     rw [h1, hv, o_8, Nat.add_mul, hwA, Nat.mul_assoc]
    ·have h1 := hz j (by omega)
     rw [List.getD] at h1
     rw [List.getElem?_set_ne (by omega)]
     exact h1
   ·have hk' : k < B.length := by omega
    have hkp : (k : Int) < B.length := by omega
    refine G1 (fs hk' hkp) ?_; try with_reducible exact tt
    refine AW.cond rfl (fun h => ?_) (fun h => ?_)
    ·have hy : B[k] < 18446744073709551616 := hsB _ (List.getElem_mem _)
     have hwB : B[k] = B.getD k 0 := o_9 hk'
     have hg : (uW ws').length = A.length + B.length := by rw [eu]; exact hl
     have hik : i + k < ws'.length := by omega
     have hik2 : ((i : Int) + k).toNat = i + k := by omega
     have ewk : IntKind.i64.wrap ((i : Int) + k) = (i : Int) + k := w64 (by omega) (by omega)
     have hgo := o_27 hik
     have ho := hs.getD (i + k)
     have hset := fun v => o_8w ws' (i + k) v hik
     generalize hO : ws'.getD (i + k) 0 = o at hgo ho hset
     have e2 : IntKind.i64.wrap ((k : Int) + 1) = (k : Int) + 1 := w64 (by omega) (by omega)
     refine G1 (fs hk' hkp) ?_; try with_reducible exact tt
     generalize B[k] = y at hy hwB ⊢
     have hmul := o_8s x y hx hy
     have l0 : x * y % 18446744073709551616 < 18446744073709551616 := Nat.mod_lt _ (by decide)
     have hxy : x * y ≤ 18446744073709551615 * 18446744073709551615 := Nat.mul_le_mul (by omega) (by omega)
     have hdm := Nat.div_add_mod (x * y) 18446744073709551616
     obtain ⟨hi', hhi⟩ : ∃ q, q = x * y / 18446744073709551616 := ⟨_, rfl⟩
     obtain ⟨lo, hlo⟩ : ∃ q, q = x * y % 18446744073709551616 := ⟨_, rfl⟩
     obtain ⟨xy, hxyd⟩ : ∃ q, q = x * y := ⟨_, rfl⟩
     rw [← hhi, ← hlo] at hmul
     rw [← hlo] at l0
     rw [← hhi, ← hlo, ← hxyd] at hdm
     rw [← hxyd] at hxy
     obtain ⟨l1, k1, hl1, hll1, hk1⟩ : ∃ l1 k1 : Nat, lo + o + 0 = l1 + 18446744073709551616 * k1 ∧ l1 < 18446744073709551616 ∧ k1 ≤ 1 := ⟨(lo + o) % 18446744073709551616, (lo + o) / 18446744073709551616, by omega, by omega, by omega⟩
     obtain ⟨l2, k2, hl2, hll2, hk2⟩ : ∃ l2 k2 : Nat, l1 + c + 0 = l2 + 18446744073709551616 * k2 ∧ l2 < 18446744073709551616 ∧ k2 ≤ 1 := ⟨(l1 + c) % 18446744073709551616, (l1 + c) / 18446744073709551616, by omega, by omega, by omega⟩
     have htot : xy + o + c = l2 + 18446744073709551616 * (hi' + k1 + k2) := by omega
     have hhl : hi' + k1 + k2 < 18446744073709551616 := by omega
     have w1 : IntKind.u64.wrap ((hi' : Int) + k1) = ((hi' + k1 : Nat) : Int) := wu64 (by omega) (by omega)
     have w2 : IntKind.u64.wrap (((hi' + k1 : Nat) : Int) + k2) = ((hi' + k1 + k2 : Nat) : Int) := wu64 (by omega) (by omega)
     clear hhi hlo
     refine CallS.pu (hmul) (R1 (fs hg (fs hgo (fs hik2 ewk))) ?_); try with_reducible exact tt
     generalize hi' + k1 = h1 at *
     generalize h1 + k2 = h2 at *
     refine CallS.pu (o_20 lo o 0 l1 k1 l0 ho (by omega) hll1 hl1) (R1 w1 ?_); try with_reducible exact tt
     refine CallS.pu (o_20 l1 c 0 l2 k2 hll1 hc (by omega) hll2 hl2) (R1 (fs w2 (fs hg (fs hik2 (fs ewk (fs eset e2))))) ?_); try with_reducible exact tt
     refine ⟨k + 1, h2, ws'.set (i + k) l2, ⟨hk', hhl, by simpa using hl, o_l6 hs _ _ hll2, ?_, fun j hj => ?_⟩, by omega, by simp, Subs.refl _, o_d _ _⟩
     ·have hs2 := hset l2
      have e1 : x * wval (B.take (k + 1)) = x * wval (B.take k) + 18446744073709551616 ^ k * xy := by
       rw [o_8, ← hwB, Nat.mul_add, hxyd]
       congr 1
       rw [← Nat.mul_assoc, Nat.mul_comm x, Nat.mul_assoc]
      rw [e1, Nat.mul_add, ← Nat.mul_assoc (18446744073709551616 ^ i) (18446744073709551616 ^ k) xy, ← Nat.pow_add, ← Nat.add_assoc i k 1, Nat.pow_succ]
      exact o_x3 hs2 hv htot
     ·have h1 := hz j hj
      rw [← List.getD_eq_getElem?_getD]
      rw [List.getD] at h1 ⊢
      rw [List.getElem?_set_ne (by omega)]
      exact h1
    ·simp [hk'] at h
  ·simp [hi'] at h
end
end Go.Proofs.YtijbgbpjionfjaaGreatDoor.Am
