/- Parts of the proof: TailF, TailG, Mor3, Mor4, Mor5, TailH, TailI, TailJ, PmfEb, TailK, TailM2, TailT, TailO, TmL. -/
import Derived.Test.YtjbcbbfhcbnncaaGreatDoorPf
set_option linter.unusedVariables false
set_option linter.unusedSimpArgs false
set_option maxRecDepth 100000
namespace Go.Proofs.YtjbcbbfhcbnncaaGreatDoor.Am
section
open Go.RowKit
theorem o_121 {k a w : Nat} (h : GoodS k a w) {s : St} (hs : okQ (topC w) s) (n : Nat) (hn : n ≤ 15) :
  Eqn Tryz.prog o_av [.d (parD k a w), .d (.sl (atQ (dstQ k a w s n)).length (spD rcD (atQ (dstQ k a w s n))))] [] (.d (.sl (atQ (dstQ k a w s (n + 1))).length (spD rcD (atQ (dstQ k a w s (n + 1)))))) [] := by
 refine Eqn.pure o_ax Plain.ok ?_
 obtain ⟨G, M, hm⟩ := o_120 h hs n hn
 have hc := o_11o hm
 rw [show atQ (mrgG (mgQ (topC w) k a) (atQ (dstQ k a w s n)) oneQ) = atQ (dstQ k a w s (n + 1)) from o_11x (o_11w h) s n] at hc
 have ho := rof1
 have hl := o_vb rcD (fun _ => rfl) (atQ (dstQ k a w s n))
 generalize atQ (dstQ k a w s n) = A at *
 generalize atQ (dstQ k a w s (n + 1)) = A' at *
 obtain ⟨O1, O2, O3, hO⟩ : ∃ O1 O2 O3, rcD 1 = [O1, O2, O3] := ⟨_, _, _, rfl⟩
 have h1 : spD rcD oneQ = [.int .i64 1, .int .i64 0, .bool false, O1, O2, O3] := by
  simp [oneQ, spD, stD, hO]
 have h2 : oneQ.length = 1 := rfl
 rw [h1, h2] at hc
 rw [o_wj, hO] at ho
 simp only [o_aw, parD] at hc ⊢
 generalize spD rcD A = LA at *
 generalize spD rcD A' = LA' at *
 refine A00 ?_; try with_reducible exact tt
 refine CallS.pu (ho) (R0 ?_); try with_reducible exact tt
 refine A00 ?_; try with_reducible exact tt
 refine CallS.pf 1 6 ⟨75, _⟩ [.int .i64 1, .int .i64 0, .bool false, O1, O2, O3] (hc) (by first | rfl | (simp; done)) (R0 ?_); try with_reducible exact tt
end
section
open Go.RowKit
theorem o_122 (s : St) : atQ [(s, (1 : Rat))] = [(s, 1)] := by
 have : nzQ [(s, (1 : Rat))] = [(s, 1)] := by simp [nzQ]
 rw [atQ, this, List.mergeSort_singleton]
def losQ (k a w : Nat) (s : St) : Nat → Rat
 | 0 => 0
 | i + 1 => losQ k a w s i + exQ (plQ (topI (topC w))) (atQ (dstQ k a w s i))
def topS (w : Nat) : St → Rat := plQ (topI (topC w))
set_option maxHeartbeats 8000000 in
theorem o_123 {k a w : Nat} (h : GoodS k a w) {s : St} (hs : okQ (topC w) s) (n : Nat) (hn : n ≤ 15)
  (hrs : ∀ i, i ≤ n → ∀ j, j ≤ (atQ (dstQ k a w s i)).length → RS (losQ k a w s i + sumQ (topS w) (atQ (dstQ k a w s i)) j) 100000) (hrp : ∀ i, i ≤ n → ∀ p ∈ atQ (dstQ k a w s i), RS p.2 100000) :
  Eqn Tryz.prog o_7m [.d (parD k a w), .d (.agg (stD s)), .d (.int .i64 n)] [] (.tup [.d (rD (losQ k a w s n)), .d (.int .i64 0)]) [] := by
 refine Eqn.pure o_7o (o_ki _ _) ?_
 have hk4 : ¬ (k : Int) = 4 := by have := h.1; omega
 have hw4 := h.2.2
 have hk4' : ¬ k = 4 := by have := h.1; omega
 have hof := o_110 h h.2.2 s (wellQ h hs) hs n hn
 have ho := rof1
 have h8 : 2 ^ w ≤ 16 := Nat.pow_le_pow_right (n := 2) (by omega) h.2.2
 have h8' := Nat.two_pow_pos w
 have e0 : (2 : Int) ^ w = (2 ^ w : Nat) := by rw [Int.natCast_pow]; rfl
 have eT : topC w = 2 ^ w - 1 := rfl
 have hd0 : atQ (dstQ k a w s 0) = [(s, 1)] := o_122 s
 obtain ⟨T, hT⟩ : ∃ T, T = topC w := ⟨_, rfl⟩
 have hnx := fun i (hi : i < n) => o_121 h hs i (by omega)
 have hst : ∀ i, ∀ p ∈ atQ (dstQ k a w s i), topS w p.1 = if p.1.1 = T then 1 else 0 := fun i p hp => by rw [hT]; rfl
 have hlen := fun i => (o_11z h hs i).2
 have hls : ∀ i, losQ k a w s (i + 1) = losQ k a w s i + sumQ (topS w) (atQ (dstQ k a w s i)) (atQ (dstQ k a w s i)).length := fun i => by rw [o_10o]; rfl
 have hz : losQ k a w s 0 = 0 := rfl
 obtain ⟨Z, hZ⟩ : ∃ Z, Z = losQ k a w s := ⟨_, rfl⟩
 obtain ⟨F, hF⟩ : ∃ F : Nat → Sp, F = fun i => atQ (dstQ k a w s i) := ⟨_, rfl⟩
 have eF : ∀ i, atQ (dstQ k a w s i) = F i := fun i => by rw [hF]
 simp only [eF] at hnx hst hlen hls hd0 hof hrs hrp
 rw [← hZ] at hls hz hrs ⊢
 have eS : (2 ^ w : Nat) = T + 1 := by rw [hT, eT]; omega
 have e1 : IntKind.i64.wrap ((2 ^ w : Nat) : Int) = ((2 ^ w : Nat) : Int) := w64 (by omega) (by omega)
 have e2 : IntKind.i64.wrap (((2 ^ w : Nat) : Int) - 1) = (T : Int) := by rw [eS, w64 (by omega) (by omega)]; omega
 have hzz : rcD (Z 0) = [natW 0, .bool false, natW 0] := by rw [hz]; rfl
 obtain ⟨O1, O2, O3, hO⟩ : ∃ O1 O2 O3, rcD 1 = [O1, O2, O3] := ⟨_, _, _, rfl⟩
 have h1 : spD rcD (F 0) = [.int .i64 s.1, .int .i64 s.2.1, .bool s.2.2, O1, O2, O3] := by
  rw [hd0]; simp [spD, stD, hO]
 have h2 : (F 0).length = 1 := by rw [hd0]; rfl
 rw [o_wj, hO] at ho
 have hset : ∀ i, (spD rcD (F i)).length = (F i).length * 6 := fun i => o_vb rcD (fun _ => rfl) _
 clear hZ hF eF eT hT
 generalize hFn : F n = FN at hof
 simp only [o_7n, parD, stD] at hof hnx ⊢
 generalize spD rcD FN = LN at hof
 generalize 2 ^ w = S at *
 refine A10 (fs hk4 hk4') ?_; try with_reducible exact tt
 refine CallS.pu (hof) (R0 ?_); try with_reducible exact tt
 refine A10 (fs e0 (fs e1 e2)) ?_; try with_reducible exact tt
 refine CallS.pu (ho) (R0 ?_); try with_reducible exact tt
 refine AW.freeze 3 6 ⟨75, ([.int .i64 s.1, .int .i64 s.2.1, .bool s.2.2, O1, O2, O3] : List D).map V.d⟩ [.int .i64 s.1, .int .i64 s.2.1, .bool s.2.2, O1, O2, O3] (by simp) (by rfl) ?_
 simp [frzH]
 rw [← h1]
 refine A00 ?_; try with_reducible exact tt
 refine AW.loopW (α := Nat) (fun i => setS (List.replicate 62 .junk) [(2, .d (.int .i64 n)), (3, .p 0 0), (4, .p 1 0), (6, .p 2 0), (10, .d (.int .i64 T)), (11, .d (.sl (F i).length (spD rcD (F i)))), (12, .p 4 0), (38, .d (.int .i64 n)), (39, .d (.int .i64 (i : Nat)))]) (fun i => [some ⟨62, [.d (.int .i64 k), .d (.int .i64 a), .d (.int .i64 w)]⟩, some ⟨64, [.d (.int .i64 s.1), .d (.int .i64 s.2.1), .d (.bool s.2.2)]⟩, some ⟨47, [.d .nilsl, .d (.bool false), .d .nilsl]⟩, none, some ⟨47, (rcD (Z i)).map .d⟩]) (fun i => i ≤ n) (fun i => n - i) 5 (fun _ => rfl) (Nat.zero_le _) 0 (Nat.zero_le _) ?_ ?_ ?_
 ·simp [h2]
 ·simp [hzz]
  exact Subs.cons Sub1.nil (Subs.cons (Sub1.refl _) (Subs.cons Sub1.nil (Subs.refl _)))
 rintro i hi
 simp
 have hLl := hset i
 have hget := o_yl (F i)
 have hz0 : sumQ (topS w) (F i) 0 = 0 := rfl
 have hrsi := hrs i hi
 have hrpi := hrp i hi
 have hsti := hst i
 have hlsi := hls i
 have hFl := hlen i
 by_cases hi2 : i < n
 ·have hi3 : (i : Int) < n := by omega
  have hnxi := hnx i hi2
  have ewi : IntKind.i64.wrap ((i : Int) + 1) = ((i + 1 : Nat) : Int) := by rw [w64 (by omega) (by omega)]; omega
  obtain ⟨L, hL⟩ : ∃ L, L = F i := ⟨_, rfl⟩
  rw [← hL] at hLl hget hz0 hrsi hrpi hsti hlsi hFl hnxi ⊢
  refine A10 (fs hi2 hi3) ?_; try with_reducible exact tt
  refine AW.loopW (α := Nat) (fun j => setS (List.replicate 62 .junk) [(2, .d (.int .i64 n)), (3, .p 0 0), (4, .p 1 0), (6, .p 2 0), (10, .d (.int .i64 T)), (11, .d (.sl L.length (spD rcD L))), (12, .p 4 0), (38, .d (.int .i64 n)), (39, .d (.int .i64 (i : Nat))), (41, .d (.sl L.length (spD rcD L))), (42, .d (.int .i64 L.length)), (43, .d (.int .i64 (j : Nat)))]) (fun j => [some ⟨62, [.d (.int .i64 k), .d (.int .i64 a), .d (.int .i64 w)]⟩, some ⟨64, [.d (.int .i64 s.1), .d (.int .i64 s.2.1), .d (.bool s.2.2)]⟩, some ⟨47, [.d .nilsl, .d (.bool false), .d .nilsl]⟩, none, some ⟨47, (rcD (Z i + sumQ (topS w) L j)).map .d⟩]) (fun j => j ≤ L.length) (fun j => L.length - j) 5 (fun _ => rfl) (Nat.zero_le _) 0 (Nat.zero_le _) ?_ ?_ ?_
  ·simp
  ·simp [hz0, Rat.add_zero]
  rintro j hj
  simp
  by_cases hj2 : j < L.length
  ·have hj3 : (j : Int) < L.length := by omega
   have ewj : IntKind.i64.wrap ((j : Int) + 1) = ((j + 1 : Nat) : Int) := by rw [w64 (by omega) (by omega)]; omega
   obtain ⟨s1, s2, s3, q, N1, N2, N3, hp, hN, hg⟩ := hget j hj2
   have hsj := hsti _ (List.getElem_mem hj2)
   have hrj := hrpi _ (List.getElem_mem hj2)
   have hnj := o_10n (topS w) L j hj2
   rw [hp] at hsj hrj hnj
   simp only at hsj hrj hnj
   rw [hsj] at hnj
   have had := o_oj (Z i + sumQ (topS w) L j) q (hrsi j hj) hrj
   have hb6 : j * 6 + 6 ≤ L.length * 6 := by omega
   have hb7 : j * 6 < L.length * 6 := by omega
   obtain ⟨A1, A2, A3, hA⟩ : ∃ A1 A2 A3, rcD (Z i + sumQ (topS w) L j) = [A1, A2, A3] := ⟨_, _, _, rfl⟩
   obtain ⟨B1, B2, B3, hB⟩ : ∃ B1 B2 B3, rcD (Z i + sumQ (topS w) L j + q) = [B1, B2, B3] := ⟨_, _, _, rfl⟩
   simp only [o_wj] at had
   rw [hA, hB, hN] at had
   rw [hA]
   by_cases ht : s1 = T
   ·have ht' : (s1 : Int) = T := by omega
    rw [if_pos ht, Rat.mul_one] at hnj
    refine A10 (fs hj2 (fs hj3 (fs hLl (fs hg (fs hb6 (fs hb7 (fs ht ht'))))))) ?_; try with_reducible exact tt
    refine CallS.pu (had) (R0 ?_); try with_reducible exact tt
    refine A10 ewj ?_; try with_reducible exact tt
    refine ⟨j + 1, by omega, by omega, ?_, ?_⟩
    ·exact Sub1.int (by omega)
    ·rw [hnj, ← Rat.add_assoc, hB]; exact Subs.refl _
   ·have ht' : ¬ (s1 : Int) = T := by omega
    rw [if_neg ht, Rat.mul_zero, Rat.add_zero] at hnj
    refine A10 (fs hj2 (fs hj3 (fs hLl (fs hg (fs hb6 (fs hb7 (fs ht ht'))))))) ?_; try with_reducible exact tt
    refine A10 ewj ?_; try with_reducible exact tt
    refine ⟨j + 1, by omega, by omega, ?_, ?_⟩
    ·exact Sub1.int (by omega)
    ·rw [hnj, hA]; exact Subs.refl _
  ·have h2 : j = L.length := by omega
   subst h2
   rw [← hlsi]
   refine A00 ?_; try with_reducible exact tt
   refine CallS.pu (hnxi) (R0 ?_); try with_reducible exact tt
   refine A10 ewi ?_; try with_reducible exact tt
   exact ⟨i + 1, by omega, by omega, ⟨Sub1.refl _, Sub1.int (by omega)⟩, Subs.refl _⟩
 ·have h2 : i = n := by omega
  subst h2
  obtain ⟨A1, A2, A3, hA⟩ : ∃ A1 A2 A3, rcD (Z i) = [A1, A2, A3] := ⟨_, _, _, rfl⟩
  rw [o_wj, hA]
  refine A00 ?_; try with_reducible exact tt
end
section
open Go.RowKit
def zeroR : D := .agg [natW 0, .bool false, natW 0]
end
section
open Go.RowKit
def svM (a k i : Nat) : Nat := a ^ (k - i) * (a + 1) ^ i - a ^ k
end
section
open Go.RowKit
theorem o_124 {x y : Rat} (h : x * y = 1) : ∀ n : Nat, x ^ n * y ^ n = 1
 | 0 => by simp
 | n + 1 => by
  have := o_124 h n
  rw [Rat.pow_succ, Rat.pow_succ]
  grind
theorem o_125 {a : Nat} (ha : 1 ≤ a) (k : Nat) : valM a k + 1 / chM a k = valM a (k + 1) := by
 have h := o_r6 ha k
 have e : chM a k * mkRat ((a + 1 : Nat) : Int) a ^ k = 1 := by
  unfold chM
  refine o_124 ?_ k
  have : mkRat (a : Int) (a + 1) * mkRat ((a + 1 : Nat) : Int) a = 1 := by
   rw [Rat.mkRat_mul_mkRat, Int.mul_comm, Rat.mkRat_eq_div]
   have n1 : (((a + 1) * a : Nat) : Rat) ≠ 0 := o_y8 (Nat.mul_pos (by omega) ha)
   have : (((a + 1 : Nat) : Int) * (a : Int) : Int) = (((a + 1) * a : Nat) : Int) := by simp
   rw [this]
   rw [Rat.div_def]; exact Rat.mul_inv_cancel _ n1
  exact this
 generalize mkRat ((a + 1 : Nat) : Int) a ^ k = y at *
 generalize chM a k = x at *
 have hx : x ≠ 0 := fun h0 => by rw [h0] at e; simp at e
 have : 1 / x = y := by
  rw [← e]
  grind
 rw [this]; grind
end
section
open Go.RowKit
theorem o_126 (d : Nat) : valF d 0 = 0 := by simp [valF]
theorem o_127 (d x : Nat) : valF d (x + 1) = valF d x + 2 ^ (x / 2 ^ d) := by
 unfold valF
 obtain ⟨S, hS⟩ : ∃ S, S = 2 ^ d := ⟨_, rfl⟩
 have hp : 0 < S := by rw [hS]; exact Nat.two_pow_pos d
 rw [← hS]
 obtain ⟨q, hq⟩ : ∃ q, q = x / S := ⟨_, rfl⟩
 obtain ⟨r, hr⟩ : ∃ r, r = x % S := ⟨_, rfl⟩
 have hx : x = S * q + r := by rw [hq, hr]; exact (Nat.div_add_mod x S).symm
 have hlt : r < S := by rw [hr]; exact Nat.mod_lt _ hp
 rw [← hq, ← hr]
 have hP : 0 < 2 ^ q := Nat.two_pow_pos q
 have hb : S ≤ (S + r) * 2 ^ q := Nat.le_trans (Nat.le_add_right S r) (Nat.le_mul_of_pos_right _ hP)
 by_cases h : r + 1 < S
 ·have e1 : (x + 1) / S = q := by
   rw [hx, Nat.add_assoc, Nat.mul_add_div hp, Nat.div_eq_of_lt h]; rfl
  have e2 : (x + 1) % S = r + 1 := by
   rw [hx, Nat.add_assoc, Nat.mul_add_mod, Nat.mod_eq_of_lt h]
  rw [e1, e2, show S + (r + 1) = S + r + 1 by omega, Nat.add_mul (S + r) 1, Nat.one_mul]
  omega
 ·have hr1 : r + 1 = S := by omega
  have e1 : (x + 1) / S = q + 1 := by
   rw [hx, Nat.add_assoc, hr1, Nat.mul_add_div hp, Nat.div_self hp]
  have e2 : (x + 1) % S = 0 := by
   rw [hx, Nat.add_assoc, hr1, Nat.mul_add_mod, Nat.mod_self]
  rw [e1, e2, Nat.add_zero, Nat.pow_succ]
  have e3 : S * (2 ^ q * 2) = (S + r) * 2 ^ q + 2 ^ q := by
   rw [← Nat.succ_mul, show (S + r).succ = S * 2 by omega, Nat.mul_assoc, Nat.mul_comm 2]
  omega
theorem o_128 (s x : Nat) : (placeY s (x + 1)).value = (placeY s x).value + 2 ^ (placeY s x).shift := by
 show (nextY s (placeY s x)).value = _
 unfold nextY
 split <;> rfl
theorem o_129 (v e : Nat) : mkRat 1 (2 ^ e) * (((v + 2 ^ e : Nat) : Rat) - (v : Rat)) = 1 := by
 have h1 : ((v + 2 ^ e : Nat) : Rat) - (v : Rat) = ((2 ^ e : Nat) : Rat) := by
  rw [Rat.natCast_add]; grind
 have h2 : ((2 ^ e : Nat) : Rat) ≠ 0 := o_y8 (Nat.two_pow_pos e)
 rw [h1, Rat.mkRat_eq_div]
 have : ((1 : Int) : Rat) = 1 := rfl
 rw [this, Rat.div_mul_cancel h2]
theorem o_12a {k a w : Nat} (h : GoodS k a w) : ValOK (topC w) (chP k a) (valC k a) := by
 obtain ⟨c0, c1⟩ := o_z1 h
 refine ⟨?_, fun x hx => ?_, c0, c1⟩
 ·unfold valC
  split
  ·have : ((1 : Nat) : Rat) = 1 := rfl
   rw [valM, Rat.pow_zero, this]; grind
  ·split
   ·rw [o_126]; rfl
   ·rfl
 ·unfold chP valC
  by_cases hk : k = 1
  ·rw [if_pos hk, if_pos hk, if_pos hk]
   have ha : 1 ≤ a := by
    have := h.1
    rcases this with h1 | h1 | h1 <;> omega
   have hn := o_125 ha x
   have hne := o_zc ha x
   have : valM a (x + 1) - valM a x = 1 / chM a x := by rw [← hn]; grind
   rw [this, Rat.mul_comm, Rat.div_mul_cancel hne]
  ·rw [if_neg hk, if_neg hk, if_neg hk]
   unfold expOf
   by_cases h2 : k = 2
   ·rw [if_pos h2, if_pos h2, if_pos h2, o_127]
    exact o_129 _ _
   ·rw [if_neg h2, if_neg h2, if_neg h2, o_128]
    exact o_129 _ _
end
section
open Go.RowKit
def grB (D C : Nat) (q : Rat) : Bool := (q * (D : Rat)).den == 1 && decide (0 ≤ (q * (D : Rat)).num) && decide ((q * (D : Rat)).num.toNat ≤ C * D)
theorem o_12b {D C : Nat} {q : Rat} (h : grB D C q = true) : Gr D C q := by
 unfold grB at h
 simp only [Bool.and_eq_true, beq_iff_eq, decide_eq_true_eq] at h
 obtain ⟨⟨h1, h2⟩, h3⟩ := h
 refine ⟨(q * (D : Rat)).num.toNat, ?_, h3⟩
 generalize q * (D : Rat) = y at *
 have h4 : ((y.num.toNat : Nat) : Int) = y.num := Int.toNat_of_nonneg h2
 refine Rat.ext ?_ ?_
 ·rw [Rat.num_natCast, h4]
 ·rw [Rat.den_natCast, h1]
def valAll : Bool := [(1, 1), (1, 2), (1, 3), (1, 4), (2, 0), (2, 1), (3, 1), (3, 2)].all fun z => (List.range 16).all fun x => grB (12 ^ 15) (2 ^ 24) (valC z.1 z.2 x)
theorem o_12c : valAll = true := by kernel_rfl
theorem o_12d {k a w : Nat} (h : GoodS k a w) (x : Nat) (hx : x ≤ 15) : Gr (12 ^ 15) (2 ^ 24) (valC k a x) := by
 have h1 := o_12c
 unfold valAll at h1
 rw [List.all_eq_true] at h1
 have h2 := h1 (k, a) (by
  rcases h.1 with ⟨rfl, h2, h3⟩ | ⟨rfl, h2⟩ | ⟨rfl, h2, h3⟩
  ·have : a = 1 ∨ a = 2 ∨ a = 3 ∨ a = 4 := by omega
   rcases this with rfl | rfl | rfl | rfl <;> simp
  ·have : a = 0 ∨ a = 1 := by omega
   rcases this with rfl | rfl <;> simp
  ·have : a = 1 ∨ a = 2 := by omega
   rcases this with rfl | rfl <;> simp)
 rw [List.all_eq_true] at h2
 exact o_12b (h2 x (List.mem_range.2 (by omega)))
theorem o_12e {D B : Nat} {g : St → Rat} {L : Sp} (h : ∀ p ∈ L, Gr D B (p.2 * g p.1)) : ∀ i, i ≤ L.length → Gr D (i * B) (sumQ g L i)
 | 0, _ => by rw [Nat.zero_mul]; exact Gr.zero _ _
 | i + 1, hi => by
  rw [o_10n g L i hi, Nat.add_mul, Nat.one_mul]
  exact (o_12e h i (by omega)).add (h _ (List.getElem_mem hi))
theorem o_12f {D B : Nat} {x y : Rat} (h : Gr D B x) (hy : y = 0 ∨ y = 1) : Gr D B (x * y) := by
 rcases hy with rfl | rfl
 ·rw [Rat.mul_zero]; exact Gr.zero _ _
 ·rw [Rat.mul_one]; exact h
theorem o_12g {k a w : Nat} (h : GoodS k a w) {s : St} (hs : okQ (topC w) s) (n : Nat) (hn : n ≤ 15) : TailRS k a w (atQ (dstQ k a w s n)) := by
 have h8 : 2 ^ w ≤ 16 := Nat.pow_le_pow_right (n := 2) (by omega) h.2.2
 have h7 : topC w ≤ 15 := by unfold topC; omega
 have hk4 : ¬ k = 4 := by have := h.1; omega
 obtain ⟨c0, c1⟩ := o_z1 h
 obtain ⟨G0, hG, hG63, hc⟩ := o_y9 h
 have mem : ∀ p ∈ atQ (dstQ k a w s n), p ∈ dstQ k a w s n := fun p hp => (List.mem_filter.1 ((o_vs _).mem_iff.1 hp)).1
 have gA : ∀ p ∈ atQ (dstQ k a w s n), Gr (G0 ^ n) (80 ^ n) p.2 := fun p hp => o_10y h7 c0 c1 (fun x hx => hc x (by omega)) hs n p (mem p hp)
 have okA : oklQ (topC w) (atQ (dstQ k a w s n)) := o_wa (o_we (c := chP k a) c0 c1 hs n)
 have hl := (o_11z h hs n).2
 have hv : ∀ p ∈ atQ (dstQ k a w s n), Gr (12 ^ 15) (2 ^ 24) (vlQ k a w p.1) := fun p hp => by
  have := (okA p hp).1.1
  show Gr _ _ (valR k a w p.1.1 p.1.2.1)
  unfold valR
  rw [if_neg hk4]
  exact o_12d h _ (by omega)
 obtain ⟨A, hA⟩ : ∃ A, A = atQ (dstQ k a w s n) := ⟨_, rfl⟩
 rw [← hA] at gA okA hl hv ⊢
 obtain ⟨D, hD⟩ : ∃ D, D = G0 ^ n := ⟨_, rfl⟩
 obtain ⟨B, hB⟩ : ∃ B, B = 80 ^ n := ⟨_, rfl⟩
 obtain ⟨E, hE⟩ : ∃ E, E = 12 ^ 15 := ⟨_, rfl⟩
 obtain ⟨C, hC⟩ : ∃ C, C = 2 ^ 24 := ⟨_, rfl⟩
 have sG : size G0 ≤ 1 := o_md (Nat.lt_of_le_of_lt hG63 (by decide))
 have sD : size D ≤ 20 := by rw [hD]; have := o_yz G0 sG n; omega
 have sB : size B ≤ 20 := by rw [hB]; have := o_yz 80 (o_md (by decide)) n; omega
 have sE : size E ≤ 1 := by rw [hE]; exact o_md (by decide)
 have sC : size C ≤ 1 := by rw [hC]; exact o_md (by decide)
 have Dp : 0 < D := by rw [hD]; exact Nat.pow_pos hG
 have Bp : 1 ≤ B := by rw [hB]; exact Nat.pow_pos (by decide)
 have Ep : 0 < E := by rw [hE]; decide
 have Cp : 1 ≤ C := by rw [hC]; decide
 rw [← hD, ← hB] at gA
 rw [← hE, ← hC] at hv
 have g1 : ∀ p ∈ A, Gr (D * E) (B * C) (p.2 * vlQ k a w p.1) := fun p hp => (gA p hp).mul (hv p hp)
 have g2 : ∀ p ∈ A, Gr (D * (E * E)) (B * (C * C)) (p.2 * vvQ k a w p.1) := fun p hp => (gA p hp).mul ((hv p hp).mul (hv p hp))
 have g3 : ∀ p ∈ A, Gr D B (p.2 * fulI p.1) := fun p hp => o_12f (gA p hp) (by unfold fulI; split <;> simp)
 have s1 := o_o4 D E
 have s2 := o_o4 B C
 have s3 := o_o4 E E
 have s4 := o_o4 C C
 have s5 := o_o4 D (E * E)
 have s6 := o_o4 B (C * C)
 have s0 : size 100 ≤ 1 := o_md (by decide)
 have fin : ∀ (X Y i : Nat) (q : Rat), 0 < X → 1 ≤ Y → size X ≤ 200 → size Y ≤ 200 → i ≤ 100 → Gr X (i * Y) q → RS q 1000 := fun X Y i q hX hY sX sY hi hq => by
  refine (hq.le (C := 100 * Y) (Nat.mul_le_mul_right _ hi)).rs hX (Nat.mul_pos (by decide) hY) ?_
  have a1 := o_o4 (100 * Y) X
  have a2 := o_o4 100 Y
  omega
 have f1 : ∀ (X Y : Nat) (q : Rat), 0 < X → 1 ≤ Y → size X ≤ 200 → size Y ≤ 200 → Gr X Y q → RS q 1000 := fun X Y q hX hY sX sY hq => fin X Y 1 q hX hY sX sY (by omega) (by rw [Nat.one_mul]; exact hq)
 have hsum1 := fun i hi => o_12e g1 i hi
 refine ⟨by omega, fun p hp => wellQ h (okA p hp).1, fun p hp => ⟨(f1 D B _ Dp Bp (by omega) (by omega) (gA p hp)).le (by omega), (f1 E C _ Ep Cp (by omega) (by omega) (hv p hp)).le (by omega), (f1 (E * E) (C * C) _ (Nat.mul_pos Ep Ep) (Nat.mul_pos Cp Cp) (by omega) (by omega) ((hv p hp).mul (hv p hp))).le (by omega), (f1 _ _ _ (Nat.mul_pos Dp Ep) (Nat.mul_pos Bp Cp) (by omega) (by omega) (g1 p hp)).le (by omega), (f1 _ _ _ (Nat.mul_pos Dp (Nat.mul_pos Ep Ep)) (Nat.mul_pos Bp (Nat.mul_pos Cp Cp)) (by omega) (by omega) (g2 p hp)).le (by omega)⟩, fun i hi => ⟨?_, ?_, ?_⟩, ?_⟩
 ·exact fin _ _ i _ (Nat.mul_pos Dp Ep) (Nat.mul_pos Bp Cp) (by omega) (by omega) (by omega) (o_12e g1 i hi)
 ·exact fin _ _ i _ (Nat.mul_pos Dp (Nat.mul_pos Ep Ep)) (Nat.mul_pos Bp (Nat.mul_pos Cp Cp)) (by omega) (by omega) (by omega) (o_12e g2 i hi)
 ·exact fin _ _ i _ Dp Bp (by omega) (by omega) (by omega) (o_12e g3 i hi)
 ·rw [← o_10o]
  have hg := (o_12e g1 A.length (Nat.le_refl _)).le (C := 100 * (B * C)) (Nat.mul_le_mul_right _ (by omega))
  have s7 := o_o4 100 (B * C)
  have s8 := o_o4 (D * E) (D * E)
  have s9 := o_o4 (100 * (B * C)) (100 * (B * C))
  exact f1 _ _ _ (Nat.mul_pos (Nat.mul_pos Dp Ep) (Nat.mul_pos Dp Ep)) (Nat.mul_pos (Nat.mul_pos (by decide) (Nat.mul_pos Bp Cp)) (Nat.mul_pos (by decide) (Nat.mul_pos Bp Cp))) (by omega) (by omega) (hg.mul hg)
end
section
open Go.RowKit
theorem o_12h {k a w : Nat} (h : GoodS k a w) {s : St} (hs : okQ (topC w) s) : ∃ D B : Nat, 0 < D ∧ 1 ≤ B ∧ size D ≤ 20 ∧ size B ≤ 20 ∧ ∀ i, i ≤ 15 → ∀ p ∈ atQ (dstQ k a w s i), Gr D B p.2 := by
 have h8 : 2 ^ w ≤ 16 := Nat.pow_le_pow_right (n := 2) (by omega) h.2.2
 have h7 : topC w ≤ 15 := by unfold topC; omega
 obtain ⟨c0, c1⟩ := o_z1 h
 obtain ⟨G0, hG, hG63, hc⟩ := o_y9 h
 have sG : size G0 ≤ 1 := o_md (Nat.lt_of_le_of_lt hG63 (by decide))
 have s1 := o_yz G0 sG 15
 have s2 := o_yz 80 (o_md (by decide)) 15
 refine ⟨G0 ^ 15, 80 ^ 15, Nat.pow_pos hG, Nat.pow_pos (by decide), by omega, by omega, fun i hi p hp => ?_⟩
 have h1 := o_10y h7 c0 c1 (fun x hx => hc x (by omega)) hs i p (List.mem_filter.1 ((o_vs _).mem_iff.1 hp)).1
 have h2 := h1.scale (G0 ^ (15 - i))
 rw [← Nat.pow_add, show i + (15 - i) = 15 by omega] at h2
 exact h2.le (Nat.pow_le_pow_right (by decide) hi)
theorem o_12i {k a w : Nat} (h : GoodS k a w) (n : Nat) (hn : n ≤ 15) :
  Eqn Tryz.prog o_7m [.d (parD k a w), .d (.agg (stD (0, 0, false))), .d (.int .i64 n)] [] (.tup [.d (rD (lostQ (topC w) (chP k a) n)), .d (.int .i64 0)]) [] ∧ RS (lostQ (topC w) (chP k a) n) 1000 := by
 have hs := okz (topC w)
 obtain ⟨D, B, Dp, Bp, sD, sB, hg⟩ := o_12h h hs
 have hind : ∀ i, i ≤ 15 → ∀ p ∈ atQ (dstQ k a w (0, 0, false) i), Gr D B (p.2 * topS w p.1) := fun i hi p hp => o_12f (hg i hi p hp) (by unfold topS plQ topI; split <;> simp)
 have hsum : ∀ i, i ≤ 15 → ∀ j, j ≤ (atQ (dstQ k a w (0, 0, false) i)).length → Gr D (17 * B) (sumQ (topS w) (atQ (dstQ k a w (0, 0, false) i)) j) := fun i hi j hj =>
  (o_12e (hind i hi) j hj).le (Nat.mul_le_mul_right _ (by have := (o_11z h hs i).2; omega))
 have hlos : ∀ i, i ≤ 15 → Gr D (i * (17 * B)) (losQ k a w (0, 0, false) i) := fun i => by
  induction i with
  | zero => intro _; rw [Nat.zero_mul]; exact Gr.zero _ _
  | succ i ih =>
   intro hi
   rw [Nat.add_mul, Nat.one_mul]
   have h1 := hsum i (by omega) _ (Nat.le_refl _)
   rw [o_10o] at h1
   exact (ih (by omega)).add h1
 have fin : ∀ (c : Nat) (q : Rat), c ≤ 16 → Gr D (c * (17 * B)) q → RS q 1000 := fun c q hc hq => by
  refine (hq.le (C := 272 * B) (by rw [← Nat.mul_assoc]; exact Nat.mul_le_mul_right _ (by omega))).rs Dp (Nat.mul_pos (by decide) Bp) ?_
  have a1 := o_o4 (272 * B) D
  have a2 := o_o4 272 B
  have a3 : size 272 ≤ 1 := o_md (by decide)
  omega
 have e : ∀ i, losQ k a w (0, 0, false) i = lostQ (topC w) (chP k a) i := fun i => by
  induction i with
  | zero => rfl
  | succ i ih =>
   show losQ k a w (0, 0, false) i + exQ (plQ (topI (topC w))) (atQ (dstQ k a w (0, 0, false) i)) = _
   rw [ih, o_vt]; rfl
 have hmain := o_123 h hs n hn (fun i hi j hj => (fin (i + 1) _ (by omega) (by rw [Nat.add_mul, Nat.one_mul]; exact (hlos i (by omega)).add (hsum i (by omega) j hj))).le (by omega)) (fun i hi p hp => (fin 1 _ (by omega) ((hg i (by omega) p hp).le (by omega))).le (by omega))
 rw [e] at hmain
 exact ⟨hmain, by rw [← e]; exact fin n _ (by omega) (hlos n hn)⟩
theorem o_12j {k a w : Nat} (h : GoodS k a w) (n : Nat) (hn : n ≤ 15) : RS (exQ fulI (atQ (dstQ k a w (0, 0, false) n))) 1000 := by
 obtain ⟨D, B, Dp, Bp, sD, sB, hg⟩ := o_12h h (okz (topC w))
 have hl := (o_11z h (okz (topC w)) n).2
 have hs := o_12e (g := fulI) (fun p hp => o_12f (hg n hn p hp) (by unfold fulI; split <;> simp)) _ (Nat.le_refl _)
 rw [o_10o] at hs
 refine (hs.le (C := 17 * B) (Nat.mul_le_mul_right _ hl)).rs Dp (Nat.mul_pos (by decide) Bp) ?_
 have a1 := o_o4 (17 * B) D
 have a2 := o_o4 17 B
 have a3 : size 17 ≤ 1 := o_md (by decide)
 omega
end
section
open Go.RowKit
end
section
open Go.RowKit
theorem o_12k : Eqn Tryz.prog o_6y [] [] (.d (.bool true)) [] := by
 refine Eqn.pure o_70 Plain.ok ?_
 have hG : GoodS 1 1 2 := ⟨.inl ⟨rfl, by omega, by omega⟩, by omega, by omega⟩
 have hof := o_110 hG (by omega) (0, 0, false) (.inr ⟨by omega, rfl, by simp, by simp⟩) ⟨Nat.zero_le _, rfl, by simp⟩ 2 (by omega)
 have hto := o_10w (.inr ⟨by omega, o_rb hG⟩) _ (o_12g hG (okz _) 2 (by omega))
 rw [dst2] at hof hto
 have e1 : exQ (vlQ 1 1 2) [(((1, 0, false) : St), hf2), ((2, 0, false), hf2)] = 2 := by kernel_rfl
 have e2 : varQ 1 1 2 [(((1, 0, false) : St), hf2), ((2, 0, false), hf2)] = 1 := by kernel_rfl
 have e3 : exQ fulI [(((1, 0, false) : St), hf2), ((2, 0, false), hf2)] = 0 := by kernel_rfl
 have e4 : stD3 1 1 2 [(((1, 0, false) : St), hf2), ((2, 0, false), hf2)] = rcD 2 ++ (rcD 1 ++ rcD 0) := by
  unfold stD3; rw [e1, e2, e3]
 rw [e4] at hto
 have t1 := o_v3 2 ⟨by decide +kernel, by decide +kernel⟩
 have t2 := o_v3 1 ⟨by decide +kernel, by decide +kernel⟩
 have t3 := o_v3 0 ⟨by decide +kernel, by decide +kernel⟩
 have s1 : (txtQ 2).toList = [50] := by kernel_rfl
 have s2 : (txtQ 1).toList = [49] := by kernel_rfl
 have s3 : (txtQ 0).toList = [48] := by kernel_rfl
 obtain ⟨A1, A2, A3, hA⟩ : ∃ A1 A2 A3, rcD 2 = [A1, A2, A3] := ⟨_, _, _, rfl⟩
 obtain ⟨B1, B2, B3, hB⟩ : ∃ B1 B2 B3, rcD 1 = [B1, B2, B3] := ⟨_, _, _, rfl⟩
 obtain ⟨C1, C2, C3, hC⟩ : ∃ C1 C2 C3, rcD 0 = [C1, C2, C3] := ⟨_, _, _, rfl⟩
 rw [hA, hB, hC] at hto
 rw [o_wj, hA] at t1
 rw [o_wj, hB] at t2
 rw [o_wj, hC] at t3
 simp only [o_6z, parD, stD] at hof hto ⊢
 generalize spD rcD [(((1, 0, false) : St), hf2), ((2, 0, false), hf2)] = LL at *
 generalize txtQ 2 = S1 at *
 generalize txtQ 1 = S2 at *
 generalize txtQ 0 = S3 at *
 simp at hof hto
 refine A00 ?_; try with_reducible exact tt
 refine CallS.pu (hof) (R0 ?_); try with_reducible exact tt
 refine A00 ?_; try with_reducible exact tt
 refine CallS.pu (hto) (R0 ?_); try with_reducible exact tt
 refine A00 ?_; try with_reducible exact tt
 refine CallS.pu (t1) (R1 s1 ?_); try with_reducible exact tt
 refine CallS.pu (t2) (R1 s2 ?_); try with_reducible exact tt
 refine CallS.pu (t3) (R1 s3 ?_); try with_reducible exact tt
end
section
open Go.RowKit
theorem o_12l (k a b : Int) : ∃ K A B : Nat, GoodS K A B ∧ Eqn Tryz.prog o_71 [.d (parD k a b)] [] (.d (parD K A B)) [] := by
 obtain ⟨K, A, B, hsr, hsm⟩ := o_s8 k a b
 obtain ⟨Y, T, F, hw, hs1⟩ := hsm 0 0 false
 by_cases h4 : K = 4
 ·subst h4
  obtain ⟨A', hA, hA7, -⟩ := o_qp (A : Int) 1 (by omega)
  replace hA : bits BinOp.and IntKind.i64 (A : Int) 1 = A' := hA
  obtain ⟨B', hB, hB7, -⟩ := o_qp (B : Int) 3 (by omega)
  replace hB : bits BinOp.and IntKind.i64 (B : Int) 3 = B' := hB
  have e1 : IntKind.i64.wrap (1 + (B' : Int)) = ((1 + B' : Nat) : Int) := by rw [w64 (by omega) (by omega)]; omega
  refine ⟨2, A', 1 + B', ⟨.inr (.inl ⟨rfl, by omega⟩), by omega, by omega⟩, ?_⟩
  refine Eqn.pure o_73 (o_58 _) ?_
  simp only [o_72, parD, tsD] at hs1 ⊢
  refine A00 ?_; try with_reducible exact tt
  refine CallS.pu (hs1) (R1 (fs hA (fs hB e1)) ?_); try with_reducible exact tt
  refine A10 (fs hA (fs hB e1)) ?_; try with_reducible exact tt
 ·rcases hsr with ⟨h, -⟩ | ⟨-, h⟩
  ·exact absurd h h4
  refine ⟨K, A, B, h, ?_⟩
  have h4' : ¬ (K : Int) = 4 := by omega
  refine Eqn.pure o_73 (o_58 _) ?_
  simp only [o_72, parD, tsD] at hs1 ⊢
  refine A00 ?_; try with_reducible exact tt
  refine CallS.pu (hs1) (R1 (fs h4 h4') ?_); try with_reducible exact tt
  refine A10 (fs h4 h4') ?_; try with_reducible exact tt
end
section
open Go.RowKit
theorem o_12m (bs : ByteArray) : ∀ (n i : Nat) (r : List UInt8), bs.size - i = n → (ByteArray.toList.loop bs i r).length = r.length + n
 | 0, i, r, h => by
  rw [ByteArray.toList.loop, if_neg (by omega)]; simp
 | n + 1, i, r, h => by
  rw [ByteArray.toList.loop, if_pos (by omega), o_12m bs n (i + 1) _ (by omega)]
  simp; omega
theorem o_12n (bs : ByteArray) : bs.toList.length = bs.size := by
 unfold ByteArray.toList
 rw [o_12m bs bs.size 0 [] (by omega)]; simp
theorem o_12o (n : Nat) : 1 ≤ ndig n := by rw [ndig]; split <;> omega
theorem o_12p : ((List.range 9).all fun n => !((txt (n + 1)).toList == [48])) = true := by kernel_rfl
theorem o_12q (n : Nat) (h : n ≠ 0) : (txt n).toList ≠ [48] := fun e => by
 have h1 := o_12n (txt n)
 rw [e, o_ux] at h1
 have h2 : n < 10 := by
  rcases Nat.lt_or_ge n 10 with h3 | h3
  ·exact h3
  ·have := o_12o (n / 10)
   rw [ndig, if_neg (by omega)] at h1
   simp at h1
   omega
 have h3 := o_12p
 rw [List.all_eq_true] at h3
 have h4 := h3 (n - 1) (List.mem_range.2 (by omega))
 rw [show n - 1 + 1 = n by omega, e] at h4
 cases h4
theorem o_12r (z : Int) : 1 ≤ (txtZ z).size := by
 unfold txtZ
 split
 ·rw [ByteArray.size_append, o_ux]; have := o_12o z.natAbs; omega
 ·rw [o_ux]; exact o_12o _
theorem o_12s {q : Rat} (h : q ≠ 0) : (txtQ q).toList ≠ [48] := fun e => by
 have h1 := o_12n (txtQ q)
 rw [e] at h1
 unfold txtQ at e h1
 split at h1
 ·rename_i hd
  rw [if_pos hd] at e
  have hz : q.num ≠ 0 := fun hz => h (Rat.num_eq_zero.1 hz)
  unfold txtZ at e h1
  split at h1
  ·rw [ByteArray.size_append, o_ux] at h1
   have := o_12o q.num.natAbs
   have h2 : (⟨#[45]⟩ : ByteArray).size = 1 := rfl
   simp at h1
   omega
  ·rename_i hneg
   rw [if_neg hneg] at e
   exact o_12q _ (by omega) e
 ·have h3 := o_12r q.num
  have h4 := o_12o q.den
  rw [ByteArray.size_append, ByteArray.size_append, o_ux] at h1
  simp at h1
  omega
end
section
open Go.RowKit
set_option maxHeartbeats 8000000 in
theorem o_12t (k a b n : Int) : Eqn Tryz.prog o_6j [.d (parD k a b), .d (.int .i64 n)] [] (.d (.bool true)) [] := by
 refine Eqn.pure o_6l Plain.ok ?_
 obtain ⟨K, A, B, hG, hch⟩ := o_12l k a b
 obtain ⟨n', hn, hn15, -⟩ := o_qp n 15 (by omega)
 replace hn : bits BinOp.and IntKind.i64 n 15 = n' := hn
 have haw := o_12k
 have hwn := o_s5 K A B
 have hof := o_110 hG hG.2.2 (0, 0, false) (wellQ hG (okz _)) (okz _) n' hn15
 have hrs := o_12g hG (okz _) n' hn15
 have hto := o_10w (.inr ⟨by have := hG.1; omega, o_rb hG⟩) _ hrs
 obtain ⟨hlo, hlrs⟩ := o_12i hG n' hn15
 have hV := o_12a hG
 have hfr1 := o_12j hG n' hn15
 have hml := o_10f hV n'
 obtain ⟨hfl, hfe⟩ := o_10l hV n'
 have hlnn := o_10h hV n'
 have ev : exQ (vlQ K A B) (atQ (dstQ K A B (0, 0, false) n')) = exQ (plQ (valC K A)) (ofZ (topC B) (chP K A) n') := by
  rw [o_vt]
  have : vlQ K A B = plQ (valC K A) := funext fun s => by
   unfold vlQ valR plQ
   rw [if_neg (by have := hG.1; omega)]
  rw [this]; rfl
 have ef : exQ fulI (atQ (dstQ K A B (0, 0, false) n')) = exQ fulI (ofZ (topC B) (chP K A) n') := o_vt _ _
 have hmr : RS (exQ (vlQ K A B) (atQ (dstQ K A B (0, 0, false) n'))) 100000 := by rw [← o_10o]; exact (hrs.s _ (Nat.le_refl _)).1.le (by omega)
 have hfr : RS (exQ fulI (atQ (dstQ K A B (0, 0, false) n'))) 100000 := by rw [← o_10o]; exact (hrs.s _ (Nat.le_refl _)).2.2.le (by omega)
 rw [← ev] at hml
 rw [← ef] at hfl hfe
 unfold stD3 at hto
 generalize varQ K A B (atQ (dstQ K A B (0, 0, false) n')) = VR at *
 generalize exQ (vlQ K A B) (atQ (dstQ K A B (0, 0, false) n')) = ME at *
 generalize exQ fulI (atQ (dstQ K A B (0, 0, false) n')) = FU at *
 generalize lostQ (topC B) (chP K A) n' = LO at *
 generalize atQ (dstQ K A B (0, 0, false) n') = L at *
 have hnr : RS ((n' : Nat) : Rat) 100000 := by
  have hg : Gr 1 15 ((n' : Nat) : Rat) := ⟨n', by rw [show ((1 : Nat) : Rat) = 1 from rfl, Rat.mul_one], by omega⟩
  exact hg.rs (by decide) (by decide) (by decide)
 have had := o_oj ME LO hmr (hlrs.le (by omega))
 rw [hml] at had
 have hno := o_p8 n' (by omega)
 have hz := rof0
 have hc1 := o_ol _ _ hnr hnr
 have hz2 : RS (0 : Rat) 100000 := ⟨by decide, by decide⟩
 have hc2 := o_ol LO 0 (hlrs.le (by omega)) hz2
 have hc3 := o_ol FU LO hfr (hlrs.le (by omega))
 have ht1 := o_v3 LO hlrs
 have ht2 := o_v3 FU hfr1
 have q1 : cmpQ ((n' : Nat) : Rat) ((n' : Nat) : Rat) = 0 := by unfold cmpQ; simp [Rat.lt_irrefl]
 have q2 : ¬ cmpQ LO 0 < 0 := o_11n hlnn
 have q3 : cmpQ FU LO ≤ 0 := by
  unfold cmpQ
  split
  ·decide
  ·rw [if_neg (Rat.not_lt.2 hfl)]; decide
 rw [q1] at hc1
 generalize cmpQ LO 0 = c2 at *
 generalize cmpQ FU LO = c3 at *
 obtain ⟨M1, M2, M3, hM⟩ : ∃ M1 M2 M3, rcD ME = [M1, M2, M3] := ⟨_, _, _, rfl⟩
 obtain ⟨V1, V2, V3, hVR⟩ : ∃ V1 V2 V3, rcD VR = [V1, V2, V3] := ⟨_, _, _, rfl⟩
 obtain ⟨F1, F2, F3, hF⟩ : ∃ F1 F2 F3, rcD FU = [F1, F2, F3] := ⟨_, _, _, rfl⟩
 obtain ⟨L1, L2, L3, hL⟩ : ∃ L1 L2 L3, rcD LO = [L1, L2, L3] := ⟨_, _, _, rfl⟩
 simp only [o_wj] at had hno hz hc1 hc2 hc3 ht1 ht2 hlo
 rw [hM, hVR, hF] at hto
 rw [hM, hL] at had
 rw [hL] at hc2 hc3 ht1 hlo
 rw [hF] at hc3 ht2
 generalize rcD ((n' : Nat) : Rat) = NN at *
 generalize rcD 0 = ZZ at *
 have hSS : ((txtQ LO).toList == [48]) = ((txtQ FU).toList == [48]) := by
  by_cases h0 : LO = 0
  ·rw [h0, hfe.2 h0]
  ·have h1 : FU ≠ 0 := fun h => h0 (hfe.1 h)
   have a1 := o_12s h0
   have a2 := o_12s h1
   rw [beq_eq_false_iff_ne.2 a1, beq_eq_false_iff_ne.2 a2]
 generalize hS1 : txtQ LO = S1 at *
 generalize hS2 : txtQ FU = S2 at *
 simp only [o_6k, parD, stD] at hch hwn hof hto hlo ⊢
 generalize spD rcD L = LL at *
 refine A00 ?_; try with_reducible exact tt
 refine CallS.pu (haw) (R0 ?_); try with_reducible exact tt
 refine A00 ?_; try with_reducible exact tt
 refine CallS.pu (hch) (R0 ?_); try with_reducible exact tt
 refine A00 ?_; try with_reducible exact tt
 refine CallS.pu (hwn) (R1 hn ?_); try with_reducible exact tt
 refine A10 hn ?_; try with_reducible exact tt
 refine CallS.pu (hof) (R0 ?_); try with_reducible exact tt
 refine A00 ?_; try with_reducible exact tt
 refine CallS.pu (hto) (R0 ?_); try with_reducible exact tt
 refine A00 ?_; try with_reducible exact tt
 refine CallS.pu (hlo) (R0 ?_); try with_reducible exact tt
 refine A00 ?_; try with_reducible exact tt
 refine CallS.pu (had) (R0 ?_); try with_reducible exact tt
 refine CallS.pu (hno) (R0 ?_); try with_reducible exact tt
 refine CallS.pu (hc1) (R0 ?_); try with_reducible exact tt
 refine CallS.pu (hz) (R0 ?_); try with_reducible exact tt
 refine CallS.pu (hc2) (R1 q2 ?_); try with_reducible exact tt
 refine A10 q2 ?_; try with_reducible exact tt
 refine CallS.pu (ht1) (R0 ?_); try with_reducible exact tt
 refine CallS.pu (ht2) (R1 hSS ?_); try with_reducible exact tt
 refine CallS.pu (hc3) (R1 q3 ?_); try with_reducible exact tt
end
section
open Go.RowKit

theorem tm_walk {W : World} (ht : Tabs (memW W)) {k a b n : Int} : Calls Tryz.prog o_6j #[.agg #[.int .i64 k, .int .i64 a, .int .i64 b], .int .i64 n] W (fun e W' => e = .returned (.bool true) ∧ Same W W') :=
 o_sa o_6l (o_12t k a b n) (V.reps_cons.2 ⟨o_sb (by simp [Value.oneCell']) (by simp [D.reps_cons, D.rep_int]), V.reps_cons.2 ⟨V.rep_int.2 rfl, V.reps_nil.2 rfl⟩⟩) ht
end
end Go.Proofs.YtjbcbbfhcbnncaaGreatDoor.Am
