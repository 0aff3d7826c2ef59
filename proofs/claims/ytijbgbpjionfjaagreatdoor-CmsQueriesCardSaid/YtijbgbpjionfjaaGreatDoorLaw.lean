/- Parts of the proof: Dec1, Dec2, Dec3, Dec4, Dec5, Dec6, Carr7, Carr8, Carr9, CarrA, CarrB, Cms8, Cms9, CmsA, CmsC, MrgM, CmsQ, RepL, QryL. -/
import Derived.Test.YtijbgbpjionfjaaGreatDoorPf
set_option linter.unusedVariables false
set_option linter.unusedSimpArgs false
set_option maxRecDepth 100000
namespace Go.Proofs.YtijbgbpjionfjaaGreatDoor.Am
section
open Go.RowKit
def dsD (l : List Nat) : List D := l.map fun x : Nat => D.int .i64 x
def nD (n : Nat) : D := .sl (sizeD n) (dsD (decs n))
theorem o_35 (l : List Nat) : (dsD l).length = l.length := by simp [dsD]
theorem o_zg (l : List Nat) (i : Nat) (h : i < l.length) : (dsD l)[i]? = some (.int .i64 (l.getD i 0 : Nat)) := by simp [dsD, h]
theorem o_zh : decs 0 = [] := rfl
theorem o_zi : nD 0 = .sl 0 [] := rfl

theorem o_2b (l : List Nat) (hs : dsmall l) (hn : l.length ≤ 1000000) : Eqn Tryz.prog o_1y [.d (.sl l.length (dsD l))] [] (.d (nD (dval l))) [] := by
 refine Eqn.pure o_qb Plain.ok ?_
 have hlen := o_35 l
 have hget := o_zg l
 have htk : ∀ i, i ≤ l.length → trimN l i = trimN l l.length → trimN l i = i → D.sl i ((dsD l).take i) = nD (dval l) := by
  intro i hi h1 h2
  have h3 := o_z9 l l.length (Nat.le_refl _)
  have h4 := o_ip l l.length (Nat.le_refl _)
  rw [← h1, h2, List.take_length] at h3
  rw [← h1, h2] at h4
  have h5 := o_zf (hs.take i) h4
  rw [h3] at h5
  unfold nD sizeD dsD
  rw [h5, List.length_take, Nat.min_eq_left hi, List.map_take]
 have htk' : ∀ i, i ≤ l.length → trimN l i = trimN l l.length → trimN l i = i → D.sl i ((l.map fun x : Nat => D.int .i64 x).take i) = nD (dval l) := htk
 simp only [o_er, dsD]
 clear hlen hget htk
 generalize nD (dval l) = N at *
 refine A00 ?_; try with_reducible exact tt
 refine AW.loopT (α := Nat) 0 (fun i => [(3, .d (.int .i64 (i : Nat)))]) (fun i => []) (fun i => i ≤ l.length ∧ trimN l i = trimN l l.length) (fun i => i) l.length ?_ ?_ ⟨Nat.le_refl _, rfl⟩ ?_ ?_ ?_
 ·simp
 ·simp
 ·simp
 ·simp
 rintro i ⟨hi, ht⟩
 simp
 rcases i with _ | m
 ·have hf := htk' 0 hi ht rfl
  refine A00 ?_; try with_reducible exact tt
  exact Sub1.of (by rw [← hf]; simp)
 ·have hm : m < l.length := by omega
  have hm2 : ¬ l.length ≤ m := by omega
  have hge : l.getD m 0 = l[m] := by simp [List.getD, hm]
  have ew : IntKind.i64.wrap (m : Int) = (m : Int) := w64 (by omega) (by omega)
  by_cases h0 : l[m] = 0
  ·have ht2 : trimN l m = trimN l l.length := by rw [← ht, trimN, if_pos (by rw [hge]; exact h0)]
   refine A10 (fs hm (fs hm2 (fs hi (fs h0 ew)))) ?_; try with_reducible exact tt
   exact ⟨m, ⟨by omega, ht2⟩, by omega, Sub1.refl _⟩
  ·have hf := htk' (m + 1) hi ht (by rw [trimN, if_neg (by rw [hge]; exact h0)])
   have h0' : ¬ ((l[m] : Nat) : Int) = 0 := by omega
   refine A10 (fs hm (fs hm2 (fs hi (fs h0 (fs h0' ew))))) ?_; try with_reducible exact tt
   exact Sub1.of (by rw [hf])
theorem o_zj {m : Nat} (h : m ≠ 0) : decs m = (m % 10000) :: decs (m / 10000) := by
 obtain ⟨k, rfl⟩ : ∃ k, m = k + 1 := ⟨m - 1, by omega⟩
 conv => lhs; unfold decs
 rw [decsF, if_neg h]
 obtain ⟨h1, h2, h3⟩ := o_34 k ((k + 1) / 10000) (by omega)
 rw [o_m9 h2 (o_k _) h3 (o_1c _) (by rw [h1, o_e])]
theorem o_zk (l : List Nat) (x : Nat) : (dsD (l ++ [x])).map V.d = (dsD l).map V.d ++ [.d (.int .i64 x)] := by simp [dsD]

theorem o_1q (n : Nat) (hn : n < 9223372036854775808) : Eqn Tryz.prog o_2p [.d (.int .i64 n)] [] (.d (nD n)) [] := by
 refine Eqn.pure o_qc Plain.ok ?_
 have hsz : (decs n).length ≤ 5 := o_58 (o_1c n) (by rw [o_e]; omega)
 simp only [o_es]
 refine A00 ?_; try with_reducible exact tt
 refine AW.loopG (α := List Nat × Nat) (fun s => setS (List.replicate 14 .junk) [(0, .d (.int .i64 (s.2 : Nat))), (3, if s.1 = [] then .d .nilsl else .own 0 1 s.1.length)]) (fun s => if s.1 = [] then [] else [some ⟨3, (dsD s.1).map .d⟩]) (fun s => s.1 ++ decs s.2 = decs n ∧ s.2 ≤ n) (fun s => s.2) ([], n) ?_ ⟨rfl, Nat.le_refl _⟩ ?_ ?_ ?_
 ·intro i hi; split <;> simp
 ·simp
 ·simp
 rintro ⟨pre, m⟩ ⟨hp, hm⟩
 simp only at hp hm
 have hpl : pre.length ≤ 5 := by rw [← hp, List.length_append] at hsz; omega
 by_cases h0 : m = 0
 ·subst h0
  rw [o_zh, List.append_nil] at hp
  subst hp
  by_cases hpe : decs n = []
  ·have hn0 := o_md.1 hpe
   subst hn0
   rw [if_pos hpe, if_pos hpe]
   simp
   refine A00 ?_; try with_reducible exact tt
   exact Sub1.nil
  ·rw [if_neg hpe, if_neg hpe]
   have htk : (dsD (decs n)).take (decs n).length = dsD (decs n) := List.take_of_length_le (by rw [o_35]; omega)
   simp
   refine AW.freeze 0 1 ⟨3, (dsD (decs n)).map .d⟩ (dsD (decs n)) (by simp) rfl ?_
   simp [frzH, htk]
   refine A00 ?_; try with_reducible exact tt
   exact Sub1.refl _
 ·have hst := o_zj h0
  rw [hst, List.append_cons] at hp
  have hmp : 0 < m := by omega
  have hmp' : (0 : Int) < m := by omega
  have e1 : (m : Int).tmod 10000 = ((m % 10000 : Nat) : Int) := by rw [Int.tmod_eq_emod_of_nonneg (by omega)]; omega
  have e2 : (m : Int).tdiv 10000 = ((m / 10000 : Nat) : Int) := by rw [Int.tdiv_eq_ediv_of_nonneg (by omega)]; omega
  have hlt : m / 10000 < m := by omega
  have hle : m / 10000 ≤ n := by omega
  have hsn := o_zk pre (m % 10000)
  clear hst
  generalize m % 10000 = x at *
  generalize m / 10000 = y at *
  by_cases hpe : pre = []
  ·subst hpe
   simp
   refine A10 (fs hmp (fs hmp' (fs e1 e2))) ?_; try with_reducible exact tt
   refine ⟨[x], y, 0, 1, by simp, ⟨hp, hle⟩, hlt, ?_, ?_⟩
   ·simp [swT, swH, sw, Ob.sw, V.ren, V.rens]
   ·simp [swT, swH, sw, Ob.sw, V.ren, V.rens, dsD]
  ·rw [if_neg hpe, if_neg hpe]
   simp
   have hlen := o_35 pre
   refine A10 (fs hmp (fs hmp' (fs e1 (fs e2 (fs hlen hpl))))) ?_; try with_reducible exact tt
   refine ⟨pre ++ [x], y, 0, 2, by simp, ⟨hp, hle⟩, hlt, ?_, ?_⟩
   ·simp [swT, swH, sw, Ob.sw, V.ren, V.rens]
   ·simp [swT, swH, sw, Ob.sw, V.ren, V.rens, hsn]
end
end Go.Proofs.YtijbgbpjionfjaaGreatDoor.Am
namespace Go.Proofs.YtijbgbpjionfjaaGreatDoor.Am
section
open Go.RowKit
theorem o_me (f : Nat → Nat) (i : Nat) : dsD ((List.range (i + 1)).map f) = dsD ((List.range i).map f) ++ [.int .i64 (f i)] := by
 rw [List.range_succ, List.map_append]; simp [dsD]
set_option maxHeartbeats 1000000 in
theorem o_zl (a b : List Nat) (ha : dsmall a) (hb : dsmall b) (hla : a.length ≤ 100000) (hlb : b.length ≤ 100000) : Eqn Tryz.prog o_2o [.d (.sl a.length (dsD a)), .d (.sl b.length (dsD b))] [] (.d (nD (dval a + dval b))) [] := by
 refine Eqn.pure o_pc Plain.ok ?_
 obtain ⟨F, hF⟩ : ∃ F : Nat → List D, F = fun i => dsD ((List.range i).map (addD a b)) := ⟨_, rfl⟩
 have hFl : ∀ i, (F i).length = i := by intro i; rw [hF]; simp [dsD]
 have hFs : ∀ i, F (i + 1) = F i ++ [.int .i64 (addD a b i)] := by intro i; rw [hF]; exact o_me _ i
 have hF0 : F 0 = [] := by rw [hF]; rfl
 have htr : ∀ i, i ≤ 200001 → Eqn Tryz.prog o_1y [.d (.sl i (F i))] [] (.d (nD (dval ((List.range i).map (addD a b))))) [] := by
  intro i hi
  have := o_2b ((List.range i).map (addD a b)) (o_9d (o_zd a b) i) (by simp; omega)
  rw [hF]
  simpa using this
 have hcl := o_za ha hb
 have hval := o_zb a b
 clear hF
 simp only [o_cv, dsD]
 refine A00 ?_; try with_reducible exact tt
 refine AW.loopG (α := Nat) (fun i => setS (List.replicate 53 .junk) [(0, .d (.sl a.length (a.map fun x : Nat => D.int .i64 x))), (1, .d (.sl b.length (b.map fun x : Nat => D.int .i64 x))), (5, if i = 0 then .d .nilsl else .own 0 1 i), (6, .d (.int .i64 (carryD a b i : Nat))), (7, .d (.int .i64 (i : Nat)))]) (fun i => if i = 0 then [] else [some ⟨3, (F i).map .d⟩]) (fun i => i ≤ max a.length b.length + 1) (fun i => max a.length b.length + 1 - i) 0 ?_ (Nat.zero_le _) ?_ ?_ ?_
 ·intro i hi; split <;> simp
 ·simp [carryD]
 ·simp
 rintro i hi
 have hc1 := hcl i
 have hqb := hcl (i + 1)
 have hsn := hFs i
 have hqd : carryD a b (i + 1) = (a.getD i 0 + b.getD i 0 + carryD a b i) / 10000 := rfl
 have hrd : addD a b i = (a.getD i 0 + b.getD i 0 + carryD a b i) % 10000 := rfl
 have g1 := ha.getD i
 have g2 := hb.getD i
 have ew : IntKind.i64.wrap ((i : Int) + 1) = (i : Int) + 1 := w64 (by omega) (by omega)
 have e3 : ((a.getD i 0 + b.getD i 0 + carryD a b i : Nat) : Int).tmod 10000 = (addD a b i : Int) := by rw [Int.tmod_eq_emod_of_nonneg (by omega), hrd]; omega
 have e4 : ((a.getD i 0 + b.getD i 0 + carryD a b i : Nat) : Int).tdiv 10000 = (carryD a b (i + 1) : Int) := by rw [Int.tdiv_eq_ediv_of_nonneg (by omega), hqd]; omega
 by_cases pa : i < a.length
 ·have ga : a[i] = a.getD i 0 := by simp [List.getD, pa]
  by_cases pb : i < b.length
  ·have gb : b[i] = b.getD i 0 := by simp [List.getD, pb]
   have e1 : IntKind.i64.wrap ((carryD a b i : Int) + (a.getD i 0 : Nat)) = (carryD a b i : Int) + (a.getD i 0 : Nat) := w64 (by omega) (by omega)
   have e2 : IntKind.i64.wrap ((carryD a b i : Int) + (a.getD i 0 : Nat) + (b.getD i 0 : Nat)) = ((a.getD i 0 + b.getD i 0 + carryD a b i : Nat) : Int) := by rw [w64 (by omega) (by omega)]; omega
   clear hqd hrd
   generalize a.getD i 0 + b.getD i 0 + carryD a b i = s at *
   generalize a.getD i 0 = ai at *
   generalize b.getD i 0 = bi at *
   have hii : (i : Int) < a.length := by omega
   have hij : (i : Int) < b.length := by omega
   have hl := hFl i
   clear hval htr
   generalize carryD a b i = c at *
   generalize hq : carryD a b (i + 1) = q at *
   have e5 : IntKind.i64.wrap (q : Int) = (q : Int) := w64 (by omega) (by omega)
   generalize addD a b i = r at *
   by_cases hi0 : i = 0
   ·rw [if_pos hi0, if_pos hi0]
    rw [hi0] at hsn
    rw [hF0] at hsn
    have hq1 : carryD a b 1 = q := by rw [← hq, hi0]
    simp
    refine A10 (fs pa (fs pb (fs hii (fs hij (fs ga (fs gb (fs e1 (fs e2 (fs e3 (fs e4 (fs e5 (fs ew hl)))))))))))) ?_; try with_reducible exact tt
    refine ⟨i + 1, 0, 1, by simp, by omega, by omega, ?_, ?_⟩
    ·simp [swT, swH, sw, Ob.sw, V.ren, V.rens, hi0, hq1]
    ·simp [swT, swH, sw, Ob.sw, V.ren, V.rens, hi0, hsn]
   ·rw [if_neg hi0, if_neg hi0]
    simp
    refine A10 (fs pa (fs pb (fs hii (fs hij (fs ga (fs gb (fs e1 (fs e2 (fs e3 (fs e4 (fs e5 (fs ew hl)))))))))))) ?_; try with_reducible exact tt
    refine ⟨i + 1, 0, 2, by simp, by omega, by omega, ?_, ?_⟩
    ·simp [swT, swH, sw, Ob.sw, V.ren, V.rens, hq]
    ·simp [swT, swH, sw, Ob.sw, V.ren, V.rens, hsn]
  ·have gb : b.getD i 0 = 0 := by simp [List.getD, List.getElem?_eq_none (show b.length ≤ i by omega)]
   have e1 : IntKind.i64.wrap ((carryD a b i : Int) + (a.getD i 0 : Nat)) = ((a.getD i 0 + b.getD i 0 + carryD a b i : Nat) : Int) := by rw [w64 (by omega) (by omega)]; omega
   clear hqd hrd
   generalize a.getD i 0 + b.getD i 0 + carryD a b i = s at *
   generalize a.getD i 0 = ai at *
   generalize b.getD i 0 = bi at *
   have hii : (i : Int) < a.length := by omega
   have hij : ¬ (i : Int) < b.length := by omega
   have hl := hFl i
   clear hval htr
   generalize carryD a b i = c at *
   generalize hq : carryD a b (i + 1) = q at *
   have e5 : IntKind.i64.wrap (q : Int) = (q : Int) := w64 (by omega) (by omega)
   generalize addD a b i = r at *
   by_cases hi0 : i = 0
   ·rw [if_pos hi0, if_pos hi0]
    rw [hi0] at hsn
    rw [hF0] at hsn
    have hq1 : carryD a b 1 = q := by rw [← hq, hi0]
    simp
    refine A10 (fs pa (fs pb (fs hii (fs hij (fs ga (fs e1 (fs e3 (fs e4 (fs e5 (fs ew hl)))))))))) ?_; try with_reducible exact tt
    refine ⟨i + 1, 0, 1, by simp, by omega, by omega, ?_, ?_⟩
    ·simp [swT, swH, sw, Ob.sw, V.ren, V.rens, hi0, hq1]
    ·simp [swT, swH, sw, Ob.sw, V.ren, V.rens, hi0, hsn]
   ·rw [if_neg hi0, if_neg hi0]
    simp
    refine A10 (fs pa (fs pb (fs hii (fs hij (fs ga (fs e1 (fs e3 (fs e4 (fs e5 (fs ew hl)))))))))) ?_; try with_reducible exact tt
    refine ⟨i + 1, 0, 2, by simp, by omega, by omega, ?_, ?_⟩
    ·simp [swT, swH, sw, Ob.sw, V.ren, V.rens, hq]
    ·simp [swT, swH, sw, Ob.sw, V.ren, V.rens, hsn]
 ·have ga : a.getD i 0 = 0 := by simp [List.getD, List.getElem?_eq_none (show a.length ≤ i by omega)]
  have hii : ¬ (i : Int) < a.length := by omega
  by_cases pb : i < b.length
  ·have gb : b[i] = b.getD i 0 := by simp [List.getD, pb]
   have e1 : IntKind.i64.wrap ((carryD a b i : Int) + (b.getD i 0 : Nat)) = ((a.getD i 0 + b.getD i 0 + carryD a b i : Nat) : Int) := by rw [w64 (by omega) (by omega)]; omega
   clear hqd hrd
   generalize a.getD i 0 + b.getD i 0 + carryD a b i = s at *
   generalize a.getD i 0 = ai at *
   generalize b.getD i 0 = bi at *
   have hij : (i : Int) < b.length := by omega
   have hl := hFl i
   clear hval htr
   generalize carryD a b i = c at *
   generalize hq : carryD a b (i + 1) = q at *
   have e5 : IntKind.i64.wrap (q : Int) = (q : Int) := w64 (by omega) (by omega)
   generalize addD a b i = r at *
   by_cases hi0 : i = 0
   ·rw [if_pos hi0, if_pos hi0]
    rw [hi0] at hsn
    rw [hF0] at hsn
    have hq1 : carryD a b 1 = q := by rw [← hq, hi0]
    simp
    refine A10 (fs pa (fs pb (fs hii (fs hij (fs gb (fs e1 (fs e3 (fs e4 (fs e5 (fs ew hl)))))))))) ?_; try with_reducible exact tt
    refine ⟨i + 1, 0, 1, by simp, by omega, by omega, ?_, ?_⟩
    ·simp [swT, swH, sw, Ob.sw, V.ren, V.rens, hi0, hq1]
    ·simp [swT, swH, sw, Ob.sw, V.ren, V.rens, hi0, hsn]
   ·rw [if_neg hi0, if_neg hi0]
    simp
    refine A10 (fs pa (fs pb (fs hii (fs hij (fs gb (fs e1 (fs e3 (fs e4 (fs e5 (fs ew hl)))))))))) ?_; try with_reducible exact tt
    refine ⟨i + 1, 0, 2, by simp, by omega, by omega, ?_, ?_⟩
    ·simp [swT, swH, sw, Ob.sw, V.ren, V.rens, hq]
    ·simp [swT, swH, sw, Ob.sw, V.ren, V.rens, hsn]
  ·have gb : b.getD i 0 = 0 := by simp [List.getD, List.getElem?_eq_none (show b.length ≤ i by omega)]
   have hij : ¬ (i : Int) < b.length := by omega
   simp only [ga, gb, Nat.zero_add] at e3 e4 hqd
   by_cases hc0 : 0 < carryD a b i
   ·have hc0' : (0 : Int) < carryD a b i := by omega
    have hlt : i < max a.length b.length + 1 := by
     rcases Nat.lt_or_ge i (max a.length b.length + 1) with h | h
     ·exact h
     ·exfalso
      obtain ⟨j, rfl⟩ : ∃ j, i = j + 1 := ⟨i - 1, by omega⟩
      have h1 := hcl j
      have h2 : carryD a b (j + 1) = (a.getD j 0 + b.getD j 0 + carryD a b j) / 10000 := rfl
      have h3 : a.getD j 0 = 0 := by simp [List.getD, List.getElem?_eq_none (show a.length ≤ j by omega)]
      have h4 : b.getD j 0 = 0 := by simp [List.getD, List.getElem?_eq_none (show b.length ≤ j by omega)]
      omega
    clear hqd hrd
    have hl := hFl i
    clear hval htr
    generalize carryD a b i = c at *
    generalize hq : carryD a b (i + 1) = q at *
    have e5 : IntKind.i64.wrap (q : Int) = (q : Int) := w64 (by omega) (by omega)
    generalize addD a b i = r at *
    by_cases hi0 : i = 0
    ·rw [if_pos hi0, if_pos hi0]
     rw [hi0] at hsn
     rw [hF0] at hsn
     have hq1 : carryD a b 1 = q := by rw [← hq, hi0]
     simp
     refine A10 (fs pa (fs pb (fs hii (fs hij (fs hc0 (fs hc0' (fs e3 (fs e4 (fs e5 (fs ew hl)))))))))) ?_; try with_reducible exact tt
     refine ⟨i + 1, 0, 1, by simp, by omega, by omega, ?_, ?_⟩
     ·simp [swT, swH, sw, Ob.sw, V.ren, V.rens, hi0, hq1]
     ·simp [swT, swH, sw, Ob.sw, V.ren, V.rens, hi0, hsn]
    ·rw [if_neg hi0, if_neg hi0]
     simp
     refine A10 (fs pa (fs pb (fs hii (fs hij (fs hc0 (fs hc0' (fs e3 (fs e4 (fs e5 (fs ew hl)))))))))) ?_; try with_reducible exact tt
     refine ⟨i + 1, 0, 2, by simp, by omega, by omega, ?_, ?_⟩
     ·simp [swT, swH, sw, Ob.sw, V.ren, V.rens, hq]
     ·simp [swT, swH, sw, Ob.sw, V.ren, V.rens, hsn]
   ·have hc0' : ¬ (0 : Int) < carryD a b i := by omega
    have hcz : carryD a b i = 0 := by omega
    have hv := hval i
    rw [hcz, Nat.mul_zero, Nat.add_zero, List.take_of_length_le (by omega), List.take_of_length_le (by omega)] at hv
    have ht := htr i (by omega)
    rw [hv] at ht
    clear e3 e4 hqd hrd hval htr
    generalize carryD a b i = c at *
    by_cases hi0 : i = 0
    ·rw [if_pos hi0, if_pos hi0]
     subst hi0
     rw [hF0] at ht
     replace ht : Eqn Tryz.prog o_1y [.d .nilsl] [] (.d (nD (dval a + dval b))) [] := ht.sub (Subs.cons Sub1.nil (Subs.refl _))
     simp
     refine A11 (fs pa (fs pb (fs hii (fs hij (fs hc0 hc0'))))) ht ?_; try with_reducible exact tt
    ·rw [if_neg hi0, if_neg hi0]
     have htk : (F i).take i = F i := List.take_of_length_le (by rw [hFl]; exact Nat.le_refl _)
     simp
     refine AW.freeze 0 1 ⟨3, (F i).map .d⟩ (F i) (by simp) rfl ?_
     simp [frzH, htk]
     refine A11 (fs pa (fs pb (fs hii (fs hij (fs hc0 hc0'))))) ht ?_; try with_reducible exact tt
theorem o_9f (x y : Nat) (hx : sizeD x ≤ 100000) (hy : sizeD y ≤ 100000) : Eqn Tryz.prog o_2o [.d (nD x), .d (nD y)] [] (.d (nD (x + y))) [] := by
 have := o_zl (decs x) (decs y) (o_k x) (o_k y) hx hy
 rwa [o_e, o_e] at this
end
end Go.Proofs.YtijbgbpjionfjaaGreatDoor.Am
namespace Go.Proofs.YtijbgbpjionfjaaGreatDoor.Am
section
open Go.RowKit
theorem o_mf (x y : Nat) (hx : sizeD x ≤ 1000000) (hy : sizeD y ≤ 1000000) : Eqn Tryz.prog o_g4 [.d (nD x), .d (nD y)] [] (.d (.int .i64 (cmpZ x y))) [] := by
 refine Eqn.pure o_r2 Plain.ok ?_
 unfold sizeD at hx hy
 have ha := o_k x
 have hb := o_k y
 have ta := o_1c x
 have tb := o_1c y
 have va := o_e x
 have vb := o_e y
 simp only [o_g5, nD, sizeD, dsD]
 generalize decs x = a at *
 generalize decs y = b at *
 by_cases hl : a.length = b.length
 ·have hlp : (a.length : Int) = b.length := by omega
  have hc := o_ze ha hb a.length
  rw [List.take_length, hl, List.take_length, va, vb] at hc
  replace hc : cmpN a b b.length = cmpZ x y := hc
  rw [← hc]
  have ew0 : IntKind.i64.wrap ((b.length : Int) - 1) = (b.length : Int) - 1 := w64 (by omega) (by omega)
  refine A10 (fs hl (fs hlp ew0)) ?_; try with_reducible exact tt
  refine AW.loopT (α := Nat) 0 (fun j => [(5, .d (.int .i64 ((j : Int) - 1)))]) (fun j => []) (fun j => j ≤ b.length ∧ cmpN a b j = cmpN a b b.length) (fun j => j) b.length ?_ ?_ ⟨Nat.le_refl _, rfl⟩ ?_ ?_ ?_
  ·simp
  ·simp
  ·simp
  ·simp
  rintro j ⟨hj, hje⟩
  rcases j with _ | m
  ·simp
   have h0 : cmpN a b b.length = 0 := by rw [← hje]; rfl
   rw [h0]
   refine A00 ?_; try with_reducible exact tt
  ·rw [cmpN] at hje
   have hm : m < a.length := by omega
   have hm2 : m < b.length := by omega
   have g1 : a.getD m 0 = a[m] := by simp [List.getD, hm]
   have g2 : b.getD m 0 = b[m] := by simp [List.getD, hm2]
   have ew : IntKind.i64.wrap ((m : Int) - 1) = (m : Int) - 1 := w64 (by omega) (by omega)
   have hmi : (m : Int) < b.length := by omega
   rw [g1, g2] at hje
   by_cases h1 : a[m] < b[m]
   ·rw [if_pos h1] at hje
    rw [← hje]
    have h1' : ((a[m] : Nat) : Int) < (b[m] : Nat) := by omega
    simp
    refine A10 (fs hm (fs hm2 (fs hmi (fs hl (fs hlp (fs h1 h1')))))) ?_; try with_reducible exact tt
   ·rw [if_neg h1] at hje
    have h1' : ¬ ((a[m] : Nat) : Int) < (b[m] : Nat) := by omega
    by_cases h2 : b[m] < a[m]
    ·rw [if_pos h2] at hje
     rw [← hje]
     have h2' : ((b[m] : Nat) : Int) < (a[m] : Nat) := by omega
     simp
     refine A10 (fs hm (fs hm2 (fs hmi (fs hl (fs hlp (fs h1 (fs h1' (fs h2 h2')))))))) ?_; try with_reducible exact tt
    ·rw [if_neg h2] at hje
     have h2' : ¬ ((b[m] : Nat) : Int) < (a[m] : Nat) := by omega
     simp
     refine A10 (fs hm (fs hm2 (fs hmi (fs hl (fs hlp (fs h1 (fs h1' (fs h2 (fs h2' ew))))))))) ?_; try with_reducible exact tt
     exact ⟨m, ⟨by omega, hje⟩, by omega, Sub1.refl _⟩
 ·have hlp : ¬ (a.length : Int) = b.length := by omega
  by_cases h1 : a.length < b.length
  ·have h1' : (a.length : Int) < b.length := by omega
   have h3 := o_9e ha tb h1
   rw [va, vb] at h3
   rw [show cmpZ x y = -1 by unfold cmpZ; rw [if_pos h3]]
   refine A10 (fs hl (fs hlp (fs h1 h1'))) ?_; try with_reducible exact tt
  ·have h1' : ¬ (a.length : Int) < b.length := by omega
   have h3 := o_9e hb ta (show b.length < a.length by omega)
   rw [va, vb] at h3
   rw [show cmpZ x y = 1 by unfold cmpZ; rw [if_neg (by omega), if_pos h3]]
   refine A10 (fs hl (fs hlp (fs h1 h1'))) ?_; try with_reducible exact tt

set_option maxHeartbeats 1000000 in
theorem o_mg (x y : Nat) (hxy : y ≤ x) (hx : sizeD x ≤ 100000) (hy : sizeD y ≤ 100000) : Eqn Tryz.prog o_g6 [.d (nD x), .d (nD y)] [] (.d (nD (x - y))) [] := by
 refine Eqn.pure o_r3 Plain.ok ?_
 unfold sizeD at hx hy
 have ha := o_k x
 have hb := o_k y
 have tb := o_1c y
 have ta := o_1c x
 have va := o_e x
 have vb := o_e y
 have hll : (decs y).length ≤ (decs x).length := by
  rcases Nat.lt_or_ge (decs x).length (decs y).length with h | h
  ·have := o_9e ha tb h
   omega
  ·exact h
 simp only [o_g7, nD, sizeD, dsD]
 generalize decs x = a at *
 generalize decs y = b at *
 have hval := o_zc ha hb a.length
 have hbl := o_mb a b
 rw [List.take_length, List.take_of_length_le hll, va, vb] at hval
 have hsz := o_59 (l := (List.range a.length).map (subD a b)) (o_9d (o_mc a b) a.length) a.length
 rw [List.take_of_length_le (by simp)] at hsz
 have hxa : dval a < 10000 ^ a.length := by have := o_59 ha a.length; rwa [List.take_length] at this
 have hfin : dval ((List.range a.length).map (subD a b)) = x - y := by
  have h1 := hbl a.length
  rcases Nat.lt_or_ge (borrowD a b a.length) 1 with h | h
  ·have : borrowD a b a.length = 0 := by omega
   rw [this] at hval
   omega
  ·have : borrowD a b a.length = 1 := by omega
   rw [this] at hval
   omega
 obtain ⟨F, hF⟩ : ∃ F : Nat → List D, F = fun i => dsD ((List.range i).map (subD a b)) := ⟨_, rfl⟩
 have hFl : ∀ i, (F i).length = i := by intro i; rw [hF]; simp [dsD]
 have hFs : ∀ i, F (i + 1) = F i ++ [.int .i64 (subD a b i)] := by intro i; rw [hF]; exact o_me _ i
 have hF0 : F 0 = [] := by rw [hF]; rfl
 have htr : Eqn Tryz.prog o_1y [.d (.sl a.length (F a.length))] [] (.d (nD (x - y))) [] := by
  have := o_2b ((List.range a.length).map (subD a b)) (o_9d (o_mc a b) _) (by simp; omega)
  rw [hF, ← hfin]
  simpa using this
 clear hF hfin hxa hsz
 simp only [nD, sizeD, dsD] at htr
 generalize D.sl (decs (x - y)).length (List.map (fun x : Nat => D.int .i64 x) (decs (x - y))) = N at *
 refine A00 ?_; try with_reducible exact tt
 refine AW.loopG (α := Nat) (fun i => setS (List.replicate 41 .junk) [(0, .d (.sl a.length (a.map fun x : Nat => D.int .i64 x))), (1, .d (.sl b.length (b.map fun x : Nat => D.int .i64 x))), (5, if i = 0 then .d .nilsl else .own 0 1 i), (6, .d (.int .i64 (borrowD a b i : Nat))), (7, .d (.int .i64 (i : Nat)))]) (fun i => if i = 0 then [] else [some ⟨3, (F i).map .d⟩]) (fun i => i ≤ a.length) (fun i => a.length - i) 0 ?_ (Nat.zero_le _) ?_ ?_ ?_
 ·intro i hi; split <;> simp
 ·simp [borrowD]
 ·simp
 rintro i hi
 by_cases pa : i < a.length
 ·have hii : (i : Int) < a.length := by omega
  have hc1 := hbl i
  have hqb := hbl (i + 1)
  have hsn := hFs i
  have ga : a[i] = a.getD i 0 := by simp [List.getD, pa]
  have g1 := ha.getD i
  have g2 := hb.getD i
  have hqd : borrowD a b (i + 1) = if a.getD i 0 < b.getD i 0 + borrowD a b i then 1 else 0 := rfl
  have hrd : subD a b i = (a.getD i 0 + 10000 - b.getD i 0 - borrowD a b i) % 10000 := rfl
  have ew : IntKind.i64.wrap ((i : Int) + 1) = (i : Int) + 1 := w64 (by omega) (by omega)
  have e1 : IntKind.i64.wrap ((a.getD i 0 : Nat) - (borrowD a b i : Int)) = (a.getD i 0 : Nat) - (borrowD a b i : Int) := w64 (by omega) (by omega)
  by_cases pb : i < b.length
  ·have hij : (i : Int) < b.length := by omega
   have gb : b[i] = b.getD i 0 := by simp [List.getD, pb]
   by_cases hz : a.getD i 0 < b.getD i 0 + borrowD a b i
   ·have q0 : borrowD a b (i + 1) = 1 := by rw [hqd]; rw [if_pos hz]
    have e2 : IntKind.i64.wrap ((a.getD i 0 : Nat) - (borrowD a b i : Int) - (b.getD i 0 : Nat)) = (subD a b i : Int) - 10000 := by rw [w64 (by omega) (by omega), hrd]; omega
    have e3 : IntKind.i64.wrap ((subD a b i : Int) - 10000 + 10000) = (subD a b i : Int) := by rw [w64 (by omega) (by omega)]; omega
    have e3' : IntKind.i64.wrap (subD a b i : Int) = (subD a b i : Int) := w64 (by omega) (by omega)
    have e4 : (subD a b i : Int) - 10000 < 0 := by omega
    have e5 : (subD a b i : Int) < 10000 := by omega
    clear hqd hrd
    generalize a.getD i 0 = ai at *
    generalize b.getD i 0 = bi at *
    have hl := hFl i
    clear hval htr
    generalize hq : borrowD a b (i + 1) = q at *
    generalize borrowD a b i = c at *
    generalize subD a b i = r at *
    by_cases hi0 : i = 0
    ·rw [if_pos hi0, if_pos hi0]
     rw [hi0] at hsn
     rw [hF0] at hsn
     have hq1 : borrowD a b 1 = q := by rw [← hq, hi0]
     simp
     refine A10 (fs pa (fs pb (fs hii (fs hij (fs ga (fs gb (fs e1 (fs e2 (fs e3 (fs e3' (fs e4 (fs e5 (fs ew hl))))))))))))) ?_; try with_reducible exact tt
     refine ⟨i + 1, 0, 1, by simp, by omega, by omega, ?_, ?_⟩
     ·simp [swT, swH, sw, Ob.sw, V.ren, V.rens, hi0, hq1, q0]
     ·simp [swT, swH, sw, Ob.sw, V.ren, V.rens, hi0, hsn]
    ·rw [if_neg hi0, if_neg hi0]
     simp
     refine A10 (fs pa (fs pb (fs hii (fs hij (fs ga (fs gb (fs e1 (fs e2 (fs e3 (fs e3' (fs e4 (fs e5 (fs ew hl))))))))))))) ?_; try with_reducible exact tt
     refine ⟨i + 1, 0, 2, by simp, by omega, by omega, ?_, ?_⟩
     ·simp [swT, swH, sw, Ob.sw, V.ren, V.rens, hq, q0]
     ·simp [swT, swH, sw, Ob.sw, V.ren, V.rens, hsn]
   ·have q0 : borrowD a b (i + 1) = 0 := by rw [hqd]; rw [if_neg hz]
    have e2 : IntKind.i64.wrap ((a.getD i 0 : Nat) - (borrowD a b i : Int) - (b.getD i 0 : Nat)) = (subD a b i : Int) := by rw [w64 (by omega) (by omega), hrd]; omega
    have e4 : ¬ (subD a b i : Int) < 0 := by omega
    clear hqd hrd
    generalize a.getD i 0 = ai at *
    generalize b.getD i 0 = bi at *
    have hl := hFl i
    clear hval htr
    generalize hq : borrowD a b (i + 1) = q at *
    generalize borrowD a b i = c at *
    generalize subD a b i = r at *
    by_cases hi0 : i = 0
    ·rw [if_pos hi0, if_pos hi0]
     rw [hi0] at hsn
     rw [hF0] at hsn
     have hq1 : borrowD a b 1 = q := by rw [← hq, hi0]
     simp
     refine A10 (fs pa (fs pb (fs hii (fs hij (fs ga (fs gb (fs e1 (fs e2 (fs e4 (fs ew hl)))))))))) ?_; try with_reducible exact tt
     refine ⟨i + 1, 0, 1, by simp, by omega, by omega, ?_, ?_⟩
     ·simp [swT, swH, sw, Ob.sw, V.ren, V.rens, hi0, hq1, q0]
     ·simp [swT, swH, sw, Ob.sw, V.ren, V.rens, hi0, hsn]
    ·rw [if_neg hi0, if_neg hi0]
     simp
     refine A10 (fs pa (fs pb (fs hii (fs hij (fs ga (fs gb (fs e1 (fs e2 (fs e4 (fs ew hl)))))))))) ?_; try with_reducible exact tt
     refine ⟨i + 1, 0, 2, by simp, by omega, by omega, ?_, ?_⟩
     ·simp [swT, swH, sw, Ob.sw, V.ren, V.rens, hq, q0]
     ·simp [swT, swH, sw, Ob.sw, V.ren, V.rens, hsn]
  ·have hij : ¬ (i : Int) < b.length := by omega
   have gb : b.getD i 0 = 0 := by simp [List.getD, List.getElem?_eq_none (show b.length ≤ i by omega)]
   by_cases hz : a.getD i 0 < b.getD i 0 + borrowD a b i
   ·have q0 : borrowD a b (i + 1) = 1 := by rw [hqd]; rw [if_pos hz]
    have e2 : IntKind.i64.wrap ((a.getD i 0 : Nat) - (borrowD a b i : Int)) = (subD a b i : Int) - 10000 := by rw [w64 (by omega) (by omega), hrd]; omega
    have e3 : IntKind.i64.wrap ((subD a b i : Int) - 10000 + 10000) = (subD a b i : Int) := by rw [w64 (by omega) (by omega)]; omega
    have e3' : IntKind.i64.wrap (subD a b i : Int) = (subD a b i : Int) := w64 (by omega) (by omega)
    have e4 : (subD a b i : Int) - 10000 < 0 := by omega
    have e5 : (subD a b i : Int) < 10000 := by omega
    clear hqd hrd e1
    generalize a.getD i 0 = ai at *
    generalize b.getD i 0 = bi at *
    have hl := hFl i
    clear hval htr
    generalize hq : borrowD a b (i + 1) = q at *
    generalize borrowD a b i = c at *
    generalize subD a b i = r at *
    by_cases hi0 : i = 0
    ·rw [if_pos hi0, if_pos hi0]
     rw [hi0] at hsn
     rw [hF0] at hsn
     have hq1 : borrowD a b 1 = q := by rw [← hq, hi0]
     simp
     refine A10 (fs pa (fs pb (fs hii (fs hij (fs ga (fs e2 (fs e3 (fs e3' (fs e4 (fs e5 (fs ew hl))))))))))) ?_; try with_reducible exact tt
     refine ⟨i + 1, 0, 1, by simp, by omega, by omega, ?_, ?_⟩
     ·simp [swT, swH, sw, Ob.sw, V.ren, V.rens, hi0, hq1, q0]
     ·simp [swT, swH, sw, Ob.sw, V.ren, V.rens, hi0, hsn]
    ·rw [if_neg hi0, if_neg hi0]
     simp
     refine A10 (fs pa (fs pb (fs hii (fs hij (fs ga (fs e2 (fs e3 (fs e3' (fs e4 (fs e5 (fs ew hl))))))))))) ?_; try with_reducible exact tt
     refine ⟨i + 1, 0, 2, by simp, by omega, by omega, ?_, ?_⟩
     ·simp [swT, swH, sw, Ob.sw, V.ren, V.rens, hq, q0]
     ·simp [swT, swH, sw, Ob.sw, V.ren, V.rens, hsn]
   ·have q0 : borrowD a b (i + 1) = 0 := by rw [hqd]; rw [if_neg hz]
    have e2 : IntKind.i64.wrap ((a.getD i 0 : Nat) - (borrowD a b i : Int)) = (subD a b i : Int) := by rw [w64 (by omega) (by omega), hrd]; omega
    have e4 : ¬ (subD a b i : Int) < 0 := by omega
    clear hqd hrd e1
    generalize a.getD i 0 = ai at *
    generalize b.getD i 0 = bi at *
    have hl := hFl i
    clear hval htr
    generalize hq : borrowD a b (i + 1) = q at *
    generalize borrowD a b i = c at *
    generalize subD a b i = r at *
    by_cases hi0 : i = 0
    ·rw [if_pos hi0, if_pos hi0]
     rw [hi0] at hsn
     rw [hF0] at hsn
     have hq1 : borrowD a b 1 = q := by rw [← hq, hi0]
     simp
     refine A10 (fs pa (fs pb (fs hii (fs hij (fs ga (fs e2 (fs e4 (fs ew hl)))))))) ?_; try with_reducible exact tt
     refine ⟨i + 1, 0, 1, by simp, by omega, by omega, ?_, ?_⟩
     ·simp [swT, swH, sw, Ob.sw, V.ren, V.rens, hi0, hq1, q0]
     ·simp [swT, swH, sw, Ob.sw, V.ren, V.rens, hi0, hsn]
    ·rw [if_neg hi0, if_neg hi0]
     simp
     refine A10 (fs pa (fs pb (fs hii (fs hij (fs ga (fs e2 (fs e4 (fs ew hl)))))))) ?_; try with_reducible exact tt
     refine ⟨i + 1, 0, 2, by simp, by omega, by omega, ?_, ?_⟩
     ·simp [swT, swH, sw, Ob.sw, V.ren, V.rens, hq, q0]
     ·simp [swT, swH, sw, Ob.sw, V.ren, V.rens, hsn]
 ·have hi2 : i = a.length := by omega
  have hii : ¬ (i : Int) < a.length := by omega
  rw [← hi2] at htr
  clear hval
  generalize borrowD a b i = c at *
  by_cases hi0 : i = 0
  ·rw [if_pos hi0, if_pos hi0]
   rw [hi0, hF0] at htr
   replace htr : Eqn Tryz.prog o_1y [.d .nilsl] [] (.d N) [] := htr.sub (Subs.cons Sub1.nil (Subs.refl _))
   simp
   refine A11 (fs pa hii) htr ?_; try with_reducible exact tt
  ·rw [if_neg hi0, if_neg hi0]
   have htk : (F i).take i = F i := List.take_of_length_le (by rw [hFl]; exact Nat.le_refl _)
   simp
   refine AW.freeze 0 1 ⟨3, (F i).map .d⟩ (F i) (by simp) rfl ?_
   simp [frzH, htk]
   refine A11 (fs pa hii) htr ?_; try with_reducible exact tt
end
end Go.Proofs.YtijbgbpjionfjaaGreatDoor.Am
namespace Go.Proofs.YtijbgbpjionfjaaGreatDoor.Am
section
open Go.RowKit
theorem o_9g : ∀ (ws : List Nat) (j v : Nat), j < ws.length → dval (ws.set j v) + 10000 ^ j * ws.getD j 0 = dval ws + 10000 ^ j * v
 | [], j, v, h => by simp at h
 | x :: ws, 0, v, h => by simp [dval]; omega
 | x :: ws, j + 1, v, h => by
  have ih := o_9g ws j v (by simpa using h)
  simp only [List.set_cons_succ, dval, List.getD_cons_succ]
  rw [Nat.pow_succ]
  generalize 10000 ^ j = P at *
  generalize ws.getD j 0 = g at *
  have e1 : P * 10000 * g = 10000 * (P * g) := by rw [Nat.mul_comm P, Nat.mul_assoc]
  have e2 : P * 10000 * v = 10000 * (P * v) := by rw [Nat.mul_comm P, Nat.mul_assoc]
  rw [e1, e2]
  omega
theorem o_mh {l : List Nat} {i j v : Nat} (h : i ≠ j) : (l.set i v).getD j 0 = l.getD j 0 := by
 rw [List.getD_eq_getElem?_getD, List.getElem?_set_ne h, ← List.getD_eq_getElem?_getD]
theorem dsmall.set {l : List Nat} (h : dsmall l) (j v : Nat) (hv : v < 10000) : dsmall (l.set j v) := fun x hx => by
 rcases List.mem_or_eq_of_mem_set hx with h1 | h1
 ·exact h x h1
 ·rw [h1]; exact hv
theorem o_zm {V A c o x D1 D2 Bk bk P K : Nat} (hv : D1 + P * K * c = V + P * (A * Bk)) (hs : D2 + P * K * o = D1 + P * K * (x % 10000)) (hx : x = o + c + A * bk) : D2 + P * (K * 10000) * (x / 10000) = V + P * (A * (Bk + K * bk)) := by
 have h1 : 10000 * (x / 10000) + x % 10000 = o + c + A * bk := by rw [Nat.div_add_mod]; exact hx
 have h2 : P * K * (10000 * (x / 10000) + x % 10000) = P * K * (o + c + A * bk) := by rw [h1]
 have h3 : P * (K * 10000) * (x / 10000) = P * K * (10000 * (x / 10000)) := by
  rw [← Nat.mul_assoc P K 10000, Nat.mul_assoc (P * K)]
 have h4 : P * (A * (Bk + K * bk)) = P * (A * Bk) + P * K * (A * bk) := by
  rw [Nat.mul_add, Nat.mul_add, show A * (K * bk) = K * (A * bk) by rw [← Nat.mul_assoc, Nat.mul_comm A K, Nat.mul_assoc], ← Nat.mul_assoc P K]
 rw [Nat.mul_add] at h2
 rw [Nat.mul_add, Nat.mul_add] at h2
 rw [h3, h4]
 generalize P * K * (10000 * (x / 10000)) = t1 at *
 generalize P * K * (x % 10000) = t2 at *
 generalize P * K * o = t3 at *
 generalize P * K * c = t4 at *
 generalize P * K * (A * bk) = t5 at *
 generalize P * (A * Bk) = t6 at *
 omega

@[simp] theorem lowI (n : Nat) : ∀ l : List Nat, V.lowl n (l.map fun x : Nat => V.d (D.int .i64 x)) = true
 | [] => rfl
 | x :: l => by
  have := lowI n l
  simp only [List.map_cons, V.lowl, this]; rfl
@[simp] theorem lowR (n m : Nat) (x : D) : V.lowl n (List.replicate m (V.d x)) = true := by
 induction m with
 | zero => rfl
 | succ m ih => simp only [List.replicate_succ, V.lowl, ih]; rfl
set_option maxHeartbeats 2000000 in
theorem o_zn (a b : List Nat) (ha : dsmall a) (hb : dsmall b) (hla : a.length ≤ 100000) (hlb : b.length ≤ 100000) : Eqn Tryz.prog o_1x [.d (.sl a.length (dsD a)), .d (.sl b.length (dsD b))] [] (.d (nD (dval a * dval b))) [] := by
 refine Eqn.pure o_pd Plain.ok ?_
 obtain ⟨n, hn⟩ : ∃ n, n = a.length + b.length + 1 := ⟨_, rfl⟩
 have ew1 : IntKind.i64.wrap ((a.length : Int) + b.length) = (a.length : Int) + b.length := w64 (by omega) (by omega)
 have ew2 : IntKind.i64.wrap ((a.length : Int) + b.length + 1) = (n : Int) := by rw [w64 (by omega) (by omega)]; omega
 have hnb : (n : Int) * 8 ≤ 140737488355328 := by omega
 have hnb2 : n ≤ 17592186044416 := by omega
 simp only [o_cw, dsD]
 refine A10 (fs ew1 (fs ew2 (fs hnb hnb2))) ?_; try with_reducible exact tt
 have hrep : List.replicate n (V.d (D.int .i64 0)) = (List.replicate n 0).map fun x : Nat => V.d (D.int .i64 x) := by simp
 rw [hrep]
 refine AW.loopT (α := Nat × List Nat) 1 (fun s => [(6, .d (.int .i64 (s.1 : Nat)))]) (fun s => [(0, ⟨3, s.2.map fun x : Nat => V.d (D.int .i64 x)⟩)]) (fun s => s.1 ≤ a.length ∧ s.2.length = n ∧ dsmall s.2 ∧ dval s.2 = dval (a.take s.1) * dval b ∧ ∀ j, s.1 + b.length ≤ j → s.2.getD j 0 = 0) (fun s => a.length - s.1) (0, List.replicate n 0) ?_ ?_ ⟨Nat.zero_le _, by simp, by intro x hx; simp [List.mem_replicate] at hx; omega, by rw [o_z8]; simp [dval], by intro j _; simp only [List.getD, List.getElem?_replicate]; split <;> rfl⟩ ?_ ?_ ?_
 ·simp
 ·simp
 ·simp
 ·simp
 rintro ⟨i, out⟩ ⟨hi, hol, hos, hov, hoz⟩
 simp only at hi hol hos hov hoz
 simp
 by_cases pa : i < a.length
 ·have hii : (i : Int) < a.length := by omega
  have ewi : IntKind.i64.wrap ((i : Int) + 1) = ((i + 1 : Nat) : Int) := by rw [w64 (by omega) (by omega)]; omega
  have g1 := ha.getD i
  have ga : a[i] = a.getD i 0 := by simp [List.getD, pa]
  have hta := o_1h a i
  have hal : ∀ j, i + max 0 b.length ≤ j → out.getD j 0 = 0 := fun j hj => hoz j (by omega)
  refine A10 (fs pa hii) ?_; try with_reducible exact tt
  refine AW.loopT (α := Nat × Nat × List Nat) 1 (fun s => [(8, .d (.int .i64 (s.1 : Nat))), (7, .d (.int .i64 (s.2.1 : Nat)))]) (fun s => [(0, ⟨3, s.2.2.map fun x : Nat => V.d (D.int .i64 x)⟩)]) (fun s => s.1 ≤ b.length + 1 ∧ s.2.1 ≤ 9999 ∧ (s.1 = b.length + 1 → s.2.1 = 0) ∧ s.2.2.length = n ∧ dsmall s.2.2 ∧ dval s.2.2 + 10000 ^ i * 10000 ^ s.1 * s.2.1 = dval out + 10000 ^ i * (a.getD i 0 * dval (b.take s.1)) ∧ ∀ j, i + max s.1 b.length ≤ j → s.2.2.getD j 0 = 0) (fun s => b.length + 1 - s.1) (0, 0, out) ?_ ?_ ⟨Nat.zero_le _, by simp, by simp, hol, hos, by simp [dval], hal⟩ ?_ ?_ ?_
  ·simp
  ·simp
  ·simp
  ·simp
  rintro ⟨k, c, o⟩ ⟨hk, hc, hck, hl, hs, hv, hz⟩
  simp only at hk hc hck hl hs hv hz
  simp
  have ewk : IntKind.i64.wrap ((k : Int) + 1) = ((k + 1 : Nat) : Int) := by rw [w64 (by omega) (by omega)]; omega
  have e99 : ∀ x : Nat, ((x : Int).tmod 10000 = ((x % 10000 : Nat) : Int)) ∧ ((x : Int).tdiv 10000 = ((x / 10000 : Nat) : Int)) := fun x => ⟨by rw [Int.tmod_eq_emod_of_nonneg (by omega)]; omega, by rw [Int.tdiv_eq_ediv_of_nonneg (by omega)]; omega⟩
  by_cases pb : k < b.length
  ·have hij : (k : Int) < b.length := by omega
   have g2 := hb.getD k
   have gb : b[k] = b.getD k 0 := by simp [List.getD, pb]
   have htb := o_1h b k
   obtain ⟨m, hm⟩ : ∃ m, m = i + k := ⟨_, rfl⟩
   have hmo : m < o.length := by omega
   have hmn : m < n := by omega
   have go := hs.getD m
   have gm : o[m] = o.getD m 0 := by simp [List.getD, hmo]
   have em : IntKind.i64.wrap ((i : Int) + k) = (m : Int) := by rw [w64 (by omega) (by omega)]; omega
   have hpm := Nat.mul_le_mul (show a.getD i 0 ≤ 9999 by omega) (show b.getD k 0 ≤ 9999 by omega)
   obtain ⟨p, hp⟩ : ∃ p, p = a.getD i 0 * b.getD k 0 := ⟨_, rfl⟩
   rw [← hp] at hpm
   have ep : IntKind.i64.wrap (((a.getD i 0 : Nat) : Int) * (b.getD k 0 : Nat)) = (p : Int) := by rw [hp, ← Int.natCast_mul]; exact w64 (by omega) (by rw [← hp]; omega)
   obtain ⟨x, hx⟩ : ∃ x, x = o.getD m 0 + c + p := ⟨_, rfl⟩
   have e1 : IntKind.i64.wrap ((o.getD m 0 : Nat) + (c : Int)) = (o.getD m 0 : Nat) + (c : Int) := w64 (by omega) (by omega)
   have e2 : IntKind.i64.wrap ((o.getD m 0 : Nat) + (c : Int) + p) = (x : Int) := by rw [w64 (by omega) (by omega)]; omega
   obtain ⟨e3, e4⟩ := e99 x
   have hds := o_9g o m (x % 10000) hmo
   rw [show 10000 ^ m = 10000 ^ i * 10000 ^ k by rw [hm, Nat.pow_add]] at hds
   have hst := o_zm (A := a.getD i 0) (bk := b.getD k 0) hv hds (by rw [hx, hp])
   have hset : (o.map fun x : Nat => V.d (D.int .i64 x)).set m (.d (.int .i64 (x % 10000 : Nat))) = (o.set m (x % 10000)).map fun x : Nat => V.d (D.int .i64 x) := by rw [List.map_set]
   have hs2 := hs.set m (x % 10000) (Nat.mod_lt _ (by decide))
   have hl2 : (o.set m (x % 10000)).length = n := by simpa using hl
   have hz2 : ∀ j, i + max (k + 1) b.length ≤ j → (o.set m (x % 10000)).getD j 0 = 0 := fun j hj => by rw [o_mh (by omega)]; exact hz j (by omega)
   have hxq : x / 10000 ≤ 9999 := by omega
   have e5 : IntKind.i64.wrap ((x / 10000 : Nat) : Int) = ((x / 10000 : Nat) : Int) := w64 (by omega) (by omega)
   rw [← htb] at hst
   clear hv hz hs hal hov hoz hta e99
   generalize o.set m (x % 10000) = o2 at *
   generalize x % 10000 = r at *
   generalize x / 10000 = q at *
   generalize a.getD i 0 = ai at *
   generalize b.getD k 0 = bk at *
   generalize o.getD m 0 = om at *
   refine A10 (fs pa (fs hii (fs pb (fs hij (fs ga (fs gb (fs hmo (fs hmn (fs hl (fs gm (fs em (fs ep (fs e1 (fs e2 (fs e3 (fs e4 (fs e5 (fs ewk hset)))))))))))))))))) ?_; try with_reducible exact tt
   exact ⟨k + 1, q, o2, ⟨by omega, hxq, by omega, hl2, hs2, hst, hz2⟩, by omega, ⟨Sub1.refl _, Sub1.int (by omega)⟩, Subs.refl _⟩
  ·have hij : ¬ (k : Int) < b.length := by omega
   by_cases hc0 : 0 < c
   ·have hc0' : (0 : Int) < c := by omega
    have hkb : k = b.length := by
     rcases Nat.lt_or_ge b.length k with h | h
     ·have := hck (by omega); omega
     ·omega
    obtain ⟨m, hm⟩ : ∃ m, m = i + k := ⟨_, rfl⟩
    have hmo : m < o.length := by omega
    have hmn : m < n := by omega
    have gz : o.getD m 0 = 0 := hz m (by omega)
    have gm : o[m] = 0 := by rw [← gz]; simp [List.getD, hmo]
    have em : IntKind.i64.wrap ((i : Int) + k) = (m : Int) := by rw [w64 (by omega) (by omega)]; omega
    have e2 : IntKind.i64.wrap (c : Int) = (c : Int) := w64 (by omega) (by omega)
    have e3 : (c : Int).tmod 10000 = (c : Int) := by rw [Int.tmod_eq_emod_of_nonneg (by omega)]; omega
    have e4 : (c : Int).tdiv 10000 = 0 := by rw [Int.tdiv_eq_ediv_of_nonneg (by omega)]; omega
    have hds := o_9g o m c hmo
    rw [gz, Nat.mul_zero, Nat.add_zero, show 10000 ^ m = 10000 ^ i * 10000 ^ k by rw [hm, Nat.pow_add]] at hds
    have hst : dval (o.set m c) + 10000 ^ i * 10000 ^ (k + 1) * 0 = dval out + 10000 ^ i * (a.getD i 0 * dval (b.take (k + 1))) := by
     rw [Nat.mul_zero, Nat.add_zero, hds, hv, List.take_of_length_le (by omega), List.take_of_length_le (by omega)]
    have hset : (o.map fun x : Nat => V.d (D.int .i64 x)).set m (.d (.int .i64 (c : Nat))) = (o.set m c).map fun x : Nat => V.d (D.int .i64 x) := by rw [List.map_set]
    have hs2 := hs.set m c (by omega)
    have hl2 : (o.set m c).length = n := by simpa using hl
    have hz2 : ∀ j, i + max (k + 1) b.length ≤ j → (o.set m c).getD j 0 = 0 := fun j hj => by rw [o_mh (by omega)]; exact hz j (by omega)
    clear hv hz hs hal hov hoz hta e99 hds
    generalize o.set m c = o2 at *
    generalize a.getD i 0 = ai at *
    refine A10 (fs pa (fs hii (fs pb (fs hij (fs hc0 (fs hc0' (fs hmo (fs hmn (fs hl (fs gm (fs em (fs e2 (fs e3 (fs e4 (fs ewk hset))))))))))))))) ?_; try with_reducible exact tt
    exact ⟨k + 1, 0, o2, ⟨by omega, by omega, fun _ => rfl, hl2, hs2, by rw [ga]; exact hst, hz2⟩, by omega, ⟨Sub1.int (by omega), Sub1.int (by omega)⟩, Subs.refl _⟩
   ·have hc0' : ¬ (0 : Int) < c := by omega
    have hcz : c = 0 := by omega
    rw [hcz, Nat.mul_zero, Nat.add_zero, List.take_of_length_le (by omega)] at hv
    have hnv : dval o = dval (a.take (i + 1)) * dval b := by
     rw [hv, hta, hov, Nat.add_mul, Nat.mul_assoc]
    have hnz : ∀ j, i + 1 + b.length ≤ j → o.getD j 0 = 0 := fun j hj => hz j (by omega)
    clear hv hz hal hov hoz hta e99
    refine A10 (fs pa (fs hii (fs pb (fs hij (fs hc0 (fs hc0' ewi)))))) ?_; try with_reducible exact tt
    exact ⟨i + 1, o, ⟨by omega, hl, hs, hnv, hnz⟩, by omega, Sub1.int (by omega), Subs.refl _⟩
 ·have hii : ¬ (i : Int) < a.length := by omega
  have hi2 : i = a.length := by omega
  rw [hi2, List.take_length] at hov
  have ht := o_2b out hos (by omega)
  rw [hov, hol] at ht
  have htk : (dsD out).take n = dsD out := List.take_of_length_le (by rw [o_35]; omega)
  have hob : (out.map fun x : Nat => V.d (D.int .i64 x)) = (dsD out).map V.d := by simp [dsD]
  rw [hob]
  refine AW.freeze 0 1 ⟨3, (dsD out).map .d⟩ (dsD out) (by simp) rfl ?_
  simp [frzH, htk]
  refine A11 (fs pa hii) ht ?_; try with_reducible exact tt
theorem o_1i (x y : Nat) (hx : sizeD x ≤ 100000) (hy : sizeD y ≤ 100000) : Eqn Tryz.prog o_1x [.d (nD x), .d (nD y)] [] (.d (nD (x * y))) [] := by
 have := o_zn (decs x) (decs y) (o_k x) (o_k y) hx hy
 rwa [o_e, o_e] at this
end
end Go.Proofs.YtijbgbpjionfjaaGreatDoor.Am
namespace Go.Proofs.YtijbgbpjionfjaaGreatDoor.Am
section
open Go.RowKit
theorem o_a {n m : Nat} (h : n < 10000 ^ m) : sizeD n ≤ m := o_58 (o_1c n) (by rw [o_e]; exact h)
theorem o_9h {l : List Nat} {m : Nat} (h : m < l.length) : dval (l.drop m) = l.getD m 0 + 10000 * dval (l.drop (m + 1)) := by
 rw [List.drop_eq_getElem_cons h, dval]
 simp [List.getD, h]
theorem o_mi {l : List Nat} {m v : Nat} (h : m < l.length) : dval ((l.set m v).drop m) = v + 10000 * dval (l.drop (m + 1)) := by
 rw [o_9h (by simpa using h), List.drop_set_of_lt (by omega)]
 simp [List.getD, h]

set_option maxHeartbeats 2000000 in
theorem o_zo (x y N : Nat) (h0 : 0 < y) (hN : N ≤ 50000) (hx : x < 10000 ^ N) (hy : y < 10000 ^ N) : Eqn Tryz.prog o_ep [.d (nD x), .d (nD y)] [] (.tup [.d (nD (x / y)), .d (nD (x % y))]) [] := by
 refine Eqn.pure o_qa Plain.ok ?_
 have sx := o_a hx
 have sy := o_a hy
 have ha := o_k x
 have va := o_e x
 have hfin : ∀ q r, q * y + r = x → r < y → nD q = nD (x / y) ∧ nD r = nD (x % y) := by
  intro q r h1 h2
  rw [← h1, Nat.mul_comm q y, Nat.mul_add_div h0, Nat.div_eq_of_lt h2, Nat.mul_add_mod, Nat.mod_eq_of_lt h2]
  exact ⟨rfl, rfl⟩
 simp only [o_eq]
 rw [show nD x = .sl (decs x).length ((decs x).map fun x : Nat => D.int .i64 x) from rfl]
 unfold sizeD at sx
 generalize decs x = a at *
 rcases Nat.eq_zero_or_pos a.length with hz | hz
 ·have hx0 : x = 0 := by rw [← va, List.eq_nil_of_length_eq_zero hz]; rfl
  obtain ⟨f1, f2⟩ := hfin 0 0 (by rw [hx0]; simp) h0
  rw [← f1, ← f2]
  clear f1 f2 hfin
  have ha0 : a = [] := List.eq_nil_of_length_eq_zero hz
  subst ha0
  have ht := o_2b [] (by simp [dsmall]) (by simp)
  have hm : IntKind.i64.wrap (-1) = -1 := by decide
  have hm2 : IntKind.i64.wrap (0 - 1) = -1 := by decide
  rw [show dval [] = 0 from rfl, show D.sl ([] : List Nat).length (dsD []) = .sl 0 [] from rfl] at ht
  rw [o_zi] at ht ⊢
  refine A10 (fs hm hm2) ?_; try with_reducible exact tt
  refine AW.rounds 1 ?_
  refine AW.freeze 0 1 ⟨3, []⟩ [] (by simp) rfl ?_
  simp [frzH]
  refine A01 ht ?_; try with_reducible exact tt
  exact Sub1.tup (Subs.cons (Sub1.refl _) (Subs.cons Sub1.nil (Subs.refl _)))
 ·have hnb : (a.length : Int) * 8 ≤ 140737488355328 := by omega
  have hnb2 : a.length ≤ 17592186044416 := by omega
  have hnz : a.length ≠ 0 := by omega
  have ew0 : IntKind.i64.wrap ((a.length : Int) - 1) = (a.length : Int) - 1 := w64 (by omega) (by omega)
  refine A10 (fs hz (fs hnb (fs hnb2 (fs hnz ew0)))) ?_; try with_reducible exact tt
  have hrep : List.replicate a.length (V.d (D.int .i64 0)) = (List.replicate a.length 0).map fun x : Nat => V.d (D.int .i64 x) := by simp
  rw [hrep]
  refine AW.loopT (α := Nat × Nat × List Nat) 1 (fun s => [(8, .d (.int .i64 ((s.1 : Int) - 1))), (7, .d (nD s.2.1))]) (fun s => [(0, ⟨3, s.2.2.map fun x : Nat => V.d (D.int .i64 x)⟩)]) (fun s => s.1 ≤ a.length ∧ s.2.1 < y ∧ s.2.2.length = a.length ∧ dsmall s.2.2 ∧ dval (s.2.2.drop s.1) * y + s.2.1 = dval (a.drop s.1)) (fun s => s.1) (a.length, 0, List.replicate a.length 0) ?_ ?_ ⟨Nat.le_refl _, h0, by simp, by intro x hx; simp [List.mem_replicate] at hx; omega, by simp [dval]⟩ ?_ ?_ ?_
  ·simp
  ·simp
  ·simp
   exact Sub1.nil
  ·simp
  rintro ⟨j, r, out⟩ ⟨hj, hr, hol, hos, hov⟩
  simp only at hj hr hol hos hov
  rcases j with _ | m
  ·rw [List.drop_zero, List.drop_zero, va] at hov
   obtain ⟨f1, f2⟩ := hfin _ _ hov hr
   rw [← f1, ← f2]
   have ht := o_2b out hos (by omega)
   rw [hol] at ht
   have htk : (dsD out).take a.length = dsD out := List.take_of_length_le (by rw [o_35]; omega)
   have hob : (out.map fun x : Nat => V.d (D.int .i64 x)) = (dsD out).map V.d := by simp [dsD]
   rw [hob]
   clear f1 f2 hfin
   simp
   refine AW.freeze 0 1 ⟨3, (dsD out).map .d⟩ (dsD out) (by simp) rfl ?_
   simp [frzH, htk]
   refine A01 ht ?_; try with_reducible exact tt
  ·have hm : m < a.length := by omega
   have hmo : m < out.length := by omega
   have ga : a[m] = a.getD m 0 := by simp [List.getD, hm]
   have gl := ha.getD m
   have hda := o_9h hm
   have ewm : IntKind.i64.wrap ((m : Int) - 1) = (m : Int) - 1 := w64 (by omega) (by omega)
   have hr2 : a.getD m 0 + 10000 * r < 10000 * y := by omega
   have hy1 : 10000 * y < 10000 ^ (N + 1) := by rw [Nat.pow_succ]; omega
   have sr := o_a (Nat.lt_trans hr hy)
   have ht := o_2b (a.getD m 0 :: decs r) (fun x hx => by
    rcases List.mem_cons.1 hx with rfl | hx
    ·exact gl
    ·exact o_k r x hx) (by simp; unfold sizeD at sr; omega)
   rw [show dval (a.getD m 0 :: decs r) = a.getD m 0 + 10000 * r by rw [dval, o_e]] at ht
   simp only [List.length_cons, dsD, List.map_cons] at ht
   generalize a.getD m 0 = am at *
   obtain ⟨r2, hr2d⟩ : ∃ r2, r2 = am + 10000 * r := ⟨_, rfl⟩
   rw [← hr2d] at ht hr2
   have hr2' := hr2
   simp
   by_cases hr0 : r = 0
   ·have ht0 : decs r = [] := by rw [hr0]; rfl
    rw [ht0] at ht
    rw [show nD r = .sl 0 [] by rw [hr0]; rfl]
    refine A10 (fs hm (fs ga ewm)) ?_; try with_reducible exact tt
    refine CallS.pf 2 1 ⟨3, [.d (.int .i64 am)]⟩ [.int .i64 am] (ht) (by first | rfl | (simp; done)) (R0 ?_); try with_reducible exact tt
    refine A00 ?_; try with_reducible exact tt
    refine AW.loopT (α := Nat × Nat) 3 (fun s => [(9, .d (.int .i64 (s.1 : Nat))), (10, .d (.int .i64 (s.2 : Nat)))]) (fun s => []) (fun s => s.1 < s.2 ∧ s.2 ≤ 10000 ∧ s.1 * y ≤ r2 ∧ r2 < s.2 * y) (fun s => s.2 - s.1) (0, 10000) ?_ ?_ ⟨by decide, by decide, by omega, hr2⟩ ?_ ?_ ?_
    ·simp
    ·simp
    ·simp
    ·simp
    rintro ⟨lo, hi⟩ ⟨h1, h2, h3, h4⟩
    simp only at h1 h2 h3 h4
    simp
    by_cases hs : 1 < hi - lo
    ·obtain ⟨mid, hmid⟩ : ∃ mid, mid = (lo + hi) / 2 := ⟨_, rfl⟩
     have w1 : IntKind.i64.wrap ((hi : Int) - lo) = ((hi - lo : Nat) : Int) := by rw [w64 (by omega) (by omega)]; omega
     have w2 : IntKind.i64.wrap ((lo : Int) + hi) = ((lo + hi : Nat) : Int) := by rw [w64 (by omega) (by omega)]; omega
     have w3 : ((lo : Int) + hi).tdiv 2 = (mid : Int) := by rw [Int.tdiv_eq_ediv_of_nonneg (by omega)]; omega
     have w4 : IntKind.i64.wrap (mid : Int) = (mid : Int) := w64 (by omega) (by omega)
     have hs' : (1 : Int) < ((hi - lo : Nat) : Int) := by omega
     have c1 := o_1q mid (by omega)
     have hym : y * mid < 10000 ^ (N + 1) := by
      refine Nat.lt_of_le_of_lt (Nat.mul_le_mul_left y (show mid ≤ 10000 by omega)) ?_
      rw [Nat.mul_comm]; exact hy1
     have c2 := o_1i y mid (by omega) (Nat.le_trans (o_a (show mid < 10000 ^ 2 by omega)) (by omega))
     have c3 := o_mf (y * mid) r2 (Nat.le_trans (o_a hym) (by omega)) (Nat.le_trans (o_a (Nat.lt_trans hr2' hy1)) (by omega))
     have d1 : lo < mid ∧ mid < hi := by omega
     clear hmid
     by_cases hle : y * mid ≤ r2
     ·have hz : ¬ 0 < cmpZ (y * mid) r2 := by unfold cmpZ; split <;> (try split) <;> omega
      have hz' : cmpZ (y * mid) r2 ≤ 0 := by omega
      generalize cmpZ (y * mid) r2 = z at *
      generalize hq : hi - lo = q at *
      refine A13 (fs w1 (fs hs (fs hs' (fs w2 (fs w3 (fs w4 (fs hz hz'))))))) c1 c2 c3 ?_; try with_reducible exact tt
      exact ⟨mid, hi, ⟨by omega, h2, by rw [Nat.mul_comm]; exact hle, h4⟩, by omega, ⟨Sub1.refl _, Sub1.refl _⟩⟩
     ·have hz : 0 < cmpZ (y * mid) r2 := by unfold cmpZ; rw [if_neg (by omega), if_pos (by omega)]; decide
      have hz' : ¬ cmpZ (y * mid) r2 ≤ 0 := by omega
      generalize cmpZ (y * mid) r2 = z at *
      generalize hq : hi - lo = q at *
      refine A13 (fs w1 (fs hs (fs hs' (fs w2 (fs w3 (fs w4 (fs hz hz'))))))) c1 c2 c3 ?_; try with_reducible exact tt
      exact ⟨lo, mid, ⟨by omega, by omega, h3, by rw [Nat.mul_comm]; omega⟩, by omega, ⟨Sub1.refl _, Sub1.refl _⟩⟩
    ·have hhi : hi = lo + 1 := by omega
     subst hhi
     have w1 : IntKind.i64.wrap (((lo + 1 : Nat) : Int) - lo) = 1 := by rw [w64 (by omega) (by omega)]; omega
     have w1' : IntKind.i64.wrap ((lo : Int) + 1 - lo) = 1 := by rw [w64 (by omega) (by omega)]; omega
     have w5 : (lo : Int) + 1 - lo = 1 := by omega
     have c1 := o_1q lo (by omega)
     have hyl : y * lo ≤ r2 := by rw [Nat.mul_comm]; exact h3
     have hylN : y * lo < 10000 ^ (N + 1) := Nat.lt_of_le_of_lt hyl (Nat.lt_trans hr2' hy1)
     have c2 := o_1i y lo (by omega) (Nat.le_trans (o_a (show lo < 10000 ^ 2 by omega)) (by omega))
     have c3 := o_mg r2 (y * lo) hyl (Nat.le_trans (o_a (Nat.lt_trans hr2' hy1)) (by omega)) (Nat.le_trans (o_a hylN) (by omega))
     have hset : (out.map fun x : Nat => V.d (D.int .i64 x)).set m (.d (.int .i64 (lo : Nat))) = (out.set m lo).map fun x : Nat => V.d (D.int .i64 x) := by rw [List.map_set]
     have hnr : r2 - y * lo < y := by
      rw [Nat.add_mul, Nat.one_mul, Nat.mul_comm lo y] at h4
      omega
     have hnv : dval ((out.set m lo).drop m) * y + (r2 - y * lo) = dval (a.drop m) := by
      rw [o_mi hmo, hda, ← hov, hr2d, Nat.add_mul, Nat.mul_add, Nat.mul_comm lo y, Nat.mul_assoc]
      generalize dval (List.drop (m + 1) out) * y = t at *
      omega
     have hs2 := hos.set m lo (by omega)
     have hl2 : (out.set m lo).length = a.length := by simpa using hol
     have w6 : IntKind.i64.wrap 1 = 1 := by decide
     generalize y * lo = yl at *
     generalize r2 - yl = r3 at *
     generalize out.set m lo = out2 at *
     refine A13 (fs w1 (fs w1' (fs w5 (fs w6 (fs hm (fs hmo (fs hol (fs hset ewm)))))))) c1 c2 c3 ?_; try with_reducible exact tt
     exact ⟨m, r3, out2, ⟨by omega, hnr, hl2, hs2, hnv⟩, by omega, ⟨Sub1.refl _, Sub1.refl _⟩, Subs.refl _⟩
   ·have hlr : (decs r).length ≠ 0 := fun h => hr0 (o_md.1 (List.eq_nil_of_length_eq_zero h))
    have hlp : 0 < (decs r).length := by omega
    rw [show nD r = .sl (decs r).length ((decs r).map fun x : Nat => D.int .i64 x) from rfl]
    have hsb : ((decs r).length : Int) + 1 ≤ 17592186044416 := by unfold sizeD at sr; omega
    have hrl : ((decs r).map fun x : Nat => D.int .i64 x).length = (decs r).length := by simp
    generalize (decs r).map (fun x : Nat => D.int .i64 x) = RD at *
    generalize (decs r).length = L at *
    have htk : (D.int .i64 am :: RD).take (1 + L) = .int .i64 am :: RD := List.take_of_length_le (by simp; omega)
    rw [Nat.add_comm L 1, ← htk] at ht
    refine A10 (fs hm (fs ga (fs ewm (fs hlr (fs hlp (fs hsb hrl)))))) ?_; try with_reducible exact tt
    refine CallS.pf 2 1 ⟨3, ([D.int .i64 am] ++ RD).map V.d⟩ ([D.int .i64 am] ++ RD) (ht) (by first | rfl | (simp; done)) (R0 ?_); try with_reducible exact tt
    refine A00 ?_; try with_reducible exact tt
    refine AW.loopT (α := Nat × Nat) 3 (fun s => [(9, .d (.int .i64 (s.1 : Nat))), (10, .d (.int .i64 (s.2 : Nat)))]) (fun s => []) (fun s => s.1 < s.2 ∧ s.2 ≤ 10000 ∧ s.1 * y ≤ r2 ∧ r2 < s.2 * y) (fun s => s.2 - s.1) (0, 10000) ?_ ?_ ⟨by decide, by decide, by omega, hr2⟩ ?_ ?_ ?_
    ·simp
    ·simp
    ·simp
    ·simp
    rintro ⟨lo, hi⟩ ⟨h1, h2, h3, h4⟩
    simp only at h1 h2 h3 h4
    simp
    by_cases hs : 1 < hi - lo
    ·obtain ⟨mid, hmid⟩ : ∃ mid, mid = (lo + hi) / 2 := ⟨_, rfl⟩
     have w1 : IntKind.i64.wrap ((hi : Int) - lo) = ((hi - lo : Nat) : Int) := by rw [w64 (by omega) (by omega)]; omega
     have w2 : IntKind.i64.wrap ((lo : Int) + hi) = ((lo + hi : Nat) : Int) := by rw [w64 (by omega) (by omega)]; omega
     have w3 : ((lo : Int) + hi).tdiv 2 = (mid : Int) := by rw [Int.tdiv_eq_ediv_of_nonneg (by omega)]; omega
     have w4 : IntKind.i64.wrap (mid : Int) = (mid : Int) := w64 (by omega) (by omega)
     have hs' : (1 : Int) < ((hi - lo : Nat) : Int) := by omega
     have c1 := o_1q mid (by omega)
     have hym : y * mid < 10000 ^ (N + 1) := by
      refine Nat.lt_of_le_of_lt (Nat.mul_le_mul_left y (show mid ≤ 10000 by omega)) ?_
      rw [Nat.mul_comm]; exact hy1
     have c2 := o_1i y mid (by omega) (Nat.le_trans (o_a (show mid < 10000 ^ 2 by omega)) (by omega))
     have c3 := o_mf (y * mid) r2 (Nat.le_trans (o_a hym) (by omega)) (Nat.le_trans (o_a (Nat.lt_trans hr2' hy1)) (by omega))
     have d1 : lo < mid ∧ mid < hi := by omega
     clear hmid
     by_cases hle : y * mid ≤ r2
     ·have hz : ¬ 0 < cmpZ (y * mid) r2 := by unfold cmpZ; split <;> (try split) <;> omega
      have hz' : cmpZ (y * mid) r2 ≤ 0 := by omega
      generalize cmpZ (y * mid) r2 = z at *
      generalize hq : hi - lo = q at *
      refine A13 (fs w1 (fs hs (fs hs' (fs w2 (fs w3 (fs w4 (fs hz hz'))))))) c1 c2 c3 ?_; try with_reducible exact tt
      exact ⟨mid, hi, ⟨by omega, h2, by rw [Nat.mul_comm]; exact hle, h4⟩, by omega, ⟨Sub1.refl _, Sub1.refl _⟩⟩
     ·have hz : 0 < cmpZ (y * mid) r2 := by unfold cmpZ; rw [if_neg (by omega), if_pos (by omega)]; decide
      have hz' : ¬ cmpZ (y * mid) r2 ≤ 0 := by omega
      generalize cmpZ (y * mid) r2 = z at *
      generalize hq : hi - lo = q at *
      refine A13 (fs w1 (fs hs (fs hs' (fs w2 (fs w3 (fs w4 (fs hz hz'))))))) c1 c2 c3 ?_; try with_reducible exact tt
      exact ⟨lo, mid, ⟨by omega, by omega, h3, by rw [Nat.mul_comm]; omega⟩, by omega, ⟨Sub1.refl _, Sub1.refl _⟩⟩
    ·have hhi : hi = lo + 1 := by omega
     subst hhi
     have w1 : IntKind.i64.wrap (((lo + 1 : Nat) : Int) - lo) = 1 := by rw [w64 (by omega) (by omega)]; omega
     have w1' : IntKind.i64.wrap ((lo : Int) + 1 - lo) = 1 := by rw [w64 (by omega) (by omega)]; omega
     have w5 : (lo : Int) + 1 - lo = 1 := by omega
     have c1 := o_1q lo (by omega)
     have hyl : y * lo ≤ r2 := by rw [Nat.mul_comm]; exact h3
     have hylN : y * lo < 10000 ^ (N + 1) := Nat.lt_of_le_of_lt hyl (Nat.lt_trans hr2' hy1)
     have c2 := o_1i y lo (by omega) (Nat.le_trans (o_a (show lo < 10000 ^ 2 by omega)) (by omega))
     have c3 := o_mg r2 (y * lo) hyl (Nat.le_trans (o_a (Nat.lt_trans hr2' hy1)) (by omega)) (Nat.le_trans (o_a hylN) (by omega))
     have hset : (out.map fun x : Nat => V.d (D.int .i64 x)).set m (.d (.int .i64 (lo : Nat))) = (out.set m lo).map fun x : Nat => V.d (D.int .i64 x) := by rw [List.map_set]
     have hnr : r2 - y * lo < y := by
      rw [Nat.add_mul, Nat.one_mul, Nat.mul_comm lo y] at h4
      omega
     have hnv : dval ((out.set m lo).drop m) * y + (r2 - y * lo) = dval (a.drop m) := by
      rw [o_mi hmo, hda, ← hov, hr2d, Nat.add_mul, Nat.mul_add, Nat.mul_comm lo y, Nat.mul_assoc]
      generalize dval (List.drop (m + 1) out) * y = t at *
      omega
     have hs2 := hos.set m lo (by omega)
     have hl2 : (out.set m lo).length = a.length := by simpa using hol
     have w6 : IntKind.i64.wrap 1 = 1 := by decide
     generalize y * lo = yl at *
     generalize r2 - yl = r3 at *
     generalize out.set m lo = out2 at *
     refine A13 (fs w1 (fs w1' (fs w5 (fs w6 (fs hm (fs hmo (fs hol (fs hset ewm)))))))) c1 c2 c3 ?_; try with_reducible exact tt
     exact ⟨m, r3, out2, ⟨by omega, hnr, hl2, hs2, hnv⟩, by omega, ⟨Sub1.refl _, Sub1.refl _⟩, Subs.refl _⟩
end
end Go.Proofs.YtijbgbpjionfjaaGreatDoor.Am
namespace Go.Proofs.YtijbgbpjionfjaaGreatDoor.Am
section
open Go.RowKit
theorem o_9i {w m : Nat} (h : w < 18446744073709551616) (hm : 5 ≤ m) : sizeD w ≤ m :=
 Nat.le_trans (o_a (m := 5) (Nat.lt_trans h (by decide))) hm
theorem o_zp (B hi lo w : Nat) (hB : B ≤ 4294967296) (h1 : hi ≤ 4294967296) (h2 : lo ≤ 4294967296) (hw : hi * B + lo = w) : ∃ N0 N1 N2 N3 N4 N5 : D, Eqn Tryz.prog o_2p [.d (.int .i64 B)] [] (.d N3) [] ∧ Eqn Tryz.prog o_1x [.d N3, .d N3] [] (.d N1) [] ∧ Eqn Tryz.prog o_1x [.d .nilsl, .d N1] [] (.d N0) [] ∧ Eqn Tryz.prog o_2p [.d (.int .i64 hi)] [] (.d N4) [] ∧ Eqn Tryz.prog o_2p [.d (.int .i64 lo)] [] (.d N5) [] ∧ Eqn Tryz.prog o_1x [.d N4, .d N3] [] (.d N2) [] ∧ Eqn Tryz.prog o_2o [.d N2, .d N5] [] (.d (nD w)) [] ∧ Eqn Tryz.prog o_2o [.d N0, .d (nD w)] [] (.d (nD w)) [] := by
 have sz : ∀ x, x ≤ 4294967296 → sizeD x ≤ 100000 := fun x hx => Nat.le_trans (o_a (show x < 10000 ^ 3 by omega)) (by omega)
 have bb : ∀ x y, x ≤ 4294967296 → y ≤ 4294967296 → x * y < 10000 ^ 6 := fun x y hx hy => Nat.lt_of_le_of_lt (Nat.mul_le_mul hx hy) (by decide)
 have szm : ∀ x y, x ≤ 4294967296 → y ≤ 4294967296 → sizeD (x * y) ≤ 100000 := fun x y hx hy => Nat.le_trans (o_a (bb x y hx hy)) (by omega)
 have sw : sizeD w ≤ 100000 := Nat.le_trans (o_a (m := 7) (by have := bb hi B h1 hB; omega)) (by omega)
 refine ⟨nD (0 * (B * B)), nD (B * B), nD (hi * B), nD B, nD hi, nD lo, o_1q B (by omega), o_1i B B (sz B hB) (sz B hB), (o_1i 0 (B * B) (sz 0 (by omega)) (szm B B hB hB)).sub (Subs.cons Sub1.nil (Subs.refl _)), o_1q hi (by omega), o_1q lo (by omega), o_1i hi B (sz hi h1) (sz B hB), ?_, ?_⟩
 ·have := o_9f (hi * B) lo (szm hi B h1 hB) (sz lo h2)
  rwa [hw] at this
 ·have := o_9f (0 * (B * B)) w (by rw [Nat.zero_mul]; exact sz 0 (by omega)) sw
  rwa [show 0 * (B * B) + w = w by rw [Nat.zero_mul, Nat.zero_add]] at this
theorem o_5a (w : Nat) (h : w < 18446744073709551616) : Eqn Tryz.prog o_cx [.d (.sl 1 [.int .u64 w])] [] (.d (nD w)) [] := by
 refine Eqn.pure o_pe Plain.ok ?_
 obtain ⟨hi, hhi⟩ : ∃ x, x = w / 4294967296 := ⟨_, rfl⟩
 obtain ⟨lo, hlo⟩ : ∃ x, x = w % 4294967296 := ⟨_, rfl⟩
 have hw : hi * 4294967296 + lo = w := by omega
 have e1 : (w : Int).tdiv 4294967296 = (hi : Int) := by rw [Int.tdiv_eq_ediv_of_nonneg (by omega)]; omega
 have e2 : (w : Int).tmod 4294967296 = (lo : Int) := by rw [Int.tmod_eq_emod_of_nonneg (by omega)]; omega
 have e3 : IntKind.i64.wrap (hi : Int) = (hi : Int) := w64 (by omega) (by omega)
 have e4 : IntKind.i64.wrap (lo : Int) = (lo : Int) := w64 (by omega) (by omega)
 have e5 : IntKind.u64.wrap (hi : Int) = (hi : Int) := by rw [IntKind.wrap_u64]; omega
 obtain ⟨N0, N1, N2, N3, N4, N5, s0, m0, m1, s1, s2, m2, a1, a2⟩ := o_zp 4294967296 hi lo w (by omega) (by omega) (by omega) hw
 have m9 : IntKind.i64.wrap (-1) = -1 := by decide
 have m8 : IntKind.i64.wrap (0 - 1) = -1 := by decide
 clear hhi hlo hw
 generalize nD w = N6 at *
 simp only [o_cy]
 refine A02 s0 m0 ?_; try with_reducible exact tt
 refine AW.rounds 2 ?_
 refine A18 (fs e1 (fs e2 (fs e3 (fs e4 (fs e5 (fs m8 m9)))))) s1 s2 s0 m1 m2 a1 a2 a2 ?_; try with_reducible exact tt

theorem o_zq (l : List Nat) (j : Nat) : dval (l.drop j) ≤ dval l := by
 rcases Nat.lt_or_ge j l.length with h | h
 ·have := o_33 (l.take j) (l.drop j)
  rw [List.take_append_drop] at this
  have hp : 10000 ^ 0 ≤ 10000 ^ (l.take j).length := Nat.pow_le_pow_right (by omega) (Nat.zero_le _)
  rw [Nat.pow_zero] at hp
  have := Nat.mul_le_mul_right (dval (l.drop j)) hp
  omega
 ·rw [List.drop_of_length_le h]; exact Nat.zero_le _
theorem o_zr (x m N : Nat) (h0 : 0 < m) (hm : m < 18446744073709551616) (hN : 5 ≤ N) (hN2 : N ≤ 50000) (hx : x < 10000 ^ N) : Eqn Tryz.prog o_ct [.d (nD x), .d (.int .u64 m)] [] (.d (.int .u64 (x % m : Nat))) [] := by
 refine Eqn.pure o_pb Plain.ok ?_
 have h1 := o_5a m hm
 have h2 := o_zo x m N h0 hN2 hx (Nat.lt_of_lt_of_le (show m < 10000 ^ 5 by omega) (Nat.pow_le_pow_right (by omega) hN))
 have hr : x % m < m := Nat.mod_lt _ h0
 generalize x % m = r at *
 have hsz : (decs r).length ≤ 5 := o_58 (o_1c r) (by rw [o_e]; omega)
 have hs := o_k r
 have hv := o_e r
 have hle := o_zq (decs r)
 rw [hv] at hle
 rw [show nD r = .sl (decs r).length ((decs r).map fun x : Nat => D.int .i64 x) from rfl] at h2
 generalize decs r = l at *
 generalize nD (x / m) = Q at *
 generalize nD x = X at *
 generalize nD m = M at *
 have ew0 : IntKind.i64.wrap ((l.length : Int) - 1) = (l.length : Int) - 1 := w64 (by omega) (by omega)
 simp only [o_cu]
 refine G0 ?_; try with_reducible exact tt
 refine CallS.pf 0 1 ⟨28, [.d (.int .u64 m)]⟩ [.int .u64 m] (h1) (by first | rfl | (simp; done)) (R0 ?_); try with_reducible exact tt
 refine A11 ew0 h2 ?_; try with_reducible exact tt
 refine AW.loopT (α := Nat) 1 (fun j => [(8, .d (.int .i64 ((j : Int) - 1))), (7, .d (.int .u64 (dval (l.drop j) : Nat)))]) (fun j => []) (fun j => j ≤ l.length) (fun j => j) l.length ?_ ?_ (Nat.le_refl _) ?_ ?_ ?_
 ·simp
 ·simp
 ·simp [dval]
 ·simp
 rintro j hj
 rcases j with _ | i
 ·simp
  rw [hv]
  refine A00 ?_; try with_reducible exact tt
 ·have hi : i < l.length := by omega
  have hd := o_9h hi
  have gi := hs.getD i
  have gl : l[i] = l.getD i 0 := by simp [List.getD, hi]
  have hd1 := hle i
  have ewi : IntKind.i64.wrap ((i : Int) - 1) = (i : Int) - 1 := w64 (by omega) (by omega)
  generalize l.getD i 0 = d at *
  have e1 : IntKind.u64.wrap (10000 * (dval (l.drop (i + 1)) : Int)) = ((10000 * dval (l.drop (i + 1)) : Nat) : Int) := by rw [IntKind.wrap_u64]; omega
  have e2 : IntKind.u64.wrap (d : Int) = (d : Int) := by rw [IntKind.wrap_u64]; omega
  generalize hB : dval (l.drop (i + 1)) = B at *
  have e3 : IntKind.u64.wrap (10000 * (B : Int) + d) = (dval (l.drop i) : Int) := by rw [IntKind.wrap_u64, hd]; omega
  generalize hC : dval (l.drop i) = C2 at *
  simp
  refine A10 (fs hi (fs gl (fs ewi (fs e1 (fs e2 e3))))) ?_; try with_reducible exact tt
  exact ⟨i, by omega, by omega, by rw [hC]; exact Sub1.refl _, Sub1.refl _⟩
theorem o_zs (a b key : Nat) (ha : a < hP) (hb : b < hP) (hk : key < hP) : Eqn Tryz.prog o_bn [.d (.int .u64 a), .d (.int .u64 b), .d (.int .u64 key)] [] (.d (.int .u64 (hsum a b key : Nat))) [] := by
 refine Eqn.pure o_oo Plain.ok ?_
 unfold hP at ha hb hk
 have o1 := o_5a a (by omega)
 have o2 := o_5a key (by omega)
 have o3 := o_5a b (by omega)
 have m1 := o_1i a key (o_9i (by omega) (by omega)) (o_9i (by omega) (by omega))
 have hak : a * key < 10000 ^ 10 := Nat.lt_of_le_of_lt (Nat.mul_le_mul (show a ≤ 10000 ^ 5 - 1 by omega) (show key ≤ 10000 ^ 5 - 1 by omega)) (by decide)
 have a1 := o_9f (a * key) b (Nat.le_trans (o_a hak) (by omega)) (o_9i (by omega) (by omega))
 have h11 : a * key + b < 10000 ^ 11 := by
  have : 10000 ^ 11 = 10000 * 10000 ^ 10 := by decide
  omega
 have r1 := o_zr (a * key + b) 2305843009213693951 11 (by omega) (by omega) (by omega) (by omega) h11
 rw [show (a * key + b) % 2305843009213693951 = hsum a b key from (o_wt a b key).symm] at r1
 generalize hsum a b key = z at *
 generalize nD (a * key + b) = N1 at *
 generalize nD (a * key) = N2 at *
 generalize nD a = N3 at *
 generalize nD key = N4 at *
 generalize nD b = N5 at *
 simp only [o_bo]
 refine G0 ?_; try with_reducible exact tt
 refine CallS.pf 0 1 ⟨28, [.d (.int .u64 a)]⟩ [.int .u64 a] (o1) (by first | rfl | (simp; done)) (R0 ?_); try with_reducible exact tt
 refine CallS.pf 1 1 ⟨28, [.d (.int .u64 key)]⟩ [.int .u64 key] (o2) (by first | rfl | (simp; done)) (R0 ?_); try with_reducible exact tt
 refine A01 m1 ?_; try with_reducible exact tt
 refine CallS.pf 2 1 ⟨28, [.d (.int .u64 b)]⟩ [.int .u64 b] (o3) (by first | rfl | (simp; done)) (R0 ?_); try with_reducible exact tt
 refine A02 a1 r1 ?_; try with_reducible exact tt
end
end Go.Proofs.YtijbgbpjionfjaaGreatDoor.Am
namespace Go.Proofs.YtijbgbpjionfjaaGreatDoor.Am
section
open Go.RowKit
end
end Go.Proofs.YtijbgbpjionfjaaGreatDoor.Am
namespace Go.Proofs.YtijbgbpjionfjaaGreatDoor.Am
section
open Go.RowKit
def stL (l : List ST) : List D := l.flatMap fun s => [.int .i64 s.1, .int .i64 s.2.1, .bool s.2.2]
end
end Go.Proofs.YtijbgbpjionfjaaGreatDoor.Am
namespace Go.Proofs.YtijbgbpjionfjaaGreatDoor.Am
section
open Go.RowKit
abbrev RawS := Int × Int × Bool
def rawL (l : List RawS) : List D := l.flatMap fun s => [.int .i64 s.1, .int .i64 s.2.1, .bool s.2.2]
abbrev stV (l : List ST) : List V := (stL l).map .d
@[simp] theorem o_10k (n : Nat) (l : List ST) : V.lowl n (stV l) = true := o_5v n _
@[simp] theorem o_10l (θ : Nat → Nat) (l : List ST) : V.rens θ (stV l) = stV l := o_3j θ _

def upTo (l : List ST) (i : Nat) : List ST := l.take i ++ List.replicate (l.length - i) (0, 0, false)
end
end Go.Proofs.YtijbgbpjionfjaaGreatDoor.Am
namespace Go.Proofs.YtijbgbpjionfjaaGreatDoor.Am
section
open Go.RowKit
def packBits (w : Nat) (xs : List Nat) : List Bool := xs.flatMap fun x => bitsW x w
end
end Go.Proofs.YtijbgbpjionfjaaGreatDoor.Am
namespace Go.Proofs.YtijbgbpjionfjaaGreatDoor.Am
section
open Go.RowKit
structure MR where
 e : Int
 l : List ST
 p : Nat
 d : Bool
def mergeUp (cs : List Bool) (k a b : Nat) (l m : List ST) (p : Nat) (d : Bool) : Nat → MR
 | 0 => ⟨0, [], p, d⟩
 | i + 1 =>
  let S := mergeUp cs k a b l m p d i
  if S.e = 0 then
   let R := mergeRM cs k a b (l.getD i (0, 0, false)).1 (l.getD i (0, 0, false)).2.1 (l.getD i (0, 0, false)).2.2 (m.getD i (0, 0, false)).1 (m.getD i (0, 0, false)).2.1 (m.getD i (0, 0, false)).2.2 S.p S.d
   if R.e = 0 then ⟨0, S.l ++ [(R.y, R.t, R.f)], R.p, R.d⟩ else ⟨R.e, S.l, R.p, R.d⟩
  else S
def twin (l acc : List ST) : List ST := acc ++ l.drop acc.length
end
end Go.Proofs.YtijbgbpjionfjaaGreatDoor.Am
namespace Go.Proofs.YtijbgbpjionfjaaGreatDoor.Am
section
open Go.RowKit
end
end Go.Proofs.YtijbgbpjionfjaaGreatDoor.Am
namespace Go.Proofs.YtijbgbpjionfjaaGreatDoor.Am
section
open Go.RowKit
end
end Go.Proofs.YtijbgbpjionfjaaGreatDoor.Am
namespace Go.Proofs.YtijbgbpjionfjaaGreatDoor.Am
section
open Go.RowKit
def hsOf (rs : List Rw) : List (Nat × Nat) := rs.map fun r => (r.a, r.b)
instance : DecidableEq Rw := fun x y => decidable_of_iff (x.a = y.a ∧ x.b = y.b ∧ x.l = y.l) (by cases x; cases y; simp)
end
end Go.Proofs.YtijbgbpjionfjaaGreatDoor.Am
namespace Go.Proofs.YtijbgbpjionfjaaGreatDoor.Am
section
open Go.RowKit
def mrgC (r : Rw) (Z : MR) (U : UR) : UR := if Z.e = 0 then ⟨U.e, ⟨r.a, r.b, Z.l⟩ :: U.rs, U.p, U.d⟩ else ⟨Z.e, [], Z.p, Z.d⟩
def mrgM (cs : List Bool) (C k a b : Nat) : List Rw → List Rw → Nat → Bool → UR
 | r :: rs, m :: ms, p, d => mrgC r (mergeUp cs k a b r.l m.l p d C) (mrgM cs C k a b rs ms (mergeUp cs k a b r.l m.l p d C).p (mergeUp cs k a b r.l m.l p d C).d)
 | _, _, p, d => ⟨0, [], p, d⟩
end
end Go.Proofs.YtijbgbpjionfjaaGreatDoor.Am
namespace Go.Proofs.YtijbgbpjionfjaaGreatDoor.Am
section
open Go.RowKit
def rowP (cs : List Bool) (C k a b : Nat) : List Rw → List Rw → Nat → Bool → Nat → Nat × Bool
 | r :: rs, m :: ms, p, d, j + 1 => rowP cs C k a b rs ms (mergeUp cs k a b r.l m.l p d C).p (mergeUp cs k a b r.l m.l p d C).d j
 | _, _, p, d, _ => (p, d)
@[simp] theorem o_10m {cs : List Bool} {C k a b : Nat} (rs ms : List Rw) (p : Nat) (d : Bool) : rowP cs C k a b rs ms p d 0 = (p, d) := by
 unfold rowP; cases rs <;> cases ms <;> rfl
def rowZ (cs : List Bool) (C k a b : Nat) (rs ms : List Rw) (p : Nat) (d : Bool) (j : Nat) : MR :=
 mergeUp cs k a b (rs.getD j ⟨0, 0, []⟩).l (ms.getD j ⟨0, 0, []⟩).l (rowP cs C k a b rs ms p d j).1 (rowP cs C k a b rs ms p d j).2 C
def cellR (cs : List Bool) (k a b : Nat) (l m : List ST) (p : Nat) (d : Bool) (c : Nat) : TR :=
 mergeRM cs k a b (l.getD c (0, 0, false)).1 (l.getD c (0, 0, false)).2.1 (l.getD c (0, 0, false)).2.2 (m.getD c (0, 0, false)).1 (m.getD c (0, 0, false)).2.1 (m.getD c (0, 0, false)).2.2 (mergeUp cs k a b l m p d c).p (mergeUp cs k a b l m p d c).d
theorem o_zt {R C k a b T : Nat} (rs : List Rw) : Eqn Tryz.prog o_bp [.p 0 0] [skO R C k a b rs T] (.d (cpD R C k a b)) [skO R C k a b rs T] := by
 refine Eqn.gen [0] o_op (by simp) (by simp) (by rfl) (by decide) (by simp) (by simp [skO, skD]) ?_
 simp only [o_bq, skO, skD, cpD, List.map_cons, List.map_nil]
 refine A00 ?_; try with_reducible exact tt
end
end Go.Proofs.YtijbgbpjionfjaaGreatDoor.Am
namespace Go.Proofs.YtijbgbpjionfjaaGreatDoor.Am
section
open Go.RowKit
theorem o_9j {f : Nat → Rat} : ∀ n j, j < n → ¬ f j < leastQ f n
 | n + 1, j, h => by
  unfold leastQ
  by_cases h0 : n = 0
  ·subst h0
   rw [if_pos (.inl rfl), show j = 0 by omega]
   exact Rat.lt_irrefl
  ·by_cases h1 : f n < leastQ f n
   ·rw [if_pos (.inr h1)]
    by_cases hj : j = n
    ·rw [hj]; exact Rat.lt_irrefl
    ·have := o_9j (f := f) n j (by omega)
     grind
   ·rw [if_neg (by rintro (h | h); exact h0 h; exact h1 h)]
    by_cases hj : j = n
    ·rw [hj]; exact h1
    ·exact o_9j n j (by omega)
theorem o_mj {f : Nat → Rat} : ∀ n, ∃ j, j < n + 1 ∧ leastQ f (n + 1) = f j
 | 0 => ⟨0, by omega, by unfold leastQ; rw [if_pos (.inl rfl)]⟩
 | n + 1 => by
  obtain ⟨j, hj, e⟩ := o_mj (f := f) n
  rw [leastQ]
  split
  ·exact ⟨n + 1, by omega, rfl⟩
  ·exact ⟨j, by omega, e⟩
theorem o_zu {R C k a b T : Nat} (rs : List Rw) (h1 : 1 ≤ C) (hC : C ≤ 64) (hn0 : 1 ≤ rs.length) (hn : rs.length ≤ 4) (hr : ∀ r ∈ rs, GoodRow C k a b r) (key : Nat) (hk : hP ≤ key) :
  Eqn Tryz.prog o_60 [.p 0 0, .d (.int .u64 key)] [skO R C k a b rs T] (.tup [.d (.agg [.nilsl, .bool false, .nilsl]), .d (.int .i64 2)]) [skO R C k a b rs T] := by
 refine Eqn.gen [0] o_b9 (by simp) (by simp) (by rfl) (by decide) (by simp) (by simp [skO, skD]) ?_
 obtain ⟨r0, rl, rfl⟩ : ∃ r rl, rs = r :: rl := by
  cases rs with
  | nil => simp at hn0
  | cons r rl => exact ⟨r, rl, rfl⟩
 obtain ⟨hA, hB, -, -⟩ := hr r0 (by simp)
 have hof := o_wx r0.a r0.b key C hA hB hk h1 hC
 have hlp : 0 < rl.length + 1 := by omega
 have hlen := o_57 k a b rl
 simp only [o_61, skO, skD, rowsD, rowD, List.flatMap_cons, List.map_cons, List.map_nil, List.cons_append, List.nil_append, List.length_cons, hD] at hof ⊢
 unfold rowsD at hlen
 generalize rl.flatMap (rowD k a b) = RL at *
 generalize arrD k a b r0.l = AD at *
 have hb3 : 3 ≤ (rl.length + 1) * 3 := by omega
 refine G0 ?_; try with_reducible exact tt
 refine AW.rounds 1 ?_
 refine A11 (fs hlp (fs hb3 hlen)) hof ?_; try with_reducible exact tt

def coins5 (n : Nat) : List Bool := (List.range n).map fun j => decide (j % 5 ≠ 2)
theorem o_zv (n : Nat) : coins5 (n + 1) = coins5 n ++ [decide (n % 5 ≠ 2)] := by simp [coins5, List.range_succ]
theorem o_36 (n : Nat) : (coins5 n).length = n := by simp [coins5]
set_option maxHeartbeats 4000000 in
theorem o_zw (r c k a b : Int) (ws : List Nat) (us : List (Nat × Int)) (key : Nat) (hws : ws.length ≤ 9223372036854775807) (hus : us.length ≤ 9223372036854775807) (hku : ∀ u ∈ us, u.1 < 18446744073709551616) (hk : key < 18446744073709551616) :
  Eqn Tryz.prog o_5y [.d (drD r c k a b ws), .d (.sl us.length (updD us)), .d (.int .u64 key)] [] (.d (.bool true)) [] := by
 refine Eqn.pure o_ay Plain.ok ?_
 obtain ⟨R, C, K, A, B, hgp, hR0, hpar⟩ := o_yq r c k a b ws
 simp only [o_ax, drD]
 generalize hWD : (ws.map fun x : Nat => D.int .u64 x) = WD at *
 refine A01B o_z7 ?_; try with_reducible exact tt
 refine AW.loopG (α := Nat) (fun i => setS (List.replicate 106 .junk) [(1, .d (.sl us.length (updD us))), (2, .d (.int .u64 key)), (3, .p 0 0), (7, if i = 0 then .d .nilsl else .own 1 1 i), (21, .d (.int .i64 (i : Nat)))]) (fun i => some ⟨26, [.d (.int .i64 r), .d (.int .i64 c), .d (.int .i64 k), .d (.int .i64 a), .d (.int .i64 b), .d (.sl ws.length WD)]⟩ :: (if i = 0 then [] else [some ⟨4, ((coins5 i).map D.bool).map .d⟩])) (fun i => i ≤ 300) (fun i => 300 - i) 0 ?_ (Nat.zero_le _) ?_ ?_ ?_
 ·intro i hi; split <;> simp
 ·simp
 ·simp
 rintro i hi
 by_cases hi3 : i < 300
 ·have hi3' : (i : Int) < 300 := by omega
  have ew : IntKind.i64.wrap ((i : Int) + 1) = (i : Int) + 1 := w64 (by omega) (by omega)
  have e5 : (i : Int).tmod 5 = ((i % 5 : Nat) : Int) := by rw [Int.tmod_eq_emod_of_nonneg (by omega)]; omega
  have hsn : ((coins5 (i + 1)).map D.bool).map V.d = ((coins5 i).map D.bool).map V.d ++ [.d (.bool (decide (i % 5 ≠ 2)))] := by rw [o_zv]; simp
  have hcl : ((coins5 i).map D.bool).length = i := by rw [List.length_map, o_36]
  have hlo : ∀ n, V.lowl n (((coins5 i).map D.bool).map V.d) = true := fun n => o_5v _ _
  have hre : ∀ θ, V.rens θ (((coins5 i).map D.bool).map V.d) = ((coins5 i).map D.bool).map V.d := fun θ => o_3j _ _
  have hc0 : i = 0 → (coins5 i).map D.bool = [] := fun h => by rw [h]; rfl
  replace hsn : (coins5 (i + 1)).map (V.d ∘ D.bool) = ((coins5 i).map D.bool).map V.d ++ [.d (.bool (decide (i % 5 ≠ 2)))] := by rw [← List.map_map, hsn]
  generalize (coins5 i).map D.bool = CD at *
  generalize hx : i % 5 = x at *
  by_cases hx2 : x = 2
  ·have hx2' : (x : Int) = 2 := by omega
   have hxb : ((x : Int) != 2) = false := by simp [hx2']
   have hnx := hsn
   rw [show decide (x ≠ 2) = false by simp [hx2]] at hnx
   clear hsn
   by_cases hi0 : i = 0
   ·rw [if_pos hi0, if_pos hi0]
    rw [hc0 hi0] at hnx
    rw [hi0] at hnx
    simp [-Bool.exists_bool]
    refine A10B (fs hi3 (fs hi3' (fs e5 (fs ew (fs hx2 (fs hx2' hxb)))))) ?_; try with_reducible exact tt
    refine ⟨i + 1, 1, 2, by simp, by omega, by omega, ?_, ?_⟩
    ·simp [swT, swH, sw, Ob.sw, V.ren, V.rens, hi0, -Bool.exists_bool]
    ·simp [swT, swH, sw, Ob.sw, V.ren, V.rens, hi0, hnx, -Bool.exists_bool]
   ·rw [if_neg hi0, if_neg hi0]
    simp [-Bool.exists_bool]
    refine A10B (fs hi3 (fs hi3' (fs e5 (fs ew (fs hx2 (fs hx2' (fs hxb hcl))))))) ?_; try with_reducible exact tt
    refine ⟨i + 1, 1, 3, by simp, by omega, by omega, ?_, ?_⟩
    ·simp [swT, swH, sw, Ob.sw, V.ren, V.rens, -Bool.exists_bool]
    ·simp [swT, swH, sw, Ob.sw, V.ren, V.rens, hnx, -Bool.exists_bool]
  ·have hx2' : ¬ (x : Int) = 2 := by omega
   have hxb : ((x : Int) != 2) = true := by simp [hx2']
   have hnx := hsn
   rw [show decide (x ≠ 2) = true by simp [hx2]] at hnx
   clear hsn
   by_cases hi0 : i = 0
   ·rw [if_pos hi0, if_pos hi0]
    rw [hc0 hi0] at hnx
    rw [hi0] at hnx
    simp [-Bool.exists_bool]
    refine A10B (fs hi3 (fs hi3' (fs e5 (fs ew (fs hx2 (fs hx2' hxb)))))) ?_; try with_reducible exact tt
    refine ⟨i + 1, 1, 2, by simp, by omega, by omega, ?_, ?_⟩
    ·simp [swT, swH, sw, Ob.sw, V.ren, V.rens, hi0, -Bool.exists_bool]
    ·simp [swT, swH, sw, Ob.sw, V.ren, V.rens, hi0, hnx, -Bool.exists_bool]
   ·rw [if_neg hi0, if_neg hi0]
    simp [-Bool.exists_bool]
    refine A10B (fs hi3 (fs hi3' (fs e5 (fs ew (fs hx2 (fs hx2' (fs hxb hcl))))))) ?_; try with_reducible exact tt
    refine ⟨i + 1, 1, 3, by simp, by omega, by omega, ?_, ?_⟩
    ·simp [swT, swH, sw, Ob.sw, V.ren, V.rens, -Bool.exists_bool]
    ·simp [swT, swH, sw, Ob.sw, V.ren, V.rens, hnx, -Bool.exists_bool]
 ·have h3 : i = 300 := by omega
  subst h3
  have hcl : ((coins5 300).map D.bool).length = 300 := by rw [List.length_map, o_36]
  have hnw : Eqn Tryz.prog o_3k [.d (.sl 300 ((coins5 300).map D.bool))] [] (.p 0 0) [tapeO (coins5 300) 0 false] := by
   have := o_jv (coins5 300) (by rw [o_36]; omega)
   unfold BL at this
   rwa [o_36] at this
  have hc5 := o_36 300
  obtain ⟨S, hS⟩ : ∃ S, S = bldM (coins5 300) C K A B us ((drawH ws R).map (newRow C)) (min 12 us.length) := ⟨_, rfl⟩
  have hb := o_z6 r c k a b ws us (coins5 300) hws hus hku (by omega) hgp hR0 hpar S hS
  have hlt := o_m0 ws hgp.2.1
  have hlen : (drawH ws R).length = R := by simp [drawH]
  obtain ⟨hr1, hr4, hC1, hC64, hg⟩ := hgp
  have hgd : ∀ r ∈ (drawH ws R).map (newRow C), GoodRow C K A B r := by
   intro x hx
   obtain ⟨y, hy, rfl⟩ := List.mem_map.1 hx
   exact o_m5 hg y (hlt y hy)
  have hl0 : ((drawH ws R).map (newRow C)).length = R := by simp [hlen]
  obtain ⟨k1, k2, -, k4, -⟩ := o_9c (cs := coins5 300) (us := us) hg hC1 (by omega) hgd (min 12 us.length) (by omega)
  rw [← hS] at k1 k2 k4
  replace k1 := k1.trans hl0
  clear hS hgd hlt hl0 hlen
  obtain ⟨rs, T, p, d⟩ := S
  simp only at k1 k2 k4 hb
  rw [if_neg (show ¬ 300 = 0 by decide), if_neg (show ¬ 300 = 0 by decide)]
  have htk : ((coins5 300).map D.bool).take 300 = (coins5 300).map D.bool := List.take_of_length_le (by omega)
  simp only [drD, hWD, skO, skD, List.map_cons, List.map_nil, k1, tapeO] at hb hnw
  rw [← htk] at hnw
  generalize (coins5 300).map D.bool = CD at *
  generalize coins5 300 = cc at *
  refine A00B ?_; try with_reducible exact tt
  refine CallS.gf 1 1 ⟨4, CD.map V.d⟩ CD [] (hnw) (R0B ?_); try with_reducible exact tt
  refine CallS.g [2] (hb) (R0B ?_); try with_reducible exact tt
  refine A00B ?_; try with_reducible exact tt
  by_cases hkP : hP ≤ key
  ·have hq := o_zu (R := R) (C := C) (k := K) (a := A) (b := B) (T := T) rs hC1 hC64 (by omega) (by omega) k2 key hkP
   have ht : Eqn Tryz.prog o_62 [.d (.agg [.nilsl, .bool false, .nilsl])] [] (.d (.str (smallS 0))) [] := by
    have := o_m6 0 (by omega)
    refine this.sub (Subs.cons (Sub1.aggd (Subs.cons Sub1.nil (Subs.cons (Sub1.refl _) (Subs.cons Sub1.nil (Subs.refl _))))) (Subs.refl _))
   have hs0 : (smallS 0).toList = [48] := by kernel_rfl
   unfold hP at hkP
   have g1 : (2305843009213693951 : Int) ≤ key := by omega
   simp only [skO, skD, List.map_cons, List.map_nil, k1] at hq
   refine CallS.g [3] (hq) (R1B (fs g1 hkP) ?_); try with_reducible exact tt
   refine A11B (fs g1 (fs hkP hs0)) ht ?_; try with_reducible exact tt
  ·have hkP2 : key < hP := by omega
   have hq := o_lz (R := R) (C := C) (k := K) (a := A) (b := B) (T := T) hg rs hC1 hC64 (by omega) (by omega) k2 key hkP2
   obtain ⟨f, hf⟩ : ∃ f, f = valsOf C K A B key rs := ⟨_, rfl⟩
   have hRS : ∀ i, i < R → RS (f i) 1000 := by
    intro i hi
    rw [hf]
    unfold valsOf
    rw [List.getElem?_eq_getElem (show i < rs.length by omega)]
    exact o_ly hg _ (k2 _ (List.getElem_mem _)) hC1
   have hfi : ∀ i (h : i < rs.length), f i = valAt C K A B key rs[i] := by
    intro i h
    rw [hf]
    unfold valsOf
    rw [List.getElem?_eq_getElem h]
   rw [← hf, k1] at hq
   obtain ⟨v, hv⟩ : ∃ v, v = leastQ f R := ⟨_, rfl⟩
   have hvR : RS v 1000 := by rw [hv]; exact o_99 R hRS
   have hle : ∀ i, i < R → ¬ f i < v := fun i hi => by rw [hv]; exact o_9j R i hi
   have hmem : ∃ j, j < R ∧ f j = v := by
    obtain ⟨j, hj, e⟩ := o_mj (f := f) (R - 1)
    rw [show R - 1 + 1 = R by omega] at hj e
    exact ⟨j, hj, by rw [hv, e]⟩
   rw [← hv] at hq
   clear hv hf
   have hsh := o_yn (R := R) (C := C) (k := K) (a := A) (b := B) (T := T) rs (by omega) (by omega)
   have hpm := o_zt (R := R) (C := C) (k := K) (a := A) (b := B) (T := T) rs
   have hhg := o_wz (rs.map fun r => (r.a, r.b))
   have hhl := o_x0 (rs.map fun r => (r.a, r.b))
   have hml : (rs.map fun r => (r.a, r.b)).length = R := by simp [k1]
   rw [hml] at hhl
   have hcel := fun i j hi hg2 hj => o_yo (R := R) (C := C) (k := K) (a := A) (b := B) (T := T) hg rs hC64 i j hi (by omega) hg2 hj
   unfold hP at hkP
   have g1 : ¬ (2305843009213693951 : Int) ≤ key := by omega
   simp only [skO, skD, List.map_cons, List.map_nil, k1, rD, cpD] at hq hsh hpm hcel
   generalize rowsD K A B rs = RD at *
   generalize hHD : hashesD (rs.map fun r => (r.a, r.b)) = HD at *
   have hrp : (0 : Int) < R := by omega
   refine CallS.g [3] (hq) (R1B (fs g1 hkP) ?_); try with_reducible exact tt
   refine A10B (fs g1 hkP) ?_; try with_reducible exact tt
   refine CallS.g [3] (hsh) (R0B ?_); try with_reducible exact tt
   refine A00B ?_; try with_reducible exact tt
   refine AW.loopT (α := Nat × Bool) 6 (fun s => [(58, .d (.int .i64 (s.1 : Nat))), (12, .d (.bool s.2))]) (fun s => []) (fun s => s.1 ≤ R ∧ (s.2 = true ↔ ∃ j, j < s.1 ∧ f j = v)) (fun s => R - s.1) (0, false) ?_ ?_ ⟨Nat.zero_le _, by simp⟩ ?_ ?_ ?_
   ·simp
   ·simp
   ·simp [-Bool.exists_bool]
   ·simp [-Bool.exists_bool]
   rintro ⟨i, fd⟩ ⟨hi, hfd⟩
   simp only at hi hfd
   simp [-Bool.exists_bool]
   by_cases hiR : i < R
   ·have hiR' : (i : Int) < R := by omega
    have hirs : i < rs.length := by omega
    have ew : IntKind.i64.wrap ((i : Int) + 1) = ((i + 1 : Nat) : Int) := by rw [w64 (by omega) (by omega)]; omega
    have hgi := hhg i (by omega)
    rw [List.getElem_map] at hgi
    replace hgi : List.take 2 (List.drop (i * 2) (HD.map V.d)) = [.d (.int .u64 rs[i].a), .d (.int .u64 rs[i].b)] := by rw [← List.map_drop, ← List.map_take, hgi]; rfl
    have hbd : i * 2 + 2 ≤ R * 2 := by omega
    obtain ⟨ra, rb, rl, rw'⟩ := k2 rs[i] (List.getElem_mem _)
    have hsm := o_zs rs[i].a rs[i].b key ra rb hkP2
    have hcol : colOf C rs[i].a rs[i].b key < C := Nat.mod_lt _ (by omega)
    have hce := hcel i (colOf C rs[i].a rs[i].b key) hiR ⟨ra, rb, rl, rw'⟩ hcol
    have hwl := o_g rw' (show colOf C rs[i].a rs[i].b key < rs[i].l.length by omega)
    have hval := o_lx hg hwl
    have hvi := hfi i hirs
    unfold valAt at hvi
    rw [← hvi] at hval
    have hcmp := o_lo (f i) v ((hRS i hiR).le (by omega)) (hvR.le (by omega))
    have hlt := hle i hiR
    have e7 : IntKind.u64.wrap (C : Int) = C := by rw [IntKind.wrap_u64]; omega
    have e9 : (hsum rs[i].a rs[i].b key : Int).tmod C = (colOf C rs[i].a rs[i].b key : Int) := by rw [Int.tmod_eq_emod_of_nonneg (by omega)]; rfl
    have e8 : IntKind.i64.wrap (colOf C rs[i].a rs[i].b key : Int) = (colOf C rs[i].a rs[i].b key : Int) := w64 (by omega) (by omega)
    clear hvi hwl hcel hfi hcol
    generalize colOf C rs[i].a rs[i].b key = col at *
    generalize hsum rs[i].a rs[i].b key = hs at *
    generalize rs[i].l.getD col (0, 0, false) = st at *
    obtain ⟨y, t, fl⟩ := st
    simp only [tsD, parD, rD] at hce hval hcmp
    generalize hxa : rs[i].a = xa at *
    generalize hxb : rs[i].b = xb at *
    have hz1 : ¬ cmpQ (f i) v < 0 := by unfold cmpQ; rw [if_neg hlt]; split <;> omega
    by_cases heq : f i = v
    ·have hz : cmpQ (f i) v = 0 := by rw [heq]; unfold cmpQ; rw [if_neg Rat.lt_irrefl, if_neg Rat.lt_irrefl]
     rw [hz] at hcmp
     have hnew : (true = true ↔ ∃ j, j < i + 1 ∧ f j = v) := ⟨fun _ => ⟨i, by omega, heq⟩, fun _ => rfl⟩
     generalize f i = w at *
     cases fd with
     | true =>
      refine A10B (fs hiR (fs hiR' (fs hgi (fs hbd hhl)))) ?_; try with_reducible exact tt
      refine A01B hsm ?_; try with_reducible exact tt
      refine CallS.g [3] (hpm) (R1B (fs e7 (fs e9 e8)) ?_); try with_reducible exact tt
      refine CallS.g [3] (hce) (R0B ?_); try with_reducible exact tt
      refine CallS.g [3] (hpm) (R0B ?_); try with_reducible exact tt
      refine A12B ew hval hcmp ?_; try with_reducible exact tt
      exact ⟨i + 1, true, ⟨by omega, hnew⟩, by omega, Sub1.refl _, Sub1.int (by omega)⟩
     | false =>
      refine A10B (fs hiR (fs hiR' (fs hgi (fs hbd hhl)))) ?_; try with_reducible exact tt
      refine A01B hsm ?_; try with_reducible exact tt
      refine CallS.g [3] (hpm) (R1B (fs e7 (fs e9 e8)) ?_); try with_reducible exact tt
      refine CallS.g [3] (hce) (R0B ?_); try with_reducible exact tt
      refine CallS.g [3] (hpm) (R0B ?_); try with_reducible exact tt
      refine A12B ew hval hcmp ?_; try with_reducible exact tt
      exact ⟨i + 1, true, ⟨by omega, hnew⟩, by omega, Sub1.refl _, Sub1.int (by omega)⟩
    ·have hz : ¬ cmpQ (f i) v = 0 := by unfold cmpQ; rw [if_neg hlt, if_pos (by grind)]; decide
     have hnew : (fd = true ↔ ∃ j, j < i + 1 ∧ f j = v) := by
      rw [hfd]
      constructor
      ·rintro ⟨j, hj, e⟩; exact ⟨j, by omega, e⟩
      ·rintro ⟨j, hj, e⟩
       by_cases hji : j = i
       ·rw [hji] at e; exact absurd e heq
       ·exact ⟨j, by omega, e⟩
     generalize cmpQ (f i) v = z at *
     generalize f i = w at *
     have hz1' : 0 ≤ z := by omega
     cases fd with
     | true =>
      refine A10B (fs hiR (fs hiR' (fs hgi (fs hbd hhl)))) ?_; try with_reducible exact tt
      refine A01B hsm ?_; try with_reducible exact tt
      refine CallS.g [3] (hpm) (R1B (fs e7 (fs e9 e8)) ?_); try with_reducible exact tt
      refine CallS.g [3] (hce) (R0B ?_); try with_reducible exact tt
      refine CallS.g [3] (hpm) (R0B ?_); try with_reducible exact tt
      refine A12B (fs ew (fs hz (fs hz1 hz1'))) hval hcmp ?_; try with_reducible exact tt
      exact ⟨i + 1, true, ⟨by omega, hnew⟩, by omega, Sub1.refl _, Sub1.int (by omega)⟩
     | false =>
      refine A10B (fs hiR (fs hiR' (fs hgi (fs hbd hhl)))) ?_; try with_reducible exact tt
      refine A01B hsm ?_; try with_reducible exact tt
      refine CallS.g [3] (hpm) (R1B (fs e7 (fs e9 e8)) ?_); try with_reducible exact tt
      refine CallS.g [3] (hce) (R0B ?_); try with_reducible exact tt
      refine CallS.g [3] (hpm) (R0B ?_); try with_reducible exact tt
      refine A12B (fs ew (fs hz (fs hz1 hz1'))) hval hcmp ?_; try with_reducible exact tt
      exact ⟨i + 1, false, ⟨by omega, hnew⟩, by omega, Sub1.bool (by simp [hz]), Sub1.int (by omega)⟩
   ·have h2 : i = R := by omega
    subst h2
    have hft : fd = true := hfd.2 hmem
    subst hft
    refine A00B ?_; try with_reducible exact tt
end
end Go.Proofs.YtijbgbpjionfjaaGreatDoor.Am
namespace Go.Proofs.YtijbgbpjionfjaaGreatDoor.Am
section
open Go.RowKit

theorem o_zx {W : World} {v : Value} {L : List Int} {r c k a b : Int} (w : Cells W v 1 L.length (L.map fun a => [Value.int .u64 a]).flatten) (h : ∀ a ∈ L, (Lit.int .u64 a).wf = true) : ∃ ws : List Nat, ws.length = L.length ∧ V.rep (memW W) (.d (drD r c k a b ws)) (.agg #[.int .i64 r, .int .i64 c, .int .i64 k, .int .i64 a, .int .i64 b, v]) := by
 obtain ⟨ws, rfl, -⟩ := o_9a h
 refine ⟨ws, by simp, ?_⟩
 have hw : Cells W v 1 ws.length (ws.map fun n : Nat => Value.int .u64 n) := by
  have e : ((ws.map fun n : Nat => (n : Int)).map fun a => [Value.int .u64 a]).flatten = ws.map fun n : Nat => Value.int .u64 n := by
   rw [List.map_map]
   clear w h
   induction ws with
   | nil => rfl
   | cons x l ih => simp only [List.map_cons, List.flatten_cons, ih]; rfl
  rw [e, List.length_map] at w; exact w
 have hr := o_yj (fun n : Nat => D.int .u64 n) (fun n : Nat => Value.int .u64 n) (fun _ => rfl) (fun _ => D.rep_int.2 rfl) hw
 refine o_yk (vs := [.int .i64 r, .int .i64 c, .int .i64 k, .int .i64 a, .int .i64 b, v]) (fun z hz => ?_) ?_
 ·simp at hz
  rcases hz with rfl | rfl | rfl | rfl | rfl | rfl <;> first | rfl | exact o_z4 w
 ·exact D.reps_cons.2 ⟨D.rep_int.2 rfl, D.reps_cons.2 ⟨D.rep_int.2 rfl, D.reps_cons.2 ⟨D.rep_int.2 rfl, D.reps_cons.2 ⟨D.rep_int.2 rfl, D.reps_cons.2 ⟨D.rep_int.2 rfl, D.reps_cons.2 ⟨V.rep_d.1 hr, D.reps_nil.2 rfl⟩⟩⟩⟩⟩⟩
theorem o_zy {W : World} {v : Value} {L : List (Int × Int)} (w : Cells W v 2 L.length (L.map fun a => [Value.int .u64 a.1, Value.int .i64 a.2]).flatten) (h : ∀ a ∈ L, (Lit.int .u64 a.1).wf = true ∧ (Lit.int .i64 a.2).wf = true) : ∃ us : List (Nat × Int), us.length = L.length ∧ (∀ u ∈ us, u.1 < 18446744073709551616) ∧ V.rep (memW W) (.d (.sl us.length (updD us))) v := by
 obtain ⟨us, rfl, hu⟩ := o_m2 h
 refine ⟨us, by simp, hu, ?_⟩
 rw [List.map_map, List.length_map] at w
 exact o_z2 (fun u : Nat × Int => [D.int .u64 u.1, D.int .i64 u.2]) (fun u : Nat × Int => [Value.int .u64 u.1, Value.int .i64 u.2]) (fun a u hu => by simp at hu; rcases hu with rfl | rfl <;> rfl) (fun a => by simp [D.reps_cons, D.rep_int]) w
end
end Go.Proofs.YtijbgbpjionfjaaGreatDoor.Am
namespace Go.Proofs.YtijbgbpjionfjaaGreatDoor.Am
section
open Go.RowKit

theorem cq_walk {W : World} {v0 v1 : Value} {r c k a b key : Int} {L0 : List Int} {L1 : List (Int × Int)}
  (_ : (Lit.int .i64 r).wf = true) (_ : (Lit.int .i64 c).wf = true) (_ : (Lit.int .i64 k).wf = true) (_ : (Lit.int .i64 a).wf = true) (_ : (Lit.int .i64 b).wf = true)
  (w0 : Cells W v0 1 L0.length (L0.map fun a => [Value.int .u64 a]).flatten) (h0 : L0.length ≤ maxLen) (p0 : ∀ a ∈ L0, (Lit.int .u64 a).wf = true)
  (w1 : Cells W v1 2 L1.length (L1.map fun a => [Value.int .u64 a.1, Value.int .i64 a.2]).flatten) (h1 : L1.length ≤ maxLen) (p1 : ∀ a ∈ L1, (Lit.int .u64 a.1).wf = true ∧ (Lit.int .i64 a.2).wf = true) (wk : (Lit.int .u64 key).wf = true) :
  Calls Tryz.prog o_5y #[.agg #[.int .i64 r, .int .i64 c, .int .i64 k, .int .i64 a, .int .i64 b, v0], v1, .int .u64 key] W (fun e W' => e = .returned (.bool true) ∧ Same W W') := by
 obtain ⟨ws, hws, hr0⟩ := o_zx (r := r) (c := c) (k := k) (a := a) (b := b) w0 p0
 obtain ⟨us, hus, hk, hr1⟩ := o_zy w1 p1
 obtain ⟨key0, rfl, hk0⟩ := o_z3 wk
 unfold maxLen at h0 h1
 exact law_walk o_ay (o_zw r c k a b ws us key0 (by omega) (by omega) hk hk0) (V.reps_cons.2 ⟨hr0, V.reps_cons.2 ⟨hr1, V.reps_cons.2 ⟨V.rep_int.2 rfl, V.reps_nil.2 rfl⟩⟩⟩)
end
end Go.Proofs.YtijbgbpjionfjaaGreatDoor.Am
