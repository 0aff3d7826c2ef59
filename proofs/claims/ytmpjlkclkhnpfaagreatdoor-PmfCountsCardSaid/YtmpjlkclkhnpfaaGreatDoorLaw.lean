/- Parts of the proof: PmfS, PmfT, PmfV, PmfW, PmfY, PmfZ, PmfCa, PmfCb, PmfCc, PmfD, PmfE, PmfF, PmfCd, PmfCL. -/
import Derived.Test.YtmpjlkclkhnpfaaGreatDoorPe
set_option linter.unusedVariables false
set_option linter.unusedSimpArgs false
set_option maxRecDepth 100000
namespace Go.Proofs.YtmpjlkclkhnpfaaGreatDoor.Am
section
open Go.RowKit
def stsD (l : List St) : List D := l.flatMap stD
theorem o_uj (l : List St) : (stsD l).length = l.length * 3 := by
 unfold stsD
 induction l with
 | nil => rfl
 | cons s l ih => rw [List.flatMap_cons, List.length_append, ih]; simp [stD]; omega
theorem o_uk (l : List St) (i : Nat) (hi : i < l.length) : ((stsD l).drop (i * 3)).take 3 = [.int .i64 l[i].1, .int .i64 l[i].2.1, .bool l[i].2.2] := o_nc (n := 3) (f := stD) (fun _ => rfl) l i hi
theorem o_ul {k a w : Nat} (h : GoodR k a w) (l : List St) (hl : l.length ≤ 1000000) (hw : ∀ s ∈ l, WellR k a w s.1 s.2.1 s.2.2) : Eqn Tryz.prog o_dv [.d (.sl l.length (stsD l)), .fn (.func o_cg) [.p 0 0]] [PO k a w] (.d (.int .i64 (-1))) [PO k a w] := by
 refine Eqn.gen [0] o_dx (by simp) (by simp) (by rfl) (by decide) (by simp) (by simp [PO]) ?_
 have hw1 : ∀ i (hi : i < l.length), Eqn Tryz.prog o_cg [.d (.agg [.int .i64 l[i].1, .int .i64 l[i].2.1, .bool l[i].2.2]), .p 0 0] [PO k a w] (.d (.bool false)) [PO k a w] := fun i hi => o_sr h l[i] (hw _ (List.getElem_mem hi))
 have hlen := o_uj l
 have hget := o_uk l
 simp only [o_dw, PO] at hw1 ⊢
 refine A00 ?_; try with_reducible exact tt
 refine AW.loopW (α := Nat) (fun i => setS (List.replicate 19 .junk) [(0, .d (.sl l.length (stsD l))), (1, .fn (.func o_cg) [.p 0 0]), (7, .d (.int .i64 l.length)), (8, .d (.int .i64 (i : Nat)))]) (fun i => [some ⟨73, [.d (.int .i64 k), .d (.int .i64 a), .d (.int .i64 w)]⟩]) (fun i => i ≤ l.length) (fun i => l.length - i) 1 (fun _ => rfl) (by simp) 0 (Nat.zero_le _) ?_ ?_ ?_
 ·simp
 ·simp
 rintro i hi
 simp
 by_cases hi2 : i < l.length
 ·have hi3 : (i : Int) < l.length := by omega
  have ew : IntKind.i64.wrap ((i : Int) + 1) = ((i + 1 : Nat) : Int) := by rw [w64 (by omega) (by omega)]; omega
  have h1 := hw1 i hi2
  have hg := hget i hi2
  have hb6 : i * 3 + 3 ≤ l.length * 3 := by omega
  have hb7 : i * 3 < l.length * 3 := by omega
  refine A10 (fs hi2 (fs hi3 (fs hlen (fs hg (fs hb6 hb7))))) ?_; try with_reducible exact tt
  refine CallS.g [0] (h1) (R0 ?_); try with_reducible exact tt
  refine A10 ew ?_; try with_reducible exact tt
  exact ⟨i + 1, by omega, by omega, Sub1.refl _⟩
 ·have h2 : i = l.length := by omega
  subst h2
  refine A00 ?_; try with_reducible exact tt
theorem o_um {k a w : Nat} (h : GoodR k a w) (l : List St) (hl : l.length ≤ 1000000) (hw : ∀ s ∈ l, WellR k a w s.1 s.2.1 s.2.2) : Eqn Tryz.prog o_cd [.d (.sl l.length (stsD l)), .fn (.func o_cg) [.p 0 0]] [PO k a w] (.d (.bool false)) [PO k a w] := by
 refine Eqn.gen [0] o_cf (by simp) (by simp) (by rfl) (by decide) (by simp) (by simp [PO]) ?_
 have hi := o_ul h l hl hw
 simp only [o_ce, PO] at hi ⊢
 refine A00 ?_; try with_reducible exact tt
 refine CallS.g [0] (hi) (R0 ?_); try with_reducible exact tt
theorem o_un {k a w : Nat} (h : GoodR k a w) (l : List St) (hl : l.length ≤ 1000000) (hw : ∀ s ∈ l, WellR k a w s.1 s.2.1 s.2.2) : Eqn Tryz.prog o_9m [.d (parD k a w), .d (.sl l.length (stsD l))] [] (.d (.int .i64 0)) [] := by
 refine Eqn.pure o_9o Plain.ok ?_
 have hc := o_pf h
 have hi := o_um h l hl hw
 simp only [o_9n, PO, parD] at hc hi ⊢
 refine A00 ?_; try with_reducible exact tt
 refine CallS.pu (hc) (R0 ?_); try with_reducible exact tt
 refine A00 ?_; try with_reducible exact tt
 refine CallS.g [0] (hi) (R0 ?_); try with_reducible exact tt
 refine A00 ?_; try with_reducible exact tt
theorem o_uo {k a w : Nat} (h : GoodR k a w) (hk : k ≠ 4) (hw4 : w ≤ 4) (l : List St) (hl : l.length ≤ 1000000) (hw : ∀ s ∈ l, WellR k a w s.1 s.2.1 s.2.2) : Eqn Tryz.prog o_aa [.d (parD k a w), .d (.sl l.length (stsD l))] [] (.d (.int .i64 0)) [] := by
 refine Eqn.pure o_ac Plain.ok ?_
 have h1 := o_un h l hl hw
 have h2 := o_sv (a := a) hk (show w ≤ 10 by omega)
 have h16 : 2 ^ w ≤ 16 := Nat.pow_le_pow_right (n := 2) (by omega) hw4
 generalize 2 ^ w = W at *
 have e1 : IntKind.i64.wrap (4 * (W : Int)) = 4 * (W : Int) := w64 (by omega) (by omega)
 have e2 : ¬ 512 < 4 * (W : Int) := by omega
 simp only [o_ab, parD] at h1 h2 ⊢
 refine A00 ?_; try with_reducible exact tt
 refine CallS.pu (h1) (R0 ?_); try with_reducible exact tt
 refine A00 ?_; try with_reducible exact tt
 refine CallS.pu (h2) (R1 (fs e1 e2) ?_); try with_reducible exact tt
 refine A10 (fs e1 e2) ?_; try with_reducible exact tt
theorem o_up {k a w : Nat} (h : GoodS k a w) (s o : St) (hs : okQ (topC w) s) (ho : o.1 ≤ topC w) (h7 : o.1 ≤ 7) : Eqn Tryz.prog o_ad [.d (parD k a w), .d (.agg (stD s)), .d (.agg (stD o))] [] (.mp 0) [spO (mgQ (topC w) k a s o)] := by
 have hc := o_ui h s o hs ho h7
 have hk4 : ¬ (k : Int) = 4 := by have := h.1; omega
 have hk4' : ¬ k = 4 := by have := h.1; omega
 generalize mgQ (topC w) k a s o = R at *
 refine Eqn.gen [3] o_af (by simp) (by simp) (by rfl) (by decide) (by simp) (by simp [spO]) ?_
 simp only [o_ae, spO, stD, parD] at hc ⊢
 refine A10 (fs hk4 hk4') ?_; try with_reducible exact tt
 refine CallS.nX (hc) (R0 ?_); try with_reducible exact tt
end
end Go.Proofs.YtmpjlkclkhnpfaaGreatDoor.Am
namespace Go.Proofs.YtmpjlkclkhnpfaaGreatDoor.Am
section
open Go.RowKit
def psum (L : Sp) (i : Nat) : Rat := (L.take i).foldl (fun x p => x + p.2) 0
theorem o_uq (L : Sp) (i : Nat) (h : i < L.length) : psum L (i + 1) = psum L i + L[i].2 := by
 unfold psum; rw [List.take_add_one, List.getElem?_eq_getElem h, Option.toList, List.foldl_append]; rfl
theorem o_ur {x : Rat} (h : 0 < x) : cmpQ x 0 = 1 := by
 unfold cmpQ
 rw [if_neg (Rat.not_lt.2 (Rat.le_of_lt h)), if_pos h]
set_option maxHeartbeats 4000000 in
theorem o_us {k a w : Nat} (h : GoodR k a w) (L : Sp) (hl : L.length ≤ 1000000) (hw : ∀ p ∈ L, WellR k a w p.1.1 p.1.2.1 p.1.2.2) (hpos : ∀ p ∈ L, 0 < p.2) (hs : ∀ i (h : i + 1 < L.length), ltS (L[i]).1 (L[i + 1]).1 = true) (hrs : ∀ p ∈ L, RS p.2 100000) (hsum : ∀ i, i ≤ L.length → RS (psum L i) 100000) (h1 : psum L L.length = 1) : Eqn Tryz.prog o_7m [.d (parD k a w), .d (.sl L.length (spD rcD L))] [] (.d (.bool true)) [] := by
 refine Eqn.pure o_7o Plain.ok ?_
 have ho0 := rof0
 have ho1 := rof1
 have hLl := o_pt rcD (fun _ => rfl) L
 have hget := o_sp L
 have hfin := o_mh 1 1 (o_r4.le (by omega)) (o_r4.le (by omega))
 have hfc : cmpQ 1 1 = 0 := by unfold cmpQ; simp [Rat.lt_irrefl]
 rw [hfc] at hfin
 have hz : psum L 0 = 0 := rfl
 have hz2 : RS (0 : Rat) 100000 := ⟨by decide, by decide⟩
 simp only [o_7n, parD, o_r0] at ho0 ho1 hfin ⊢
 rw [← h1] at hfin ho1
 refine A00 ?_; try with_reducible exact tt
 refine CallS.pu (ho0) (R0 ?_); try with_reducible exact tt
 refine A00 ?_; try with_reducible exact tt
 refine AW.loopW (α := Nat) (fun i => setS (List.replicate 84 .junk) [(1, .d (.sl L.length (spD rcD L))), (2, .p 0 0), (5, .p 1 0), (11, .d (.sl L.length (spD rcD L))), (12, .d (.int .i64 L.length)), (13, .d (.int .i64 (i : Nat)))]) (fun i => [some ⟨73, [.d (.int .i64 k), .d (.int .i64 a), .d (.int .i64 w)]⟩, some ⟨29, (rcD (psum L i)).map .d⟩]) (fun i => i ≤ L.length) (fun i => L.length - i) 2 (fun _ => rfl) (by simp) 0 (Nat.zero_le _) ?_ ?_ ?_
 ·simp
 ·simp [hz, rcD]
 rintro i hi
 simp
 by_cases hi2 : i < L.length
 ·have hi3 : (i : Int) < L.length := by omega
  have ew : IntKind.i64.wrap ((i : Int) + 1) = ((i + 1 : Nat) : Int) := by rw [w64 (by omega) (by omega)]; omega
  obtain ⟨s1, s2, s3, q, N1, N2, N3, hp, hN, hg⟩ := hget i hi2
  have hwi := hw _ (List.getElem_mem hi2)
  have hpi := hpos _ (List.getElem_mem hi2)
  have hri := hrs _ (List.getElem_mem hi2)
  have hnx := o_uq L i hi2
  have hsi := hsum i hi
  have hsd := hs (i - 1)
  rw [hp] at hwi hpi hri hnx
  simp only at hwi hpi hri hnx
  have hwl := o_ph h s1 s2 s3
  rw [o_pg.2 hwi] at hwl
  have hcm := o_mh q 0 hri hz2
  rw [o_ur hpi] at hcm
  have had := o_mf (psum L i) q hsi hri
  rw [← hnx] at had
  have hb6 : i * 6 + 6 ≤ L.length * 6 := by omega
  have hb7 : i * 6 < L.length * 6 := by omega
  simp only [o_r0, parD, tsD] at hwl hcm had
  rw [hN] at hcm had
  have e3 : (rcD (psum L i)).length = 3 := rfl
  obtain ⟨A1, A2, A3, hA⟩ : ∃ A1 A2 A3, rcD (psum L i) = [A1, A2, A3] := ⟨_, _, _, rfl⟩
  obtain ⟨B1, B2, B3, hB⟩ : ∃ B1 B2 B3, rcD (psum L (i + 1)) = [B1, B2, B3] := ⟨_, _, _, rfl⟩
  rw [hA, hB] at had
  obtain ⟨O1, O2, O3, hO⟩ : ∃ O1 O2 O3, rcD 0 = [O1, O2, O3] := ⟨_, _, _, rfl⟩
  rw [hO] at hcm ho0
  rw [hA]
  refine A10 (fs hi2 (fs hi3 (fs hLl (fs hg (fs hb6 hb7))))) ?_; try with_reducible exact tt
  refine CallS.pu (hwl) (R0 ?_); try with_reducible exact tt
  refine CallS.pu (ho0) (R0 ?_); try with_reducible exact tt
  refine CallS.pu (hcm) (R0 ?_); try with_reducible exact tt
  refine A00 ?_; try with_reducible exact tt
  refine CallS.pu (had) (R0 ?_); try with_reducible exact tt
  by_cases h0 : (i : Int) = 0
  ·refine A10 (fs ew h0) ?_; try with_reducible exact tt
   have hi0 : i = 0 := by omega
   refine ⟨i + 1, by omega, by omega, ?_, ?_⟩
   ·rw [hi0]; exact Sub1.refl _
   ·rw [hB]; exact Subs.refl _
  ·obtain ⟨j, rfl⟩ : ∃ j, i = j + 1 := ⟨i - 1, by omega⟩
   have h0' : ¬ j + 1 = 0 := by omega
   have ej : IntKind.i64.wrap (((j + 1 : Nat) : Int) - 1) = (j : Int) := by rw [w64 (by omega) (by omega)]; omega
   have hj : j < L.length := by omega
   have hj3 : (j : Int) < L.length := by omega
   obtain ⟨r1, r2, r3, q', M1, M2, M3, hpj, hM, hgj⟩ := hget j hj
   have hst := hs j hi2
   rw [hp, hpj] at hst
   have hc6 : j * 6 + 6 ≤ L.length * 6 := by omega
   have hc7 : j * 6 < L.length * 6 := by omega
   refine AW.cond rfl (fun hh => ?_) (fun hh => ?_)
   ·simp at hh; omega
   refine AW.skip ?_
   have hg3 : List.take 3 (List.drop (j * 6) (spD rcD L)) = [.int .i64 r1, .int .i64 r2, .bool r3] := by
    have := congrArg (List.take 3) hgj
    rw [List.take_take] at this
    simpa using this
   have hg3m : List.take 3 (List.drop (j * 6) ((spD rcD L).map V.d)) = [.d (.int .i64 r1), .d (.int .i64 r2), .d (.bool r3)] := by
    rw [← List.map_drop, ← List.map_take, hg3]; rfl
   refine A10 (fs ej (fs hc6 (fs hc7 (fs hj (fs hj3 hLl))))) ?_; try with_reducible exact tt
   simp only [Int.toNat_natCast, hg3, hg3m]
   simp
   have hor : (r1 < s1 ∧ ¬ s1 < r1 ∧ ¬ r1 = s1) ∨ (r1 = s1 ∧ ((r2 < s2 ∧ ¬ s2 < r2 ∧ ¬ r2 = s2) ∨ (r2 = s2 ∧ r3 = false ∧ s3 = true))) := by
    unfold ltS at hst
    simp only [Bool.or_eq_true, Bool.and_eq_true, decide_eq_true_eq, Bool.not_eq_true'] at hst
    rcases hst with g | ⟨g, g' | ⟨g', g3, g4⟩⟩
    ·exact .inl ⟨g, by omega, by omega⟩
    ·exact .inr ⟨g, .inl ⟨g', by omega, by omega⟩⟩
    ·exact .inr ⟨g, .inr ⟨g', g3, g4⟩⟩
   clear hst
   rcases hor with ⟨g1, g2, g3⟩ | ⟨rfl, ⟨g1, g2, g3⟩ | ⟨rfl, rfl, rfl⟩⟩
   ·have g4 : ¬ (s1 : Int) < r1 := by omega
    have g5 : ¬ (r1 : Int) = s1 := by omega
    refine A10 (fs g2 (fs g3 (fs g4 (fs g5 ew)))) ?_; try with_reducible exact tt
    exact ⟨j + 1 + 1, by omega, by omega, Sub1.refl _, by rw [hB]; exact Subs.refl _⟩
   ·have g4 : ¬ (s2 : Int) < r2 := by omega
    have g5 : ¬ (r2 : Int) = s2 := by omega
    refine A10 (fs g2 (fs g3 (fs g4 (fs g5 ew)))) ?_; try with_reducible exact tt
    exact ⟨j + 1 + 1, by omega, by omega, Sub1.refl _, by rw [hB]; exact Subs.refl _⟩
   ·refine A10 ew ?_; try with_reducible exact tt
    exact ⟨j + 1 + 1, by omega, by omega, Sub1.refl _, by rw [hB]; exact Subs.refl _⟩
 ·have h2 : i = L.length := by omega
  subst h2
  obtain ⟨C1, C2, C3, hC⟩ : ∃ C1 C2 C3, rcD (psum L L.length) = [C1, C2, C3] := ⟨_, _, _, rfl⟩
  rw [hC] at ho1 hfin ⊢
  refine A00 ?_; try with_reducible exact tt
  refine CallS.pu (ho1) (R0 ?_); try with_reducible exact tt
  refine CallS.pu (hfin) (R0 ?_); try with_reducible exact tt
end
end Go.Proofs.YtmpjlkclkhnpfaaGreatDoor.Am
namespace Go.Proofs.YtmpjlkclkhnpfaaGreatDoor.Am
section
open Go.RowKit
theorem o_ut {top k i : Nat} {l : Sp} (hu : Uq l) (h : kyQ (reach top k i) l) : l.length ≤ top + 2 := by
 have h1 : (l.map (·.1)).length ≤ ((top, 0, true) :: (List.range (top + 1)).map fun j => (j, 0, false) : List St).length := by
  refine List.Nodup.length_le_of_subset hu fun t ht => ?_
  obtain ⟨p, hp, rfl⟩ := List.mem_map.1 ht
  rcases h p hp with e | ⟨e, e1, e2, e3⟩
  ·rw [e]; simp
  ·refine List.mem_cons_of_mem _ (List.mem_map.2 ⟨p.1.1, List.mem_range.2 (by omega), ?_⟩)
   rw [← e]
 simpa using h1
theorem o_uu {G top : Nat} {c : Nat → Rat} (h7 : top ≤ 7) (h0 : ∀ k, k < top → 0 ≤ c k) (h1 : ∀ k, k < top → c k ≤ 1) (hc : ∀ x, x < top → Gr G 1 (c x)) {s : St} (hs : okQ top s) : ∀ n, ∀ p ∈ ofQ (stepQ top c) s n, Gr (G ^ n) (24 ^ n) p.2
 | 0 => fun p hp => by
  simp [ofQ] at hp; subst hp
  exact Gr.one _
 | n + 1 => by
  have ih := o_uu h7 h0 h1 hc hs n
  have hl := o_ut (o_qm _ s n) (o_t0 (c := c) hs n)
  have hA : (atQ (ofQ (stepQ top c) s n)).length ≤ 12 := Nat.le_trans (o_sn _) (by omega)
  have hm : ∀ p ∈ atQ (ofQ (stepQ top c) s n), p ∈ ofQ (stepQ top c) s n := fun p hp => (List.mem_filter.1 ((o_qa _).mem_iff.1 hp)).1
  have := o_sj (D := G ^ n) (E := G) (B := 24 ^ n) (J := 2) (next := stepQ top c) (A := atQ (ofQ (stepQ top c) s n)) (fun p hp => ih p (hm p hp)) (fun p hp => ⟨o_so hc p.1 (o_qw h0 h1 hs n p (hm p hp)).1.1, Nat.le_trans (o_sn _) (o_sm _ _ _)⟩) _ (Nat.le_refl _)
  rw [o_sg] at this
  intro p hp
  rw [Nat.pow_succ]
  refine (this p hp).le ?_
  rw [Nat.pow_succ, Nat.mul_comm (24 ^ n) 24]
  exact Nat.mul_le_mul_right _ (by omega)
theorem o_uv {G n : Nat} (hG : G ≤ 2 ^ 63) (hn : n ≤ 100) : size (24 * 24 ^ n * (G ^ n * G)) ≤ 100000 ∧ size (24 ^ n * G ^ n) ≤ 100000 := by
 have h1 : size G ≤ 1 := o_k8 (Nat.lt_of_le_of_lt hG (by decide))
 have h2 : size 24 ≤ 1 := o_k8 (by decide)
 have a1 := o_t4 24 h2 n
 have a2 := o_t4 G h1 n
 have a3 := o_m0 (24 * 24 ^ n) (G ^ n * G)
 have a4 := o_m0 24 (24 ^ n)
 have a5 := o_m0 (G ^ n) G
 have a6 := o_m0 (24 ^ n) (G ^ n)
 omega
set_option maxHeartbeats 4000000 in
theorem o_uw {k a w : Nat} (h : GoodS k a w) (w3 : w ≤ 3) (s : St) (hw : WellR k a w s.1 s.2.1 s.2.2) (hs : okQ (topC w) s) (n : Nat) (hn : n ≤ 15) : Eqn Tryz.prog o_7j [.d (parD k a w), .d (.agg (stD s)), .d (.int .i64 n)] [] (.tup [.d (.sl (atQ (dstQ k a w s n)).length (spD rcD (atQ (dstQ k a w s n)))), .d (.int .i64 0)]) [] := by
 refine Eqn.pure o_7l Plain.ok ?_
 have hk4 : k ≠ 4 := by have := h.1; omega
 have w4 := h.2.2
 have hg : GoodR k a w := .inr ⟨hk4, o_p0 h⟩
 have h15 : topC w ≤ 15 := by have := Nat.pow_le_pow_right (n := 2) (by omega) h.2.2; unfold topC; omega
 have hwr := o_su hg s hw
 have hst := o_sv (a := a) hk4 (show w ≤ 10 by omega)
 have hsu := o_r7 s
 obtain ⟨c0, c1⟩ := o_t6 h
 obtain ⟨G, hG, hG63, hc⟩ := o_sd h
 have h16 : 2 ^ w ≤ 8 := Nat.pow_le_pow_right (n := 2) (by omega) w3
 have h7 : topC w ≤ 7 := by unfold topC; omega
 have hti : ∀ i, i ≤ 14 → Eqn Tryz.prog o_9v [.mp 0, .fn (.func o_9y) [.p 1 0]] [spO (dstQ k a w s i), PO k a w] (.mp 2) [spO (dstQ k a w s i), PO k a w, spO (dstQ k a w s (i + 1))] := fun i hi => by
  have hl := o_ut (o_qm _ s i) (o_t0 (c := chP k a) hs i)
  exact o_sq h (dstQ k a w s i) G (G ^ i) (24 ^ i) (o_qm _ s i) (o_qw c0 c1 hs i) (o_t2 s i) (Nat.le_trans (List.length_filter_le _ _) (Nat.le_trans hl (by omega))) (Nat.le_trans hl (by omega)) (Nat.pow_pos hG) (Nat.pow_pos (by decide)) (o_uu h7 c0 c1 (fun x hx => hc x (by omega)) hs i) hG hc (o_uv hG63 (by omega)).1
 have hat : Eqn Tryz.prog o_a4 [.mp 0] [spO (dstQ k a w s n)] (.d (.sl (atQ (dstQ k a w s n)).length (spD rcD (atQ (dstQ k a w s n))))) [spO (dstQ k a w s n)] := by
  have hl := o_ut (o_qm _ s n) (o_t0 (c := chP k a) hs n)
  exact o_sb _ (o_qm _ s n) (o_t2 s n) (Nat.le_trans (List.length_filter_le _ _) (Nat.le_trans hl (by omega))) (Nat.le_trans hl (by omega)) (fun p hp => (o_uu h7 c0 c1 (fun x hx => hc x (by omega)) hs n p hp).rs (Nat.pow_pos hG) (Nat.pow_pos (by decide)) (o_uv hG63 (by omega)).2)
 have hd0 : dstQ k a w s 0 = [(s, 1)] := rfl
 rw [← hd0] at hsu
 have e1 : IntKind.i64.wrap ((n : Int) + 1) = ((n + 1 : Nat) : Int) := by rw [w64 (by omega) (by omega)]; omega
 obtain ⟨W, hW⟩ : ∃ W, W = 2 ^ w := ⟨_, rfl⟩
 rw [← hW] at hst h16
 have hmul : (n + 1) * W ≤ 16 * 8 := Nat.mul_le_mul (by omega) h16
 have e2 : IntKind.i64.wrap (((n + 1 : Nat) : Int) * (W : Int)) = (((n + 1) * W : Nat) : Int) := by rw [← Int.natCast_mul]; exact w64 (by omega) (by omega)
 obtain ⟨M, hM⟩ : ∃ M, M = (n + 1) * W := ⟨_, rfl⟩
 rw [← hM] at e2 hmul
 obtain ⟨n1, hn1⟩ : ∃ n1, n1 = n + 1 := ⟨_, rfl⟩
 rw [← hn1] at e1 e2
 have g1 : ¬ (n : Int) < 0 := by omega
 have g2 : ¬ (64 : Int) < n := by omega
 have g3 : ¬ (512 : Int) < M := by omega
 have g4 : ¬ 512 < M := by omega
 have g5 : ¬ 64 < n := by omega
 generalize hA : atQ (dstQ k a w s n) = A at *
 simp only [o_7k, stD, parD, spO, PO] at hwr hst hsu hti hat ⊢
 refine A00 ?_; try with_reducible exact tt
 refine CallS.pf 2 3 ⟨78, [.d (.int .i64 s.1), .d (.int .i64 s.2.1), .d (.bool s.2.2)]⟩ [.int .i64 s.1, .int .i64 s.2.1, .bool s.2.2] (hwr) (by first | rfl | (simp [g1, g2, g5]; done)) (R1 (fs g1 (fs g2 g5)) ?_); try with_reducible exact tt
 refine A10 (fs g1 (fs g2 (fs g5 e1))) ?_; try with_reducible exact tt
 refine CallS.pu (hst) (R1 (fs e2 (fs g3 g4)) ?_); try with_reducible exact tt
 refine A10 (fs e2 (fs g3 g4)) ?_; try with_reducible exact tt
 refine CallS.nX (hsu) (R0 ?_); try with_reducible exact tt
 refine AW.loopG (α := Nat) (fun i => setS (List.replicate 43 .junk) [(3, .p 0 0), (9, .mp 3), (34, .d (.int .i64 n)), (35, .d (.int .i64 (i : Nat)))]) (fun i => [some ⟨73, [.d (.int .i64 k), .d (.int .i64 a), .d (.int .i64 w)]⟩, none, none, some ⟨1000391, (spD rcD (dstQ k a w s i)).map .d⟩]) (fun i => i ≤ n) (fun i => n - i) 0 ?_ (Nat.zero_le _) ?_ ?_ ?_
 ·intro i hi; simp
 ·simp
 ·simp
 rintro i hi
 simp
 by_cases hi2 : i < n
 ·have hi3 : (i : Int) < n := by omega
  have ew : IntKind.i64.wrap ((i : Int) + 1) = ((i + 1 : Nat) : Int) := by rw [w64 (by omega) (by omega)]; omega
  have ht := hti i (by omega)
  refine A10 (fs hi2 hi3) ?_; try with_reducible exact tt
  refine CallS.g [3, 0] (ht) (R1 ew ?_); try with_reducible exact tt
  refine A10 ew ?_; try with_reducible exact tt
  refine ⟨i + 1, 3, 4, by omega, by omega, by omega, ?_, ?_⟩
  ·simp [swT, swH, sw, Ob.sw, V.ren, V.rens]
  ·simp [swT, swH, sw, Ob.sw, V.ren, V.rens]
 ·have h2 : i = n := by omega
  subst h2
  refine A00 ?_; try with_reducible exact tt
  refine CallS.g [3] (hat) (R0 ?_); try with_reducible exact tt
  done
end
end Go.Proofs.YtmpjlkclkhnpfaaGreatDoor.Am
namespace Go.Proofs.YtmpjlkclkhnpfaaGreatDoor.Am
section
open Go.RowKit
theorem o_ux {top : Nat} {t : St} (h : okQ top t) : reach top 0 top t := by
 obtain ⟨a, b, f⟩ := t
 obtain ⟨h1, h2, h3⟩ := h
 simp only at h1 h2 h3
 subst h2
 cases f with
 | false => exact .inr ⟨rfl, Nat.zero_le _, by simp only; omega, h1⟩
 | true => left; rw [h3 rfl]
theorem o_uy {top : Nat} {l : Sp} (hu : Uq l) (h : oklQ top l) : l.length ≤ top + 2 := o_ut hu (k := 0) (i := top) fun p hp => o_ux (h p hp).1
theorem o_uz {top k a : Nat} (s o : St) : Uq (mgQ top k a s o) := o_qk _ _
theorem o_v0 {top k a : Nat} (s o : St) : exQ (fun _ => 1) (mgQ top k a s o) = 1 := by
 unfold mgQ
 rw [o_ql]
 have : (fun t => exQ (fun _ => (1 : Rat)) (fullQ o.2.2 t)) = fun _ => 1 := by
  funext t
  unfold fullQ
  simp only [exQ]; grind
 rw [this, o_tu]
theorem o_v1 {l : Sp} (h2 : exQ (fun _ => 1) l = 1) : nzQ l ≠ [] := by
 intro h
 have h3 := o_q4 (fun _ => (1 : Rat)) l
 rw [show l.filter (fun p => decide (p.2 ≠ 0)) = nzQ l from rfl, h] at h3
 rw [h2] at h3
 exact absurd h3 (by decide)
theorem o_v2 {top k a : Nat} (s o : St) : nzQ (mgQ top k a s o) ≠ [] := o_v1 (o_v0 s o)
theorem o_v3 {next : St → Sp} {l : Sp} (hn : ∀ p ∈ l, ∀ q ∈ next p.1, 0 ≤ q.2) (h : ∀ p ∈ l, 0 ≤ p.2) : ∀ p ∈ timesQ next l, 0 ≤ p.2 := by
 have hget : ∀ (l : Sp) (s : St), (∀ p ∈ l, 0 ≤ p.2) → 0 ≤ getQ l s := by
  intro l s
  induction l with
  | nil => intro _; exact Rat.le_refl
  | cons p l ih =>
   intro h
   unfold getQ
   split
   ·exact h p (by simp)
   ·exact ih fun q hq => h q (by simp [hq])
 have hin : ∀ (q : Rat) (k out : Sp), 0 ≤ q → (∀ p ∈ out, 0 ≤ p.2) → (∀ p ∈ k, 0 ≤ p.2) → ∀ p ∈ innQ q out k, 0 ≤ p.2 := by
  intro q k
  induction k with
  | nil => intro out _ h _; exact h
  | cons b k ih =>
   intro out hq ho hk
   refine ih (addQ out b.1 (q * b.2)) hq (fun p hp => ?_) fun p hp => hk p (by simp [hp])
   rcases o_qp hp with hp | rfl
   ·exact ho p hp
   ·have h1 := hget out b.1 ho
    have h2 := Rat.mul_nonneg hq (hk b (by simp))
    show 0 ≤ getQ out b.1 + q * b.2
    grind
 have key : ∀ (k out : Sp), (∀ p ∈ out, 0 ≤ p.2) → (∀ p ∈ k, 0 ≤ p.2 ∧ ∀ q ∈ next p.1, 0 ≤ q.2) → ∀ p ∈ k.foldl (fun out a => innQ a.2 out (atQ (next a.1))) out, 0 ≤ p.2 := by
  intro k
  induction k with
  | nil => intro out h _; exact h
  | cons a k ih =>
   intro out ho hk
   obtain ⟨h1, h2⟩ := hk a (by simp)
   exact ih _ (hin _ _ _ h1 ho fun p hp => h2 p (List.mem_filter.1 ((o_qa _).mem_iff.1 hp)).1) fun p hp => hk p (by simp [hp])
 refine key _ _ (fun p hp => by cases hp) fun p hp => ?_
 have hp' := (List.mem_filter.1 ((o_qa l).mem_iff.1 hp)).1
 exact ⟨h p hp', hn p hp'⟩
theorem o_v4 {k a w : Nat} (h : GoodS k a w) {s o : St} (hs : okQ (topC w) s) (ho : okQ (topC w) o) : oklQ (topC w) (mgQ (topC w) k a s o) := by
 have hup := o_tz h hs o.1 ho.1
 have h1 : kyQ (okQ (topC w)) (mgQ (topC w) k a s o) := by
  refine o_ts (P := fun t => okQ (topC w) t ∧ o.1 ≤ t.1) (fun t ht p hp => ?_) hup
  have hp1 : p ∈ fullQ o.2.2 t := (List.mem_filter.1 hp).1
  simp [fullQ] at hp1
  subst hp1
  obtain ⟨⟨a1, a2, a3⟩, a4⟩ := ht
  refine ⟨a1, a2, fun hf => ?_⟩
  simp only [Bool.or_eq_true] at hf
  rcases hf with hf | hf
  ·exact a3 hf
  ·have := ho.2.2 hf
   show t.1 = topC w
   omega
 have h2 : ∀ p ∈ mgQ (topC w) k a s o, 0 ≤ p.2 := o_v3 (fun p hp q hq => by
  simp [fullQ] at hq; subst hq
  exact (by decide : (0 : Rat) ≤ 1)) fun p hp => (o_ty h hs o.1 p hp).2
 exact fun p hp => ⟨h1 p hp, h2 p hp⟩
theorem o_v5 {k a w G : Nat} (h : GoodS k a w) (hc : ∀ r x, x ≤ 15 → Gr G 1 (ratC k a r x)) {s o : St} (hs : okQ (topC w) s) (ho : o.1 ≤ 7) : ∀ p ∈ mgQ (topC w) k a s o, Gr (G ^ o.1 * G) (24 * 24 ^ o.1) p.2 := by
 have hl := o_t1 (o_tt s o.1) (o_tw (k := k) (a := a) hs o.1)
 have hA : (atQ (clQ (topC w) k a s o.1)).length ≤ 12 := Nat.le_trans (o_sn _) (by omega)
 have hm : ∀ p ∈ atQ (clQ (topC w) k a s o.1), p ∈ clQ (topC w) k a s o.1 := fun p hp => (List.mem_filter.1 ((o_qa _).mem_iff.1 hp)).1
 have := o_sj (D := G ^ o.1) (E := G) (B := 24 ^ o.1) (J := 2) (next := fullQ o.2.2) (A := atQ (clQ (topC w) k a s o.1)) (fun p hp => o_u0 h hc hs o.1 (by omega) p (hm p hp)) (fun p hp => ⟨(o_ug o.2.2 G p.1).gr, Nat.le_trans (o_sn _) (o_ug o.2.2 G p.1).len⟩) _ (Nat.le_refl _)
 rw [o_sg] at this
 intro p hp
 exact (this p hp).le (Nat.mul_le_mul_right _ (by omega))
theorem o_v6 {k a w : Nat} (h : GoodS k a w) (w3 : w ≤ 3) {s o : St} (hs : okQ (topC w) s) (ho : okQ (topC w) o) : Eqn Tryz.prog o_a4 [.mp 0] [spO (mgQ (topC w) k a s o)] (.d (.sl (atQ (mgQ (topC w) k a s o)).length (spD rcD (atQ (mgQ (topC w) k a s o))))) [spO (mgQ (topC w) k a s o)] := by
 have h8 : 2 ^ w ≤ 8 := Nat.pow_le_pow_right (n := 2) (by omega) w3
 have h7 : topC w ≤ 7 := by unfold topC; omega
 obtain ⟨G, hG, hG63, -, hc⟩ := o_tm h
 have hl := o_uy (o_uz (top := topC w) (k := k) (a := a) s o) (o_v4 h hs ho)
 have h1 := ho.1
 refine o_sb _ (o_uz s o) (o_v2 s o) (Nat.le_trans (List.length_filter_le _ _) (by omega)) (by omega) fun p hp => (o_v5 h hc hs (by omega) p hp).rs (Nat.mul_pos (Nat.pow_pos hG) hG) (Nat.mul_pos (by decide) (Nat.pow_pos (by decide))) (o_uv hG63 (by omega)).1
end
end Go.Proofs.YtmpjlkclkhnpfaaGreatDoor.Am
namespace Go.Proofs.YtmpjlkclkhnpfaaGreatDoor.Am
section
open Go.RowKit
theorem Gr.scale {D B : Nat} {q : Rat} (E : Nat) (h : Gr D B q) : Gr (D * E) B q := by
 obtain ⟨z, h1, h2⟩ := h
 refine ⟨z * E, ?_, ?_⟩
 ·have e1 : ((z * E : Nat) : Rat) = (z : Rat) * (E : Rat) := by simp
  have e2 : ((D * E : Nat) : Rat) = (D : Rat) * (E : Rat) := by simp
  rw [e1, e2, ← h1]; grind
 ·rw [← Nat.mul_assoc]; exact Nat.mul_le_mul_right _ h2
theorem o_v7 {k a w G : Nat} (h : GoodS k a w) (hc : ∀ r x, x ≤ 15 → Gr G 1 (ratC k a r x)) {s o : St} (hs : okQ (topC w) s) (ho : o.1 ≤ 7) : ∀ p ∈ mgQ (topC w) k a s o, Gr (G ^ 8) (24 ^ 8) p.2 := fun p hp => by
 have h1 := (o_v5 h hc hs ho p hp).scale (G ^ (7 - o.1))
 have e : G ^ o.1 * G * G ^ (7 - o.1) = G ^ 8 := by
  rw [← Nat.pow_succ, ← Nat.pow_add]; congr 1; omega
 rw [e] at h1
 refine h1.le ?_
 rw [Nat.mul_comm, ← Nat.pow_succ]
 exact Nat.pow_le_pow_right (by decide) (by omega)
def inMQ (top k a : Nat) (x : St × Rat) (B : Sp) (out : Sp) (j : Nat) : Sp := (B.take j).foldl (fun out y => innQ (x.2 * y.2) out (atQ (mgQ top k a x.1 y.1))) out
def outMQ (top k a : Nat) (A B : Sp) (i : Nat) : Sp := (A.take i).foldl (fun out x => B.foldl (fun out y => innQ (x.2 * y.2) out (atQ (mgQ top k a x.1 y.1))) out) []
theorem o_v8 (top k a : Nat) (x : St × Rat) (B out : Sp) (j : Nat) (h : j < B.length) : inMQ top k a x B out (j + 1) = innQ (x.2 * B[j].2) (inMQ top k a x B out j) (atQ (mgQ top k a x.1 B[j].1)) := by
 unfold inMQ; rw [List.take_add_one, List.getElem?_eq_getElem h, Option.toList, List.foldl_append]; rfl
theorem o_v9 (top k a : Nat) (x : St × Rat) (B out : Sp) : inMQ top k a x B out B.length = B.foldl (fun out y => innQ (x.2 * y.2) out (atQ (mgQ top k a x.1 y.1))) out := by unfold inMQ; rw [List.take_length]
theorem o_va (top k a : Nat) (A B : Sp) (i : Nat) (h : i < A.length) : outMQ top k a A B (i + 1) = inMQ top k a A[i] B (outMQ top k a A B i) B.length := by
 rw [o_v9]
 unfold outMQ; rw [List.take_add_one, List.getElem?_eq_getElem h, Option.toList, List.foldl_append]; rfl
theorem o_vb (top k a : Nat) (A B : Sp) : outMQ top k a A B A.length = mrgdQ top k a A B := by unfold outMQ mrgdQ; rw [List.take_length]
end
end Go.Proofs.YtmpjlkclkhnpfaaGreatDoor.Am
namespace Go.Proofs.YtmpjlkclkhnpfaaGreatDoor.Am
section
open Go.RowKit
theorem o_vc {k a w : Nat} (h : GoodS k a w) {x : St × Rat} (hx : okQ (topC w) x.1 ∧ 0 ≤ x.2) {B out : Sp} (ho : oklQ (topC w) out) (hB : oklQ (topC w) B) : ∀ j, j ≤ B.length → oklQ (topC w) (inMQ (topC w) k a x B out j)
 | 0, _ => by simpa [inMQ] using ho
 | j + 1, hj => by
  have hj' : j < B.length := hj
  rw [o_v8 _ k a x B out j hj']
  have hb := hB B[j] (List.getElem_mem hj')
  exact o_qt (Rat.mul_nonneg hx.2 hb.2) (o_vc h hx ho hB j (by omega)) (o_qs (o_v4 h hx.1 hb.1))
theorem o_vd {k a w : Nat} (h : GoodS k a w) {A B : Sp} (hA : oklQ (topC w) A) (hB : oklQ (topC w) B) : ∀ i, i ≤ A.length → oklQ (topC w) (outMQ (topC w) k a A B i)
 | 0, _ => fun p hp => by simp [outMQ] at hp
 | i + 1, hi => by
  have hi' : i < A.length := hi
  rw [o_va _ k a A B i hi']
  exact o_vc h (hA A[i] (List.getElem_mem hi')) (o_vd h hA hB i (by omega)) hB _ (Nat.le_refl _)
theorem o_ve {l : Sp} (hu : Uq l) (i : Nat) (hi : i + 1 < (atQ l).length) : ltS (atQ l)[i].1 (atQ l)[i + 1].1 = true := by
 have h2 : (atQ l).Pairwise fun a b => leP a b = true := List.pairwise_mergeSort o_q8 o_q9 _
 have h3 := List.pairwise_iff_getElem.1 h2 i (i + 1) (by omega) hi (Nat.lt_succ_self _)
 have hua : Uq (atQ l) := o_qd hu
 have hne : (atQ l)[i].1 ≠ (atQ l)[i + 1].1 := by
  unfold Uq at hua
  have h4 := List.pairwise_iff_getElem.1 hua i (i + 1) (by simp; omega) (by simpa using hi) (Nat.lt_succ_self _)
  simpa using h4
 unfold leP at h3
 simp only [Bool.not_eq_true'] at h3
 rcases o_q7 (atQ l)[i].1 (atQ l)[i + 1].1 with h | h | h
 ·exact h
 ·exact absurd h hne
 ·rw [h] at h3; cases h3
theorem o_vf (L : Sp) : psum L L.length = exQ (fun _ => 1) L := by
 have key : ∀ (L : Sp) (x : Rat), L.foldl (fun x p => x + p.2) x = x + exQ (fun _ => 1) L := by
  intro L
  induction L with
  | nil => intro x; simp only [List.foldl_nil, exQ]; grind
  | cons p L ih => intro x; rw [List.foldl_cons, ih]; simp only [exQ]; grind
 unfold psum
 rw [List.take_length, key]; grind
theorem o_vg {D B : Nat} {L : Sp} (h : ∀ p ∈ L, Gr D B p.2) : ∀ i, i ≤ L.length → Gr D (i * B) (psum L i)
 | 0, _ => by simpa [psum] using Gr.zero D (0 * B)
 | i + 1, hi => by
  have hi' : i < L.length := hi
  rw [o_uq L i hi']
  have := (o_vg h i (by omega)).add (h L[i] (List.getElem_mem hi'))
  rwa [Nat.add_mul, Nat.one_mul]
theorem o_vh {top : Nat} {l : Sp} (h : oklQ top l) : ∀ p ∈ atQ l, 0 < p.2 := fun p hp => by
 have h1 := List.mem_filter.1 ((o_qa l).mem_iff.1 hp)
 have h2 : p.2 ≠ 0 := by simpa using h1.2
 have h3 := (h p h1.1).2
 exact Classical.byContradiction fun hn => h2 (Rat.le_antisymm (Rat.not_lt.1 hn) h3)
end
end Go.Proofs.YtmpjlkclkhnpfaaGreatDoor.Am
namespace Go.Proofs.YtmpjlkclkhnpfaaGreatDoor.Am
section
open Go.RowKit
theorem o_vi (n : Nat) (h0 : 0 < n) (hn : n ≤ 100000) : Eqn Tryz.prog o_d7 [.d .nilsl, .d (.int .i64 n)] [] (.own 0 6 0) [⟨91, []⟩] := by
 refine Eqn.gen [0] o_d9 (by simp) (by simp) (by rfl) (by decide) (by simp) (by simp) ?_
 simp only [o_d8]
 have g1 : ¬ (n : Int) < 0 := by omega
 have g2 : (0 : Int) < n := by omega
 have e0 : IntKind.i64.wrap 0 = 0 := w64 (by omega) (by omega)
 have e1 : IntKind.i64.wrap (0 - 0) = 0 := w64 (by omega) (by omega)
 have e2 : IntKind.i64.wrap ((n : Int) - 0) = n := by rw [w64 (by omega) (by omega)]; omega
 have e3 : IntKind.i64.wrap (n : Int) = n := w64 (by omega) (by omega)
 refine A10 (fs g1 (fs g2 (fs h0 (fs e0 (fs e1 (fs e2 e3)))))) ?_; try with_reducible exact tt
theorem o_vj (la lb : Nat) (A B : List D) (ha : A.length = la * 6) (hb : B.length = lb * 6) (h0 : 0 < la) (h1 : 0 < lb) (hla : la ≤ 1000) (hlb : lb ≤ 1000) : Eqn Tryz.prog o_ag [.d (.sl 2 [.sl la A, .sl lb B])] [] (.own 0 6 (la + lb)) [⟨91, (A ++ B).map .d⟩] := by
 refine Eqn.gen [2] o_ai (by simp) (by simp) (by rfl) (by decide) (by simp) (by intro ob h; simp only [List.mem_singleton] at h; subst h; exact o_5w _ _) ?_
 simp only [o_ah]
 have hg := o_vi (la + lb) (by omega) (by omega)
 have e1 : IntKind.i64.wrap (0 + (la : Int)) = la := by rw [w64 (by omega) (by omega)]; omega
 have e1' : IntKind.i64.wrap (la : Int) = la := w64 (by omega) (by omega)
 have e2 : IntKind.i64.wrap ((la : Int) + lb) = ((la + lb : Nat) : Int) := by rw [w64 (by omega) (by omega)]; omega
 have g1 : ¬ (la : Int) < 0 := by omega
 have g2 : ¬ ((la + lb : Nat) : Int) < 0 := by omega
 have l0 : la ≠ 0 := by omega
 have l1 : lb ≠ 0 := by omega
 obtain ⟨n, hn⟩ : ∃ n, n = la + lb := ⟨_, rfl⟩
 rw [← hn] at hg e2 g2 ⊢
 have w1 : IntKind.i64.wrap (0 + 1) = 1 := by decide
 have w2 : IntKind.i64.wrap (1 + 1) = 2 := by decide
 refine A00 ?_; try with_reducible exact tt
 refine AW.rounds 3 ?_
 refine A10 (fs e1 (fs e1' (fs e2 (fs g1 (fs g2 (fs w1 w2)))))) ?_; try with_reducible exact tt
 refine CallS.nX (hg) (hO' := o_5g []) (R0 ?_); try with_reducible exact tt
 refine AW.rounds 3 ?_
 refine A10 (fs ha (fs hb (fs l0 (fs l1 (fs w1 w2))))) ?_; try with_reducible exact tt
 refine ⟨by rw [hn]; exact Sub1.refl _, Subs.of ?_⟩
 rw [← List.map_append, o_5v]
end
end Go.Proofs.YtmpjlkclkhnpfaaGreatDoor.Am
namespace Go.Proofs.YtmpjlkclkhnpfaaGreatDoor.Am
section
open Go.RowKit
def inG (mg : St → St → Sp) (x : St × Rat) (B : Sp) (out : Sp) (j : Nat) : Sp := (B.take j).foldl (fun out y => innQ (x.2 * y.2) out (atQ (mg x.1 y.1))) out
def outG (mg : St → St → Sp) (A B : Sp) (i : Nat) : Sp := (A.take i).foldl (fun out x => B.foldl (fun out y => innQ (x.2 * y.2) out (atQ (mg x.1 y.1))) out) []
def mrgG (mg : St → St → Sp) (A B : Sp) : Sp := A.foldl (fun out x => B.foldl (fun out y => innQ (x.2 * y.2) out (atQ (mg x.1 y.1))) out) []
theorem o_vk (mg : St → St → Sp) (x : St × Rat) (B out : Sp) (j : Nat) (h : j < B.length) : inG mg x B out (j + 1) = innQ (x.2 * B[j].2) (inG mg x B out j) (atQ (mg x.1 B[j].1)) := by
 unfold inG; rw [List.take_add_one, List.getElem?_eq_getElem h, Option.toList, List.foldl_append]; rfl
theorem o_vl (mg : St → St → Sp) (x : St × Rat) (B out : Sp) : inG mg x B out B.length = B.foldl (fun out y => innQ (x.2 * y.2) out (atQ (mg x.1 y.1))) out := by unfold inG; rw [List.take_length]
theorem o_vm (mg : St → St → Sp) (A B : Sp) (i : Nat) (h : i < A.length) : outG mg A B (i + 1) = inG mg A[i] B (outG mg A B i) B.length := by
 rw [o_vl]
 unfold outG; rw [List.take_add_one, List.getElem?_eq_getElem h, Option.toList, List.foldl_append]; rfl
theorem o_vn (mg : St → St → Sp) (A B : Sp) : outG mg A B A.length = mrgG mg A B := by unfold outG mrgG; rw [List.take_length]
theorem o_vo {mg : St → St → Sp} {D C M J : Nat} {x : St × Rat} {B out : Sp} (ho : ∀ p ∈ out, Gr D C p.2) (hB : ∀ y ∈ B, (∀ p ∈ atQ (mg x.1 y.1), Gr D M (x.2 * y.2 * p.2)) ∧ (atQ (mg x.1 y.1)).length ≤ J) : ∀ j, j ≤ B.length → ∀ p ∈ inG mg x B out j, Gr D (C + j * J * M) p.2
 | 0, _ => fun p hp => by
  simp [inG] at hp
  exact (ho p hp).le (by omega)
 | j + 1, hj => by
  have hj' : j < B.length := hj
  rw [o_vk mg x B out j hj']
  obtain ⟨h1, h2⟩ := hB B[j] (List.getElem_mem hj')
  intro p hp
  refine (o_si (o_vo ho hB j (by omega)) _ h1 p hp).le ?_
  have := Nat.mul_le_mul_right M h2
  have e : (j + 1) * J * M = j * J * M + J * M := by rw [Nat.add_mul j 1 J, Nat.one_mul, Nat.add_mul]
  omega
theorem o_vp {mg : St → St → Sp} {D M J L : Nat} {A B : Sp} (hBL : B.length ≤ L) (hAB : ∀ x ∈ A, ∀ y ∈ B, (∀ p ∈ atQ (mg x.1 y.1), Gr D M (x.2 * y.2 * p.2)) ∧ (atQ (mg x.1 y.1)).length ≤ J) : ∀ i, i ≤ A.length → ∀ p ∈ outG mg A B i, Gr D (i * (L * J) * M) p.2
 | 0, _ => fun p hp => by simp [outG] at hp
 | i + 1, hi => by
  have hi' : i < A.length := hi
  rw [o_vm mg A B i hi']
  intro p hp
  refine (o_vo (o_vp hBL hAB i (by omega)) (hAB A[i] (List.getElem_mem hi')) B.length (Nat.le_refl _) p hp).le ?_
  have h1 := Nat.mul_le_mul_right M (Nat.mul_le_mul_right J hBL)
  have e : (i + 1) * (L * J) * M = i * (L * J) * M + L * J * M := by rw [Nat.add_mul i 1 (L * J), Nat.one_mul, Nat.add_mul]
  omega
structure MrgOK (k a w : Nat) (mg : St → St → Sp) (A B : Sp) (D M J L : Nat) : Prop where
 dp : 0 < D
 mp : 1 ≤ M
 jp : 1 ≤ J
 lp : 1 ≤ L
 j2 : J ≤ 1000
 a1 : 1 ≤ A.length
 a2 : A.length ≤ 1000
 b1 : 1 ≤ B.length
 b2 : B.length ≤ L
 l2 : L ≤ 1000
 xs : ∀ x ∈ A, 0 ≤ x.2 ∧ RS x.2 40000
 ys : ∀ y ∈ B, 0 ≤ y.2 ∧ RS y.2 40000
 gr : ∀ x ∈ A, ∀ y ∈ B, (∀ p ∈ atQ (mg x.1 y.1), Gr D M (x.2 * y.2 * p.2)) ∧ (atQ (mg x.1 y.1)).length ≤ J
 rs : ∀ x ∈ A, ∀ y ∈ B, ∀ p ∈ atQ (mg x.1 y.1), RS p.2 100000
 sz : size ((A.length + 2) * (L * J) * M * D) ≤ 100000
 cost : Eqn Tryz.prog o_aa [.d (parD k a w), .d (.sl (A.length + B.length) (stsD ((A ++ B).map (·.1))))] [] (.d (.int .i64 0)) []
 call : ∀ x ∈ A, ∀ y ∈ B, Eqn Tryz.prog o_ad [.d (parD k a w), .d (.agg (stD x.1)), .d (.agg (stD y.1))] [] (.mp 0) [spO (mg x.1 y.1)] ∧ Eqn Tryz.prog o_a4 [.mp 0] [spO (mg x.1 y.1)] (.d (.sl (atQ (mg x.1 y.1)).length (spD rcD (atQ (mg x.1 y.1))))) [spO (mg x.1 y.1)]
 out : Eqn Tryz.prog o_a4 [.mp 0] [spO (mrgG mg A B)] (.d (.sl (atQ (mrgG mg A B)).length (spD rcD (atQ (mrgG mg A B))))) [spO (mrgG mg A B)]
def slC (la lb : Nat) (A B C : List D) (n i : Nat) : List V := setS (List.replicate 100 .junk) [(1, .d (.sl la A)), (2, .d (.sl lb B)), (3, .p 0 0), (8, if i = 0 then .d .nilsl else .own 1 3 i), (9, .d (.bool false)), (23, .d (.sl n C)), (24, .d (.int .i64 n)), (25, .d (.int .i64 (i : Nat)))]
def hpC (k a w : Nat) (S : List St) (i : Nat) : List (Option Ob) := [some ⟨73, [.d (.int .i64 k), .d (.int .i64 a), .d (.int .i64 w)]⟩] ++ if i = 0 then [] else [some ⟨78, (stsD (S.take i)).map .d⟩]
theorem o_vq (S : List St) (i : Nat) (h : i < S.length) : stsD (S.take (i + 1)) = stsD (S.take i) ++ stD S[i] := by
 unfold stsD; rw [List.take_add_one, List.getElem?_eq_getElem h, Option.toList, List.flatMap_append]; simp
theorem o_vr {x : Rat} (h : 0 ≤ x) : ¬ cmpQ x 0 < 0 := by
 unfold cmpQ
 rw [if_neg (Rat.not_lt.2 h)]
 split <;> decide
set_option maxHeartbeats 4000000 in
theorem o_vs {k a w : Nat} {mg : St → St → Sp} {A B : Sp} {G M J L : Nat} (h : MrgOK k a w mg A B G M J L) : Eqn Tryz.prog o_7s [.d (parD k a w), .d (.sl A.length (spD rcD A)), .d (.sl B.length (spD rcD B))] [] (.tup [.d (.sl (atQ (mrgG mg A B)).length (spD rcD (atQ (mrgG mg A B)))), .d (.int .i64 0)]) [] := by
 refine Eqn.pure o_7u Plain.ok ?_
 have ha := o_pt rcD (fun _ => rfl) A
 have hb := o_pt rcD (fun _ => rfl) B
 have hcon := o_vj A.length B.length (spD rcD A) (spD rcD B) ha hb h.a1 h.b1 h.a2 (Nat.le_trans h.b2 h.l2)
 have hAB : spD rcD A ++ spD rcD B = spD rcD (A ++ B) := by simp [spD]
 rw [hAB] at hcon
 have hc := o_pt rcD (fun _ => rfl) (A ++ B)
 have hcl : (A ++ B).length = A.length + B.length := List.length_append
 have hget := o_sp (A ++ B)
 have hgA := o_sp A
 have hgB := o_sp B
 have hA2 := h.a2
 have hB2 := h.b2
 have hL2 := h.l2
 have hJ2 := h.j2
 have hout := h.out
 have hgo := o_vp h.b2 h.gr
 have hnn : ∀ p ∈ A ++ B, 0 ≤ p.2 ∧ RS p.2 40000 := fun p hp => by
  rcases List.mem_append.1 hp with hp | hp
  ·exact h.xs p hp
  ·exact h.ys p hp
 have hcost := h.cost
 have hn1 : A.length + B.length ≤ 2000 := by have := h.a2; have := h.b2; have := h.l2; omega
 have hsl : ((A ++ B).map (·.1)).length = (A ++ B).length := List.length_map _
 have hsg : ∀ i (hi : i < (A ++ B).length), ((A ++ B).map (·.1))[i]'(by rw [hsl]; exact hi) = (A ++ B)[i].1 := fun i hi => List.getElem_map _
 have hsn := o_vq ((A ++ B).map (·.1))
 have hsll := fun i => o_uj (((A ++ B).map (·.1)).take i)
 rw [← hcl] at hcon hcost hn1
 generalize hSS : (A ++ B).map (·.1) = S at *
 generalize hBB : A ++ B = AB at *
 generalize spD rcD A = CA at *
 generalize spD rcD B = CB at *
 obtain ⟨n, hn⟩ : ∃ n, n = AB.length := ⟨_, rfl⟩
 rw [← hn] at hcon hcost hn1 hc hcl hsl
 have htk : (spD rcD AB).take (n * 6) = spD rcD AB := List.take_of_length_le (by omega)
 simp only [o_7t, parD] at hcost ⊢
 refine A00 ?_; try with_reducible exact tt
 refine CallS.gf 1 1 ⟨_, [.d (.sl A.length CA), .d (.sl B.length CB)]⟩ [.sl A.length CA, .sl B.length CB] [] (hcon) (R0 ?_); try with_reducible exact tt
 refine AW.freeze 2 6 ⟨91, (spD rcD AB).map .d⟩ (spD rcD AB) (by simp) rfl ?_
 simp [frzH, htk]
 refine AW.loopG (α := Nat) (fun i => slC A.length B.length CA CB (spD rcD AB) n i) (fun i => hpC k a w S i) (fun i => i ≤ n) (fun i => n - i) 0 ?_ (Nat.zero_le _) ?_ ?_ ?_
 ·intro i hi; unfold hpC; split <;> simp
 ·simp [slC, hpC]
 ·simp [hpC]
 rintro i hi
 by_cases hi2 : i < n
 ·have hi3 : (i : Int) < n := by omega
  obtain ⟨s1, s2, s3, q, N1, N2, N3, hp, hN, hg⟩ := hget i (by omega)
  obtain ⟨hq0, hqr⟩ := hnn _ (List.getElem_mem (by omega : i < AB.length))
  rw [hp] at hq0 hqr
  have hsi := hsn i (by omega)
  rw [hsg i (by omega), hp] at hsi
  have hlen := hsll i
  rw [List.length_take, Nat.min_eq_left (by omega)] at hlen
  have ho := rof0
  have hcm := o_mh q 0 (hqr.le (by omega)) ⟨by decide, by decide⟩
  have hcn := o_vr hq0
  generalize cmpQ q 0 = z at *
  have hz0 : rcD 0 = [natW 0, .bool false, natW 0] := rfl
  rw [o_r0, o_r0, hN] at hcm
  rw [o_r0] at ho
  rw [hz0] at hcm ho
  have ew : IntKind.i64.wrap ((i : Int) + 1) = ((i + 1 : Nat) : Int) := by rw [w64 (by omega) (by omega)]; omega
  have hb6 : i * 6 + 6 ≤ n * 6 := by omega
  have hb7 : i * 6 < n * 6 := by omega
  have ht3 : (stsD (S.take i)).length = i * 3 := hlen
  by_cases h0 : i = 0
  ·subst h0
   simp only [slC, hpC, if_true]
   simp only [Nat.zero_mul, List.drop_zero] at hg
   simp
   refine A12 (fs hi2 (fs hi3 (fs hg (fs hc (fs hb6 (fs hb7 (fs ew hcn))))))) ho hcm ?_; try with_reducible exact tt
   refine ⟨1, 1, 3, ⟨by omega, by omega⟩, by omega, by omega, ?_, ?_⟩
   ·simp [slC, hpC, swT, swH, sw, Ob.sw, V.ren, V.rens]
   ·rw [hsi]
    simp [slC, hpC, swT, swH, sw, Ob.sw, V.ren, V.rens, stsD, stD]
  ·have hcs : ([.int .i64 s1, .int .i64 s2, .bool s3] : List D).map V.d = [.d (.int .i64 s1), .d (.int .i64 s2), .d (.bool s3)] := rfl
   simp only [slC, hpC, if_neg h0]
   simp
   refine A12 (fs hi2 (fs hi3 (fs hg (fs hc (fs hb6 (fs hb7 (fs ew (fs hcn (fs ht3 h0))))))))) ho hcm ?_; try with_reducible exact tt
   refine ⟨i + 1, 1, 4, ⟨by omega, by omega⟩, by omega, by omega, ?_, ?_⟩
   ·simp [slC, hpC, swT, swH, sw, Ob.sw, V.ren, V.rens]
   ·rw [hsi]
    simp [slC, hpC, swT, swH, sw, Ob.sw, V.ren, V.rens, stD]
    rw [← hcs, ← List.map_append, o_5v]
    exact ⟨Subs.refl _, o_5w _ _⟩
 ·have h2 : i = n := by omega
  subst h2
  have h0 : ¬ i = 0 := by have := h.a1; omega
  have hSt : S.take i = S := List.take_of_length_le (by omega)
  have hsl3 := o_uj S
  have htk3 : (stsD S).take (i * 3) = stsD S := List.take_of_length_le (by omega)
  simp only [slC, hpC, if_neg h0, hSt]
  simp
  refine AW.freeze 1 3 ⟨78, (stsD S).map .d⟩ (stsD S) (by simp) rfl ?_
  simp [frzH, htk3]
  refine A01 hcost ?_; try with_reducible exact tt
  rw [← o_vn] at hout ⊢
  refine AW.loopG (α := Nat) (fun j => setS (List.replicate 100 .junk) [(1, .d (.sl A.length CA)), (2, .d (.sl B.length CB)), (3, .p 0 0), (13, .mp 2), (59, .d (.sl A.length CA)), (60, .d (.int .i64 A.length)), (61, .d (.int .i64 (j : Nat)))]) (fun j => [some ⟨73, [.d (.int .i64 k), .d (.int .i64 a), .d (.int .i64 w)]⟩, none, some ⟨1000391, (spD rcD (outG mg A B j)).map .d⟩]) (fun j => j ≤ A.length) (fun j => A.length - j) 0 ?_ (Nat.zero_le _) ?_ ?_ ?_
  ·intro i hi; simp
  ·simp
  ·simp [outG, spD]
  clear hget hcon hcost hnn hsl hsg hsn hsll hSt hsl3 htk3 htk hc hBB hSS
  rintro u hu
  simp
  by_cases hu2 : u < A.length
  ·have hu3 : (u : Int) < A.length := by omega
   obtain ⟨x1, x2, x3, xq, X1, X2, X3, hpx, hX, hgx⟩ := hgA u hu2
   have hxm : ((x1, x2, x3), xq) ∈ A := by rw [← hpx]; exact List.getElem_mem hu2
   have hxr := (h.xs _ hxm).2
   have hgou := hgo u hu
   have hon := o_vm mg A B u hu2
   rw [hpx] at hon
   have hx6 : u * 6 + 6 ≤ A.length * 6 := by omega
   have hx7 : u * 6 < A.length * 6 := by omega
   have ewu : IntKind.i64.wrap ((u : Int) + 1) = ((u + 1 : Nat) : Int) := by rw [w64 (by omega) (by omega)]; omega
   refine A10 (fs hu2 (fs hu3 (fs hgx (fs ha (fs hx6 hx7))))) ?_; try with_reducible exact tt
   refine AW.loopG (α := Nat) (fun j => setS (List.replicate 100 .junk) [(1, .d (.sl A.length CA)), (2, .d (.sl B.length CB)), (3, .p 0 0), (13, .mp 2), (15, .p 3 0), (59, .d (.sl A.length CA)), (60, .d (.int .i64 A.length)), (61, .d (.int .i64 (u : Nat))), (65, .d (.sl B.length CB)), (66, .d (.int .i64 B.length)), (67, .d (.int .i64 (j : Nat)))]) (fun j => [some ⟨73, [.d (.int .i64 k), .d (.int .i64 a), .d (.int .i64 w)]⟩, none, some ⟨1000391, (spD rcD (inG mg ((x1, x2, x3), xq) B (outG mg A B u) j)).map .d⟩, some ⟨91, [.d (.int .i64 x1), .d (.int .i64 x2), .d (.bool x3), .d X1, .d X2, .d X3]⟩]) (fun j => j ≤ B.length) (fun j => B.length - j) 0 ?_ (Nat.zero_le _) ?_ ?_ ?_
   ·intro i hi; simp
   ·simp
   ·simp [inG]
   rintro v hv
   simp
   by_cases hv2 : v < B.length
   ·have hv3 : (v : Int) < B.length := by omega
    obtain ⟨y1, y2, y3, yq, Y1, Y2, Y3, hpy, hY, hgy⟩ := hgB v hv2
    have hym : ((y1, y2, y3), yq) ∈ B := by rw [← hpy]; exact List.getElem_mem hv2
    have hyr := (h.ys _ hym).2
    obtain ⟨hme, hat⟩ := h.call _ hxm _ hym
    obtain ⟨hgC, hJ⟩ := h.gr _ hxm _ hym
    have hrC := h.rs _ hxm _ hym
    have hin := o_vo hgou (fun y hy => h.gr _ hxm y hy) v hv
    have hon2 := o_vk mg ((x1, x2, x3), xq) B (outG mg A B u) v hv2
    rw [hpy] at hon2
    simp only at hme hat hgC hJ hrC hon2
    have hy6 : v * 6 + 6 ≤ B.length * 6 := by omega
    have hy7 : v * 6 < B.length * 6 := by omega
    have ewv : IntKind.i64.wrap ((v : Int) + 1) = ((v + 1 : Nat) : Int) := by rw [w64 (by omega) (by omega)]; omega
    have hq := o_me xq yq (hxr.le (by omega)) (hyr.le (by omega))
    have hqr := (RS.mul hxr hyr).le (M := 100000) (by omega)
    obtain ⟨C, hC⟩ : ∃ C, C = atQ (mg (x1, x2, x3) (y1, y2, y3)) := ⟨_, rfl⟩
    rw [← hC] at hat hgC hJ hrC hon2
    have hCl := o_pt rcD (fun _ => rfl) C
    have hgetC := o_sp C
    have hJ1 : u * (L * J) * M + v * J * M + J * M ≤ (A.length + 2) * (L * J) * M := by
     have k1 : v * J ≤ L * J := Nat.mul_le_mul_right J (by omega)
     have k2 : J ≤ L * J := Nat.le_mul_of_pos_left J h.lp
     have k3 := Nat.mul_le_mul_right M k1
     have k4 := Nat.mul_le_mul_right M k2
     have k5 : u * (L * J) * M ≤ A.length * (L * J) * M := Nat.mul_le_mul_right M (Nat.mul_le_mul_right _ hu)
     have k6 : (A.length + 2) * (L * J) * M = A.length * (L * J) * M + 2 * (L * J * M) := by rw [Nat.add_mul A.length 2, Nat.add_mul, Nat.mul_assoc 2]
     rw [k6]
     omega
    have hCAP : 1 ≤ (A.length + 2) * (L * J) * M := Nat.mul_pos (Nat.mul_pos (by omega) (Nat.mul_pos h.lp h.jp)) h.mp
    have hM1 : M ≤ (A.length + 2) * (L * J) * M := Nat.le_mul_of_pos_left M (Nat.mul_pos (by omega) (Nat.mul_pos h.lp h.jp))
    have hsz := h.sz
    generalize (A.length + 2) * (L * J) * M = CAP at *
    simp only [spO, stD, parD] at hme hat
    rw [o_r0 xq, o_r0 yq, hX, hY, o_r0] at hq
    obtain ⟨Q1, Q2, Q3, hQ⟩ : ∃ Q1 Q2 Q3, rcD (xq * yq) = [Q1, Q2, Q3] := ⟨_, _, _, rfl⟩
    rw [hQ] at hq
    refine A10 (fs hv2 (fs hv3 (fs hgy (fs hb (fs hy6 hy7))))) ?_; try with_reducible exact tt
    refine CallS.nX (hme) (R0 ?_); try with_reducible exact tt
    refine CallS.g [5] (hat) (R0 ?_); try with_reducible exact tt
    refine AW.loopG (α := Nat) (fun j => setS (List.replicate 100 .junk) [(1, .d (.sl A.length CA)), (2, .d (.sl B.length CB)), (3, .p 0 0), (13, .mp 2), (15, .p 3 0), (17, .p 4 0), (59, .d (.sl A.length CA)), (60, .d (.int .i64 A.length)), (61, .d (.int .i64 (u : Nat))), (65, .d (.sl B.length CB)), (66, .d (.int .i64 B.length)), (67, .d (.int .i64 (v : Nat))), (77, .d (.sl C.length (spD rcD C))), (78, .d (.int .i64 C.length)), (79, .d (.int .i64 (j : Nat)))]) (fun j => [some ⟨73, [.d (.int .i64 k), .d (.int .i64 a), .d (.int .i64 w)]⟩, none, some ⟨1000391, (spD rcD (innQ (xq * yq) (inG mg ((x1, x2, x3), xq) B (outG mg A B u) v) (C.take j))).map .d⟩, some ⟨91, [.d (.int .i64 x1), .d (.int .i64 x2), .d (.bool x3), .d X1, .d X2, .d X3]⟩, some ⟨91, [.d (.int .i64 y1), .d (.int .i64 y2), .d (.bool y3), .d Y1, .d Y2, .d Y3]⟩]) (fun j => j ≤ C.length) (fun j => C.length - j) 0 ?_ (Nat.zero_le _) ?_ ?_ ?_
    ·intro i hi; simp
    ·simp
    ·simp [innQ]
    rintro j hj
    simp
    by_cases hj2 : j < C.length
    ·have hj3 : (j : Int) < C.length := by omega
     obtain ⟨t1, t2, t3, r, M1, M2, M3, hpc, hMM, hgc⟩ := hgetC j hj2
     have hinn := o_se (xq * yq) (inG mg ((x1, x2, x3), xq) B (outG mg A B u) v) C j hj2
     have hgr := hgC _ (List.getElem_mem hj2)
     have hrr := hrC _ (List.getElem_mem hj2)
     rw [hpc] at hinn hgr hrr
     simp only at hinn hgr hrr
     have hgi := o_si (q := xq * yq) hin (C.take j) (fun p hp => hgC p (List.mem_of_mem_take hp))
     have hget2 := (o_sh hgi (t1, t2, t3)).le (C := CAP) (by
      have e1 : (C.take j).length * M ≤ J * M := Nat.mul_le_mul_right M (by rw [List.length_take]; omega)
      omega)
     have hmul := o_me r (xq * yq) hrr hqr
     rw [Rat.mul_comm r] at hmul
     have hadd := o_r3 (innQ (xq * yq) (inG mg ((x1, x2, x3), xq) B (outG mg A B u) v) (C.take j)) (t1, t2, t3) (xq * yq * r) (hget2.rs h.dp hCAP hsz) ((hgr.le hM1).rs h.dp hCAP hsz)
     have ewj : IntKind.i64.wrap ((j : Int) + 1) = ((j + 1 : Nat) : Int) := by rw [w64 (by omega) (by omega)]; omega
     have hc6 : j * 6 + 6 ≤ C.length * 6 := by omega
     have hc7 : j * 6 < C.length * 6 := by omega
     rw [← hinn] at hadd
     rw [o_r0 r, o_r0 (xq * yq), o_r0 (xq * yq * r), hQ, hMM] at hmul
     rw [o_r0 (xq * yq * r)] at hadd
     obtain ⟨P1, P2, P3, hP⟩ : ∃ P1 P2 P3, rcD (xq * yq * r) = [P1, P2, P3] := ⟨_, _, _, rfl⟩
     rw [hP] at hmul hadd
     simp only [spO, stD] at hadd
     refine A12 (fs hj2 (fs hj3 (fs hgc (fs hCl (fs hc6 hc7))))) hq hmul ?_; try with_reducible exact tt
     refine CallS.g [2] (hadd) (R0 ?_); try with_reducible exact tt
     refine A10 ewj ?_; try with_reducible exact tt
     refine ⟨j + 1, 2, 2, ⟨by omega, by omega⟩, by omega, by omega, ?_, ?_⟩
     ·simp [swT, swH, sw, Ob.sw, V.ren, V.rens]
     ·simp [swT, swH, sw, Ob.sw, V.ren, V.rens]
    ·have h2 : j = C.length := by omega
     subst h2
     rw [List.take_length, ← hon2]
     refine A10 ewv ?_; try with_reducible exact tt
     refine ⟨v + 1, 2, 2, ⟨by omega, by omega⟩, by omega, by omega, ?_, ?_⟩
     ·simp [swT, swH, sw, Ob.sw, V.ren, V.rens]
     ·simp [swT, swH, sw, Ob.sw, V.ren, V.rens]
   ·have h2 : v = B.length := by omega
    subst h2
    rw [← hon]
    refine A10 ewu ?_; try with_reducible exact tt
    refine ⟨u + 1, 2, 2, ⟨by omega, by omega⟩, by omega, by omega, ?_, ?_⟩
    ·simp [swT, swH, sw, Ob.sw, V.ren, V.rens]
    ·simp [swT, swH, sw, Ob.sw, V.ren, V.rens]
  ·have h2 : u = A.length := by omega
   subst h2
   simp only [spO] at hout
   refine A00 ?_; try with_reducible exact tt
   refine CallS.g [2] (hout) (R0 ?_); try with_reducible exact tt
   done
end
end Go.Proofs.YtmpjlkclkhnpfaaGreatDoor.Am
namespace Go.Proofs.YtmpjlkclkhnpfaaGreatDoor.Am
section
open Go.RowKit
theorem wellQ {k a w : Nat} (h : GoodS k a w) {t : St} (ht : okQ (topC w) t) : WellR k a w t.1 t.2.1 t.2.2 := .inr ⟨by have := h.1; omega, ht.2.1, ht.1, ht.2.2⟩
theorem o_vt (top k a : Nat) (A B : Sp) : mrgG (mgQ top k a) A B = mrgdQ top k a A B := rfl
theorem o_vu {k a w : Nat} (h : GoodS k a w) (w3 : w ≤ 3) (n m : Nat) (hn : n ≤ 7) (hm : m ≤ 7) : ∃ G M, MrgOK k a w (mgQ (topC w) k a) (atQ (dstQ k a w (0, 0, false) n)) (atQ (dstQ k a w (0, 0, false) m)) G M 9 9 ∧ 0 < G ∧ 1 ≤ M ∧ (∀ p ∈ mrgdQ (topC w) k a (atQ (dstQ k a w (0, 0, false) n)) (atQ (dstQ k a w (0, 0, false) m)), Gr G (729 * M) p.2) ∧ size (100000 * M * G) ≤ 1000 ∧ (∀ i, i ≤ 15 → ∀ p ∈ dstQ k a w (0, 0, false) i, ∃ E C, 0 < E ∧ 1 ≤ C ∧ Gr E C p.2 ∧ size (100 * C * E) ≤ 1000) := by
 have h8 : 2 ^ w ≤ 8 := Nat.pow_le_pow_right (n := 2) (by omega) w3
 have h7 : topC w ≤ 7 := by unfold topC; omega
 obtain ⟨c0, c1⟩ := o_t6 h
 obtain ⟨G0, hG, hG63, hc, hr⟩ := o_tm h
 have hs : okQ (topC w) (0, 0, false) := ⟨Nat.zero_le _, rfl, by simp⟩
 have gA := fun n => o_uu h7 c0 c1 (fun x hx => hc x (by omega)) hs n
 have okA := fun n => o_qw (c := chP k a) c0 c1 hs n
 have lenA : ∀ n, (atQ (dstQ k a w (0, 0, false) n)).length ≤ 9 := fun n => Nat.le_trans (o_sn _) (Nat.le_trans (o_ut (o_qm _ _ n) (o_t0 (c := chP k a) hs n)) (by omega))
 have posA : ∀ n, 1 ≤ (atQ (dstQ k a w (0, 0, false) n)).length := fun n => by
  rw [(o_qa _).length_eq]
  rcases Nat.eq_zero_or_pos (nzQ (dstQ k a w (0, 0, false) n)).length with e | e
  ·exact absurd (List.eq_nil_of_length_eq_zero e) (o_t2 _ _)
  ·exact e
 have mem : ∀ n, ∀ p ∈ atQ (dstQ k a w (0, 0, false) n), p ∈ dstQ k a w (0, 0, false) n := fun n p hp => (List.mem_filter.1 ((o_qa _).mem_iff.1 hp)).1
 have sG : size G0 ≤ 1 := o_k8 (Nat.lt_of_le_of_lt hG63 (by decide))
 have s24 : size 24 ≤ 1 := o_k8 (by decide)
 have pG := fun n => o_t4 G0 sG n
 have p24 := fun n => o_t4 24 s24 n
 have rsA : ∀ n, n ≤ 15 → ∀ p ∈ dstQ k a w (0, 0, false) n, RS p.2 40000 := fun n hn p hp => (gA n p hp).rs (Nat.pow_pos hG) (Nat.pow_pos (by decide)) (by
  have := o_m0 (24 ^ n) (G0 ^ n); have := pG n; have := p24 n; omega)
 obtain ⟨A, hA⟩ : ∃ A, A = atQ (dstQ k a w (0, 0, false) n) := ⟨_, rfl⟩
 obtain ⟨B, hB⟩ : ∃ B, B = atQ (dstQ k a w (0, 0, false) m) := ⟨_, rfl⟩
 have okA' : oklQ (topC w) A := by rw [hA]; exact o_qs (okA n)
 have okB' : oklQ (topC w) B := by rw [hB]; exact o_qs (okA m)
 have lA := lenA n
 have lB := lenA m
 have qA := posA n
 have qB := posA m
 have rA : ∀ p ∈ A, RS p.2 40000 ∧ Gr (G0 ^ n) (24 ^ n) p.2 := fun p hp => ⟨rsA n (by omega) p (mem n p (hA ▸ hp)), gA n p (mem n p (hA ▸ hp))⟩
 have rB : ∀ p ∈ B, RS p.2 40000 ∧ Gr (G0 ^ m) (24 ^ m) p.2 := fun p hp => ⟨rsA m (by omega) p (mem m p (hB ▸ hp)), gA m p (mem m p (hB ▸ hp))⟩
 rw [← hA] at lA qA
 rw [← hB] at lB qB
 rw [← hA, ← hB]
 obtain ⟨G, hGe⟩ : ∃ G, G = G0 ^ n * G0 ^ m * G0 ^ 8 := ⟨_, rfl⟩
 obtain ⟨M, hMe⟩ : ∃ M, M = 24 ^ n * 24 ^ m * 24 ^ 8 := ⟨_, rfl⟩
 have Gp : 0 < G := by rw [hGe]; exact Nat.mul_pos (Nat.mul_pos (Nat.pow_pos hG) (Nat.pow_pos hG)) (Nat.pow_pos hG)
 have Mp : 1 ≤ M := by rw [hMe]; exact Nat.mul_pos (Nat.mul_pos (Nat.pow_pos (by decide)) (Nat.pow_pos (by decide))) (Nat.pow_pos (by decide))
 have Gs : size G ≤ 30 := by
  rw [hGe]
  have := o_m0 (G0 ^ n * G0 ^ m) (G0 ^ 8); have := o_m0 (G0 ^ n) (G0 ^ m)
  have := pG n; have := pG m; have := pG 8; omega
 have Ms : size M ≤ 30 := by
  rw [hMe]
  have := o_m0 (24 ^ n * 24 ^ m) (24 ^ 8); have := o_m0 (24 ^ n) (24 ^ m)
  have := p24 n; have := p24 m; have := p24 8; omega
 have mgm : ∀ x ∈ A, ∀ y ∈ B, ∀ p ∈ atQ (mgQ (topC w) k a x.1 y.1), p ∈ mgQ (topC w) k a x.1 y.1 := fun x hx y hy p hp => (List.mem_filter.1 ((o_qa _).mem_iff.1 hp)).1
 have y7 : ∀ y ∈ B, y.1.1 ≤ 7 := fun y hy => by have := (okB' y hy).1.1; omega
 have hgr : ∀ x ∈ A, ∀ y ∈ B, (∀ p ∈ atQ (mgQ (topC w) k a x.1 y.1), Gr G M (x.2 * y.2 * p.2)) ∧ (atQ (mgQ (topC w) k a x.1 y.1)).length ≤ 9 := fun x hx y hy => by
  refine ⟨fun p hp => ?_, Nat.le_trans (o_sn _) (Nat.le_trans (o_uy (o_uz _ _) (o_v4 h (okA' x hx).1 (okB' y hy).1)) (by omega))⟩
  rw [hGe, hMe]
  exact ((rA x hx).2.mul (rB y hy).2).mul (o_v7 h hr (okA' x hx).1 (y7 y hy) p (mgm x hx y hy p hp))
 have hgo := o_vp (mg := mgQ (topC w) k a) (L := 9) lB hgr A.length (Nat.le_refl _)
 rw [o_vn] at hgo
 have e81 : A.length * (9 * 9) * M ≤ 729 * M := Nat.mul_le_mul_right M (by omega)
 have hout : ∀ p ∈ mrgdQ (topC w) k a A B, Gr G (729 * M) p.2 := fun p hp => (hgo p hp).le e81
 have sz1 : size (100000 * M * G) ≤ 1000 := by
  have := o_m0 (100000 * M) G; have := o_m0 100000 M
  have : size 100000 ≤ 1 := o_k8 (by decide)
  omega
 have u := o_ue (fun _ => 1) (topC w) k a B A [] (by simp [Uq])
 have hu : Uq (mrgdQ (topC w) k a A B) := u.1
 have hone : exQ (fun _ => 1) (mrgdQ (topC w) k a A B) = 1 := by
  have h1 := o_uf h n m (fun _ => 1)
  rw [show atQ (ofQ (stepQ (topC w) (chP k a)) (0, 0, false) n) = A from hA.symm, show atQ (ofQ (stepQ (topC w) (chP k a)) (0, 0, false) m) = B from hB.symm] at h1
  rw [show (fun _ => (1 : Rat)) = plQ (fun _ => 1) from rfl, h1]
  exact o_qx _ _
 have hokO : oklQ (topC w) (mrgdQ (topC w) k a A B) := by
  have := o_vd h okA' okB' A.length (Nat.le_refl _)
  rwa [o_vb] at this
 have lO := o_uy hu hokO
 refine ⟨G, M, ⟨Gp, Mp, by omega, by omega, by omega, qA, by omega, qB, lB, by omega, fun x hx => ⟨(okA' x hx).2, (rA x hx).1⟩, fun y hy => ⟨(okB' y hy).2, (rB y hy).1⟩, hgr, fun x hx y hy p hp => ?_, ?_, ?_, fun x hx y hy => ⟨o_up h x.1 y.1 (okA' x hx).1 (okB' y hy).1.1 (y7 y hy), o_v6 h w3 (okA' x hx).1 (okB' y hy).1⟩, ?_⟩, Gp, Mp, hout, sz1, ?_⟩
 ·refine (o_v7 h hr (okA' x hx).1 (y7 y hy) p (mgm x hx y hy p hp)).rs (Nat.pow_pos hG) (Nat.pow_pos (by decide)) ?_
  have := o_m0 (24 ^ 8) (G0 ^ 8); have := pG 8; have := p24 8; omega
 ·refine Nat.le_trans (o_ij ?_) (Nat.le_trans sz1 (by omega))
  refine Nat.mul_le_mul_right G (Nat.mul_le_mul_right M ?_)
  omega
 ·have hl : ((A ++ B).map (·.1)).length = A.length + B.length := by simp
  have := o_uo (.inr ⟨by have := h.1; omega, o_p0 h⟩) (by have := h.1; omega) h.2.2 ((A ++ B).map (·.1)) (by omega) (fun s hs => ?_)
  ·rwa [hl] at this
  ·obtain ⟨p, hp, rfl⟩ := List.mem_map.1 hs
   rcases List.mem_append.1 hp with hp | hp
   ·exact wellQ h (okA' p hp).1
   ·exact wellQ h (okB' p hp).1
 ·refine o_sb _ hu (o_v1 hone) (Nat.le_trans (List.length_filter_le _ _) (Nat.le_trans lO (by omega))) (Nat.le_trans lO (by omega)) fun p hp => ?_
  refine (hout p hp).rs Gp (Nat.mul_pos (by decide) Mp) (Nat.le_trans (o_ij ?_) (Nat.le_trans sz1 (by omega)))
  exact Nat.mul_le_mul_right G (Nat.mul_le_mul_right M (by omega))
 ·intro i hi p hp
  refine ⟨G0 ^ i, 24 ^ i, Nat.pow_pos hG, Nat.pow_pos (by decide), gA i p hp, ?_⟩
  have := o_m0 (100 * 24 ^ i) (G0 ^ i); have := o_m0 100 (24 ^ i); have := pG i; have := p24 i
  have : size 100 ≤ 1 := o_k8 (by decide)
  omega
end
end Go.Proofs.YtmpjlkclkhnpfaaGreatDoor.Am
namespace Go.Proofs.YtmpjlkclkhnpfaaGreatDoor.Am
section
open Go.RowKit
theorem o_vv {s : St} : ∀ (A : Sp) (j : Nat) (h : j < A.length), (∀ i (hi : i < A.length), i < j → A[i].1 ≠ s) → A[j].1 = s → getQ A s = A[j].2
 | [], j, h, _, _ => by simp at h
 | p :: A, 0, h, _, e => by
  have e' : p.1 = s := e
  unfold getQ; rw [if_pos e'.symm]; rfl
 | p :: A, j + 1, h, hn, e => by
  have h0 := hn 0 (by simp) (by omega)
  simp only [List.getElem_cons_zero] at h0
  unfold getQ
  rw [if_neg fun e => h0 e.symm]
  have := o_vv (s := s) A j (by simpa using h) (fun i hi hij => by have := hn (i + 1) (by simpa using hi) (by omega); simpa using this) (by simpa using e)
  simpa using this
theorem o_vw {s : St} : ∀ (A : Sp), (∀ i (hi : i < A.length), A[i].1 ≠ s) → getQ A s = 0
 | [], _ => rfl
 | p :: A, hn => by
  have h0 := hn 0 (by simp)
  simp only [List.getElem_cons_zero] at h0
  unfold getQ
  rw [if_neg fun e => h0 e.symm]
  exact o_vw A fun i hi => by have := hn (i + 1) (by simpa using hi); simpa using this
set_option maxHeartbeats 2000000 in
theorem o_vx (A : Sp) (hA : A.length ≤ 1000000) (y1 y2 : Nat) (y3 : Bool) : Eqn Tryz.prog o_7p [.d (.sl A.length (spD rcD A)), .d (.agg [.int .i64 y1, .int .i64 y2, .bool y3])] [] (.d (rD (getQ A (y1, y2, y3)))) [] := by
 refine Eqn.pure o_7r Plain.ok ?_
 have hl := o_pt rcD (fun _ => rfl) A
 have hget := o_sp A
 have ho := rof0
 simp only [o_7q]
 obtain ⟨Z1, Z2, Z3, hZ⟩ : ∃ Z1 Z2 Z3, rcD (getQ A (y1, y2, y3)) = [Z1, Z2, Z3] := ⟨_, _, _, rfl⟩
 rw [o_r0, hZ]
 refine A00 ?_; try with_reducible exact tt
 refine AW.loopG (α := Nat) (fun j => setS (List.replicate 21 .junk) [(3, .p 0 0), (4, .p 1 0), (7, .d (.sl A.length (spD rcD A))), (8, .d (.int .i64 A.length)), (9, .d (.int .i64 (j : Nat)))]) (fun j => [some ⟨78, [.d (.int .i64 y1), .d (.int .i64 y2), .d (.bool y3)]⟩, some ⟨29, [.d .nilsl, .d (.bool false), .d .nilsl]⟩]) (fun j => j ≤ A.length ∧ ∀ i (hi : i < A.length), i < j → A[i].1 ≠ (y1, y2, y3)) (fun j => A.length - j) 0 ?_ ⟨Nat.zero_le _, fun _ _ h => by omega⟩ ?_ ?_ ?_
 ·intro j hj; simp
 ·simp
 ·simp
 rintro j ⟨hj, hno⟩
 simp
 by_cases hj2 : j < A.length
 ·have hj3 : (j : Int) < A.length := by omega
  obtain ⟨s1, s2, s3, q, N1, N2, N3, hp, hN, hg⟩ := hget j hj2
  have hb6 : j * 6 + 6 ≤ A.length * 6 := by omega
  have hb7 : j * 6 < A.length * 6 := by omega
  have ewj : IntKind.i64.wrap ((j : Int) + 1) = ((j + 1 : Nat) : Int) := by rw [w64 (by omega) (by omega)]; omega
  by_cases h1 : s1 = y1
  ·by_cases h2 : s2 = y2
   ·by_cases h3 : s3 = y3
    ·have hf := o_vv A j hj2 hno (by rw [hp, h1, h2, h3])
     rw [hp] at hf
     simp only at hf
     rw [hf, hN] at hZ
     simp only [List.cons.injEq, and_true] at hZ
     obtain ⟨z1, z2, z3⟩ := hZ
     subst h1 h2 h3 z1 z2 z3
     refine A10 (fs hj2 (fs hj3 (fs hg (fs hl (fs hb6 hb7))))) ?_; try with_reducible exact tt
     done
    ·have hne : (s1, s2, s3) ≠ (y1, y2, y3) := fun e => h3 (by simpa using congrArg (fun x : St => x.2.2) e)
     subst h1 h2
     have h4 : (s3 == y3) = false := by simpa using h3
     refine A10 (fs hj2 (fs hj3 (fs hg (fs hl (fs hb6 (fs hb7 (fs h3 h4))))))) ?_; try with_reducible exact tt
     refine A10 ewj ?_; try with_reducible exact tt
     have hno2 : ∀ i (hi : i < A.length), i < j + 1 → A[i].1 ≠ (s1, s2, y3) := fun i hi h => by
      by_cases e : i = j
      ·subst e; rw [hp]; exact hne
      ·exact hno i hi (by omega)
     refine ⟨j + 1, 0, 0, by simp, ⟨by omega, hno2⟩, by omega, ?_, ?_⟩
     ·simp [swT, swH, sw, Ob.sw, V.ren, V.rens]
     ·simp [swT, swH, sw, Ob.sw, V.ren, V.rens]
   ·have hne : (s1, s2, s3) ≠ (y1, y2, y3) := fun e => h2 (by simpa using congrArg (fun x : St => x.2.1) e)
    subst h1
    have h4 : ((s2 : Int) == (y2 : Int)) = false := by simp; omega
    have h5 : ¬ (s2 : Int) = (y2 : Int) := by omega
    refine A10 (fs hj2 (fs hj3 (fs hg (fs hl (fs hb6 (fs hb7 (fs h2 (fs h4 h5)))))))) ?_; try with_reducible exact tt
    refine A10 ewj ?_; try with_reducible exact tt
    have hno2 : ∀ i (hi : i < A.length), i < j + 1 → A[i].1 ≠ (s1, y2, y3) := fun i hi h => by
     by_cases e : i = j
     ·subst e; rw [hp]; exact hne
     ·exact hno i hi (by omega)
    refine ⟨j + 1, 0, 0, by simp, ⟨by omega, hno2⟩, by omega, ?_, ?_⟩
    ·simp [swT, swH, sw, Ob.sw, V.ren, V.rens]
    ·simp [swT, swH, sw, Ob.sw, V.ren, V.rens]
  ·have hne : (s1, s2, s3) ≠ (y1, y2, y3) := fun e => h1 (by simpa using congrArg (fun x : St => x.1) e)
   have h4 : ((s1 : Int) == (y1 : Int)) = false := by simp; omega
   have h5 : ¬ (s1 : Int) = (y1 : Int) := by omega
   refine A10 (fs hj2 (fs hj3 (fs hg (fs hl (fs hb6 (fs hb7 (fs h1 (fs h4 h5)))))))) ?_; try with_reducible exact tt
   refine A10 ewj ?_; try with_reducible exact tt
   have hno2 : ∀ i (hi : i < A.length), i < j + 1 → A[i].1 ≠ (y1, y2, y3) := fun i hi h => by
    by_cases e : i = j
    ·subst e; rw [hp]; exact hne
    ·exact hno i hi (by omega)
   refine ⟨j + 1, 0, 0, by simp, ⟨by omega, hno2⟩, by omega, ?_, ?_⟩
   ·simp [swT, swH, sw, Ob.sw, V.ren, V.rens]
   ·simp [swT, swH, sw, Ob.sw, V.ren, V.rens]
 ·have h2 : j = A.length := by omega
  have hz : getQ A (y1, y2, y3) = 0 := o_vw A fun i hi => hno i hi (by omega)
  rw [o_r0] at ho
  rw [← hz, hZ] at ho
  subst h2
  refine A00 ?_; try with_reducible exact tt
  refine CallS.pu (ho) (R0 ?_); try with_reducible exact tt
end
end Go.Proofs.YtmpjlkclkhnpfaaGreatDoor.Am
namespace Go.Proofs.YtmpjlkclkhnpfaaGreatDoor.Am
section
open Go.RowKit
theorem o_vy {l K N : Sp} (hu : Uq l) (hN : nzQ l = N) (hp : K.Perm N) (hs : K.Pairwise fun a b => ltS a.1 b.1 = true) : atQ l = K := (o_qf hu (hN ▸ hp) hs).symm
def hf2 : Rat := mkRat 1 2
theorem dst2 : atQ (dstQ 1 1 2 (0, 0, false) 2) = [((1, 0, false), hf2), ((2, 0, false), hf2)] := by
 have c0 : stepQ (topC 2) (chP 1 1) (0, 0, false) = [((1, 0, false), 1), ((0, 0, false), 0)] := by kernel_rfl
 have c1 : stepQ (topC 2) (chP 1 1) (1, 0, false) = [((2, 0, false), hf2), ((1, 0, false), hf2)] := by kernel_rfl
 have a0 : atQ [(((0, 0, false) : St), (1 : Rat))] = [((0, 0, false), 1)] := o_vy (N := [((0, 0, false), 1)]) (by unfold Uq; decide) (by kernel_rfl) (List.Perm.refl _) (by decide)
 have a1 : atQ [(((1, 0, false) : St), (1 : Rat)), ((0, 0, false), 0)] = [((1, 0, false), 1)] := o_vy (N := [((1, 0, false), 1)]) (by unfold Uq; decide) (by kernel_rfl) (List.Perm.refl _) (by decide)
 have a2 : atQ [(((1, 0, false) : St), (1 : Rat))] = [((1, 0, false), 1)] := o_vy (N := [((1, 0, false), 1)]) (by unfold Uq; decide) (by kernel_rfl) (List.Perm.refl _) (by decide)
 have a3 : atQ [(((2, 0, false) : St), hf2), ((1, 0, false), hf2)] = [((1, 0, false), hf2), ((2, 0, false), hf2)] := o_vy (N := [((2, 0, false), hf2), ((1, 0, false), hf2)]) (by unfold Uq; decide) (by kernel_rfl) (List.Perm.swap _ _ _) (by decide)
 have a4 : atQ [(((1, 0, false) : St), hf2), ((2, 0, false), hf2)] = [((1, 0, false), hf2), ((2, 0, false), hf2)] := o_vy (N := [((1, 0, false), hf2), ((2, 0, false), hf2)]) (by unfold Uq; decide) (by kernel_rfl) (List.Perm.refl _) (by decide)
 have d1 : dstQ 1 1 2 (0, 0, false) 1 = [((1, 0, false), 1)] := by
  show timesQ _ [((0, 0, false), 1)] = _
  unfold timesQ
  rw [a0]
  simp only [List.foldl_cons, List.foldl_nil]
  rw [c0, a1]
  kernel_rfl
 have d2 : dstQ 1 1 2 (0, 0, false) 2 = [((1, 0, false), hf2), ((2, 0, false), hf2)] := by
  show timesQ _ (dstQ 1 1 2 (0, 0, false) 1) = _
  rw [d1]
  unfold timesQ
  rw [a2]
  simp only [List.foldl_cons, List.foldl_nil]
  rw [c1, a3]
  kernel_rfl
 rw [d2, a4]
theorem o_vz : Eqn Tryz.prog o_7a [] [] (.d (.bool true)) [] := by
 refine Eqn.pure o_7c Plain.ok ?_
 have hG : GoodS 1 1 2 := ⟨.inl ⟨rfl, by omega, by omega⟩, by omega, by omega⟩
 have hof := o_t7 hG (0, 0, false) (.inr ⟨by omega, rfl, by simp, by simp⟩) ⟨Nat.zero_le _, rfl, by simp⟩ 2 (by omega)
 rw [dst2] at hof
 have hsp : spD rcD [(((1, 0, false) : St), hf2), ((2, 0, false), hf2)] = [.int .i64 1, .int .i64 0, .bool false, natW 1, .bool false, natW 1, .int .i64 2, .int .i64 0, .bool false, natW 1, .bool false, natW 1] := by rfl
 rw [hsp] at hof
 have ht := o_my 1 1 (by omega) (by omega) (by omega)
 have hs : (smallS 1 ++ ⟨#[47]⟩ ++ smallS (1 + 1)).toList = [49, 47, 50] := by kernel_rfl
 simp only [o_7b, parD, stD] at hof ⊢
 generalize natW 1 = N1 at *
 generalize hSS : smallS 1 ++ ⟨#[47]⟩ ++ smallS (1 + 1) = SS at *
 simp at hof
 refine A00 ?_; try with_reducible exact tt
 refine CallS.pu (hof) (R0 ?_); try with_reducible exact tt
 refine CallS.pu (ht) (R1 hs ?_); try with_reducible exact tt
 refine CallS.pu (ht) (R1 hs ?_); try with_reducible exact tt
end
end Go.Proofs.YtmpjlkclkhnpfaaGreatDoor.Am
namespace Go.Proofs.YtmpjlkclkhnpfaaGreatDoor.Am
section
open Go.RowKit
def dlQ (s t : St) : Rat := if t = s then 1 else 0
def gA (top : Nat) : Nat → St → Rat
 | 0, _ => 0
 | i + 1, t => (gA top i t + dlQ (top - i, 0, true) t) + dlQ (top - i, 0, false) t
def gM (top i : Nat) (t : St) : Rat := gA top i t + dlQ (top - i, 0, true) t
def accQ (l : Sp) (top : Nat) : Nat → Rat
 | 0 => 0
 | i + 1 => (accQ l top i + getQ l (top - i, 0, true)) + getQ l (top - i, 0, false)
def midQ (l : Sp) (top i : Nat) : Rat := accQ l top i + getQ l (top - i, 0, true)
theorem o_w0 (g h : St → Rat) : ∀ l : Sp, exQ (fun t => g t + h t) l = exQ g l + exQ h l
 | [] => by simp only [exQ]; grind
 | p :: l => by simp only [exQ, o_w0 g h l]; grind
theorem o_w1 (x : Rat) : cmpQ x x = 0 := by unfold cmpQ; rw [if_neg Rat.lt_irrefl, if_neg Rat.lt_irrefl]
end
end Go.Proofs.YtmpjlkclkhnpfaaGreatDoor.Am
namespace Go.Proofs.YtmpjlkclkhnpfaaGreatDoor.Am
section
open Go.RowKit
theorem o_w2 {g h : St → Rat} : ∀ {l : Sp}, (∀ p ∈ l, g p.1 = h p.1) → exQ g l = exQ h l
 | [], _ => rfl
 | p :: l, hl => by simp only [exQ]; rw [hl p (by simp), o_w2 (l := l) fun q hq => hl q (by simp [hq])]
theorem o_w3 {top : Nat} {l : Sp} (hu : Uq l) (hok : oklQ top l) (k : Nat) : getQ l (k, 0, false) + getQ l (k, 0, true) = exQ (plQ fun x => if x = k then 1 else 0) l := by
 rw [o_qg _ _ hu, o_qg _ _ hu, ← o_w0]
 refine o_w2 fun p hp => ?_
 obtain ⟨⟨a, b, f⟩, q⟩ := p
 obtain ⟨h1, h2, h3⟩ := (hok _ hp).1
 simp only at h2
 subst h2
 unfold plQ
 simp only [Prod.mk.injEq, true_and]
 by_cases e : a = k
 ·cases f <;> simp [e] <;> grind
 ·simp [e]; grind
theorem o_w4 {k a w : Nat} (h : GoodS k a w) (n m : Nat) (hokR : oklQ (topC w) (mrgdQ (topC w) k a (atQ (dstQ k a w (0, 0, false) n)) (atQ (dstQ k a w (0, 0, false) m)))) (x : Nat) :
  getQ (mrgdQ (topC w) k a (atQ (dstQ k a w (0, 0, false) n)) (atQ (dstQ k a w (0, 0, false) m))) (x, 0, false) + getQ (mrgdQ (topC w) k a (atQ (dstQ k a w (0, 0, false) n)) (atQ (dstQ k a w (0, 0, false) m))) (x, 0, true) = getQ (dstQ k a w (0, 0, false) (n + m)) (x, 0, false) + getQ (dstQ k a w (0, 0, false) (n + m)) (x, 0, true) := by
 obtain ⟨c0, c1⟩ := o_t6 h
 have hs : okQ (topC w) (0, 0, false) := ⟨Nat.zero_le _, rfl, by simp⟩
 have u := (o_ue (fun _ => 1) (topC w) k a (atQ (dstQ k a w (0, 0, false) m)) (atQ (dstQ k a w (0, 0, false) n)) [] (by simp [Uq])).1
 exact ((o_w3 u hokR x).trans (o_uf h n m _)).trans (o_w3 (o_qm _ _ _) (o_qw c0 c1 hs (n + m)) x).symm
theorem o_w5 {N : Nat} (hN : 1 ≤ N) : ∀ {l : Sp}, (∀ p ∈ l, RS p.2 N) → ∀ s, RS (getQ l s) N
 | [], _, s => RS.le (q := 0) (N := 1) ⟨by decide, by decide⟩ hN
 | p :: l, h, s => by
  unfold getQ
  split
  ·exact h p (by simp)
  ·exact o_w5 hN (fun q hq => h q (by simp [hq])) s
theorem o_w6 (K A B : Nat) (h : SmallR K A B) : ∃ K' A' B' w : Nat, (if K = 4 then (K' = 3 ∧ A' = 1 ∧ B' = 3) else (K' = K ∧ A' = A ∧ B' = B)) ∧ w = 1 + B' % 3 ∧ GoodS K' A' w ∧ w ≤ 3 := by
 by_cases h4 : K = 4
 ·refine ⟨3, 1, 3, 1, by simp [h4], by decide, ⟨.inr (.inr ⟨rfl, by omega, by omega⟩), by omega, by omega⟩, by omega⟩
 ·rcases h with ⟨h, -⟩ | ⟨-, h⟩
  ·exact absurd h h4
  ·refine ⟨K, A, B, 1 + B % 3, by simp [h4], rfl, ⟨h.1, by omega, by omega⟩, by omega⟩
set_option maxHeartbeats 8000000 in
theorem o_w7 (k a b : Int) (n m : Int) : Eqn Tryz.prog o_6j [.d (parD k a b), .d (.int .i64 n), .d (.int .i64 m)] [] (.d (.bool true)) [] := by
 refine Eqn.pure o_6l Plain.ok ?_
 obtain ⟨K, A, B, hsr, hsm⟩ := o_pl k a b
 obtain ⟨Y, T, F, hw, hs1⟩ := hsm 0 0 false
 obtain ⟨n', hn, hn7, -⟩ := o_om n 7 (by omega)
 replace hn : bits BinOp.and IntKind.i64 n 7 = n' := hn
 obtain ⟨m', hm, hm7, -⟩ := o_om m 7 (by omega)
 replace hm : bits BinOp.and IntKind.i64 m 7 = m' := hm
 obtain ⟨K', A', B', w, hK, hwB, hG, w3⟩ := o_w6 K A B hsr
 obtain ⟨G, M, hM, Gp, Mp, hgR, hsz, hgD⟩ := o_vu hG w3 n' m' (by omega) (by omega)
 have hok : okQ (topC w) (0, 0, false) := ⟨Nat.zero_le _, rfl, by simp⟩
 have hwl : WellR K' A' w 0 0 false := wellQ hG hok
 obtain ⟨c0, c1⟩ := o_t6 hG
 have of1 := o_uw hG w3 (0, 0, false) hwl hok n' (by omega)
 have of2 := o_uw hG w3 (0, 0, false) hwl hok m' (by omega)
 have of3 := o_uw hG w3 (0, 0, false) hwl hok (n' + m') (by omega)
 have hme := o_vs hM
 rw [o_vt] at hme
 have okA := o_qs (o_qw (c := chP K' A') c0 c1 hok n')
 have okB := o_qs (o_qw (c := chP K' A') c0 c1 hok m')
 have hokR : oklQ (topC w) (mrgdQ (topC w) K' A' (atQ (dstQ K' A' w (0, 0, false) n')) (atQ (dstQ K' A' w (0, 0, false) m'))) := by
  have := o_vd hG okA okB _ (Nat.le_refl _)
  rwa [o_vb] at this
 have hsame := o_w4 hG n' m' hokR
 have uR : Uq (mrgdQ (topC w) K' A' (atQ (dstQ K' A' w (0, 0, false) n')) (atQ (dstQ K' A' w (0, 0, false) m'))) := (o_ue (fun _ => 1) (topC w) K' A' (atQ (dstQ K' A' w (0, 0, false) m')) (atQ (dstQ K' A' w (0, 0, false) n')) [] (by simp [Uq])).1
 have uD := o_qm (stepQ (topC w) (chP K' A')) (0, 0, false) (n' + m')
 have hone := o_uf hG n' m' (fun _ => 1)
 have hone2 : exQ (fun _ => 1) (mrgdQ (topC w) K' A' (atQ (dstQ K' A' w (0, 0, false) n')) (atQ (dstQ K' A' w (0, 0, false) m'))) = 1 := by
  rw [show (fun _ => (1 : Rat)) = plQ (fun _ => 1) from rfl]
  exact hone.trans (o_qx _ _)
 obtain ⟨R, hR⟩ : ∃ R, R = mrgdQ (topC w) K' A' (atQ (dstQ K' A' w (0, 0, false) n')) (atQ (dstQ K' A' w (0, 0, false) m')) := ⟨_, rfl⟩
 rw [← hR] at hgR hme hokR hsame uR hone2
 have lR : (atQ R).length ≤ 1000 := Nat.le_trans (o_sn _) (Nat.le_trans (o_uy uR hokR) (by
  have := Nat.pow_le_pow_right (n := 2) (by omega) hG.2.2; unfold topC; omega))
 have sz2 : ∀ C, C ≤ 100000 * M → size (C * G) ≤ 100000 := fun C hC => Nat.le_trans (o_ij (Nat.mul_le_mul_right G hC)) (Nat.le_trans hsz (by omega))
 have hgAt : ∀ p ∈ atQ R, Gr G (729 * M) p.2 := fun p hp => hgR p (List.mem_filter.1 ((o_qa _).mem_iff.1 hp)).1
 have hord := o_us (.inr ⟨by have := hG.1; omega, o_p0 hG⟩) (atQ R) (by omega) (fun p hp => wellQ hG (o_qs hokR p hp).1) (o_vh hokR) (fun i hi => o_ve uR i hi) (fun p hp => (hgAt p hp).rs Gp (Nat.mul_pos (by decide) Mp) (sz2 _ (Nat.mul_le_mul_right M (by omega)))) (fun i hi => ((o_vg hgAt i hi).le (C := 1 + 100000 * M - 1) (by
  have h1 : i * (729 * M) = (i * 729) * M := (Nat.mul_assoc _ _ _).symm
  have h2 : (i * 729) * M ≤ 100000 * M := Nat.mul_le_mul_right M (by
   have := o_uy uR hokR
   have := o_sn R
   have h16 : 2 ^ w ≤ 8 := Nat.pow_le_pow_right (n := 2) (by omega) w3
   unfold topC at *
   omega)
  omega)).rs Gp (by omega) (sz2 _ (by omega))) (by rw [o_vf, o_qb]; exact hone2)
 have gsum : ∀ x f, Gr G (729 * M) (getQ R (x, 0, f)) := fun x f => o_sh hgR _
 have rsR : ∀ x f, RS (getQ R (x, 0, f)) 100000 := fun x f => (gsum x f).rs Gp (Nat.mul_pos (by decide) Mp) (sz2 _ (Nat.mul_le_mul_right M (by omega)))
 have rsRs : ∀ x, RS (getQ R (x, 0, false) + getQ R (x, 0, true)) 100000 := fun x => ((gsum x false).add (gsum x true)).rs Gp (by have := Nat.mul_pos (show 0 < 729 by decide) Mp; omega) (sz2 _ (by omega))
 obtain ⟨Dd, hDd⟩ : ∃ D, D = dstQ K' A' w (0, 0, false) (n' + m') := ⟨_, rfl⟩
 rw [← hDd] at of3 hsame
 have uD' : Uq Dd := by rw [hDd]; exact uD
 have rsD : ∀ x f, RS (getQ Dd (x, 0, f)) 100000 := fun x f => by
  rw [hDd]
  exact o_w5 (by omega) (fun p hp => by
   obtain ⟨E, C, h1, h2, h3, h4⟩ := hgD (n' + m') (by omega) p hp
   exact h3.rs h1 h2 (Nat.le_trans (o_ij (Nat.mul_le_mul_right E (by omega))) (Nat.le_trans h4 (by omega)))) _
 have lD : (atQ Dd).length ≤ 1000 := by
  rw [hDd]
  refine Nat.le_trans (o_sn _) (Nat.le_trans (o_ut (o_qm _ _ _) (o_t0 (c := chP K' A') hok _)) ?_)
  have := Nat.pow_le_pow_right (n := 2) (by omega) hG.2.2; unfold topC; omega
 have ga1 := fun s => o_qh (l := R) (h := uR) s
 have ga2 := fun s => o_qh (l := Dd) (h := uD') s
 have fi1 := fun y1 y3 => o_vx (atQ R) (by omega) y1 0 y3
 have fi2 := fun y1 y3 => o_vx (atQ Dd) (by omega) y1 0 y3
 simp only [ga1, ga2] at fi1 fi2
 have hwn := o_pi K' A' w
 have e0 : ((0 : Nat) : Int) = 0 := rfl
 have h8 : 2 ^ w ≤ 8 := Nat.pow_le_pow_right (n := 2) (by omega) w3
 have e2 : (2 : Int) ^ w = (2 ^ w : Nat) := by rw [Int.natCast_pow]; rfl
 clear hM hgR hgD hgAt gsum sz2 hsz hokR okA okB uR uD uD' hone hone2 ga1 ga2 lR lD c0 c1 hwl hok hDd hR hG hsr hw hsm
 generalize atQ (dstQ K' A' w (0, 0, false) n') = AA at *
 generalize atQ (dstQ K' A' w (0, 0, false) m') = BB at *
 generalize 2 ^ w = W at *
 have ewW : IntKind.i64.wrap (W : Int) = W := w64 (by omega) (by omega)
 have ewW2 : IntKind.i64.wrap (1 * (W : Int)) = W := by rw [w64 (by omega) (by omega)]; omega
 have ewnm : IntKind.i64.wrap ((n' : Int) + m') = ((n' + m' : Nat) : Int) := by rw [w64 (by omega) (by omega)]; omega
 generalize n' + m' = nm at *
 have ew1 : IntKind.i64.wrap (1 + ((B' % 3 : Nat) : Int)) = (w : Int) := by rw [w64 (by omega) (by omega)]; omega
 have ew2 : (B' : Int).tmod 3 = ((B' % 3 : Nat) : Int) := rfl
 generalize hB3 : B' % 3 = B3 at *
 have g0 : ¬ (w : Int) < 0 := by omega
 simp only [o_6k, parD, tsD, stD, e0] at hs1 of1 of2 of3 hme hord hwn fi1 fi2 ⊢
 by_cases hk4 : K = 4
 ·have hk4' : (K : Int) = 4 := by omega
  rw [if_pos hk4] at hK
  obtain ⟨rfl, rfl, rfl⟩ := hK
  have hw1 : w = 1 := by omega
  subst hw1
  have e3 : ((3 : Nat) : Int) = 3 := rfl
  have e1 : ((1 : Nat) : Int) = 1 := rfl
  simp only [e3, e1] at hwn of1 of2 of3 hme hord ewW ewW2
  refine A01 o_vz ?_; try with_reducible exact tt
  refine CallS.pu (hs1) (R1 (fs hk4 hk4') ?_); try with_reducible exact tt
  refine A10 (fs hk4 (fs hk4' (fs hn hm))) ?_; try with_reducible exact tt
  refine CallS.pu (hwn) (R1 (fs hn hm) ?_); try with_reducible exact tt
  refine A10 (fs hn hm) ?_; try with_reducible exact tt
  refine CallS.pu (of1) (R1 hm ?_); try with_reducible exact tt
  refine CallS.pu (of2) (R1 ewnm ?_); try with_reducible exact tt
  refine CallS.pu (hme) (R1 ewnm ?_); try with_reducible exact tt
  refine CallS.pu (of3) (R1 ewnm ?_); try with_reducible exact tt
  refine CallS.pu (hord) (R0 ?_); try with_reducible exact tt
  refine A10 (fs g0 (fs e2 (fs ewW ewW2))) ?_; try with_reducible exact tt
  refine AW.loopG (α := Nat) (fun i => setS (List.replicate 123 .junk) [(12, .d (.sl (atQ R).length (spD rcD (atQ R)))), (14, .d (.sl (atQ Dd).length (spD rcD (atQ Dd)))), (96, .d (.int .i64 W)), (97, .d (.int .i64 (i : Nat)))]) (fun i => []) (fun i => i ≤ W) (fun i => W - i) 0 ?_ (Nat.zero_le _) ?_ ?_ ?_
  ·intro i hi; simp
  ·simp
  ·simp
  rintro i hi
  simp
  by_cases hi2 : i < W
  ·have hi3 : (i : Int) < W := by omega
   have f1 := fi1 i false
   have f2 := fi1 i true
   have f3 := fi2 i false
   have f4 := fi2 i true
   have p1 := o_mf _ _ (rsR i false) (rsR i true)
   have p2 := o_mf _ _ (rsD i false) (rsD i true)
   have hsi := hsame i
   have hcm := o_mh _ _ (rsRs i) (rsRs i)
   rw [o_w1] at hcm
   rw [← hsi] at p2
   have ewi : IntKind.i64.wrap ((i : Int) + 1) = ((i + 1 : Nat) : Int) := by rw [w64 (by omega) (by omega)]; omega
   have gen : ∀ q, ∃ u v z, rcD q = [u, v, z] := fun q => ⟨_, _, _, rfl⟩
   simp only [o_r0] at f1 f2 f3 f4 p1 p2 hcm
   obtain ⟨x1, x2, x3, hx⟩ := gen (getQ R (i, 0, false))
   obtain ⟨y1, y2, y3, hy⟩ := gen (getQ R (i, 0, true))
   obtain ⟨z1, z2, z3, hz⟩ := gen (getQ Dd (i, 0, false))
   obtain ⟨u1, u2, u3, hu⟩ := gen (getQ Dd (i, 0, true))
   obtain ⟨v1, v2, v3, hv⟩ := gen (getQ R (i, 0, false) + getQ R (i, 0, true))
   rw [hx] at f1 p1
   rw [hy] at f2 p1
   rw [hz] at f3 p2
   rw [hu] at f4 p2
   rw [hv] at p1 p2 hcm
   refine A10 (fs hi2 hi3) ?_; try with_reducible exact tt
   refine CallS.pu (f1) (R0 ?_); try with_reducible exact tt
   refine CallS.pu (f2) (R0 ?_); try with_reducible exact tt
   refine CallS.pu (p1) (R0 ?_); try with_reducible exact tt
   refine CallS.pu (f3) (R0 ?_); try with_reducible exact tt
   refine CallS.pu (f4) (R0 ?_); try with_reducible exact tt
   refine CallS.pu (p2) (R0 ?_); try with_reducible exact tt
   refine A00 ?_; try with_reducible exact tt
   refine CallS.pu (hcm) (R0 ?_); try with_reducible exact tt
   refine A10 ewi ?_; try with_reducible exact tt
   refine ⟨i + 1, 0, 0, by omega, by omega, by omega, ?_, ?_⟩
   ·simp [swT, swH, sw, Ob.sw, V.ren, V.rens]
   ·simp [swT, swH, sw, Ob.sw, V.ren, V.rens]
  ·have h2 : i = W := by omega
   subst h2
   refine A00 ?_; try with_reducible exact tt
 ·have hk4' : ¬ (K : Int) = 4 := by omega
  rw [if_neg hk4] at hK
  obtain ⟨rfl, rfl, rfl⟩ := hK
  refine A01 o_vz ?_; try with_reducible exact tt
  refine CallS.pu (hs1) (R1 (fs hk4 hk4') ?_); try with_reducible exact tt
  refine A10 (fs hk4 (fs hk4' (fs ew1 (fs ew2 (fs hn hm))))) ?_; try with_reducible exact tt
  refine CallS.pu (hwn) (R1 (fs hn hm) ?_); try with_reducible exact tt
  refine A10 (fs hn hm) ?_; try with_reducible exact tt
  refine CallS.pu (of1) (R1 hm ?_); try with_reducible exact tt
  refine CallS.pu (of2) (R1 ewnm ?_); try with_reducible exact tt
  refine CallS.pu (hme) (R1 ewnm ?_); try with_reducible exact tt
  refine CallS.pu (of3) (R1 ewnm ?_); try with_reducible exact tt
  refine CallS.pu (hord) (R0 ?_); try with_reducible exact tt
  refine A10 (fs g0 (fs e2 (fs ewW ewW2))) ?_; try with_reducible exact tt
  refine AW.loopG (α := Nat) (fun i => setS (List.replicate 123 .junk) [(12, .d (.sl (atQ R).length (spD rcD (atQ R)))), (14, .d (.sl (atQ Dd).length (spD rcD (atQ Dd)))), (96, .d (.int .i64 W)), (97, .d (.int .i64 (i : Nat)))]) (fun i => []) (fun i => i ≤ W) (fun i => W - i) 0 ?_ (Nat.zero_le _) ?_ ?_ ?_
  ·intro i hi; simp
  ·simp
  ·simp
  rintro i hi
  simp
  by_cases hi2 : i < W
  ·have hi3 : (i : Int) < W := by omega
   have f1 := fi1 i false
   have f2 := fi1 i true
   have f3 := fi2 i false
   have f4 := fi2 i true
   have p1 := o_mf _ _ (rsR i false) (rsR i true)
   have p2 := o_mf _ _ (rsD i false) (rsD i true)
   have hsi := hsame i
   have hcm := o_mh _ _ (rsRs i) (rsRs i)
   rw [o_w1] at hcm
   rw [← hsi] at p2
   have ewi : IntKind.i64.wrap ((i : Int) + 1) = ((i + 1 : Nat) : Int) := by rw [w64 (by omega) (by omega)]; omega
   have gen : ∀ q, ∃ u v z, rcD q = [u, v, z] := fun q => ⟨_, _, _, rfl⟩
   simp only [o_r0] at f1 f2 f3 f4 p1 p2 hcm
   obtain ⟨x1, x2, x3, hx⟩ := gen (getQ R (i, 0, false))
   obtain ⟨y1, y2, y3, hy⟩ := gen (getQ R (i, 0, true))
   obtain ⟨z1, z2, z3, hz⟩ := gen (getQ Dd (i, 0, false))
   obtain ⟨u1, u2, u3, hu⟩ := gen (getQ Dd (i, 0, true))
   obtain ⟨v1, v2, v3, hv⟩ := gen (getQ R (i, 0, false) + getQ R (i, 0, true))
   rw [hx] at f1 p1
   rw [hy] at f2 p1
   rw [hz] at f3 p2
   rw [hu] at f4 p2
   rw [hv] at p1 p2 hcm
   refine A10 (fs hi2 hi3) ?_; try with_reducible exact tt
   refine CallS.pu (f1) (R0 ?_); try with_reducible exact tt
   refine CallS.pu (f2) (R0 ?_); try with_reducible exact tt
   refine CallS.pu (p1) (R0 ?_); try with_reducible exact tt
   refine CallS.pu (f3) (R0 ?_); try with_reducible exact tt
   refine CallS.pu (f4) (R0 ?_); try with_reducible exact tt
   refine CallS.pu (p2) (R0 ?_); try with_reducible exact tt
   refine A00 ?_; try with_reducible exact tt
   refine CallS.pu (hcm) (R0 ?_); try with_reducible exact tt
   refine A10 ewi ?_; try with_reducible exact tt
   refine ⟨i + 1, 0, 0, by omega, by omega, by omega, ?_, ?_⟩
   ·simp [swT, swH, sw, Ob.sw, V.ren, V.rens]
   ·simp [swT, swH, sw, Ob.sw, V.ren, V.rens]
  ·have h2 : i = W := by omega
   subst h2
   refine A00 ?_; try with_reducible exact tt
end
end Go.Proofs.YtmpjlkclkhnpfaaGreatDoor.Am
namespace Go.Proofs.YtmpjlkclkhnpfaaGreatDoor.Am
section
open Go.RowKit

theorem pc_walk {W : World} (ht : Tabs (memW W)) {k a b n m : Int} : Calls Tryz.prog o_6j #[.agg #[.int .i64 k, .int .i64 a, .int .i64 b], .int .i64 n, .int .i64 m] W (fun e W' => e = .returned (.bool true) ∧ Same W W') :=
 o_pn o_6l (o_w7 k a b n m) (V.reps_cons.2 ⟨o_po (by simp [Value.oneCell']) (by simp [D.reps_cons, D.rep_int]), V.reps_cons.2 ⟨V.rep_int.2 rfl, V.reps_cons.2 ⟨V.rep_int.2 rfl, V.reps_nil.2 rfl⟩⟩⟩) ht
end
end Go.Proofs.YtmpjlkclkhnpfaaGreatDoor.Am
