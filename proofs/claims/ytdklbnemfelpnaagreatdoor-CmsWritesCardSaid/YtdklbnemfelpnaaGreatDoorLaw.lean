/- Parts of the proof: CmsRn, CmsRv, CmsRe, WrA, WrB, WrC, WrD, WrE, WrF, WrR, CmsLv, CmsLw, CmsLx, CmsLy, CmsT, CmsLz, Cms3, Div1, Mul2, Rat2, DivN, Nat8, Nat9, Nat10, Rat3, RatQ, Rat4, Rat5, Pow1, Pow2, Float3, Rise1, Val1, Val2, Val3, Rise2, ValM, Cms4, Cms5, Cms6, Cms7, AmLaw2, AmLaw3, CmsD, Cms8, Cms9, CmsA, AwkF, CmsC, MrgM, CmsX, RepL, CmsWL. -/
import Derived.Test.YtdklbnemfelpnaaGreatDoorPe
set_option linter.unusedVariables false
set_option linter.unusedSimpArgs false
set_option maxRecDepth 100000
namespace Go.Proofs.YtdklbnemfelpnaaGreatDoor.Am
section
open Go.RowKit
set_option maxHeartbeats 4000000 in
theorem o_tk {R C k a b : Nat} (hP0 : GoodP R C k a b) (ws : List Nat) (hs : smallB ws) (hn : ws.length ≤ 400000) (V : Nat × Int × Nat) (hV : V = varR ws 10 0 0 0) (hVe : V.2.1 = 0) (hVp : V.2.2 ≤ 8 * ws.length) (hVn : V.1 ≤ 1099511627776) (S : SR) (hS : S = readS ws C k a b V.2.2 R) (he : S.e ≠ 0) :
  Eqn Tryz.prog o_60 [.p 0 0, .d (cpD R C k a b)] [rdO ws 0] (.tup [.d .nilp, .d (.int .i64 S.e)]) [rdO ws S.p] := by
 refine Eqn.gen [0] o_62 (by simp) (by simp) (by rfl) (by decide) (by simp) (by simp [rdO]) ?_
 have hvar := o_t5 ws 0 hs hn (by omega) V hV
 have hpc := o_st hP0
 have hgood := o_ti (C := C) (k := k) (a := a) (b := b) hVp
 obtain ⟨n1, n2, n3, n4, hg⟩ := hP0
 rw [hVe] at hvar
 obtain ⟨v, ve, vp⟩ := V
 simp only at hvar hVn hVp hgood hS hVe
 have hvn : ¬ (1099511627776 : Int) < v := by omega
 have hvn' : ¬ 1099511627776 < v := by omega
 have hvc : IntKind.i64.wrap (v : Int) = (v : Int) := w64 (by omega) (by omega)
 clear hV hVe
 obtain ⟨F, hF⟩ : ∃ F : Nat → List D, F = fun i => rowsD k a b (readS ws C k a b vp i).rs := ⟨_, rfl⟩
 have hF0 : F 0 = [] := by rw [hF]; simp [rowsD, readS]
 have hFl : ∀ i, (readS ws C k a b vp i).e = 0 → (F i).length = i * 3 := by
  intro i hi
  rw [hF]
  show (rowsD k a b (readS ws C k a b vp i).rs).length = i * 3
  unfold rowsD
  rw [o_sp (n := 3) (fun x => by simp [rowD]), (hgood i).2.2 hi]
 simp only [o_61, cpD, rdO] at hvar hpc ⊢
 refine A11 (fs hvn (fs hvn' hvc)) hpc ?_; try with_reducible exact tt
 refine CallS.o1 0 (hvar) (R1 (fs hvn (fs hvn' hvc)) ?_); try with_reducible exact tt
 refine A10 (fs hvn (fs hvn' hvc)) ?_; try with_reducible exact tt
 refine AW.loopG (α := Nat) (fun i => setS (List.replicate 87 .junk) [(0, .p 0 0), (3, .p 1 0), (9, .p 2 0), (38, .d (.int .i64 R)), (39, .d (.int .i64 (i : Int)))]) (fun i => some ⟨164, [.d (BY ws), .d (.int .i64 ((readS ws C k a b vp i).p : Nat))]⟩ :: some ⟨88, [.d (.int .i64 R), .d (.int .i64 C), .d (.int .i64 k), .d (.int .i64 a), .d (.int .i64 b)]⟩ :: (if i = 0 then [some ⟨147, [.d (.int .i64 R), .d (.int .i64 C), .d (.int .i64 k), .d (.int .i64 a), .d (.int .i64 b), .d .nilsl, .d (.int .i64 v)]⟩] else [some ⟨147, [.d (.int .i64 R), .d (.int .i64 C), .d (.int .i64 k), .d (.int .i64 a), .d (.int .i64 b), .own 3 3 i, .d (.int .i64 v)]⟩, some ⟨150, (F i).map .d⟩])) (fun i => i ≤ R ∧ (readS ws C k a b vp i).e = 0) (fun i => R - i) 0 ?_ ⟨Nat.zero_le _, rfl⟩ ?_ ?_ ?_
 ·intro i hi; split <;> simp
 ·simp
 ·simp [readS]
 rintro i ⟨hi, hci⟩
 by_cases hiN : i < R
 ·have hi1 : (i : Int) < R := by omega
  obtain ⟨gp, gr, gl⟩ := hgood i
  have hst : readS ws C k a b vp (i + 1) = if (readW ws C k a b (readS ws C k a b vp i).p).e = 0 then ⟨0, (readS ws C k a b vp i).rs ++ [(readW ws C k a b (readS ws C k a b vp i).p).r], (readW ws C k a b (readS ws C k a b vp i).p).p⟩ else ⟨(readW ws C k a b (readS ws C k a b vp i).p).e, [], (readW ws C k a b (readS ws C k a b vp i).p).p⟩ := by
   rw [readS, if_pos hci]
  by_cases hW : ¬ (readW ws C k a b (readS ws C k a b vp i).p).e = 0
  ·rw [if_neg hW] at hst
   have hS2 : S = ⟨(readW ws C k a b (readS ws C k a b vp i).p).e, [], (readW ws C k a b (readS ws C k a b vp i).p).p⟩ := by
    have := o_tg (ws := ws) (C := C) (k := k) (a := a) (b := b) (p0 := vp) (i := i + 1) (by rw [hst]; exact hW) (R - (i + 1))
    rw [show i + 1 + (R - (i + 1)) = R by omega, ← hS, hst] at this
    exact this
   clear hS hgood hFl hF gr gl hst
   generalize (readS ws C k a b vp i).p = P at *
   unfold readW at hW hS2
   by_cases hq1 : 8 * ws.length - P < 61
   ·rw [if_pos hq1] at hS2
    subst hS2
    have hN1 := o_pb ws P 61 (by omega) (by omega) gp hq1
    simp only [rdO] at hN1 ⊢
    have hx : ∃ x y : Nat, x = 0 ∧ y = 0 := ⟨0, 0, rfl, rfl⟩
    obtain ⟨x, y, -, -⟩ := hx
    by_cases hi0 : i = 0
    ·subst hi0
     simp
     refine A10 (fs hiN hi1) ?_; try with_reducible exact tt
     refine AW.loopT (α := Nat) 4 (fun j => [(44, .d (.int .i64 (j : Nat)))]) (fun j => [(0, ⟨164, [.d (BY ws), .d (.int .i64 ((P + 61 * j : Nat) : Int))]⟩), (3, ⟨131, [.d (.int .u64 ((if 1 ≤ j then x else 0 : Nat) : Int)), .d (.int .u64 ((if 2 ≤ j then y else 0 : Nat) : Int))]⟩)]) (fun j => j ≤ 0) (fun j => 2 - j) 0 ?_ ?_ (Nat.zero_le _) ?_ ?_ ?_
     ·simp
     ·simp
     ·simp
     ·simp
     rintro j hj
     obtain rfl : j = 0 := by omega
     ·simp
      refine A00 ?_; try with_reducible exact tt
      refine CallS.o1 0 (hN1) (R0 ?_); try with_reducible exact tt
      refine A00 ?_; try with_reducible exact tt
    ·rw [if_neg hi0]
     simp
     refine A10 (fs hiN hi1) ?_; try with_reducible exact tt
     refine AW.loopT (α := Nat) 5 (fun j => [(44, .d (.int .i64 (j : Nat)))]) (fun j => [(0, ⟨164, [.d (BY ws), .d (.int .i64 ((P + 61 * j : Nat) : Int))]⟩), (4, ⟨131, [.d (.int .u64 ((if 1 ≤ j then x else 0 : Nat) : Int)), .d (.int .u64 ((if 2 ≤ j then y else 0 : Nat) : Int))]⟩)]) (fun j => j ≤ 0) (fun j => 2 - j) 0 ?_ ?_ (Nat.zero_le _) ?_ ?_ ?_
     ·simp
     ·simp
     ·simp
     ·simp
     rintro j hj
     obtain rfl : j = 0 := by omega
     ·simp
      refine A00 ?_; try with_reducible exact tt
      refine CallS.o1 0 (hN1) (R0 ?_); try with_reducible exact tt
      refine A00 ?_; try with_reducible exact tt
   rw [if_neg hq1] at hW hS2
   have hN1 := o_pc ws P 61 hs (by omega) (by omega) (by omega)
   by_cases hq2 : 8 * ws.length - (P + 61) < 61
   ·rw [if_pos hq2] at hS2
    subst hS2
    have hN2 := o_pb ws (P + 61) 61 (by omega) (by omega) (by omega) hq2
    simp only [rdO] at hN1 hN2 ⊢
    generalize numAt ws P 61 = x at *
    have hx : ∃ y : Nat, y = 0 := ⟨0, rfl⟩
    obtain ⟨y, -⟩ := hx
    by_cases hi0 : i = 0
    ·subst hi0
     simp
     refine A10 (fs hiN hi1) ?_; try with_reducible exact tt
     refine AW.loopT (α := Nat) 4 (fun j => [(44, .d (.int .i64 (j : Nat)))]) (fun j => [(0, ⟨164, [.d (BY ws), .d (.int .i64 ((P + 61 * j : Nat) : Int))]⟩), (3, ⟨131, [.d (.int .u64 ((if 1 ≤ j then x else 0 : Nat) : Int)), .d (.int .u64 ((if 2 ≤ j then y else 0 : Nat) : Int))]⟩)]) (fun j => j ≤ 1) (fun j => 2 - j) 0 ?_ ?_ (Nat.zero_le _) ?_ ?_ ?_
     ·simp
     ·simp
     ·simp
     ·simp
     rintro j hj
     obtain rfl | rfl : j = 0 ∨ j = 1 := by omega
     ·simp
      refine A00 ?_; try with_reducible exact tt
      refine CallS.o1 0 (hN1) (R0 ?_); try with_reducible exact tt
      refine A00 ?_; try with_reducible exact tt
      exact ⟨1, by omega, by omega, Sub1.refl _, Subs.of (by simp), Subs.of (by simp)⟩
     ·simp
      refine A00 ?_; try with_reducible exact tt
      refine CallS.o1 0 (hN2) (R0 ?_); try with_reducible exact tt
      refine A00 ?_; try with_reducible exact tt
    ·rw [if_neg hi0]
     simp
     refine A10 (fs hiN hi1) ?_; try with_reducible exact tt
     refine AW.loopT (α := Nat) 5 (fun j => [(44, .d (.int .i64 (j : Nat)))]) (fun j => [(0, ⟨164, [.d (BY ws), .d (.int .i64 ((P + 61 * j : Nat) : Int))]⟩), (4, ⟨131, [.d (.int .u64 ((if 1 ≤ j then x else 0 : Nat) : Int)), .d (.int .u64 ((if 2 ≤ j then y else 0 : Nat) : Int))]⟩)]) (fun j => j ≤ 1) (fun j => 2 - j) 0 ?_ ?_ (Nat.zero_le _) ?_ ?_ ?_
     ·simp
     ·simp
     ·simp
     ·simp
     rintro j hj
     obtain rfl | rfl : j = 0 ∨ j = 1 := by omega
     ·simp
      refine A00 ?_; try with_reducible exact tt
      refine CallS.o1 0 (hN1) (R0 ?_); try with_reducible exact tt
      refine A00 ?_; try with_reducible exact tt
      exact ⟨1, by omega, by omega, Sub1.refl _, Subs.of (by simp), Subs.of (by simp)⟩
     ·simp
      refine A00 ?_; try with_reducible exact tt
      refine CallS.o1 0 (hN2) (R0 ?_); try with_reducible exact tt
      refine A00 ?_; try with_reducible exact tt
   rw [if_neg hq2] at hW hS2
   have hN2 := o_pc ws (P + 61) 61 hs (by omega) (by omega) (by omega)
   rw [show P + 61 + 61 = P + 122 by omega] at hN2
   by_cases hxy : ¬ (numAt ws P 61 < hP ∧ numAt ws (P + 61) 61 < hP)
   ·rw [if_neg hxy] at hS2
    subst hS2
    obtain ⟨ee, hee, hck⟩ := o_tf _ _ (numAt61 ws P) (numAt61 ws (P + 61)) hxy
    simp only [rdO, hD] at hN1 hN2 hck ⊢
    generalize numAt ws P 61 = x at *
    generalize numAt ws (P + 61) 61 = y at *
    by_cases hi0 : i = 0
    ·subst hi0
     simp
     refine A10 (fs hiN hi1) ?_; try with_reducible exact tt
     refine AW.loopT (α := Nat) 4 (fun j => [(44, .d (.int .i64 (j : Nat)))]) (fun j => [(0, ⟨164, [.d (BY ws), .d (.int .i64 ((P + 61 * j : Nat) : Int))]⟩), (3, ⟨131, [.d (.int .u64 ((if 1 ≤ j then x else 0 : Nat) : Int)), .d (.int .u64 ((if 2 ≤ j then y else 0 : Nat) : Int))]⟩)]) (fun j => j ≤ 2) (fun j => 2 - j) 0 ?_ ?_ (Nat.zero_le _) ?_ ?_ ?_
     ·simp
     ·simp
     ·simp
     ·simp
     rintro j hj
     obtain rfl | rfl | rfl : j = 0 ∨ j = 1 ∨ j = 2 := by omega
     ·simp
      refine A00 ?_; try with_reducible exact tt
      refine CallS.o1 0 (hN1) (R0 ?_); try with_reducible exact tt
      refine A00 ?_; try with_reducible exact tt
      exact ⟨1, by omega, by omega, Sub1.refl _, Subs.of (by simp), Subs.of (by simp)⟩
     ·simp
      refine A00 ?_; try with_reducible exact tt
      refine CallS.o1 0 (hN2) (R0 ?_); try with_reducible exact tt
      refine A00 ?_; try with_reducible exact tt
      exact ⟨2, by omega, by omega, Sub1.refl _, Subs.of (by simp), Subs.of (by simp)⟩
     ·simp
      refine A11 hee hck ?_; try with_reducible exact tt
    ·rw [if_neg hi0]
     simp
     refine A10 (fs hiN hi1) ?_; try with_reducible exact tt
     refine AW.loopT (α := Nat) 5 (fun j => [(44, .d (.int .i64 (j : Nat)))]) (fun j => [(0, ⟨164, [.d (BY ws), .d (.int .i64 ((P + 61 * j : Nat) : Int))]⟩), (4, ⟨131, [.d (.int .u64 ((if 1 ≤ j then x else 0 : Nat) : Int)), .d (.int .u64 ((if 2 ≤ j then y else 0 : Nat) : Int))]⟩)]) (fun j => j ≤ 2) (fun j => 2 - j) 0 ?_ ?_ (Nat.zero_le _) ?_ ?_ ?_
     ·simp
     ·simp
     ·simp
     ·simp
     rintro j hj
     obtain rfl | rfl | rfl : j = 0 ∨ j = 1 ∨ j = 2 := by omega
     ·simp
      refine A00 ?_; try with_reducible exact tt
      refine CallS.o1 0 (hN1) (R0 ?_); try with_reducible exact tt
      refine A00 ?_; try with_reducible exact tt
      exact ⟨1, by omega, by omega, Sub1.refl _, Subs.of (by simp), Subs.of (by simp)⟩
     ·simp
      refine A00 ?_; try with_reducible exact tt
      refine CallS.o1 0 (hN2) (R0 ?_); try with_reducible exact tt
      refine A00 ?_; try with_reducible exact tt
      exact ⟨2, by omega, by omega, Sub1.refl _, Subs.of (by simp), Subs.of (by simp)⟩
     ·simp
      refine A11 hee hck ?_; try with_reducible exact tt
   replace hxy := Classical.not_not.1 hxy
   rw [if_pos hxy] at hW hS2
   have hck := o_sm _ _ hxy.1 hxy.2
   by_cases hA : (readA ws k a b (P + 122) C).e = 0
   ·rw [if_pos hA] at hW; exact absurd rfl hW
   rw [if_neg hA] at hS2
   have hcr := (o_te hg n3 (by omega : C ≤ 256) ws hs hn (P + 122) (by omega) _ rfl).2 hA
   subst hS2
   generalize readA ws k a b (P + 122) C = A at *
   simp only [rdO, hD, parD] at hN1 hN2 hck hcr ⊢
   generalize numAt ws P 61 = x at *
   generalize numAt ws (P + 61) 61 = y at *
   by_cases hi0 : i = 0
   ·subst hi0
    simp
    refine A10 (fs hiN hi1) ?_; try with_reducible exact tt
    refine AW.loopT (α := Nat) 4 (fun j => [(44, .d (.int .i64 (j : Nat)))]) (fun j => [(0, ⟨164, [.d (BY ws), .d (.int .i64 ((P + 61 * j : Nat) : Int))]⟩), (3, ⟨131, [.d (.int .u64 ((if 1 ≤ j then x else 0 : Nat) : Int)), .d (.int .u64 ((if 2 ≤ j then y else 0 : Nat) : Int))]⟩)]) (fun j => j ≤ 2) (fun j => 2 - j) 0 ?_ ?_ (Nat.zero_le _) ?_ ?_ ?_
    ·simp
    ·simp
    ·simp
    ·simp
    rintro j hj
    obtain rfl | rfl | rfl : j = 0 ∨ j = 1 ∨ j = 2 := by omega
    ·simp
     refine A00 ?_; try with_reducible exact tt
     refine CallS.o1 0 (hN1) (R0 ?_); try with_reducible exact tt
     refine A00 ?_; try with_reducible exact tt
     exact ⟨1, by omega, by omega, Sub1.refl _, Subs.of (by simp), Subs.of (by simp)⟩
    ·simp
     refine A00 ?_; try with_reducible exact tt
     refine CallS.o1 0 (hN2) (R0 ?_); try with_reducible exact tt
     refine A00 ?_; try with_reducible exact tt
     exact ⟨2, by omega, by omega, Sub1.refl _, Subs.of (by simp), Subs.of (by simp)⟩
    ·simp
     refine A01 hck ?_; try with_reducible exact tt
     refine CallS.o1 0 (hcr) (R1 hA ?_); try with_reducible exact tt
     refine A10 hA ?_; try with_reducible exact tt
   ·rw [if_neg hi0]
    simp
    refine A10 (fs hiN hi1) ?_; try with_reducible exact tt
    refine AW.loopT (α := Nat) 5 (fun j => [(44, .d (.int .i64 (j : Nat)))]) (fun j => [(0, ⟨164, [.d (BY ws), .d (.int .i64 ((P + 61 * j : Nat) : Int))]⟩), (4, ⟨131, [.d (.int .u64 ((if 1 ≤ j then x else 0 : Nat) : Int)), .d (.int .u64 ((if 2 ≤ j then y else 0 : Nat) : Int))]⟩)]) (fun j => j ≤ 2) (fun j => 2 - j) 0 ?_ ?_ (Nat.zero_le _) ?_ ?_ ?_
    ·simp
    ·simp
    ·simp
    ·simp
    rintro j hj
    obtain rfl | rfl | rfl : j = 0 ∨ j = 1 ∨ j = 2 := by omega
    ·simp
     refine A00 ?_; try with_reducible exact tt
     refine CallS.o1 0 (hN1) (R0 ?_); try with_reducible exact tt
     refine A00 ?_; try with_reducible exact tt
     exact ⟨1, by omega, by omega, Sub1.refl _, Subs.of (by simp), Subs.of (by simp)⟩
    ·simp
     refine A00 ?_; try with_reducible exact tt
     refine CallS.o1 0 (hN2) (R0 ?_); try with_reducible exact tt
     refine A00 ?_; try with_reducible exact tt
     exact ⟨2, by omega, by omega, Sub1.refl _, Subs.of (by simp), Subs.of (by simp)⟩
    ·simp
     refine A01 hck ?_; try with_reducible exact tt
     refine CallS.o1 0 (hcr) (R1 hA ?_); try with_reducible exact tt
     refine A10 hA ?_; try with_reducible exact tt
  replace hW := Classical.not_not.1 hW
  rw [if_pos hW] at hst
  have hsp : (readS ws C k a b vp (i + 1)).p = (readW ws C k a b (readS ws C k a b vp i).p).p := by rw [hst]
  have hcn : (readS ws C k a b vp (i + 1)).e = 0 := by rw [hst]
  have hsn : F (i + 1) = F i ++ rowD k a b (readW ws C k a b (readS ws C k a b vp i).p).r := by
   rw [hF]
   show rowsD k a b (readS ws C k a b vp (i + 1)).rs = rowsD k a b (readS ws C k a b vp i).rs ++ _
   rw [hst, rowsD, List.flatMap_append]; simp [rowsD]
  have hfl := hFl i hci
  have ew : IntKind.i64.wrap ((i : Int) + 1) = (i : Int) + 1 := w64 (by omega) (by omega)
  clear hst hgood hFl hF gr gl hci hS he
  generalize (readS ws C k a b vp i).p = P at *
  unfold readW at hW hsp hsn
  by_cases hq1 : 8 * ws.length - P < 61
  ·rw [if_pos hq1] at hW; simp at hW
  rw [if_neg hq1] at hW hsp hsn
  by_cases hq2 : 8 * ws.length - (P + 61) < 61
  ·rw [if_pos hq2] at hW; simp at hW
  rw [if_neg hq2] at hW hsp hsn
  by_cases hxy : ¬ (numAt ws P 61 < hP ∧ numAt ws (P + 61) 61 < hP)
  ·rw [if_neg hxy] at hW; simp at hW
  replace hxy := Classical.not_not.1 hxy
  rw [if_pos hxy] at hW hsp hsn
  by_cases hA : ¬ (readA ws k a b (P + 122) C).e = 0
  ·rw [if_neg hA] at hW; exact absurd hW hA
  replace hA := Classical.not_not.1 hA
  rw [if_pos hA] at hsp hsn
  have hN1 := o_pc ws P 61 hs (by omega) (by omega) (by omega)
  have hN2 := o_pc ws (P + 61) 61 hs (by omega) (by omega) (by omega)
  rw [show P + 61 + 61 = P + 122 by omega] at hN2
  have hck := o_sm _ _ hxy.1 hxy.2
  have hcr := (o_te hg n3 (by omega : C ≤ 256) ws hs hn (P + 122) (by omega) _ rfl).1 hA
  have hgA := ((o_td (ws := ws) (k := k) (a := a) (b := b) (at_ := P + 122) (by omega) C).2.2 hA)
  generalize readA ws k a b (P + 122) C = A at *
  have hL0 : u64s (wordsP (wdR k a b) (encs k a b A.l)) = ((wordsP (wdR k a b) (encs k a b A.l)).map fun x : Nat => D.int .u64 x).map V.d := by simp [u64s]
  have hWl : ((wordsP (wdR k a b) (encs k a b A.l)).map fun x : Nat => D.int .u64 x).length = nwP C (wdR k a b) := by simp [hgA]
  simp only [rowD, arrD, vecD, o_r3, hgA] at hsn
  simp only [arrO, arrV, arrB, vecO, vecB, parD, o_r3, hgA, rdO, hD, hL0] at hcr hN1 hN2 hck
  generalize ((wordsP (wdR k a b) (encs k a b A.l)).map fun x : Nat => D.int .u64 x) = WD at *
  generalize nwP C (wdR k a b) = NW at *
  generalize wdR k a b = w at *
  have htk : WD.take NW = WD := List.take_of_length_le (by omega)
  clear hxy hA hW hL0
  generalize numAt ws P 61 = x at *
  generalize numAt ws (P + 61) 61 = y at *
  by_cases hi0 : i = 0
  ·subst hi0
   simp [hF0] at hsn
   rw [Nat.zero_add] at hsp
   simp
   refine A10 (fs hiN hi1) ?_; try with_reducible exact tt
   refine AW.loopT (α := Nat) 4 (fun j => [(44, .d (.int .i64 (j : Nat)))]) (fun j => [(0, ⟨164, [.d (BY ws), .d (.int .i64 ((P + 61 * j : Nat) : Int))]⟩), (3, ⟨131, [.d (.int .u64 ((if 1 ≤ j then x else 0 : Nat) : Int)), .d (.int .u64 ((if 2 ≤ j then y else 0 : Nat) : Int))]⟩)]) (fun j => j ≤ 2) (fun j => 2 - j) 0 ?_ ?_ (Nat.zero_le _) ?_ ?_ ?_
   ·simp
   ·simp
   ·simp
   ·simp
   rintro j hj
   obtain rfl | rfl | rfl : j = 0 ∨ j = 1 ∨ j = 2 := by omega
   ·simp
    refine A00 ?_; try with_reducible exact tt
    refine CallS.o1 0 (hN1) (R0 ?_); try with_reducible exact tt
    refine A00 ?_; try with_reducible exact tt
    exact ⟨1, by omega, by omega, Sub1.refl _, Subs.of (by simp), Subs.of (by simp)⟩
   ·simp
    refine A00 ?_; try with_reducible exact tt
    refine CallS.o1 0 (hN2) (R0 ?_); try with_reducible exact tt
    refine A00 ?_; try with_reducible exact tt
    exact ⟨2, by omega, by omega, Sub1.refl _, Subs.of (by simp), Subs.of (by simp)⟩
   ·simp
    refine A01 hck ?_; try with_reducible exact tt
    refine CallS.g [0] (hcr) (R0 ?_); try with_reducible exact tt
    refine AW.freeze 6 1 ⟨129, WD.map V.d⟩ WD (by simp) rfl ?_
    simp [frzH, htk]
    refine AW.freeze 5 1 ⟨223, [.d (.sl NW WD), .d (.int .i64 C), .d (.int .i64 w)]⟩ [.sl NW WD, .int .i64 C, .int .i64 w] (by rfl) rfl ?_
    simp [frzH]
    refine AW.freeze 4 1 ⟨154, [.d (.ptr [.sl NW WD, .int .i64 C, .int .i64 w] 0), .d (.int .i64 k), .d (.int .i64 a), .d (.int .i64 b)]⟩ [.ptr [.sl NW WD, .int .i64 C, .int .i64 w] 0, .int .i64 k, .int .i64 a, .int .i64 b] (by rfl) rfl ?_
    simp [frzH]
    refine A10 (fs hfl ew) ?_; try with_reducible exact tt
    refine ⟨1, 3, 8, by simp, ⟨by omega, by rw [Nat.zero_add] at hcn; exact hcn⟩, by omega, ?_, ?_⟩
    ·simp [swT, swH, sw, Ob.sw, V.ren, V.rens]
    ·simp [swT, swH, sw, Ob.sw, V.ren, V.rens, hsn, hsp]
  ·rw [if_neg hi0]
   simp
   refine A10 (fs hiN hi1) ?_; try with_reducible exact tt
   refine AW.loopT (α := Nat) 5 (fun j => [(44, .d (.int .i64 (j : Nat)))]) (fun j => [(0, ⟨164, [.d (BY ws), .d (.int .i64 ((P + 61 * j : Nat) : Int))]⟩), (4, ⟨131, [.d (.int .u64 ((if 1 ≤ j then x else 0 : Nat) : Int)), .d (.int .u64 ((if 2 ≤ j then y else 0 : Nat) : Int))]⟩)]) (fun j => j ≤ 2) (fun j => 2 - j) 0 ?_ ?_ (Nat.zero_le _) ?_ ?_ ?_
   ·simp
   ·simp
   ·simp
   ·simp
   rintro j hj
   obtain rfl | rfl | rfl : j = 0 ∨ j = 1 ∨ j = 2 := by omega
   ·simp
    refine A00 ?_; try with_reducible exact tt
    refine CallS.o1 0 (hN1) (R0 ?_); try with_reducible exact tt
    refine A00 ?_; try with_reducible exact tt
    exact ⟨1, by omega, by omega, Sub1.refl _, Subs.of (by simp), Subs.of (by simp)⟩
   ·simp
    refine A00 ?_; try with_reducible exact tt
    refine CallS.o1 0 (hN2) (R0 ?_); try with_reducible exact tt
    refine A00 ?_; try with_reducible exact tt
    exact ⟨2, by omega, by omega, Sub1.refl _, Subs.of (by simp), Subs.of (by simp)⟩
   ·simp
    refine A01 hck ?_; try with_reducible exact tt
    refine CallS.g [0] (hcr) (R0 ?_); try with_reducible exact tt
    refine AW.freeze 7 1 ⟨129, WD.map V.d⟩ WD (by simp) rfl ?_
    simp [frzH, htk]
    refine AW.freeze 6 1 ⟨223, [.d (.sl NW WD), .d (.int .i64 C), .d (.int .i64 w)]⟩ [.sl NW WD, .int .i64 C, .int .i64 w] (by rfl) rfl ?_
    simp [frzH]
    refine AW.freeze 5 1 ⟨154, [.d (.ptr [.sl NW WD, .int .i64 C, .int .i64 w] 0), .d (.int .i64 k), .d (.int .i64 a), .d (.int .i64 b)]⟩ [.ptr [.sl NW WD, .int .i64 C, .int .i64 w] 0, .int .i64 k, .int .i64 a, .int .i64 b] (by rfl) rfl ?_
    simp [frzH]
    refine A10 (fs hfl ew) ?_; try with_reducible exact tt
    refine ⟨i + 1, 3, 9, by simp, ⟨by omega, hcn⟩, by omega, ?_, ?_⟩
    ·simp [swT, swH, sw, Ob.sw, V.ren, V.rens]
    ·simp [swT, swH, sw, Ob.sw, V.ren, V.rens, hsn, hsp]
 ·have h2 : i = R := by omega
  subst h2
  rw [hS] at he
  exact absurd hci he
end
end Go.Proofs.YtdklbnemfelpnaaGreatDoor.Am
namespace Go.Proofs.YtdklbnemfelpnaaGreatDoor.Am
section
open Go.RowKit
theorem o_tl {R C k a b : Nat} (hP0 : GoodP R C k a b) (ws : List Nat) (hs : smallB ws) (hn : ws.length ≤ 400000) (V : Nat × Int × Nat) (hV : V = varR ws 10 0 0 0) (hVe : V.2.1 ≠ 0) :
  Eqn Tryz.prog o_60 [.p 0 0, .d (cpD R C k a b)] [rdO ws 0] (.tup [.d .nilp, .d (.int .i64 V.2.1)]) [rdO ws V.2.2] := by
 refine Eqn.gen [0] o_62 (by simp) (by simp) (by rfl) (by decide) (by simp) (by simp [rdO]) ?_
 have hvar := o_t5 ws 0 hs hn (by omega) V hV
 have hpc := o_st hP0
 obtain ⟨v, ve, vp⟩ := V
 simp only at hvar hVe
 clear hV
 simp only [o_61, cpD, rdO] at hvar hpc ⊢
 refine A01 hpc ?_; try with_reducible exact tt
 refine CallS.o1 0 (hvar) (R1 hVe ?_); try with_reducible exact tt
 refine A10 hVe ?_; try with_reducible exact tt
theorem o_tm {R C k a b : Nat} (hP0 : GoodP R C k a b) (ws : List Nat) (hs : smallB ws) (hn : ws.length ≤ 400000) (V : Nat × Int × Nat) (hV : V = varR ws 10 0 0 0) (hVe : V.2.1 = 0) (hVn : 1099511627776 < V.1) :
  Eqn Tryz.prog o_60 [.p 0 0, .d (cpD R C k a b)] [rdO ws 0] (.tup [.d .nilp, .d (.int .i64 4)]) [rdO ws V.2.2] := by
 refine Eqn.gen [0] o_62 (by simp) (by simp) (by rfl) (by decide) (by simp) (by simp [rdO]) ?_
 have hvar := o_t5 ws 0 hs hn (by omega) V hV
 have hpc := o_st hP0
 rw [hVe] at hvar
 obtain ⟨v, ve, vp⟩ := V
 simp only at hvar hVn
 have hvn : (1099511627776 : Int) < v := by omega
 clear hV hVe
 simp only [o_61, cpD, rdO] at hvar hpc ⊢
 refine A01 hpc ?_; try with_reducible exact tt
 refine CallS.o1 0 (hvar) (R1 (fs hVn hvn) ?_); try with_reducible exact tt
 refine A10 (fs hVn hvn) ?_; try with_reducible exact tt
end
end Go.Proofs.YtdklbnemfelpnaaGreatDoor.Am
namespace Go.Proofs.YtdklbnemfelpnaaGreatDoor.Am
section
open Go.RowKit
def E45 (e : Int) : Prop := e = 0 ∨ e = 4 ∨ e = 5
theorem o_tn (ws : List Nat) : ∀ (f j n a : Nat), E45 (varR ws f j n a).2.1
 | 0, _, _, _ => .inr (.inl rfl)
 | f + 1, j, n, a => by
  unfold varR
  split
  ·exact .inr (.inr rfl)
  split
  ·exact .inr (.inl rfl)
  split
  ·exact .inl rfl
  ·exact o_tn ws f _ _ _
theorem o_to (ws : List Nat) (k a b p : Nat) : E45 (readR ws k a b p).2.1 := by
 unfold readR
 split
 ·exact .inr (.inr rfl)
 split
 ·exact .inl rfl
 ·exact .inr (.inl rfl)
theorem o_tp (ws : List Nat) (k a b p : Nat) : ∀ i, E45 (readA ws k a b p i).e
 | 0 => .inl rfl
 | i + 1 => by
  have h := o_to ws k a b (readA ws k a b p i).p
  rw [readA]
  split
  ·split
   ·exact .inl rfl
   ·exact h
  ·exact o_tp ws k a b p i
theorem o_tq (ws : List Nat) (C k a b p : Nat) : E45 (readW ws C k a b p).e := by
 unfold readW
 split
 ·exact .inr (.inr rfl)
 split
 ·exact .inr (.inr rfl)
 split
 ·split
  ·exact .inl rfl
  ·exact o_tp ws k a b _ C
 ·exact .inr (.inl rfl)
theorem o_tr (ws : List Nat) (C k a b p : Nat) : ∀ i, E45 (readS ws C k a b p i).e
 | 0 => .inl rfl
 | i + 1 => by
  have h := o_tq ws C k a b (readS ws C k a b p i).p
  rw [readS]
  split
  ·split
   ·exact .inl rfl
   ·exact h
  ·exact o_tr ws C k a b p i
end
end Go.Proofs.YtdklbnemfelpnaaGreatDoor.Am
namespace Go.Proofs.YtdklbnemfelpnaaGreatDoor.Am
section
open Go.RowKit
def bD (bs : List Bool) : List D := bs.map D.bool
@[simp] theorem o_ts (bs : List Bool) : (bD bs).length = bs.length := by simp [bD]
theorem o_tt (l k : List Bool) : bD l ++ bD k = bD (l ++ k) := by simp [bD]
@[simp] theorem o_tu (n : Nat) (bs : List Bool) : V.lowl n ((bD bs).map V.d) = true := o_4q n _
@[simp] theorem o_tv (θ : Nat → Nat) (bs : List Bool) : V.rens θ ((bD bs).map V.d) = (bD bs).map V.d := o_4p θ _
theorem o_tw (bs : List Bool) : BL bs = .sl bs.length (bD bs) := rfl
def shrN (n i : Nat) : Nat := n / 2 ^ i
def numL (l : List Bool) (at_ i : Nat) : Nat := numB ((l.drop at_).take i) 0
end
end Go.Proofs.YtdklbnemfelpnaaGreatDoor.Am
namespace Go.Proofs.YtdklbnemfelpnaaGreatDoor.Am
section
open Go.RowKit
end
end Go.Proofs.YtdklbnemfelpnaaGreatDoor.Am
namespace Go.Proofs.YtdklbnemfelpnaaGreatDoor.Am
section
open Go.RowKit
@[simp] theorem o_tx (l : List Bool) : (bD l).take l.length = bD l := List.take_of_length_le (by simp)
end
end Go.Proofs.YtdklbnemfelpnaaGreatDoor.Am
namespace Go.Proofs.YtdklbnemfelpnaaGreatDoor.Am
section
open Go.RowKit
def rowOf (n s q : Nat) : V := if q = 0 then .d .nilsl else .own n s q
def heapB (bs : List Bool) : List (Option Ob) := if bs.length = 0 then [] else [some ⟨4, (bD bs).map V.d⟩]
def btS (n : Nat) : List Nat → List Bool := fun ws => (bitsOf ws).take n
abbrev slB (ws : List Nat) (bs : List Bool) (i : Nat) (j : V) : List V := [.d (.sl ws.length (ws.map fun x : Nat => .int .u8 x)), .junk, .d .nilsl, rowOf 0 1 bs.length, .d (.int .i64 (i : Nat)), j] ++ List.replicate 23 .junk
def kI (j : Nat) : Int := 7 - j
end
end Go.Proofs.YtdklbnemfelpnaaGreatDoor.Am
namespace Go.Proofs.YtdklbnemfelpnaaGreatDoor.Am
section
open Go.RowKit
def yD (ws : List Nat) : List D := ws.map fun x : Nat => .int .u8 x
@[simp] theorem o_ty (ws : List Nat) : (yD ws).length = ws.length := by simp [yD]
@[simp] theorem o_tz (n : Nat) (ws : List Nat) : V.lowl n ((yD ws).map V.d) = true := o_4q n _
@[simp] theorem o_u0 (θ : Nat → Nat) (ws : List Nat) : V.rens θ ((yD ws).map V.d) = (yD ws).map V.d := o_4p θ _
@[simp] theorem o_u1 (l : List Nat) : (yD l).take l.length = yD l := List.take_of_length_le (by simp)
theorem o_u2 (B : List Nat) (b : Nat) : (yD B).map V.d ++ [V.d (.int .u8 b)] = (yD (B ++ [b])).map V.d := by simp [yD]
theorem o_u3 (ws : List Nat) : BY ws = .sl ws.length (yD ws) := rfl
def heapY (ws : List Nat) : List (Option Ob) := if ws.length = 0 then [] else [some ⟨5, (yD ws).map V.d⟩]
def partB (bs : List Bool) (i k : Nat) : Nat := numB ((List.range k).map fun j => bs.getD (i + j) false) 0
def byS (bs : List Bool) (i : Nat) : List Nat := (bytesOf bs).take (i / 8)
abbrev slY (bs : List Bool) (ws : List Nat) (i : Nat) : List V := [.d (.sl bs.length (bD bs)), .junk, .d .nilsl, rowOf 0 1 ws.length, .d (.int .i64 (i : Nat))] ++ List.replicate 36 .junk
end
end Go.Proofs.YtdklbnemfelpnaaGreatDoor.Am
namespace Go.Proofs.YtdklbnemfelpnaaGreatDoor.Am
section
open Go.RowKit
def encL (k a b : Nat) (l : List ST) : List Bool := l.flatMap fun s => encR k a b s.1 s.2.1 s.2.2
theorem o_u4 (k a b : Nat) (l : List ST) : (encL k a b l).length = l.length * wdR k a b := by
 induction l with
 | nil => simp [encL]
 | cons s l ih =>
  rw [show encL k a b (s :: l) = encR k a b s.1 s.2.1 s.2.2 ++ encL k a b l from rfl, List.length_append, ih, o_pv, List.length_cons, Nat.succ_mul, wdR]; omega
theorem o_u5 (k a b : Nat) (l : List ST) : packBits (wdR k a b) (encs k a b l) = encL k a b l := by
 simp only [packBits, encs, encL, List.flatMap_map]
 congr 1
 funext s
 exact o_qz k a b s.1 s.2.1 s.2.2
end
end Go.Proofs.YtdklbnemfelpnaaGreatDoor.Am
namespace Go.Proofs.YtdklbnemfelpnaaGreatDoor.Am
section
open Go.RowKit
theorem o_u6 {k a b y t : Nat} {f : Bool} (hg : GoodR k a b) (h : WellR k a b y t f) (bs : List Bool) (p : Nat) (hp : p + wdR k a b ≤ bs.length) (he : (bs.drop p).take (wdR k a b) = encR k a b y t f) : readR (bytesOf bs) k a b p = ((y, t, f), 0, p + wdR k a b) := by
 have hl := o_pv k a b y t f
 have hf := o_pr hg h
 have hw : wdR k a b = kwR k a b + twR k b + 1 := rfl
 have sub : ∀ o n, o + n ≤ wdR k a b → ((bitsOf (bytesOf bs)).drop (p + o)).take n = ((encR k a b y t f).drop o).take n := by
  intro o n hon
  rw [o_r1 _ _ _ (by omega), ← he, List.drop_take, List.take_take, List.drop_drop, Nat.min_eq_left (by omega)]
 have h1 : numAt (bytesOf bs) p (kwR k a b) = y := by
  unfold numAt
  have := sub 0 (kwR k a b) (by omega)
  rw [Nat.add_zero, List.drop_zero] at this
  rw [this]
  unfold encR
  rw [List.append_assoc, List.take_append_of_le_length (by simp), List.take_of_length_le (by simp), o_o4, Nat.mod_eq_of_lt hf.1]
 have h2 : numAt (bytesOf bs) (p + kwR k a b) (twR k b) = t := by
  unfold numAt
  rw [sub _ _ (by omega)]
  unfold encR
  rw [List.append_assoc, List.drop_append_of_le_length (by simp), List.drop_of_length_le (by simp), List.nil_append, List.take_append_of_le_length (by simp), List.take_of_length_le (by simp), o_o4, Nat.mod_eq_of_lt hf.2]
 have h3 : (bitsOf (bytesOf bs)).getD (p + kwR k a b + twR k b) false = f := by
  have e := sub (kwR k a b + twR k b) 1 (by omega)
  have : ((encR k a b y t f).drop (kwR k a b + twR k b)).take 1 = [f] := by
   unfold encR
   rw [List.drop_append_of_le_length (by simp), List.drop_of_length_le (by simp)]; rfl
  rw [this] at e
  rw [List.getD_eq_getElem?_getD]
  have e2 := congrArg (fun l => l[0]?) e
  simp only [List.getElem?_take, List.getElem?_drop] at e2
  simp at e2
  rw [Nat.add_assoc, e2]; rfl
 unfold readR
 rw [h1, h2, h3, if_neg (by rw [o_o7]; omega), if_pos (o_pl.2 h)]
 simp only [hw, Nat.add_assoc]
theorem o_u7 {k a b : Nat} : ∀ (l : List ST) (i : Nat), (encL k a b l).drop (i * wdR k a b) = encL k a b (l.drop i)
 | l, 0 => by simp
 | [], i + 1 => by simp [encL]
 | s :: l, i + 1 => by
  rw [List.drop_succ_cons, ← o_u7 l i, show encL k a b (s :: l) = encR k a b s.1 s.2.1 s.2.2 ++ encL k a b l from rfl, Nat.succ_mul, Nat.add_comm, ← List.drop_drop, List.drop_left' (by rw [o_pv]; rfl)]
theorem o_u8 {k a b : Nat} (l : List ST) (i : Nat) (h : i < l.length) : ((encL k a b l).drop (i * wdR k a b)).take (wdR k a b) = encR k a b (l.getD i (0, 0, false)).1 (l.getD i (0, 0, false)).2.1 (l.getD i (0, 0, false)).2.2 := by
 rw [o_u7, List.drop_eq_getElem_cons h, List.getD_eq_getElem?_getD, List.getElem?_eq_getElem h]
 show (encR k a b l[i].1 l[i].2.1 l[i].2.2 ++ encL k a b (l.drop (i + 1))).take _ = _
 rw [List.take_append_of_le_length (by rw [o_pv]; exact Nat.le_refl _), List.take_of_length_le (by rw [o_pv]; exact Nat.le_refl _)]
 rfl
theorem o_u9 {k a b : Nat} (hg : GoodR k a b) (l : List ST) (hw : wells k a b l) (bs : List Bool) (at_ : Nat) (hp : at_ + l.length * wdR k a b ≤ bs.length) (he : (bs.drop at_).take (l.length * wdR k a b) = encL k a b l) : ∀ i, i ≤ l.length → readA (bytesOf bs) k a b at_ i = ⟨0, l.take i, at_ + i * wdR k a b⟩
 | 0, _ => by simp [readA]
 | i + 1, hi => by
  have ih := o_u9 hg l hw bs at_ hp he i (by omega)
  have hin : i < l.length := by omega
  have hwi := o_r7 hw hin
  have hmul : i * wdR k a b + wdR k a b ≤ l.length * wdR k a b := by rw [← Nat.succ_mul]; exact Nat.mul_le_mul hi (Nat.le_refl _)
  have hr := o_u6 hg hwi bs (at_ + i * wdR k a b) (by omega) (by
   rw [← o_u8 l i hin, ← he, List.drop_take, List.take_take, List.drop_drop, Nat.min_eq_left (by omega)])
  rw [readA, ih]
  simp only [hr, if_true]
  have htk1 : l.take (i + 1) = l.take i ++ [l.getD i (0, 0, false)] := by
   rw [List.take_add_one, List.getElem?_eq_getElem hin, List.getD_eq_getElem?_getD, List.getElem?_eq_getElem hin]; rfl
  rw [htk1, Nat.succ_mul, Nat.add_assoc]
end
end Go.Proofs.YtdklbnemfelpnaaGreatDoor.Am
namespace Go.Proofs.YtdklbnemfelpnaaGreatDoor.Am
section
open Go.RowKit
theorem o_ua (pre post : List Bool) (n w : Nat) (hn : n < 2 ^ w) : numAt (bytesOf (pre ++ (bitsW n w ++ post))) pre.length w = n := by
 unfold numAt
 rw [o_r1 _ _ _ (by simp), List.drop_left, List.take_append_of_le_length (by simp), List.take_of_length_le (by simp), o_o4, Nat.mod_eq_of_lt hn]
theorem o_ub (bs pre post : List Bool) (p n w : Nat) (hb : bs = pre ++ (bitsW n w ++ post)) (hp : p = pre.length) (hn : n < 2 ^ w) : numAt (bytesOf bs) p w = n := by
 subst hb hp; exact o_ua pre post n w hn

theorem o_uc (bs : List Bool) : ∀ (f j n acc : Nat) (pre post : List Bool), bs = pre ++ (varB n ++ post) → n < 128 ^ f → 1 ≤ f → j + f ≤ 9 → (0 < j → 0 < n) → varR (bytesOf bs) f j acc pre.length = (acc + n * 2 ^ (7 * j), 0, (pre ++ varB n).length)
 | 0, _, _, _, _, _, _, _, h, _, _ => by omega
 | f + 1, j, n, acc, pre, post, hb, hn, _, hj, h0 => by
  unfold varR
  by_cases hs : n < 128
  ·have hv : varB n = bitsW n 8 := by unfold varB; rw [if_pos hs]
   rw [hv] at hb ⊢
   have hl : 8 * (bytesOf bs).length - pre.length ≥ 8 := by rw [o_o7, hb]; simp; omega
   have hx := o_ub bs pre post pre.length n 8 hb rfl (by omega)
   rw [hx, if_neg (by omega), if_neg (by omega), if_pos hs, Nat.mod_eq_of_lt hs]
   simp
  ·have hv : varB n = bitsW (grpN n) 8 ++ varB (n / 128) := by rw [varB, if_neg hs]
   rw [hv] at hb ⊢
   have hl : 8 * (bytesOf bs).length - pre.length ≥ 8 := by rw [o_o7, hb]; simp; omega
   have hg : grpN n = n % 128 + 128 := rfl
   have hx := o_ub bs pre (varB (n / 128) ++ post) pre.length (grpN n) 8 (by rw [hb]; simp) rfl (by omega)
   have hn2 : n / 128 < 128 ^ f := by
    rw [Nat.pow_succ] at hn
    exact Nat.div_lt_of_lt_mul (by rw [Nat.mul_comm]; exact hn)
   have hf : 1 ≤ f := by
    rcases Nat.eq_zero_or_pos f with rfl | h
    ·simp at hn2; omega
    ·exact h
   have ih := o_uc bs f (j + 1) (n / 128) (acc + n % 128 * 2 ^ (7 * j)) (pre ++ bitsW (grpN n) 8) post (by rw [hb]; simp) hn2 hf (by omega) (by omega)
   rw [hx, if_neg (by omega), if_neg (by omega), if_neg (by omega), show grpN n % 128 = n % 128 by omega]
   rw [show (pre ++ bitsW (grpN n) 8).length = pre.length + 8 by simp] at ih
   rw [ih, List.append_assoc]
   have he : acc + n % 128 * 2 ^ (7 * j) + n / 128 * 2 ^ (7 * (j + 1)) = acc + n * 2 ^ (7 * j) := by
    rw [show 7 * (j + 1) = 7 * j + 7 by omega, Nat.pow_add, show (2 : Nat) ^ 7 = 128 from rfl]
    have : n = 128 * (n / 128) + n % 128 := (Nat.div_add_mod n 128).symm
    generalize n / 128 = q at *
    generalize n % 128 = r at *
    subst this
    rw [Nat.add_mul, Nat.mul_comm (2 ^ (7 * j)) 128, ← Nat.mul_assoc, Nat.mul_comm q 128]
    omega
   rw [he]
end
end Go.Proofs.YtdklbnemfelpnaaGreatDoor.Am
namespace Go.Proofs.YtdklbnemfelpnaaGreatDoor.Am
section
open Go.RowKit
theorem o_ud {C k a b : Nat} (hg : GoodR k a b) (r : Rw) (hr : GoodRow C k a b r) (bs pre post : List Bool) (hb : bs = pre ++ (rowB k a b r ++ post)) : readW (bytesOf bs) C k a b pre.length = ⟨0, r, (pre ++ rowB k a b r).length⟩ := by
 obtain ⟨ha, hb2, hl, hw⟩ := hr
 have hP : hP < 2 ^ 61 := by decide
 have he := o_u5 k a b r.l
 have hel := o_u4 k a b r.l
 rw [hl] at hel
 have hR : rowB k a b r = bitsW r.a 61 ++ (bitsW r.b 61 ++ encL k a b r.l) := by rw [rowB, he]
 rw [hR] at hb ⊢
 have hl1 : 8 * (bytesOf bs).length ≥ pre.length + 122 + C * wdR k a b := by rw [o_o7, hb]; simp [hel]; omega
 have h1 := o_ub bs pre (bitsW r.b 61 ++ encL k a b r.l ++ post) pre.length r.a 61 (by rw [hb]; simp) rfl (by omega)
 have h2 := o_ub bs (pre ++ bitsW r.a 61) (encL k a b r.l ++ post) (pre.length + 61) r.b 61 (by rw [hb]; simp) (by simp) (by omega)
 have hbl : bs.length = pre.length + 122 + C * wdR k a b + post.length := by rw [hb]; simp [hel]; omega
 have h3 := o_u9 hg r.l hw bs (pre.length + 122) (by rw [hl]; omega) (by
  rw [hb, hl, ← List.append_assoc, ← hel, show pre ++ (bitsW r.a 61 ++ (bitsW r.b 61 ++ encL k a b r.l)) ++ post = (pre ++ (bitsW r.a 61 ++ bitsW r.b 61)) ++ (encL k a b r.l ++ post) by simp, show pre.length + 122 = (pre ++ (bitsW r.a 61 ++ bitsW r.b 61)).length by simp, List.drop_left, List.take_append_of_le_length (by simp), List.take_of_length_le (by simp)]) C (by omega)
 unfold readW
 rw [if_neg (by omega), if_neg (by omega), h1, h2, if_pos ⟨ha, hb2⟩, h3, if_pos rfl]
 rw [List.take_of_length_le (by omega)]
 simp [hel]
 omega
theorem o_ue (k a b : Nat) (rs qs : List Rw) : rowsB k a b (rs ++ qs) = rowsB k a b rs ++ rowsB k a b qs := by simp [rowsB]
theorem o_uf {C k a b : Nat} (hg : GoodR k a b) (rs : List Rw) (hr : ∀ r ∈ rs, GoodRow C k a b r) (bs pre post : List Bool) (hb : bs = pre ++ (rowsB k a b rs ++ post)) : ∀ i, i ≤ rs.length → readS (bytesOf bs) C k a b pre.length i = ⟨0, rs.take i, (pre ++ rowsB k a b (rs.take i)).length⟩
 | 0, _ => by simp [readS, rowsB]
 | i + 1, h => by
  have ih := o_uf hg rs hr bs pre post hb i (by omega)
  have hi : i < rs.length := h
  have hW := o_ud hg rs[i] (hr _ (List.getElem_mem hi)) bs (pre ++ rowsB k a b (rs.take i)) (rowsB k a b (rs.drop (i + 1)) ++ post) (by
   rw [hb]
   conv => lhs; rw [← List.take_append_drop i rs, List.drop_eq_getElem_cons hi, o_ue, show rs[i] :: rs.drop (i + 1) = [rs[i]] ++ rs.drop (i + 1) from rfl, o_ue]
   simp [rowsB])
  rw [readS, ih]
  simp only [if_true, hW]
  rw [o_ss _ _ hi, o_ue]
  simp [rowsB]
end
end Go.Proofs.YtdklbnemfelpnaaGreatDoor.Am
namespace Go.Proofs.YtdklbnemfelpnaaGreatDoor.Am
section
open Go.RowKit
def cutB (ws : List Nat) (p w : Nat) : List Bool := ((bitsOf ws).drop p).take w
theorem o_ug {ws : List Nat} {p w : Nat} (h : p + w ≤ 8 * ws.length) : (cutB ws p w).length = w := by
 unfold cutB; rw [List.length_take, List.length_drop, o_of]; omega
theorem o_uh {ws : List Nat} {p w : Nat} (h : p + w ≤ 8 * ws.length) : bitsW (numAt ws p w) w = cutB ws p w := by
 unfold numAt
 exact o_qx w _ (o_ug h)
theorem o_ui (ws : List Nat) (p a b : Nat) : cutB ws p (a + b) = cutB ws p a ++ cutB ws (p + a) b := by
 unfold cutB
 rw [List.take_add, List.drop_drop]
theorem o_uj (ws : List Nat) : ∀ (f j n a : Nat), j + f = 10 → a ≤ 8 * ws.length → (varR ws f j n a).2.1 = 0 → ∃ m, (varR ws f j n a).1 = n + m * 2 ^ (7 * j) ∧ a ≤ (varR ws f j n a).2.2 ∧ (varR ws f j n a).2.2 ≤ 8 * ws.length ∧ varB m = cutB ws a ((varR ws f j n a).2.2 - a) ∧ (0 < j → 0 < m)
 | 0, _, _, _, _, _, h => by simp [varR] at h
 | f + 1, j, n, a, hj, ha, h => by
  unfold varR at h ⊢
  by_cases h1 : 8 * ws.length - a < 8
  ·rw [if_pos h1] at h; simp at h
  rw [if_neg h1] at h ⊢
  have hc := o_uh (ws := ws) (p := a) (w := 8) (by omega)
  have h8 := o_t3 ws a
  generalize numAt ws a 8 = g at *
  by_cases h2 : (j = 9 ∧ 1 < g % 128) ∨ (0 < j ∧ g = 0)
  ·rw [if_pos h2] at h; simp at h
  rw [if_neg h2] at h ⊢
  by_cases h3 : g < 128
  ·rw [if_pos h3]
   refine ⟨g, by simp only; rw [Nat.mod_eq_of_lt h3], by simp only; omega, by simp only; omega, ?_, by omega⟩
   simp only
   rw [show a + 8 - a = 8 by omega, ← hc, varB, if_pos h3]
  ·rw [if_neg h3] at h ⊢
   obtain ⟨m, e1, e2, e3, e4, e5⟩ := o_uj ws f (j + 1) (n + g % 128 * 2 ^ (7 * j)) (a + 8) (by omega) (by omega) h
   generalize varR ws f (j + 1) (n + g % 128 * 2 ^ (7 * j)) (a + 8) = V at *
   have hm := e5 (by omega)
   refine ⟨g % 128 + m * 128, ?_, by omega, e3, ?_, by omega⟩
   ·rw [e1, show 7 * (j + 1) = 7 * j + 7 by omega, Nat.pow_add, show (2 : Nat) ^ 7 = 128 from rfl, Nat.add_mul, Nat.mul_comm (2 ^ (7 * j)) 128, ← Nat.mul_assoc, Nat.add_assoc]
   ·rw [varB, if_neg (by omega), show V.2.2 - a = 8 + (V.2.2 - (a + 8)) by omega, o_ui, ← e4, ← hc]
    have x1 : grpN (g % 128 + m * 128) = g := by unfold grpN; omega
    have x2 : (g % 128 + m * 128) / 128 = m := by omega
    rw [x1, x2]
end
end Go.Proofs.YtdklbnemfelpnaaGreatDoor.Am
namespace Go.Proofs.YtdklbnemfelpnaaGreatDoor.Am
section
open Go.RowKit
theorem o_uk {ws : List Nat} {p : Nat} (h : p < 8 * ws.length) : cutB ws p 1 = [(bitsOf ws).getD p false] := by
 unfold cutB
 have hl : p < (bitsOf ws).length := by rw [o_of]; exact h
 rw [List.drop_eq_getElem_cons hl, List.getD_eq_getElem?_getD, List.getElem?_eq_getElem hl]
 rfl
theorem o_ul {ws : List Nat} {k a b p : Nat} (h : (readR ws k a b p).2.1 = 0) : p + wdR k a b ≤ 8 * ws.length ∧ (readR ws k a b p).2.2 = p + wdR k a b ∧ encR k a b (readR ws k a b p).1.1 (readR ws k a b p).1.2.1 (readR ws k a b p).1.2.2 = cutB ws p (wdR k a b) := by
 have hw : wdR k a b = kwR k a b + twR k b + 1 := rfl
 unfold readR at h ⊢
 split at h
 ·simp at h
 split at h
 ·rename_i h1 h2
  rw [if_neg h1, if_pos h2]
  refine ⟨by omega, by simp only; omega, ?_⟩
  simp only
  rw [hw, o_ui, o_ui, encR, o_uh (by omega), o_uh (by omega), o_uk (by omega), Nat.add_assoc]
 ·simp at h
theorem o_um {ws : List Nat} {k a b p : Nat} : ∀ i, (readA ws k a b p i).e = 0 → (readA ws k a b p i).p = p + i * wdR k a b ∧ encL k a b (readA ws k a b p i).l = cutB ws p (i * wdR k a b)
 | 0, _ => by simp [readA, encL, cutB]
 | i + 1, h => by
  rw [readA] at h ⊢
  by_cases he : (readA ws k a b p i).e = 0
  ·rw [if_pos he] at h ⊢
   by_cases hz : (readR ws k a b (readA ws k a b p i).p).2.1 = 0
   ·rw [if_pos hz] at h ⊢
    obtain ⟨e1, e2⟩ := o_um i he
    obtain ⟨-, r1, r2⟩ := o_ul hz
    rw [e1] at r1 r2 ⊢
    simp only
    refine ⟨by rw [r1, Nat.succ_mul, Nat.add_assoc], ?_⟩
    rw [Nat.succ_mul, o_ui, ← e2, ← r2]
    simp [encL]
   ·rw [if_neg hz] at h; exact absurd h hz
  ·rw [if_neg he] at h; exact absurd h he
theorem o_un {ws : List Nat} {C k a b p : Nat} (h : (readW ws C k a b p).e = 0) : p ≤ (readW ws C k a b p).p ∧ rowB k a b (readW ws C k a b p).r = cutB ws p ((readW ws C k a b p).p - p) := by
 unfold readW at h ⊢
 split at h
 ·simp at h
 split at h
 ·simp at h
 split at h
 ·split at h
  ·rename_i h1 h2 h3 h4
   rw [if_neg h1, if_neg h2, if_pos h3, if_pos h4]
   obtain ⟨e1, e2⟩ := o_um C h4
   simp only
   refine ⟨by omega, ?_⟩
   rw [e1, show p + 122 + C * wdR k a b - p = 61 + (61 + C * wdR k a b) by omega, o_ui, o_ui, rowB, o_u5, e2]
   simp only
   rw [o_uh (by omega), o_uh (by omega)]
  ·exact absurd h (by assumption)
 ·simp at h
theorem o_uo {ws : List Nat} {C k a b p : Nat} : ∀ i, (readS ws C k a b p i).e = 0 → p ≤ (readS ws C k a b p i).p ∧ rowsB k a b (readS ws C k a b p i).rs = cutB ws p ((readS ws C k a b p i).p - p)
 | 0, _ => by simp [readS, rowsB, cutB]
 | i + 1, h => by
  rw [readS] at h ⊢
  by_cases he : (readS ws C k a b p i).e = 0
  ·rw [if_pos he] at h ⊢
   by_cases hz : (readW ws C k a b (readS ws C k a b p i).p).e = 0
   ·rw [if_pos hz] at h ⊢
    obtain ⟨e1, e2⟩ := o_uo i he
    obtain ⟨w1, w2⟩ := o_un hz
    simp only
    refine ⟨by omega, ?_⟩
    generalize readW ws C k a b (readS ws C k a b p i).p = W at *
    rw [o_ue, e2, show W.p - p = ((readS ws C k a b p i).p - p) + (W.p - (readS ws C k a b p i).p) by omega, o_ui, show p + ((readS ws C k a b p i).p - p) = (readS ws C k a b p i).p by omega, ← w2]
    simp [rowsB]
   ·rw [if_neg hz] at h; exact absurd h hz
  ·rw [if_neg he] at h; exact absurd h he
end
end Go.Proofs.YtdklbnemfelpnaaGreatDoor.Am
namespace Go.Proofs.YtdklbnemfelpnaaGreatDoor.Am
section
open Go.RowKit
def preL (bs : List Bool) (i : Nat) : List Bool := bs.take i
theorem o_up {bs : List Bool} {i : Nat} (h : i ≤ bs.length) : (preL bs i).length = i := by rw [preL, List.length_take]; omega
theorem o_uq {bs : List Bool} {i : Nat} (h : i < bs.length) : preL bs (i + 1) = preL bs i ++ [bs.getD i false] := by
 unfold preL
 rw [List.take_add_one, List.getElem?_eq_getElem h, List.getD_eq_getElem?_getD, List.getElem?_eq_getElem h]; rfl
theorem o_ur (bs : List Bool) : preL bs bs.length = bs := List.take_length
set_option maxHeartbeats 4000000 in
theorem o_us (bs : List Bool) (h0 : bs ≠ []) (hn : bs.length ≤ 400000) : Eqn Tryz.prog o_6i [.p 0 0] [wrO 1 bs, wrB bs] (.d (BL bs)) [wrO 1 bs, wrB bs] := by
 refine Eqn.gen [0, 1] o_6k (by simp) (by simp) (by rfl) (by decide) (by simp) (by simp [wrO, wrB]) ?_
 have hby := o_ou bs h0 (by omega)
 have hyl := o_o7 bs
 have hrd := o_p2 (bytesOf bs) (by omega)
 have hwl := o_ot 1 bs
 have hsm := o_r8 bs
 have hbits : ∀ i, i < bs.length → (bitsOf (bytesOf bs)).getD i false = bs.getD i false := by
  intro i hi
  have h1 := o_oi bs
  have h2 : ((bitsOf (bytesOf bs)).take bs.length)[i]? = bs[i]? := by rw [h1]
  rw [List.getElem?_take, if_pos hi] at h2
  rw [List.getD_eq_getElem?_getD, List.getD_eq_getElem?_getD, h2]
 have hrb := fun i (hi : i < bs.length) => by
  have := o_px (bytesOf bs) i hsm (by omega) (by omega)
  rw [hbits i hi] at this
  exact this
 obtain ⟨bytes, hbyt⟩ : ∃ bytes, bytes = bytesOf bs := ⟨_, rfl⟩
 have hBL : BL bs = .sl bs.length ((bs.map D.bool).take (bs.length * 1)) := by rw [List.take_of_length_le (by simp)]; rfl
 rw [hBL]
 simp only [o_6j, wrO, wrB, rdO] at hby hwl hrd hrb ⊢
 rw [← hbyt] at hby hyl hrd hrb hwl ⊢
 have hB0 : u8s bytes = (yD bytes).map V.d := by simp [u8s, yD]
 have hBt : (yD bytes).take (bytes.length * 1) = yD bytes := List.take_of_length_le (by simp [yD])
 rw [hB0] at hby hwl ⊢
 rw [← hyl] at hby hwl ⊢
 simp only [o_u3] at hrd hrb
 have hrd' : Eqn Tryz.prog o_63 [.d (.sl bytes.length ((yD bytes).take (bytes.length * 1)))] [] (.p 0 0) [⟨164, [.d (.sl bytes.length (yD bytes)), .d (.int .i64 0)]⟩] := by rw [hBt]; exact hrd
 clear hrd hbits hsm hB0 hbyt
 generalize yD bytes = LB at *
 generalize bytes.length = NB at *
 refine A00B ?_; try with_reducible exact tt
 refine CallS.g [0, 1] (hby) (R0B ?_); try with_reducible exact tt
 refine CallS.gf 2 1 ⟨5, LB.map V.d⟩ LB [] (hrd') (R0B ?_); try with_reducible exact tt
 refine CallS.g [0, 1] (hwl) (R0B ?_); try with_reducible exact tt
 refine AW.loopG (α := Nat) (fun i => [.p 0 0, .junk, .d .nilsl, if i = 0 then .d .nilsl else .own 4 1 i, .p 3 0] ++ List.replicate 6 .junk ++ [.d (.int .i64 bs.length), .d (.int .i64 (i : Nat))] ++ List.replicate 12 .junk) (fun i => [some ⟨78, [.own 1 1 NB, .d (.int .i64 bs.length)]⟩, some ⟨5, LB.map V.d⟩, none, some ⟨164, [.d (.sl NB LB), .d (.int .i64 (i : Nat))]⟩] ++ (if i = 0 then [] else [some ⟨4, ((preL bs i).map D.bool).map .d⟩])) (fun i => i ≤ bs.length) (fun i => bs.length - i) 0 ?_ (Nat.zero_le _) ?_ ?_ ?_
 ·intro i hi; split <;> simp
 ·simp
 ·simp
 rintro i hi
 by_cases hi' : i < bs.length
 ·have hi2 : (i : Int) < bs.length := by omega
  have hb := hrb i hi'
  have ew : IntKind.i64.wrap ((i : Int) + 1) = (i : Int) + 1 := w64 (by omega) (by omega)
  have hcl : ((preL bs i).map D.bool).length = i := by rw [List.length_map, o_up hi]
  have hsn : ((preL bs (i + 1)).map D.bool).map V.d = ((preL bs i).map D.bool).map V.d ++ [.d (.bool (bs.getD i false))] := by
   rw [o_uq hi']; simp
  have hlo : ∀ n, V.lowl n (((preL bs i).map D.bool).map V.d) = true := fun n => o_4q _ _
  have hre : ∀ θ, V.rens θ (((preL bs i).map D.bool).map V.d) = ((preL bs i).map D.bool).map V.d := fun θ => o_4p _ _
  have hc0 : i = 0 → (preL bs i).map D.bool = [] := fun h => by rw [h]; rfl
  replace hsn : (preL bs (i + 1)).map (V.d ∘ D.bool) = ((preL bs i).map D.bool).map V.d ++ [.d (.bool (bs.getD i false))] := by rw [← List.map_map, hsn]
  generalize (preL bs i).map D.bool = CD at *
  generalize bs.getD i false = x at *
  by_cases hi0 : i = 0
  ·subst hi0
   rw [hc0 rfl] at hsn
   simp [-Bool.exists_bool] at hb ⊢
   refine A10B (fs hi' hi2) ?_; try with_reducible exact tt
   refine CallS.o1 3 (hb) (R1B ew ?_); try with_reducible exact tt
   refine A10B ew ?_; try with_reducible exact tt
   refine ⟨1, 4, 5, by simp, by omega, by omega, ?_, ?_⟩
   ·simp [swT, swH, sw, Ob.sw, V.ren, V.rens, -Bool.exists_bool]
   ·simp [swT, swH, sw, Ob.sw, V.ren, V.rens, hsn, -Bool.exists_bool]
  ·rw [if_neg hi0, if_neg hi0]
   simp [-Bool.exists_bool]
   refine A10B (fs hi' (fs hi2 hcl)) ?_; try with_reducible exact tt
   refine CallS.o1 3 (hb) (R1B (fs ew hcl) ?_); try with_reducible exact tt
   refine A10B (fs ew hcl) ?_; try with_reducible exact tt
   refine ⟨i + 1, 4, 6, by simp, by omega, by omega, ?_, ?_⟩
   ·simp [swT, swH, sw, Ob.sw, V.ren, V.rens, -Bool.exists_bool]
   ·simp [swT, swH, sw, Ob.sw, V.ren, V.rens, hsn, hre, -Bool.exists_bool]
 ·have h3 : i = bs.length := by omega
  subst h3
  have hz : bs.length ≠ 0 := fun h => h0 (List.length_eq_zero_iff.1 h)
  rw [if_neg hz, if_neg hz, o_ur]
  have htk : (bs.map D.bool).take bs.length = bs.map D.bool := List.take_of_length_le (by simp)
  generalize bs.map D.bool = CD at *
  simp [-Bool.exists_bool]
  refine AW.freeze 4 1 ⟨4, CD.map V.d⟩ CD (by simp) rfl ?_
  simp [frzH, htk, -Bool.exists_bool]
  refine A10B htk ?_; try with_reducible exact tt
end
end Go.Proofs.YtdklbnemfelpnaaGreatDoor.Am
namespace Go.Proofs.YtdklbnemfelpnaaGreatDoor.Am
section
open Go.RowKit
theorem o_ut {ws : List Nat} : ∀ (f j n a x y : Nat), varR ws f j n a = (x, 0, y) → varR ws (f + 1) j n a = (x, 0, y)
 | 0, j, n, a, x, y, h => by simp [varR] at h
 | f + 1, j, n, a, x, y, h => by
  rw [varR] at h ⊢
  split at h
  ·simp at h
  split at h
  ·simp at h
  rename_i h1 h2
  rw [if_neg h1, if_neg h2]
  split at h
  ·rename_i h3; rw [if_pos h3]; exact h
  ·rename_i h3; rw [if_neg h3]; exact o_ut f _ _ _ _ _ h
theorem o_uu (T : Nat) (hT : T ≤ 1099511627776) (post : List Bool) : varR (bytesOf (varB T ++ post)) 10 0 0 0 = (T, 0, (varB T).length) := by
 have h := o_uc (varB T ++ post) 9 0 T 0 [] post rfl (by simp; omega) (by omega) (by omega) (by omega)
 simp only [Nat.zero_add, Nat.mul_zero, Nat.pow_zero, Nat.mul_one, List.nil_append, List.length_nil] at h
 exact o_ut 9 0 0 0 _ _ h
theorem o_uv {C k a b T : Nat} (hg : GoodR k a b) (rs : List Rw) (hr : ∀ r ∈ rs, GoodRow C k a b r) : readS (bytesOf (skB k a b T rs)) C k a b (varB T).length rs.length = ⟨0, rs, (skB k a b T rs).length⟩ := by
 have h := o_uf hg rs hr (skB k a b T rs) (varB T) [] (by simp [skB]) rs.length (Nat.le_refl _)
 rw [List.take_length] at h
 rw [h, skB]
theorem o_uw {ws : List Nat} {C k a b R : Nat} (hV : (varR ws 10 0 0 0).2.1 = 0) (hS : (readS ws C k a b (varR ws 10 0 0 0).2.2 R).e = 0) :
  (varR ws 10 0 0 0).2.2 ≤ 8 * ws.length ∧ (readS ws C k a b (varR ws 10 0 0 0).2.2 R).p ≤ 8 * ws.length ∧ skB k a b (varR ws 10 0 0 0).1 (readS ws C k a b (varR ws 10 0 0 0).2.2 R).rs = cutB ws 0 (readS ws C k a b (varR ws 10 0 0 0).2.2 R).p := by
 obtain ⟨m, e1, -, e2, e3, -⟩ := o_uj ws 10 0 0 0 rfl (Nat.zero_le _) hV
 have hg := o_ti (C := C) (k := k) (a := a) (b := b) e2 R
 obtain ⟨e4, e5⟩ := o_uo R hS
 refine ⟨e2, hg.1, ?_⟩
 simp only [Nat.zero_add, Nat.mul_zero, Nat.pow_zero, Nat.mul_one, Nat.sub_zero] at e1 e3
 rw [skB, e1, e3, e5]
 generalize (readS ws C k a b (varR ws 10 0 0 0).2.2 R).p = p at *
 generalize (varR ws 10 0 0 0).2.2 = q at *
 rw [show p = q + (p - q) by omega, o_ui, Nat.zero_add]
 congr 2
 omega
theorem o_ux {ws : List Nat} {p i : Nat} (hp : p ≤ 8 * ws.length) (hi : i < p) : (cutB ws 0 p).getD i false = (bitsOf ws).getD i false := by
 unfold cutB
 rw [List.drop_zero, List.getD_eq_getElem?_getD, List.getElem?_take, if_pos hi, List.getD_eq_getElem?_getD]
end
end Go.Proofs.YtdklbnemfelpnaaGreatDoor.Am
namespace Go.Proofs.YtdklbnemfelpnaaGreatDoor.Am
section
open Go.RowKit
theorem o_uy (n : Nat) (L : List D) (h0 : 0 < n) (hl : L.length = n * 3) (hn : n ≤ 4000) : Eqn Tryz.prog o_ci [.d (.sl n L)] [] (.own 0 3 n) [⟨150, L.map .d⟩] := by
 refine Eqn.gen [0] o_ck (by simp) (by simp) (by rfl) (by decide) (by simp) (by simp) ?_
 have h0' : n ≠ 0 := by omega
 have hlt : L.take (n * 3) = L := List.take_of_length_le (by omega)
 have hb : (n : Int) * 24 ≤ 140737488355328 := by omega
 simp only [o_cj]
 refine A10 (fs h0' (fs hl (fs hlt hb))) ?_; try with_reducible exact tt

theorem o_uz {C k a b T : Nat} (hg : GoodR k a b) (h1 : 1 ≤ C) (h2 : C ≤ 64) (r : Rw) (hr : GoodRow C k a b r) :
  Eqn Tryz.prog o_ac [.p 0 0] [skO 1 C k a b [r] T] (.p 1 0) [skO 1 C k a b [r] T, ⟨147, [.d (.int .i64 (1 : Nat)), .d (.int .i64 C), .d (.int .i64 k), .d (.int .i64 a), .d (.int .i64 b), .own 2 3 1, .d (.int .i64 T)]⟩, ⟨150, [.d (.int .u64 r.a), .d (.int .u64 r.b), .p 3 0]⟩, arrO 4 k a b, arrV 5 k a b r.l, arrB k a b r.l] := by
 obtain ⟨A, B, l⟩ := r
 obtain ⟨-, -, hl, hw⟩ := hr
 simp only at hl
 refine Eqn.gen [0, 1, 2, 4, 5, 6] o_ae (by simp) (by simp) (by rfl) (by decide) (by simp) (by simp [skO, skD, arrO, arrV, arrB, vecO, vecB, u64s]) ?_
 have hc := o_uy 1 [.int .u64 A, .int .u64 B, .ptr (arrD k a b l) 0] (by omega) rfl (by omega)
 have hd := o_sg l hg (by omega) (by omega)
 simp only [o_ad, skO, skD, rowsD, rowD, List.flatMap_cons, List.flatMap_nil, List.append_nil, List.map_cons, List.map_nil, List.length_cons, List.length_nil, arrO, arrV, arrB, vecO, vecB] at hc hd ⊢
 generalize arrD k a b l = AD at *
 generalize wordsP (wdR k a b) (encs k a b l) = WS at *
 generalize nwP l.length (wdR k a b) = NW at *
 generalize wdR k a b = w at *
 refine G0 ?_; try with_reducible exact tt
 refine CallS.g [] (hc) (R0 ?_); try with_reducible exact tt
 refine AW.rounds 2 ?_
 refine A00 ?_; try with_reducible exact tt
 refine CallS.g [] (hd) (R0 ?_); try with_reducible exact tt
 refine A00 ?_; try with_reducible exact tt

def colOf (C A B key : Nat) : Nat := hsum A B key % C
set_option maxHeartbeats 1000000 in
theorem o_v0 {C k a b T : Nat} (hg : GoodR k a b) (h1 : 1 ≤ C) (h2 : C ≤ 64) (A B : Nat) (l : List ST) (hr : GoodRow C k a b ⟨A, B, l⟩) (cs : List Bool) (key n p : Nat) (d : Bool) (hk : key < hP) (hn : n ≤ 1048576) (hT : T + n ≤ 1099511627776) (hp : p ≤ cs.length) (hc : cs.length ≤ 4000000) (R : TR)
  (hR : R = addRM cs k a b n (l.getD (colOf C A B key) (0, 0, false)).1 (l.getD (colOf C A B key) (0, 0, false)).2.1 (l.getD (colOf C A B key) (0, 0, false)).2.2 p d) :
  Eqn Tryz.prog o_7o [.p 0 0, .p 1 0, .d (.int .u64 key), .d (.int .i64 n)] [skO 1 C k a b [⟨A, B, l⟩] T, tapeO cs p d] (.d (.int .i64 R.e))
   [if R.e = 0 then skO 1 C k a b [⟨A, B, l.set (colOf C A B key) (R.y, R.t, R.f)⟩] (T + n) else skO 1 C k a b [⟨A, B, l⟩] T, tapeO cs R.p R.d] := by
 have hcl := o_uz (T := T) hg h1 h2 ⟨A, B, l⟩ hr
 obtain ⟨hA, hB, hl, hw⟩ := hr
 simp only at hA hB hl hw
 have hcol : colOf C A B key < C := Nat.mod_lt _ (by omega)
 have hof := o_so A B key C hA hB hk h1 h2
 rw [show hsum A B key % C = colOf C A B key from rfl] at hof
 have hadd := o_rg cs l (colOf C A B key) n p d hg hw (by omega) (by omega) hn hp hc R hR
 clear hR
 generalize colOf C A B key = col at *
 obtain ⟨e, ry, rt, rf, rp, rd⟩ := R
 simp only at hadd ⊢
 refine Eqn.gen [0, 1] o_7q (by simp) (by simp) (by rfl) (by decide) (by simp) (by intro ob hob; simp at hob; rcases hob with rfl | rfl; (split <;> simp [skO, skD]); simp [tapeO]) ?_
 have g1 : ¬ (2305843009213693951 : Int) ≤ key := by unfold hP at hk; omega
 have g2 : ¬ 2305843009213693951 ≤ key := by unfold hP at hk; omega
 have g3 : ¬ (n : Int) < 0 := by omega
 have g4 : ¬ (1048576 : Int) < n := by omega
 have g5 : ¬ 1048576 < n := by omega
 have g6 : IntKind.i64.wrap ((T : Int) + n) = ((T + n : Nat) : Int) := by rw [w64 (by omega) (by omega)]; omega
 have g7 : ¬ (1099511627776 : Int) < (T : Int) + n := by omega
 have g8 : ¬ 1099511627776 < T + n := by omega
 have hdr : (arrD k a b l) = arrD k a b l := rfl
 simp only [o_7p, skO, skD, rowsD, rowD, List.flatMap_cons, List.flatMap_nil, List.append_nil, List.map_cons, List.map_nil, List.length_cons, List.length_nil, arrO, arrV, arrB, vecO, vecB, hD] at hcl hof hadd ⊢
 by_cases he : e = 0
 ·subst he
  simp only [if_true, List.length_set] at hadd ⊢
  have hAD : arrD k a b (l.set col (ry, rt, rf)) = [.ptr [.sl (nwP l.length (wdR k a b)) ((wordsP (wdR k a b) (encs k a b (l.set col (ry, rt, rf)))).map fun x : Nat => D.int .u64 x), .int .i64 l.length, .int .i64 (wdR k a b)] 0, .int .i64 k, .int .i64 a, .int .i64 b] := by simp [arrD, vecD]
  rw [hAD]
  generalize hAl : arrD k a b l = AD at *
  have hL0 : u64s (wordsP (wdR k a b) (encs k a b (l.set col (ry, rt, rf)))) = ((wordsP (wdR k a b) (encs k a b (l.set col (ry, rt, rf)))).map fun x : Nat => D.int .u64 x).map V.d := by simp [u64s]
  have hWl : ((wordsP (wdR k a b) (encs k a b (l.set col (ry, rt, rf)))).map fun x : Nat => D.int .u64 x).length = nwP l.length (wdR k a b) := by simp
  rw [hL0] at hadd
  generalize ((wordsP (wdR k a b) (encs k a b (l.set col (ry, rt, rf)))).map fun x : Nat => D.int .u64 x) = WD at *
  generalize wordsP (wdR k a b) (encs k a b l) = WS at *
  generalize nwP l.length (wdR k a b) = NW at *
  have htk : WD.take NW = WD := List.take_of_length_le (by omega)
  generalize wdR k a b = w at *
  refine A10 (fs g1 (fs g2 (fs g3 (fs g4 (fs g5 (fs g6 (fs g7 g8))))))) ?_; try with_reducible exact tt
  refine CallS.g [0] (hcl) (R0 ?_); try with_reducible exact tt
  refine AW.rounds 2 ?_
  refine A01 hof ?_; try with_reducible exact tt
  refine CallS.g [4, 5, 6, 1] (hadd) (R0 ?_); try with_reducible exact tt
  refine AW.freeze 6 1 ⟨129, WD.map V.d⟩ WD (by simp) rfl ?_
  simp [frzH, htk]
  refine AW.freeze 5 1 ⟨223, [.d (.sl NW WD), .d (.int .i64 l.length), .d (.int .i64 w)]⟩ [.sl NW WD, .int .i64 l.length, .int .i64 w] (by rfl) rfl ?_
  simp [frzH]
  refine AW.freeze 4 1 ⟨154, [.d (.ptr [.sl NW WD, .int .i64 l.length, .int .i64 w] 0), .d (.int .i64 k), .d (.int .i64 a), .d (.int .i64 b)]⟩ [.ptr [.sl NW WD, .int .i64 l.length, .int .i64 w] 0, .int .i64 k, .int .i64 a, .int .i64 b] (by rfl) rfl ?_
  simp [frzH]
  refine AW.freeze 3 3 ⟨150, [.d (.int .u64 A), .d (.int .u64 B), .d (.ptr [.ptr [.sl NW WD, .int .i64 l.length, .int .i64 w] 0, .int .i64 k, .int .i64 a, .int .i64 b] 0)]⟩ [.int .u64 A, .int .u64 B, .ptr [.ptr [.sl NW WD, .int .i64 l.length, .int .i64 w] 0, .int .i64 k, .int .i64 a, .int .i64 b] 0] (by rfl) rfl ?_
  simp [frzH]
  refine A10 g6 ?_; try with_reducible exact tt
 ·simp only [if_neg he, List.length_set] at hadd ⊢
  generalize hAl : arrD k a b l = AD at *
  generalize wordsP (wdR k a b) (encs k a b l) = WS at *
  generalize nwP l.length (wdR k a b) = NW at *
  generalize wdR k a b = w at *
  refine A10 (fs g1 (fs g2 (fs g3 (fs g4 (fs g5 (fs g6 (fs g7 g8))))))) ?_; try with_reducible exact tt
  refine CallS.g [0] (hcl) (R0 ?_); try with_reducible exact tt
  refine AW.rounds 2 ?_
  refine A01 hof ?_; try with_reducible exact tt
  refine CallS.g [4, 5, 6, 1] (hadd) (R0 ?_); try with_reducible exact tt
  refine A10 he ?_; try with_reducible exact tt
end
end Go.Proofs.YtdklbnemfelpnaaGreatDoor.Am
namespace Go.Proofs.YtdklbnemfelpnaaGreatDoor.Am
section
open Go.RowKit
def hInv (Y1 Y0 u v : Nat) (q r : Nat) : Prop := q * Y1 + r = u ∧ u * 4294967296 + v < (q + 1) * (Y1 * 4294967296 + Y0) ∧ r < 4294967296
end
end Go.Proofs.YtdklbnemfelpnaaGreatDoor.Am
namespace Go.Proofs.YtdklbnemfelpnaaGreatDoor.Am
section
open Go.RowKit
def uW (ws : List Nat) : List V := U ws
end
end Go.Proofs.YtdklbnemfelpnaaGreatDoor.Am
namespace Go.Proofs.YtdklbnemfelpnaaGreatDoor.Am
section
open Go.RowKit
def splitW (y : Nat) : List Nat → List Nat × Nat
 | [] => ([], 0)
 | x :: l => (((splitW y l).2 * 18446744073709551616 + x) / y :: (splitW y l).1, ((splitW y l).2 * 18446744073709551616 + x) % y)
def splitC (y : Nat) (ws : List Nat) (k : Nat) : List V := U (List.replicate k 0 ++ (splitW y (ws.drop k)).1)
end
end Go.Proofs.YtdklbnemfelpnaaGreatDoor.Am
namespace Go.Proofs.YtdklbnemfelpnaaGreatDoor.Am
section
def wordsN : Nat → Nat → List Nat
 | 0, _ => []
 | m + 1, x => x % 18446744073709551616 :: wordsN m (x / 18446744073709551616)
def ovr (ws : List Nat) (k : Nat) (l : List Nat) : List Nat := ws.take k ++ (l ++ ws.drop (k + l.length))
end
end Go.Proofs.YtdklbnemfelpnaaGreatDoor.Am
namespace Go.Proofs.YtdklbnemfelpnaaGreatDoor.Am
section
open Go.RowKit
def takeR (ws d : List Nat) (k g : Nat) : List Nat := wordsN (d.length + 1) (wval ((ws.drop k).take (d.length + 1)) + (if wval ((ws.drop k).take (d.length + 1)) < g * wval d then 18446744073709551616 ^ (d.length + 1) else 0) - g * wval d)
end
end Go.Proofs.YtdklbnemfelpnaaGreatDoor.Am
namespace Go.Proofs.YtdklbnemfelpnaaGreatDoor.Am
section
open Go.RowKit
end
end Go.Proofs.YtdklbnemfelpnaaGreatDoor.Am
namespace Go.Proofs.YtdklbnemfelpnaaGreatDoor.Am
section
open Go.RowKit
end
end Go.Proofs.YtdklbnemfelpnaaGreatDoor.Am
namespace Go.Proofs.YtdklbnemfelpnaaGreatDoor.Am
section
open Go.RowKit
end
end Go.Proofs.YtdklbnemfelpnaaGreatDoor.Am
namespace Go.Proofs.YtdklbnemfelpnaaGreatDoor.Am
section
theorem o_v1 (z : Int) (d : Nat) (hd : 0 < d) : (mkRat z d).num.natAbs = z.natAbs / Nat.gcd z.natAbs d ∧ (mkRat z d).den = d / Nat.gcd z.natAbs d ∧ ((mkRat z d).num < 0 ↔ z < 0) := by
 have hg : 0 < Nat.gcd z.natAbs d := Nat.gcd_pos_of_pos_right _ hd
 rw [Rat.mkRat_def, dif_neg (by omega), Rat.normalize_eq]
 have hdv : ((Nat.gcd z.natAbs d : Nat) : Int) ∣ z := Int.ofNat_dvd_left.2 (Nat.gcd_dvd_left _ _)
 refine ⟨?_, rfl, ?_⟩
 ·show (z / ((Nat.gcd z.natAbs d : Nat) : Int)).natAbs = _
  rw [Int.natAbs_ediv_of_dvd hdv, Int.natAbs_natCast]
 ·show z / ((Nat.gcd z.natAbs d : Nat) : Int) < 0 ↔ z < 0
  obtain ⟨k, hk⟩ := hdv
  have hg' : 0 < ((Nat.gcd z.natAbs d : Nat) : Int) := by omega
  generalize ((Nat.gcd z.natAbs d : Nat) : Int) = g at *
  rw [hk, Int.mul_ediv_cancel_left _ (by omega)]
  constructor
  ·intro h; exact Int.mul_neg_of_pos_of_neg hg' h
  ·intro h
   rcases Int.lt_or_le k 0 with h1 | h1
   ·exact h1
   ·have := Int.mul_nonneg (Int.le_of_lt hg') h1; omega
theorem o_v2 (x y : Rat) : x + y = mkRat (x.num * y.den + y.num * x.den) (x.den * y.den) := Rat.add_def' x y
theorem o_v3 (x y : Rat) : x * y = mkRat (x.num * y.num) (x.den * y.den) := Rat.mul_def' x y
end
end Go.Proofs.YtdklbnemfelpnaaGreatDoor.Am
namespace Go.Proofs.YtdklbnemfelpnaaGreatDoor.Am
section
open Go.RowKit
def wD (z : Int) : D := .agg [natW z.natAbs, .bool (decide (z < 0))]
def rD (q : Rat) : D := .agg [natW q.num.natAbs, .bool (decide (q.num < 0)), natW (q.den - 1)]

theorem o_v4 (a b : Nat) : size (a * b) ≤ size a + size b := by
 refine o_ia (o_iq _) ?_
 rw [o_io, Nat.pow_add]
 have ha := o_ht (o_ip a)
 have hb := o_ht (o_ip b)
 rw [o_io] at ha hb
 unfold size
 exact Nat.mul_lt_mul'' ha hb
theorem o_v5 (a b : Nat) : size (a + b) ≤ max (size a) (size b) + 1 := by
 refine o_ia (o_iq _) ?_
 rw [o_io, Nat.pow_succ]
 have ha := o_ht (o_ip a)
 have hb := o_ht (o_ip b)
 rw [o_io] at ha hb
 have h1 : 18446744073709551616 ^ (words a).length ≤ 18446744073709551616 ^ max (size a) (size b) := Nat.pow_le_pow_right (by decide) (Nat.le_max_left _ _)
 have h2 : 18446744073709551616 ^ (words b).length ≤ 18446744073709551616 ^ max (size a) (size b) := Nat.pow_le_pow_right (by decide) (Nat.le_max_right _ _)
 omega

theorem o_v6 (s : Bool) (a : Nat) : Eqn Tryz.prog o_9c [.d (.bool s), .d (.agg [natW a])] [] (.d (.agg [natW a, .bool (s && decide (a ≠ 0))])) [] := by
 refine Eqn.pure o_9e Plain.ok ?_
 have hz := o_iz a
 simp only [o_9d]
 cases s with
 | true =>
  refine G0 ?_; try with_reducible exact tt
  refine CallS.pu (hz) (R0 ?_); try with_reducible exact tt
  refine Sub1.of ?_
  simp
  cases a <;> rfl
 | false =>
  refine G0 ?_; try with_reducible exact tt
theorem o_v7 (s : Bool) (a : Nat) (z : Int) (hz : z = if s then -(a : Int) else a) : Eqn Tryz.prog o_9c [.d (.bool s), .d (.agg [natW a])] [] (.d (wD z)) [] := by
 have h := o_v6 s a
 have e : D.agg [natW a, .bool (s && decide (a ≠ 0))] = wD z := by
  subst hz
  unfold wD
  cases s with
  | true =>
   simp only [if_true, Int.natAbs_neg, Int.natAbs_natCast, Bool.true_and]
   congr 4
   rw [decide_eq_decide]; omega
  | false =>
   simp only [Bool.false_and, Int.natAbs_natCast, Bool.false_eq_true, if_false]
   congr 4
 rw [e] at h
 exact h
def cmpI (x y : Int) : Int := if x < y then -1 else if y < x then 1 else 0
end
end Go.Proofs.YtdklbnemfelpnaaGreatDoor.Am
namespace Go.Proofs.YtdklbnemfelpnaaGreatDoor.Am
section
open Go.RowKit
def RS (q : Rat) (N : Nat) : Prop := size q.num.natAbs ≤ N ∧ size q.den ≤ N
theorem RS.le {q : Rat} {N M : Nat} (h : RS q N) (hm : N ≤ M) : RS q M := ⟨Nat.le_trans h.1 hm, Nat.le_trans h.2 hm⟩
theorem RS.mk' {z : Int} {d N : Nat} (hd : 0 < d) (h1 : size z.natAbs ≤ N) (h2 : size d ≤ N) : RS (mkRat z d) N := by
 obtain ⟨p1, p2, -⟩ := o_v1 z d hd
 refine ⟨?_, ?_⟩
 ·rw [p1]; exact Nat.le_trans (o_ji (Nat.div_le_self _ _)) h1
 ·rw [p2]; exact Nat.le_trans (o_ji (Nat.div_le_self _ _)) h2
theorem RS.mul {x y : Rat} {N M : Nat} (hx : RS x N) (hy : RS y M) : RS (x * y) (N + M) := by
 rw [o_v3]
 refine RS.mk' (Nat.mul_pos x.den_pos y.den_pos) ?_ ?_
 ·rw [Int.natAbs_mul]; have := o_v4 x.num.natAbs y.num.natAbs; have := hx.1; have := hy.1; omega
 ·have := o_v4 x.den y.den; have := hx.2; have := hy.2; omega
theorem RS.add {x y : Rat} {N M : Nat} (hx : RS x N) (hy : RS y M) : RS (x + y) (N + M + 1) := by
 rw [o_v2]
 refine RS.mk' (Nat.mul_pos x.den_pos y.den_pos) ?_ ?_
 ·have h1 := o_ji (Int.natAbs_add_le (x.num * y.den) (y.num * x.den))
  have h2 := o_v5 (x.num * y.den).natAbs (y.num * x.den).natAbs
  rw [Int.natAbs_mul, Int.natAbs_mul, Int.natAbs_natCast, Int.natAbs_natCast] at *
  have h3 := o_v4 x.num.natAbs y.den
  have h4 := o_v4 y.num.natAbs x.den
  have := hx.1; have := hy.1; have := hx.2; have := hy.2
  omega
 ·have := o_v4 x.den y.den; have := hx.2; have := hy.2; omega
theorem RS.neg {x : Rat} {N : Nat} (hx : RS x N) : RS (-x) N := by
 refine ⟨?_, ?_⟩
 ·rw [Rat.neg_num, Int.natAbs_neg]; exact hx.1
 ·rw [Rat.neg_den]; exact hx.2
theorem RS.sub {x y : Rat} {N M : Nat} (hx : RS x N) (hy : RS y M) : RS (x - y) (N + M + 1) := by
 rw [Rat.sub_eq_add_neg]; exact hx.add hy.neg

def cmpQ (x y : Rat) : Int := if x < y then -1 else if y < x then 1 else 0
theorem o_v8 {I : Nat → Prop} {w : World} {v : Value} (h : D.rep I w .nilsl v) : D.rep I w (natW 0) v := by
 have := Sub1.nil (⟨fun _ => none, I, w⟩ : Mem) v (by rw [V.rep_d]; exact h)
 rw [V.rep_d] at this
 exact this
theorem Sub1.rat0 {x y : D} : Sub1 (.d (.agg [x, y, .nilsl])) (.d (.agg [x, y, natW 0])) := fun m v k => by
 rw [V.rep_d] at k ⊢
 unfold D.rep at k ⊢
 obtain ⟨vs, h1, h0, h2⟩ := k
 refine ⟨vs, h1, h0, ?_⟩
 obtain ⟨a, r, rfl, ha, h2⟩ := D.reps_cons'.1 h2
 obtain ⟨b, r, rfl, hb, h2⟩ := D.reps_cons'.1 h2
 obtain ⟨c, r, rfl, hc, h2⟩ := D.reps_cons'.1 h2
 exact D.reps_cons.2 ⟨ha, D.reps_cons.2 ⟨hb, D.reps_cons.2 ⟨o_v8 hc, h2⟩⟩⟩
theorem o_v9 (n : Nat) : Eqn Tryz.prog o_d6 [.d (.agg [natW n])] [] (.d (rD (n : Rat))) [] := by
 refine Eqn.pure o_d8 (o_42 _) ?_
 have h1 := o_v7 false n (n : Int) rfl
 have e : rD (n : Rat) = .agg [natW n, .bool false, natW 0] := by
  unfold rD
  rw [Rat.num_natCast, Rat.den_natCast, Int.natAbs_natCast]
  congr 4
 rw [e]
 have e2 : wD (n : Int) = .agg [natW n, .bool false] := by
  unfold wD
  rw [Int.natAbs_natCast]
  congr 4
 rw [e2] at h1
 simp only [o_d7]
 refine G0 ?_; try with_reducible exact tt
 refine CallS.pu (h1) (R0 ?_); try with_reducible exact tt
 exact Sub1.rat0
end
end Go.Proofs.YtdklbnemfelpnaaGreatDoor.Am
namespace Go.Proofs.YtdklbnemfelpnaaGreatDoor.Am
section
open Go.RowKit
end
end Go.Proofs.YtdklbnemfelpnaaGreatDoor.Am
namespace Go.Proofs.YtdklbnemfelpnaaGreatDoor.Am
section
open Go.RowKit
end
end Go.Proofs.YtdklbnemfelpnaaGreatDoor.Am
namespace Go.Proofs.YtdklbnemfelpnaaGreatDoor.Am
section
open Go.RowKit
end
end Go.Proofs.YtdklbnemfelpnaaGreatDoor.Am
namespace Go.Proofs.YtdklbnemfelpnaaGreatDoor.Am
section
open Go.RowKit
theorem o_va (d k : Nat) (hd : d ≤ 8) (hk : k ≤ 1023) : partV d k = ((k % 2 ^ d : Nat) : Int) := by
 have h2 : 2 ^ d ≤ 256 := Nat.pow_le_pow_right (n := 2) (by omega) hd
 have h2' : 0 < 2 ^ d := Nat.two_pow_pos d
 have hm := Nat.mod_lt k h2'
 have e0 : (2 : Int) ^ d = (2 ^ d : Nat) := by rw [Int.natCast_pow]; rfl
 have e1 : IntKind.i64.wrap (2 ^ d : Nat) = (2 ^ d : Nat) := by rw [w64 (by omega) (by omega)]
 have e2 : IntKind.i64.wrap (((2 ^ d : Nat) : Int) - 1) = ((2 ^ d - 1 : Nat) : Int) := by rw [w64 (by omega) (by omega)]; omega
 rw [partV, e0, e1, e2]
 show IntKind.i64.wrap (((BitVec.ofInt 64 (k : Int)) &&& (BitVec.ofInt 64 ((2 ^ d - 1 : Nat) : Int))).toNat : Int) = _
 rw [BitVec.toNat_and, BitVec.ofInt_natCast, BitVec.ofInt_natCast, BitVec.toNat_ofNat, BitVec.toNat_ofNat, Nat.mod_eq_of_lt (show k < 2 ^ 64 by omega), Nat.mod_eq_of_lt (show 2 ^ d - 1 < 2 ^ 64 by omega), Nat.and_two_pow_sub_one_eq_mod]
 exact w64 (by omega) (by omega)

theorem o_vb (d k : Nat) (hd : d ≤ 8) (hk : k ≤ 1023) :
  Eqn Tryz.prog o_go [.d (.int .i64 d), .d (.int .i64 k)] [] (.tup [.d (.agg [natW ((2 ^ d + k % 2 ^ d) * 2 ^ (k / 2 ^ d) - 2 ^ d)]), .d (.int .i64 0)]) [] := by
 have h2 : 2 ^ d ≤ 256 := Nat.pow_le_pow_right (n := 2) (by omega) hd
 have hm := Nat.mod_lt k (Nat.two_pow_pos d)
 exact o_mk d k (k % 2 ^ d) hd hk (o_va d k hd hk) (by omega)
end
end Go.Proofs.YtdklbnemfelpnaaGreatDoor.Am
namespace Go.Proofs.YtdklbnemfelpnaaGreatDoor.Am
section
open Go.RowKit
def valM (a k : Nat) : Rat := (a : Rat) * ((mkRat ((a + 1 : Nat) : Int) a) ^ k - ((1 : Nat) : Rat))
end
end Go.Proofs.YtdklbnemfelpnaaGreatDoor.Am
namespace Go.Proofs.YtdklbnemfelpnaaGreatDoor.Am
section
open Go.RowKit
theorem o_vc : MethOK Tryz.prog 197 "tallymark/chain.value" o_gf := fun v w => by kernel_rfl
def valF (d k : Nat) : Nat := (2 ^ d + k % 2 ^ d) * 2 ^ (k / 2 ^ d) - 2 ^ d
def valC (k a y : Nat) : Rat := if k = 1 then valM a y else if k = 2 then ((valF a y : Nat) : Rat) else (((placeY a y).value : Nat) : Rat)

theorem o_vd (d k : Nat) (hd : d ≤ 8) (hk : k ≤ 1023) : Eqn Tryz.prog o_gf [.d (.int .i64 d), .d (.int .i64 k)] [] (.tup [.d (rD ((valF d k : Nat) : Rat)), .d (.int .i64 0)]) [] := by
 refine Eqn.pure o_gh Plain.ok ?_
 have h := o_vb d k hd hk
 rw [show (2 ^ d + k % 2 ^ d) * 2 ^ (k / 2 ^ d) - 2 ^ d = valF d k from rfl] at h
 have h2 := o_v9 (valF d k)
 generalize valF d k = v at *
 simp only [o_gg, rD] at h2 ⊢
 refine G0 ?_; try with_reducible exact tt
 refine CallS.pu (h) (R0 ?_); try with_reducible exact tt
 refine CallS.pu (h2) (R0 ?_); try with_reducible exact tt
end
end Go.Proofs.YtdklbnemfelpnaaGreatDoor.Am
namespace Go.Proofs.YtdklbnemfelpnaaGreatDoor.Am
section
open Go.RowKit
def valR (k a b y t : Nat) : Rat := if k = 4 then ((y * 2 ^ t : Nat) : Rat) else valC k a y
end
end Go.Proofs.YtdklbnemfelpnaaGreatDoor.Am
namespace Go.Proofs.YtdklbnemfelpnaaGreatDoor.Am
section
open Go.RowKit
end
end Go.Proofs.YtdklbnemfelpnaaGreatDoor.Am
namespace Go.Proofs.YtdklbnemfelpnaaGreatDoor.Am
section
open Go.RowKit
end
end Go.Proofs.YtdklbnemfelpnaaGreatDoor.Am
namespace Go.Proofs.YtdklbnemfelpnaaGreatDoor.Am
section
open Go.RowKit
theorem o_ve (k a b : Nat) (rs : List Rw) : (rowsD k a b rs).length = rs.length * 3 := o_sp (fun x => by simp [rowD]) rs
theorem o_vf (k a b : Nat) (rs : List Rw) (i : Nat) (h : i < rs.length) : ((rowsD k a b rs).drop (i * 3)).take 3 = [.int .u64 rs[i].a, .int .u64 rs[i].b, .ptr (arrD k a b rs[i].l) 0] := o_sr (f := rowD k a b) (fun x => by simp [rowD]) rs i h

theorem o_vg {R C k a b T : Nat} (rs : List Rw) (h0 : 1 ≤ rs.length) (hn : rs.length ≤ 4) :
  Eqn Tryz.prog o_bu [.p 0 0] [skO R C k a b rs T] (.own 1 2 rs.length) [skO R C k a b rs T, ⟨131, (hashesD (rs.map fun r => (r.a, r.b))).map .d⟩] := by
 refine Eqn.gen [0, 1] o_bw (by simp) (by simp) (by rfl) (by decide) (by simp) (by simp [skO, skD]) ?_
 have hl := o_ve k a b rs
 obtain ⟨F, hF⟩ : ∃ F : Nat → List D, F = fun i => hashesD ((rs.take i).map fun r => (r.a, r.b)) := ⟨_, rfl⟩
 have hF0 : F 0 = [] := by rw [hF]; simp [hashesD]
 have hFn : hashesD (rs.map fun r => (r.a, r.b)) = F rs.length := by rw [hF]; simp
 have hFl : ∀ i, i ≤ rs.length → (F i).length = i * 2 := by
  intro i hi
  rw [hF]
  show (hashesD ((rs.take i).map fun r => (r.a, r.b))).length = i * 2
  unfold hashesD
  rw [o_sp (n := 2) (fun x => by simp), List.length_map, List.length_take]; omega
 have hFs : ∀ i (h : i < rs.length), F (i + 1) = F i ++ [.int .u64 rs[i].a, .int .u64 rs[i].b] := by
  intro i hi
  rw [hF]
  show hashesD ((rs.take (i + 1)).map fun r => (r.a, r.b)) = hashesD ((rs.take i).map fun r => (r.a, r.b)) ++ _
  rw [o_ss _ _ hi, List.map_append, hashesD, List.flatMap_append]; simp [hashesD]
 have hgt := o_vf k a b rs
 rw [hFn]
 clear hF hFn
 simp only [o_bv, skO, skD, List.map_cons, List.map_nil]
 generalize rowsD k a b rs = RD at *
 refine G0 ?_; try with_reducible exact tt
 refine AW.loopG (α := Nat) (fun i => setS (List.replicate 22 .junk) [(3, if i = 0 then .d .nilsl else .own 1 2 i), (9, .d (.sl rs.length RD)), (10, .d (.int .i64 rs.length)), (11, .d (.int .i64 (i : Int)))]) (fun i => some ⟨147, [.d (.int .i64 R), .d (.int .i64 C), .d (.int .i64 k), .d (.int .i64 a), .d (.int .i64 b), .d (.sl rs.length RD), .d (.int .i64 T)]⟩ :: (if i = 0 then [] else [some ⟨131, (F i).map .d⟩])) (fun i => i ≤ rs.length) (fun i => rs.length - i) 0 ?_ (Nat.zero_le _) ?_ ?_ ?_
 ·intro i hi; split <;> simp
 ·simp
 ·simp
 rintro i hi
 by_cases hiN : i < rs.length
 ·have hi1 : (i : Int) < rs.length := by omega
  have hg := hgt i hiN
  have hsn := hFs i hiN
  have hbd : i * 3 + 3 ≤ rs.length * 3 := by omega
  have ew : IntKind.i64.wrap ((i : Int) + 1) = (i : Int) + 1 := w64 (by omega) (by omega)
  generalize rs[i].a = x1 at *
  generalize rs[i].b = x2 at *
  generalize rs[i].l = x3 at *
  by_cases hi0 : i = 0
  ·subst hi0
   simp [hF0] at hg hsn
   simp
   refine A10 (fs hiN (fs hi1 (fs hg hl))) ?_; try with_reducible exact tt
   refine ⟨1, 1, 3, by simp, by omega, by omega, ?_, ?_⟩
   ·simp [swT, swH, sw, Ob.sw, V.ren, V.rens]
   ·simp [swT, swH, sw, Ob.sw, V.ren, V.rens, hsn]
  ·rw [if_neg hi0, if_neg hi0]
   have hfl := hFl i hi
   simp
   refine A10 (fs hiN (fs hi1 (fs hg (fs hl (fs hbd (fs hfl ew)))))) ?_; try with_reducible exact tt
   refine ⟨i + 1, 1, 4, by simp, by omega, by omega, ?_, ?_⟩
   ·simp [swT, swH, sw, Ob.sw, V.ren, V.rens]
   ·simp [swT, swH, sw, Ob.sw, V.ren, V.rens, hsn]
 ·have h2 : i = rs.length := by omega
  subst h2
  have hz : rs.length ≠ 0 := by omega
  rw [if_neg hz, if_neg hz]
  simp
  refine A00 ?_; try with_reducible exact tt

def valAt (C k a b key : Nat) (r : Rw) : Rat := valR k a b (r.l.getD (colOf C r.a r.b key) (0, 0, false)).1 (r.l.getD (colOf C r.a r.b key) (0, 0, false)).2.1
def leastQ (f : Nat → Rat) : Nat → Rat
 | 0 => 0
 | i + 1 => if i = 0 ∨ f i < leastQ f i then f i else leastQ f i
def valsOf (C k a b key : Nat) (rs : List Rw) (i : Nat) : Rat := match rs[i]? with
 | some r => valAt C k a b key r
 | none => 0
end
end Go.Proofs.YtdklbnemfelpnaaGreatDoor.Am
namespace Go.Proofs.YtdklbnemfelpnaaGreatDoor.Am
section
open Go.RowKit
def drD (r c k a b : Int) (ws : List Nat) : D := .agg [.int .i64 r, .int .i64 c, .int .i64 k, .int .i64 a, .int .i64 b, .sl ws.length (ws.map fun x : Nat => .int .u64 x)]

theorem o_vh (r c k a b : Int) (ws : List Nat) : ∃ R C K A B : Nat, GoodP R C K A B ∧ (R : Int) = 1 + bits BinOp.and IntKind.i64 r 3 ∧ Eqn Tryz.prog o_7u [.d (drD r c k a b ws)] [] (.d (cpD R C K A B)) [] := by
 obtain ⟨K, A, B, hsr, hsm⟩ := o_rt k a b
 obtain ⟨Y, T, F, hw, hs1⟩ := hsm 0 0 false
 have hown := o_rq K A B
 obtain ⟨r1, hr1, hr2, hr3⟩ := o_nc r 3 (by omega)
 obtain ⟨c1, hc1, hc2, -⟩ := o_nc c 255 (by omega)
 replace hr1 : bits BinOp.and IntKind.i64 r 3 = r1 := hr1
 replace hc1 : bits BinOp.and IntKind.i64 c 255 = c1 := hc1
 have e1 : IntKind.i64.wrap (1 + (c1 : Int) % 64) = ((1 + c1 % 64 : Nat) : Int) := by rw [w64 (by omega) (by omega)]; omega
 have e2 : (c1 : Int).tmod 64 = (c1 : Int) % 64 := by rw [Int.tmod_eq_emod_of_nonneg (by omega)]
 refine ⟨1 + r1, 1 + c1 % 64, K, A, B, ⟨by omega, by omega, by omega, by omega, o_rp hsr⟩, by rw [hr1]; omega, ?_⟩
 refine Eqn.pure o_7w Plain.ok ?_
 simp only [o_7v, drD, parD, cpD, tsD] at hs1 hown ⊢
 refine A12 (fs hr1 (fs hr3 (fs hc1 (fs e1 e2)))) hs1 hown ?_; try with_reducible exact tt

def hnum (ws : List Nat) (i : Nat) : Nat := if i < ws.length then ws.getD i 0 % hP else i + 1
def drawH (ws : List Nat) (R : Nat) : List (Nat × Nat) := (List.range R).map fun i => (hnum ws (2 * i), hnum ws (2 * i + 1))
theorem o_vi (ws : List Nat) {R : Nat} (h : R ≤ 4) : ∀ x ∈ drawH ws R, x.1 < hP ∧ x.2 < hP := by
 intro x hx
 obtain ⟨i, hi, rfl⟩ := List.mem_map.1 hx
 rw [List.mem_range] at hi
 have key : ∀ j, j ≤ 8 → hnum ws j < hP := by
  intro j hj
  unfold hnum
  split
  ·exact Nat.mod_lt _ (by decide)
  ·unfold hP; omega
 exact ⟨key _ (by omega), key _ (by omega)⟩

theorem o_vj (r c k a b : Int) (ws : List Nat) (hw : ws.length ≤ 9223372036854775807) (i : Nat) (hi : i ≤ 8) : Eqn Tryz.prog o_ax [.d (.int .i64 i), .p 0 0] [⟨70, [.d (.int .i64 r), .d (.int .i64 c), .d (.int .i64 k), .d (.int .i64 a), .d (.int .i64 b), .d (.sl ws.length (ws.map fun x : Nat => .int .u64 x))]⟩] (.d (.int .u64 (hnum ws i))) [⟨70, [.d (.int .i64 r), .d (.int .i64 c), .d (.int .i64 k), .d (.int .i64 a), .d (.int .i64 b), .d (.sl ws.length (ws.map fun x : Nat => .int .u64 x))]⟩] := by
 refine Eqn.gen [0] o_az (by simp) (by simp) (by rfl) (by decide) (by simp) (by simp) ?_
 simp only [o_ay]
 unfold hnum hP
 by_cases h : i < ws.length
 ·have h1 : (i : Int) < ws.length := by omega
  have e : (ws.getD i 0) = ws[i] := by simp [List.getD, h]
  have e2 : (ws[i] : Int).tmod 2305843009213693951 = (ws[i] : Int) % 2305843009213693951 := by rw [Int.tmod_eq_emod_of_nonneg (by omega)]
  rw [if_pos h, e]
  refine A10 (fs h (fs h1 e2)) ?_; try with_reducible exact tt
 ·have h1 : ¬ (i : Int) < ws.length := by omega
  have e1 : IntKind.i64.wrap ((i : Int) + 1) = ((i + 1 : Nat) : Int) := by rw [w64 (by omega) (by omega)]; omega
  have e2 : IntKind.u64.wrap ((i : Int) + 1) = (i : Int) + 1 := by rw [IntKind.wrap_u64]; omega
  rw [if_neg h]
  refine A10 (fs h (fs h1 (fs e1 e2))) ?_; try with_reducible exact tt

theorem o_vk (r c k a b : Int) (ws : List Nat) (hw : ws.length ≤ 9223372036854775807) (R : Nat) (hR : (R : Int) = 1 + bits BinOp.and IntKind.i64 r 3) (h1 : 1 ≤ R) (h4 : R ≤ 4) : Eqn Tryz.prog o_7x [.d (drD r c k a b ws)] [] (.own 0 2 R) [⟨131, (hashesD (drawH ws R)).map .d⟩] := by
 refine Eqn.gen [1] o_7z (by simp) (by simp) (by rfl) (by decide) (by simp) (by simp) ?_
 obtain ⟨r1, hr1, hr2, hr3⟩ := o_nc r 3 (by omega)
 replace hr1 : bits BinOp.and IntKind.i64 r 3 = r1 := hr1
 rw [hr1] at hR
 obtain rfl : R = 1 + r1 := by omega
 have hnn := fun i hi => o_vj r c k a b ws hw i hi
 obtain ⟨F, hF⟩ : ∃ F : Nat → List D, F = fun i => hashesD (drawH ws i) := ⟨_, rfl⟩
 have hF0 : F 0 = [] := by rw [hF]; simp [hashesD, drawH]
 have hFn : hashesD (drawH ws (1 + r1)) = F (1 + r1) := by rw [hF]
 have hFl : ∀ i, (F i).length = i * 2 := by
  intro i
  rw [hF]
  show (hashesD (drawH ws i)).length = i * 2
  unfold hashesD
  rw [o_sp (n := 2) (fun x => by simp), drawH, List.length_map, List.length_range]
 have hFs : ∀ i, F (i + 1) = F i ++ [.int .u64 (hnum ws (2 * i)), .int .u64 (hnum ws (2 * i + 1))] := by
  intro i
  rw [hF]
  show hashesD (drawH ws (i + 1)) = hashesD (drawH ws i) ++ _
  rw [drawH, List.range_succ, List.map_append, hashesD, List.flatMap_append]; simp [hashesD, drawH]
 rw [hFn]
 clear hF hFn
 simp only [o_7y, drD]
 generalize hWD : (ws.map fun x : Nat => D.int .u64 x) = WD at *
 refine A10 (fs hr1 hr3) ?_; try with_reducible exact tt
 refine AW.loopG (α := Nat) (fun i => setS (List.replicate 29 .junk) [(3, if i = 0 then .d .nilsl else .own 1 2 i), (4, .fn (.func o_ax) [.p 0 0]), (10, .d (.int .i64 (1 + r1 : Nat))), (11, .d (.int .i64 (i : Int)))]) (fun i => some ⟨70, [.d (.int .i64 r), .d (.int .i64 c), .d (.int .i64 k), .d (.int .i64 a), .d (.int .i64 b), .d (.sl ws.length WD)]⟩ :: (if i = 0 then [] else [some ⟨131, (F i).map .d⟩])) (fun i => i ≤ 1 + r1) (fun i => 1 + r1 - i) 0 ?_ (Nat.zero_le _) ?_ ?_ ?_
 ·intro i hi; split <;> simp
 ·simp
 ·simp
 rintro i hi
 by_cases hiN : i < 1 + r1
 ·have hi1 : (i : Int) < 1 + (r1 : Int) := by omega
  have hsn := hFs i
  have ew : IntKind.i64.wrap ((i : Int) + 1) = (i : Int) + 1 := w64 (by omega) (by omega)
  by_cases hi0 : i = 0
  ·subst hi0
   have q1 := hnn 0 (by omega)
   have q2 := hnn 1 (by omega)
   have hi2 : (0 : Int) < 1 + (r1 : Int) := by omega
   have m1 : IntKind.i64.wrap 1 = 1 := by decide
   have m0 : IntKind.i64.wrap 0 = 0 := by decide
   simp [hF0] at hsn
   simp
   refine A10 (fs hi2 m0) ?_; try with_reducible exact tt
   refine CallS.g [0] (q1) (R1 m1 ?_); try with_reducible exact tt
   refine CallS.g [0] (q2) (R0 ?_); try with_reducible exact tt
   refine ⟨1, 1, 2, by simp, by omega, by omega, ?_, ?_⟩
   ·simp [swT, swH, sw, Ob.sw, V.ren, V.rens]
   ·simp [swT, swH, sw, Ob.sw, V.ren, V.rens, hsn]
  ·have q1 := hnn (2 * i) (by omega)
   have q2 := hnn (2 * i + 1) (by omega)
   have m1 : IntKind.i64.wrap (2 * (i : Int)) = ((2 * i : Nat) : Int) := by rw [w64 (by omega) (by omega)]; omega
   have m2 : IntKind.i64.wrap (2 * (i : Int) + 1) = ((2 * i + 1 : Nat) : Int) := by rw [w64 (by omega) (by omega)]; omega
   have m3 : ((2 * i : Nat) : Int) = 2 * (i : Int) := by omega
   generalize hnum ws (2 * i) = x1 at *
   generalize hnum ws (2 * i + 1) = x2 at *
   rw [if_neg hi0, if_neg hi0]
   have hfl := hFl i
   simp
   refine A10 (fs hiN hi1) ?_; try with_reducible exact tt
   refine CallS.g [0] (q1) (R0 ?_); try with_reducible exact tt
   refine CallS.g [0] (q2) (R1 (fs hfl ew) ?_); try with_reducible exact tt
   refine ⟨i + 1, 1, 3, by simp, by omega, by omega, ?_, ?_⟩
   ·simp [swT, swH, sw, Ob.sw, V.ren, V.rens]
   ·simp [swT, swH, sw, Ob.sw, V.ren, V.rens, hsn]
 ·have h2 : i = 1 + r1 := by omega
  subst h2
  have hz : 1 + r1 ≠ 0 := by omega
  rw [if_neg hz, if_neg hz]
  simp
  refine A00 ?_; try with_reducible exact tt

def updD (l : List (Nat × Int)) : List D := l.flatMap fun u => [.int .u64 u.1, .int .i64 u.2]
end
end Go.Proofs.YtdklbnemfelpnaaGreatDoor.Am
namespace Go.Proofs.YtdklbnemfelpnaaGreatDoor.Am
section
open Go.RowKit
structure UR where
 e : Int
 rs : List Rw
 p : Nat
 d : Bool
def updR (cs : List Bool) (C k a b key n : Nat) (r : Rw) (p : Nat) (d : Bool) : TR := addRM cs k a b n (r.l.getD (colOf C r.a r.b key) (0, 0, false)).1 (r.l.getD (colOf C r.a r.b key) (0, 0, false)).2.1 (r.l.getD (colOf C r.a r.b key) (0, 0, false)).2.2 p d
def updC (r : Rw) (l : List ST) (Z : TR) (U : UR) : UR := if Z.e = 0 then ⟨U.e, ⟨r.a, r.b, l⟩ :: U.rs, U.p, U.d⟩ else ⟨Z.e, [], Z.p, Z.d⟩
def updM (cs : List Bool) (C k a b key n : Nat) : List Rw → Nat → Bool → UR
 | [], p, d => ⟨0, [], p, d⟩
 | r :: rs, p, d => updC r (r.l.set (colOf C r.a r.b key) ((updR cs C k a b key n r p d).y, (updR cs C k a b key n r p d).t, (updR cs C k a b key n r p d).f)) (updR cs C k a b key n r p d) (updM cs C k a b key n rs (updR cs C k a b key n r p d).p (updR cs C k a b key n r p d).d)

theorem o_vl {C k a b T : Nat} (hg : GoodR k a b) (g1 : 1 ≤ C) (g2 : C ≤ 64) (A0 B0 A1 B1 : Nat) (l0 l1 : List ST) (h0 : GoodRow C k a b ⟨A0, B0, l0⟩) (h1 : GoodRow C k a b ⟨A1, B1, l1⟩) :
  Eqn Tryz.prog o_ac [.p 0 0] [skO 2 C k a b [⟨A0, B0, l0⟩, ⟨A1, B1, l1⟩] T] (.p 1 0) [skO 2 C k a b [⟨A0, B0, l0⟩, ⟨A1, B1, l1⟩] T, ⟨147, [.d (.int .i64 (2 : Nat)), .d (.int .i64 C), .d (.int .i64 k), .d (.int .i64 a), .d (.int .i64 b), .own 2 3 2, .d (.int .i64 T)]⟩, ⟨150, [.d (.int .u64 A0), .d (.int .u64 B0), .p 3 0, .d (.int .u64 A1), .d (.int .u64 B1), .p 6 0]⟩, arrO 4 k a b, arrV 5 k a b l0, arrB k a b l0, arrO 7 k a b, arrV 8 k a b l1, arrB k a b l1] := by
 obtain ⟨-, -, e0, -⟩ := h0
 simp only at e0
 obtain ⟨-, -, e1, -⟩ := h1
 simp only at e1
 refine Eqn.gen [0, 1, 2, 4, 5, 6, 8, 9, 10] o_ae (by simp) (by simp) (by rfl) (by decide) (by simp) (by simp [skO, skD, arrO, arrV, arrB, vecO, vecB, u64s]) ?_
 have hc := o_uy 2 [.int .u64 A0, .int .u64 B0, .ptr (arrD k a b l0) 0, .int .u64 A1, .int .u64 B1, .ptr (arrD k a b l1) 0] (by omega) rfl (by omega)
 have d0 := o_sg l0 hg (by omega) (by omega)
 have d1 := o_sg l1 hg (by omega) (by omega)
 simp only [o_ad, skO, skD, rowsD, rowD, List.flatMap_cons, List.flatMap_nil, List.append_nil, List.cons_append, List.nil_append, List.map_cons, List.map_nil, List.length_cons, List.length_nil, arrO, arrV, arrB, vecO, vecB, e0, e1] at hc d0 d1 ⊢
 generalize arrD k a b l0 = AD0 at *
 generalize wordsP (wdR k a b) (encs k a b l0) = WS0 at *
 generalize arrD k a b l1 = AD1 at *
 generalize wordsP (wdR k a b) (encs k a b l1) = WS1 at *
 generalize nwP C (wdR k a b) = NW at *
 generalize wdR k a b = w at *
 refine G0 ?_; try with_reducible exact tt
 refine CallS.g [] (hc) (R0 ?_); try with_reducible exact tt
 refine AW.rounds 3 ?_
 refine A00 ?_; try with_reducible exact tt
 refine CallS.g [] (d0) (R0 ?_); try with_reducible exact tt
 refine A00 ?_; try with_reducible exact tt
 refine CallS.g [] (d1) (R0 ?_); try with_reducible exact tt
 refine A00 ?_; try with_reducible exact tt

set_option maxHeartbeats 4000000 in
theorem o_vm {C k a b T : Nat} (hg : GoodR k a b) (g1 : 1 ≤ C) (g2 : C ≤ 64) (A0 B0 A1 B1 : Nat) (l0 l1 : List ST) (h0 : GoodRow C k a b ⟨A0, B0, l0⟩) (h1 : GoodRow C k a b ⟨A1, B1, l1⟩) (cs : List Bool) (key n p : Nat) (d : Bool) (hk : key < hP) (hn : n ≤ 1048576) (hT : T + n ≤ 1099511627776) (hp : p ≤ cs.length) (hc : cs.length ≤ 4000000) (U : UR) (hU : U = updM cs C k a b key n [⟨A0, B0, l0⟩, ⟨A1, B1, l1⟩] p d) :
  Eqn Tryz.prog o_7o [.p 0 0, .p 1 0, .d (.int .u64 key), .d (.int .i64 n)] [skO 2 C k a b [⟨A0, B0, l0⟩, ⟨A1, B1, l1⟩] T, tapeO cs p d] (.d (.int .i64 U.e)) [if U.e = 0 then skO 2 C k a b U.rs (T + n) else skO 2 C k a b [⟨A0, B0, l0⟩, ⟨A1, B1, l1⟩] T, tapeO cs U.p U.d] := by
 have hcl := o_vl (T := T) hg g1 g2 A0 B0 A1 B1 l0 l1 h0 h1
 obtain ⟨a0, b0, e0, w0⟩ := h0
 simp only at a0 b0 e0 w0
 have c0 : colOf C A0 B0 key < C := Nat.mod_lt _ (by omega)
 have o0 := o_so A0 B0 key C a0 b0 hk g1 g2
 rw [show hsum A0 B0 key % C = colOf C A0 B0 key from rfl] at o0
 obtain ⟨Z0, z0⟩ : ∃ Z, Z = updR cs C k a b key n ⟨A0, B0, l0⟩ p d := ⟨_, rfl⟩
 have p0 : Z0.p ≤ cs.length := by rw [z0]; exact (o_nx hg (o_r7 w0 (show colOf C A0 B0 key < l0.length by omega)) hp hc).1
 have x0 := o_rg cs l0 (colOf C A0 B0 key) n p d hg w0 (by omega) (by omega) hn hp hc Z0 z0
 obtain ⟨a1, b1, e1, w1⟩ := h1
 simp only at a1 b1 e1 w1
 have c1 : colOf C A1 B1 key < C := Nat.mod_lt _ (by omega)
 have o1 := o_so A1 B1 key C a1 b1 hk g1 g2
 rw [show hsum A1 B1 key % C = colOf C A1 B1 key from rfl] at o1
 obtain ⟨Z1, z1⟩ : ∃ Z, Z = updR cs C k a b key n ⟨A1, B1, l1⟩ Z0.p Z0.d := ⟨_, rfl⟩
 have p1 : Z1.p ≤ cs.length := by rw [z1]; exact (o_nx hg (o_r7 w1 (show colOf C A1 B1 key < l1.length by omega)) p0 hc).1
 have x1 := o_rg cs l1 (colOf C A1 B1 key) n Z0.p Z0.d hg w1 (by omega) (by omega) hn p0 hc Z1 z1
 simp only [updM] at hU
 rw [← z0] at hU
 rw [← z1] at hU
 clear z0 p0 z1 p1
 have D0 : arrD k a b (l0.set (colOf C A0 B0 key) (Z0.y, Z0.t, Z0.f)) = [.ptr [.sl (nwP C (wdR k a b)) ((wordsP (wdR k a b) (encs k a b (l0.set (colOf C A0 B0 key) (Z0.y, Z0.t, Z0.f)))).map fun x : Nat => D.int .u64 x), .int .i64 C, .int .i64 (wdR k a b)] 0, .int .i64 k, .int .i64 a, .int .i64 b] := by simp [arrD, vecD, e0]
 have L0 : ((wordsP (wdR k a b) (encs k a b (l0.set (colOf C A0 B0 key) (Z0.y, Z0.t, Z0.f)))).map fun x : Nat => D.int .u64 x).length = nwP C (wdR k a b) := by simp [e0]
 have u0 : u64s (wordsP (wdR k a b) (encs k a b (l0.set (colOf C A0 B0 key) (Z0.y, Z0.t, Z0.f)))) = ((wordsP (wdR k a b) (encs k a b (l0.set (colOf C A0 B0 key) (Z0.y, Z0.t, Z0.f)))).map fun x : Nat => D.int .u64 x).map V.d := by simp [u64s]
 have D1 : arrD k a b (l1.set (colOf C A1 B1 key) (Z1.y, Z1.t, Z1.f)) = [.ptr [.sl (nwP C (wdR k a b)) ((wordsP (wdR k a b) (encs k a b (l1.set (colOf C A1 B1 key) (Z1.y, Z1.t, Z1.f)))).map fun x : Nat => D.int .u64 x), .int .i64 C, .int .i64 (wdR k a b)] 0, .int .i64 k, .int .i64 a, .int .i64 b] := by simp [arrD, vecD, e1]
 have L1 : ((wordsP (wdR k a b) (encs k a b (l1.set (colOf C A1 B1 key) (Z1.y, Z1.t, Z1.f)))).map fun x : Nat => D.int .u64 x).length = nwP C (wdR k a b) := by simp [e1]
 have u1 : u64s (wordsP (wdR k a b) (encs k a b (l1.set (colOf C A1 B1 key) (Z1.y, Z1.t, Z1.f)))) = ((wordsP (wdR k a b) (encs k a b (l1.set (colOf C A1 B1 key) (Z1.y, Z1.t, Z1.f)))).map fun x : Nat => D.int .u64 x).map V.d := by simp [u64s]
 refine Eqn.gen [0, 1] o_7q (by simp) (by simp) (by rfl) (by decide) (by simp) (by intro ob hob; simp at hob; rcases hob with rfl | rfl; (split <;> simp [skO, skD]); simp [tapeO]) ?_
 have q1 : ¬ (2305843009213693951 : Int) ≤ key := by unfold hP at hk; omega
 have q2 : ¬ 2305843009213693951 ≤ key := by unfold hP at hk; omega
 have q3 : ¬ (n : Int) < 0 := by omega
 have q4 : ¬ (1048576 : Int) < n := by omega
 have q5 : ¬ 1048576 < n := by omega
 have q6 : IntKind.i64.wrap ((T : Int) + n) = ((T + n : Nat) : Int) := by rw [w64 (by omega) (by omega)]; omega
 have q7 : ¬ (1099511627776 : Int) < (T : Int) + n := by omega
 have q8 : ¬ 1099511627776 < T + n := by omega
 have es : ∀ rs : List Rw, rs.length = 2 → (skO 2 C k a b rs (T + n)) = ⟨147, [.d (.int .i64 (2 : Nat)), .d (.int .i64 C), .d (.int .i64 k), .d (.int .i64 a), .d (.int .i64 b), .d (.sl 2 (rowsD k a b rs)), .d (.int .i64 (T + n : Nat))]⟩ := by intro rs h; simp [skO, skD, h]
 have eo : skO 2 C k a b [⟨A0, B0, l0⟩, ⟨A1, B1, l1⟩] T = ⟨147, [.d (.int .i64 (2 : Nat)), .d (.int .i64 C), .d (.int .i64 k), .d (.int .i64 a), .d (.int .i64 b), .d (.sl 2 [.int .u64 A0, .int .u64 B0, .ptr (arrD k a b l0) 0, .int .u64 A1, .int .u64 B1, .ptr (arrD k a b l1) 0]), .d (.int .i64 T)]⟩ := by simp [skO, skD, rowsD, rowD]
 rw [eo] at hcl ⊢
 simp only [o_7p, arrO, arrV, arrB, vecO, vecB, hD, List.length_set, e0, e1] at hcl o0 o1 x0 x1 ⊢
 generalize hl0 : l0.set (colOf C A0 B0 key) (Z0.y, Z0.t, Z0.f) = m0 at *
 generalize colOf C A0 B0 key = col0 at *
 generalize arrD k a b l0 = AD0 at *
 obtain ⟨E0, Y0, T0, F0, P0, G0⟩ := Z0
 simp only at x0 hU
 generalize hl1 : l1.set (colOf C A1 B1 key) (Z1.y, Z1.t, Z1.f) = m1 at *
 generalize colOf C A1 B1 key = col1 at *
 generalize arrD k a b l1 = AD1 at *
 obtain ⟨E1, Y1, T1, F1, P1, G1⟩ := Z1
 simp only at x1 hU
 generalize nwP C (wdR k a b) = NW at *
 refine A10 (fs q1 (fs q2 (fs q3 (fs q4 (fs q5 (fs q6 (fs q7 q8))))))) ?_; try with_reducible exact tt
 refine CallS.g [0] (hcl) (R0 ?_); try with_reducible exact tt
 refine AW.rounds 3 ?_
 refine A01 o0 ?_; try with_reducible exact tt
 by_cases E00 : E0 = 0
 ·simp only [E00, if_true, u0] at x0
  generalize ((wordsP (wdR k a b) (encs k a b m0)).map fun x : Nat => D.int .u64 x) = WD0 at *
  refine CallS.g [4, 5, 6, 1] (x0) (R0 ?_); try with_reducible exact tt
  refine A01 o1 ?_; try with_reducible exact tt
  by_cases E10 : E1 = 0
  ·simp only [E10, if_true, u1] at x1
   generalize ((wordsP (wdR k a b) (encs k a b m1)).map fun x : Nat => D.int .u64 x) = WD1 at *
   refine CallS.g [7, 8, 9, 1] (x1) (R0 ?_); try with_reducible exact tt
   simp only [updC, if_true, E00, E10] at hU
   subst hU
   simp only [if_true]
   rw [es _ rfl]
   simp only [rowsD, rowD, List.flatMap_cons, List.flatMap_nil, List.append_nil, List.cons_append, List.nil_append, D0, D1]
   have t0 : WD0.take NW = WD0 := List.take_of_length_le (by omega)
   have t1 : WD1.take NW = WD1 := List.take_of_length_le (by omega)
   generalize wdR k a b = w at *
   refine AW.freeze 6 1 ⟨129, WD0.map V.d⟩ WD0 (by simp) rfl ?_
   simp [frzH, t0]
   refine AW.freeze 5 1 ⟨223, [.d (.sl NW WD0), .d (.int .i64 C), .d (.int .i64 w)]⟩ [.sl NW WD0, .int .i64 C, .int .i64 w] (by rfl) rfl ?_
   simp [frzH]
   refine AW.freeze 4 1 ⟨154, [.d (.ptr [.sl NW WD0, .int .i64 C, .int .i64 w] 0), .d (.int .i64 k), .d (.int .i64 a), .d (.int .i64 b)]⟩ [.ptr [.sl NW WD0, .int .i64 C, .int .i64 w] 0, .int .i64 k, .int .i64 a, .int .i64 b] (by rfl) rfl ?_
   simp [frzH]
   refine AW.freeze 9 1 ⟨129, WD1.map V.d⟩ WD1 (by simp) rfl ?_
   simp [frzH, t1]
   refine AW.freeze 8 1 ⟨223, [.d (.sl NW WD1), .d (.int .i64 C), .d (.int .i64 w)]⟩ [.sl NW WD1, .int .i64 C, .int .i64 w] (by rfl) rfl ?_
   simp [frzH]
   refine AW.freeze 7 1 ⟨154, [.d (.ptr [.sl NW WD1, .int .i64 C, .int .i64 w] 0), .d (.int .i64 k), .d (.int .i64 a), .d (.int .i64 b)]⟩ [.ptr [.sl NW WD1, .int .i64 C, .int .i64 w] 0, .int .i64 k, .int .i64 a, .int .i64 b] (by rfl) rfl ?_
   simp [frzH]
   refine AW.freeze 3 3 ⟨150, [.int .u64 A0, .int .u64 B0, .ptr [.ptr [.sl NW WD0, .int .i64 C, .int .i64 w] 0, .int .i64 k, .int .i64 a, .int .i64 b] 0, .int .u64 A1, .int .u64 B1, .ptr [.ptr [.sl NW WD1, .int .i64 C, .int .i64 w] 0, .int .i64 k, .int .i64 a, .int .i64 b] 0].map V.d⟩ [.int .u64 A0, .int .u64 B0, .ptr [.ptr [.sl NW WD0, .int .i64 C, .int .i64 w] 0, .int .i64 k, .int .i64 a, .int .i64 b] 0, .int .u64 A1, .int .u64 B1, .ptr [.ptr [.sl NW WD1, .int .i64 C, .int .i64 w] 0, .int .i64 k, .int .i64 a, .int .i64 b] 0] (by rfl) rfl ?_
   simp [frzH]
   refine A10 q6 ?_; try with_reducible exact tt
  ·simp only [if_neg E10] at x1
   simp only [updC, if_true, if_neg E10, E00] at hU
   refine CallS.g [7, 8, 9, 1] (x1) (R0 ?_); try with_reducible exact tt
   subst hU
   simp only [if_neg E10]
   refine A10 E10 ?_; try with_reducible exact tt
 ·simp only [if_neg E00] at x0
  simp only [updC, if_true, if_neg E00] at hU
  refine CallS.g [4, 5, 6, 1] (x0) (R0 ?_); try with_reducible exact tt
  subst hU
  simp only [if_neg E00]
  refine A10 E00 ?_; try with_reducible exact tt


theorem o_vn {C k a b T : Nat} (hg : GoodR k a b) (g1 : 1 ≤ C) (g2 : C ≤ 64) (A0 B0 A1 B1 A2 B2 : Nat) (l0 l1 l2 : List ST) (h0 : GoodRow C k a b ⟨A0, B0, l0⟩) (h1 : GoodRow C k a b ⟨A1, B1, l1⟩) (h2 : GoodRow C k a b ⟨A2, B2, l2⟩) :
  Eqn Tryz.prog o_ac [.p 0 0] [skO 3 C k a b [⟨A0, B0, l0⟩, ⟨A1, B1, l1⟩, ⟨A2, B2, l2⟩] T] (.p 1 0) [skO 3 C k a b [⟨A0, B0, l0⟩, ⟨A1, B1, l1⟩, ⟨A2, B2, l2⟩] T, ⟨147, [.d (.int .i64 (3 : Nat)), .d (.int .i64 C), .d (.int .i64 k), .d (.int .i64 a), .d (.int .i64 b), .own 2 3 3, .d (.int .i64 T)]⟩, ⟨150, [.d (.int .u64 A0), .d (.int .u64 B0), .p 3 0, .d (.int .u64 A1), .d (.int .u64 B1), .p 6 0, .d (.int .u64 A2), .d (.int .u64 B2), .p 9 0]⟩, arrO 4 k a b, arrV 5 k a b l0, arrB k a b l0, arrO 7 k a b, arrV 8 k a b l1, arrB k a b l1, arrO 10 k a b, arrV 11 k a b l2, arrB k a b l2] := by
 obtain ⟨-, -, e0, -⟩ := h0
 simp only at e0
 obtain ⟨-, -, e1, -⟩ := h1
 simp only at e1
 obtain ⟨-, -, e2, -⟩ := h2
 simp only at e2
 refine Eqn.gen [0, 1, 2, 4, 5, 6, 8, 9, 10, 12, 13, 14] o_ae (by simp) (by simp) (by rfl) (by decide) (by simp) (by simp [skO, skD, arrO, arrV, arrB, vecO, vecB, u64s]) ?_
 have hc := o_uy 3 [.int .u64 A0, .int .u64 B0, .ptr (arrD k a b l0) 0, .int .u64 A1, .int .u64 B1, .ptr (arrD k a b l1) 0, .int .u64 A2, .int .u64 B2, .ptr (arrD k a b l2) 0] (by omega) rfl (by omega)
 have d0 := o_sg l0 hg (by omega) (by omega)
 have d1 := o_sg l1 hg (by omega) (by omega)
 have d2 := o_sg l2 hg (by omega) (by omega)
 simp only [o_ad, skO, skD, rowsD, rowD, List.flatMap_cons, List.flatMap_nil, List.append_nil, List.cons_append, List.nil_append, List.map_cons, List.map_nil, List.length_cons, List.length_nil, arrO, arrV, arrB, vecO, vecB, e0, e1, e2] at hc d0 d1 d2 ⊢
 generalize arrD k a b l0 = AD0 at *
 generalize wordsP (wdR k a b) (encs k a b l0) = WS0 at *
 generalize arrD k a b l1 = AD1 at *
 generalize wordsP (wdR k a b) (encs k a b l1) = WS1 at *
 generalize arrD k a b l2 = AD2 at *
 generalize wordsP (wdR k a b) (encs k a b l2) = WS2 at *
 generalize nwP C (wdR k a b) = NW at *
 generalize wdR k a b = w at *
 refine G0 ?_; try with_reducible exact tt
 refine CallS.g [] (hc) (R0 ?_); try with_reducible exact tt
 refine AW.rounds 4 ?_
 refine A00 ?_; try with_reducible exact tt
 refine CallS.g [] (d0) (R0 ?_); try with_reducible exact tt
 refine A00 ?_; try with_reducible exact tt
 refine CallS.g [] (d1) (R0 ?_); try with_reducible exact tt
 refine A00 ?_; try with_reducible exact tt
 refine CallS.g [] (d2) (R0 ?_); try with_reducible exact tt
 refine A00 ?_; try with_reducible exact tt

set_option maxHeartbeats 4000000 in
theorem o_vo {C k a b T : Nat} (hg : GoodR k a b) (g1 : 1 ≤ C) (g2 : C ≤ 64) (A0 B0 A1 B1 A2 B2 : Nat) (l0 l1 l2 : List ST) (h0 : GoodRow C k a b ⟨A0, B0, l0⟩) (h1 : GoodRow C k a b ⟨A1, B1, l1⟩) (h2 : GoodRow C k a b ⟨A2, B2, l2⟩) (cs : List Bool) (key n p : Nat) (d : Bool) (hk : key < hP) (hn : n ≤ 1048576) (hT : T + n ≤ 1099511627776) (hp : p ≤ cs.length) (hc : cs.length ≤ 4000000) (U : UR) (hU : U = updM cs C k a b key n [⟨A0, B0, l0⟩, ⟨A1, B1, l1⟩, ⟨A2, B2, l2⟩] p d) :
  Eqn Tryz.prog o_7o [.p 0 0, .p 1 0, .d (.int .u64 key), .d (.int .i64 n)] [skO 3 C k a b [⟨A0, B0, l0⟩, ⟨A1, B1, l1⟩, ⟨A2, B2, l2⟩] T, tapeO cs p d] (.d (.int .i64 U.e)) [if U.e = 0 then skO 3 C k a b U.rs (T + n) else skO 3 C k a b [⟨A0, B0, l0⟩, ⟨A1, B1, l1⟩, ⟨A2, B2, l2⟩] T, tapeO cs U.p U.d] := by
 have hcl := o_vn (T := T) hg g1 g2 A0 B0 A1 B1 A2 B2 l0 l1 l2 h0 h1 h2
 obtain ⟨a0, b0, e0, w0⟩ := h0
 simp only at a0 b0 e0 w0
 have c0 : colOf C A0 B0 key < C := Nat.mod_lt _ (by omega)
 have o0 := o_so A0 B0 key C a0 b0 hk g1 g2
 rw [show hsum A0 B0 key % C = colOf C A0 B0 key from rfl] at o0
 obtain ⟨Z0, z0⟩ : ∃ Z, Z = updR cs C k a b key n ⟨A0, B0, l0⟩ p d := ⟨_, rfl⟩
 have p0 : Z0.p ≤ cs.length := by rw [z0]; exact (o_nx hg (o_r7 w0 (show colOf C A0 B0 key < l0.length by omega)) hp hc).1
 have x0 := o_rg cs l0 (colOf C A0 B0 key) n p d hg w0 (by omega) (by omega) hn hp hc Z0 z0
 obtain ⟨a1, b1, e1, w1⟩ := h1
 simp only at a1 b1 e1 w1
 have c1 : colOf C A1 B1 key < C := Nat.mod_lt _ (by omega)
 have o1 := o_so A1 B1 key C a1 b1 hk g1 g2
 rw [show hsum A1 B1 key % C = colOf C A1 B1 key from rfl] at o1
 obtain ⟨Z1, z1⟩ : ∃ Z, Z = updR cs C k a b key n ⟨A1, B1, l1⟩ Z0.p Z0.d := ⟨_, rfl⟩
 have p1 : Z1.p ≤ cs.length := by rw [z1]; exact (o_nx hg (o_r7 w1 (show colOf C A1 B1 key < l1.length by omega)) p0 hc).1
 have x1 := o_rg cs l1 (colOf C A1 B1 key) n Z0.p Z0.d hg w1 (by omega) (by omega) hn p0 hc Z1 z1
 obtain ⟨a2, b2, e2, w2⟩ := h2
 simp only at a2 b2 e2 w2
 have c2 : colOf C A2 B2 key < C := Nat.mod_lt _ (by omega)
 have o2 := o_so A2 B2 key C a2 b2 hk g1 g2
 rw [show hsum A2 B2 key % C = colOf C A2 B2 key from rfl] at o2
 obtain ⟨Z2, z2⟩ : ∃ Z, Z = updR cs C k a b key n ⟨A2, B2, l2⟩ Z1.p Z1.d := ⟨_, rfl⟩
 have p2 : Z2.p ≤ cs.length := by rw [z2]; exact (o_nx hg (o_r7 w2 (show colOf C A2 B2 key < l2.length by omega)) p1 hc).1
 have x2 := o_rg cs l2 (colOf C A2 B2 key) n Z1.p Z1.d hg w2 (by omega) (by omega) hn p1 hc Z2 z2
 simp only [updM] at hU
 rw [← z0] at hU
 rw [← z1] at hU
 rw [← z2] at hU
 clear z0 p0 z1 p1 z2 p2
 have D0 : arrD k a b (l0.set (colOf C A0 B0 key) (Z0.y, Z0.t, Z0.f)) = [.ptr [.sl (nwP C (wdR k a b)) ((wordsP (wdR k a b) (encs k a b (l0.set (colOf C A0 B0 key) (Z0.y, Z0.t, Z0.f)))).map fun x : Nat => D.int .u64 x), .int .i64 C, .int .i64 (wdR k a b)] 0, .int .i64 k, .int .i64 a, .int .i64 b] := by simp [arrD, vecD, e0]
 have L0 : ((wordsP (wdR k a b) (encs k a b (l0.set (colOf C A0 B0 key) (Z0.y, Z0.t, Z0.f)))).map fun x : Nat => D.int .u64 x).length = nwP C (wdR k a b) := by simp [e0]
 have u0 : u64s (wordsP (wdR k a b) (encs k a b (l0.set (colOf C A0 B0 key) (Z0.y, Z0.t, Z0.f)))) = ((wordsP (wdR k a b) (encs k a b (l0.set (colOf C A0 B0 key) (Z0.y, Z0.t, Z0.f)))).map fun x : Nat => D.int .u64 x).map V.d := by simp [u64s]
 have D1 : arrD k a b (l1.set (colOf C A1 B1 key) (Z1.y, Z1.t, Z1.f)) = [.ptr [.sl (nwP C (wdR k a b)) ((wordsP (wdR k a b) (encs k a b (l1.set (colOf C A1 B1 key) (Z1.y, Z1.t, Z1.f)))).map fun x : Nat => D.int .u64 x), .int .i64 C, .int .i64 (wdR k a b)] 0, .int .i64 k, .int .i64 a, .int .i64 b] := by simp [arrD, vecD, e1]
 have L1 : ((wordsP (wdR k a b) (encs k a b (l1.set (colOf C A1 B1 key) (Z1.y, Z1.t, Z1.f)))).map fun x : Nat => D.int .u64 x).length = nwP C (wdR k a b) := by simp [e1]
 have u1 : u64s (wordsP (wdR k a b) (encs k a b (l1.set (colOf C A1 B1 key) (Z1.y, Z1.t, Z1.f)))) = ((wordsP (wdR k a b) (encs k a b (l1.set (colOf C A1 B1 key) (Z1.y, Z1.t, Z1.f)))).map fun x : Nat => D.int .u64 x).map V.d := by simp [u64s]
 have D2 : arrD k a b (l2.set (colOf C A2 B2 key) (Z2.y, Z2.t, Z2.f)) = [.ptr [.sl (nwP C (wdR k a b)) ((wordsP (wdR k a b) (encs k a b (l2.set (colOf C A2 B2 key) (Z2.y, Z2.t, Z2.f)))).map fun x : Nat => D.int .u64 x), .int .i64 C, .int .i64 (wdR k a b)] 0, .int .i64 k, .int .i64 a, .int .i64 b] := by simp [arrD, vecD, e2]
 have L2 : ((wordsP (wdR k a b) (encs k a b (l2.set (colOf C A2 B2 key) (Z2.y, Z2.t, Z2.f)))).map fun x : Nat => D.int .u64 x).length = nwP C (wdR k a b) := by simp [e2]
 have u2 : u64s (wordsP (wdR k a b) (encs k a b (l2.set (colOf C A2 B2 key) (Z2.y, Z2.t, Z2.f)))) = ((wordsP (wdR k a b) (encs k a b (l2.set (colOf C A2 B2 key) (Z2.y, Z2.t, Z2.f)))).map fun x : Nat => D.int .u64 x).map V.d := by simp [u64s]
 refine Eqn.gen [0, 1] o_7q (by simp) (by simp) (by rfl) (by decide) (by simp) (by intro ob hob; simp at hob; rcases hob with rfl | rfl; (split <;> simp [skO, skD]); simp [tapeO]) ?_
 have q1 : ¬ (2305843009213693951 : Int) ≤ key := by unfold hP at hk; omega
 have q2 : ¬ 2305843009213693951 ≤ key := by unfold hP at hk; omega
 have q3 : ¬ (n : Int) < 0 := by omega
 have q4 : ¬ (1048576 : Int) < n := by omega
 have q5 : ¬ 1048576 < n := by omega
 have q6 : IntKind.i64.wrap ((T : Int) + n) = ((T + n : Nat) : Int) := by rw [w64 (by omega) (by omega)]; omega
 have q7 : ¬ (1099511627776 : Int) < (T : Int) + n := by omega
 have q8 : ¬ 1099511627776 < T + n := by omega
 have es : ∀ rs : List Rw, rs.length = 3 → (skO 3 C k a b rs (T + n)) = ⟨147, [.d (.int .i64 (3 : Nat)), .d (.int .i64 C), .d (.int .i64 k), .d (.int .i64 a), .d (.int .i64 b), .d (.sl 3 (rowsD k a b rs)), .d (.int .i64 (T + n : Nat))]⟩ := by intro rs h; simp [skO, skD, h]
 have eo : skO 3 C k a b [⟨A0, B0, l0⟩, ⟨A1, B1, l1⟩, ⟨A2, B2, l2⟩] T = ⟨147, [.d (.int .i64 (3 : Nat)), .d (.int .i64 C), .d (.int .i64 k), .d (.int .i64 a), .d (.int .i64 b), .d (.sl 3 [.int .u64 A0, .int .u64 B0, .ptr (arrD k a b l0) 0, .int .u64 A1, .int .u64 B1, .ptr (arrD k a b l1) 0, .int .u64 A2, .int .u64 B2, .ptr (arrD k a b l2) 0]), .d (.int .i64 T)]⟩ := by simp [skO, skD, rowsD, rowD]
 rw [eo] at hcl ⊢
 simp only [o_7p, arrO, arrV, arrB, vecO, vecB, hD, List.length_set, e0, e1, e2] at hcl o0 o1 o2 x0 x1 x2 ⊢
 generalize hl0 : l0.set (colOf C A0 B0 key) (Z0.y, Z0.t, Z0.f) = m0 at *
 generalize colOf C A0 B0 key = col0 at *
 generalize arrD k a b l0 = AD0 at *
 obtain ⟨E0, Y0, T0, F0, P0, G0⟩ := Z0
 simp only at x0 hU
 generalize hl1 : l1.set (colOf C A1 B1 key) (Z1.y, Z1.t, Z1.f) = m1 at *
 generalize colOf C A1 B1 key = col1 at *
 generalize arrD k a b l1 = AD1 at *
 obtain ⟨E1, Y1, T1, F1, P1, G1⟩ := Z1
 simp only at x1 hU
 generalize hl2 : l2.set (colOf C A2 B2 key) (Z2.y, Z2.t, Z2.f) = m2 at *
 generalize colOf C A2 B2 key = col2 at *
 generalize arrD k a b l2 = AD2 at *
 obtain ⟨E2, Y2, T2, F2, P2, G2⟩ := Z2
 simp only at x2 hU
 generalize nwP C (wdR k a b) = NW at *
 refine A10 (fs q1 (fs q2 (fs q3 (fs q4 (fs q5 (fs q6 (fs q7 q8))))))) ?_; try with_reducible exact tt
 refine CallS.g [0] (hcl) (R0 ?_); try with_reducible exact tt
 refine AW.rounds 4 ?_
 refine A01 o0 ?_; try with_reducible exact tt
 by_cases E00 : E0 = 0
 ·simp only [E00, if_true, u0] at x0
  generalize ((wordsP (wdR k a b) (encs k a b m0)).map fun x : Nat => D.int .u64 x) = WD0 at *
  refine CallS.g [4, 5, 6, 1] (x0) (R0 ?_); try with_reducible exact tt
  refine A01 o1 ?_; try with_reducible exact tt
  by_cases E10 : E1 = 0
  ·simp only [E10, if_true, u1] at x1
   generalize ((wordsP (wdR k a b) (encs k a b m1)).map fun x : Nat => D.int .u64 x) = WD1 at *
   refine CallS.g [7, 8, 9, 1] (x1) (R0 ?_); try with_reducible exact tt
   refine A01 o2 ?_; try with_reducible exact tt
   by_cases E20 : E2 = 0
   ·simp only [E20, if_true, u2] at x2
    generalize ((wordsP (wdR k a b) (encs k a b m2)).map fun x : Nat => D.int .u64 x) = WD2 at *
    refine CallS.g [10, 11, 12, 1] (x2) (R0 ?_); try with_reducible exact tt
    simp only [updC, if_true, E00, E10, E20] at hU
    subst hU
    simp only [if_true]
    rw [es _ rfl]
    simp only [rowsD, rowD, List.flatMap_cons, List.flatMap_nil, List.append_nil, List.cons_append, List.nil_append, D0, D1, D2]
    have t0 : WD0.take NW = WD0 := List.take_of_length_le (by omega)
    have t1 : WD1.take NW = WD1 := List.take_of_length_le (by omega)
    have t2 : WD2.take NW = WD2 := List.take_of_length_le (by omega)
    generalize wdR k a b = w at *
    refine AW.freeze 6 1 ⟨129, WD0.map V.d⟩ WD0 (by simp) rfl ?_
    simp [frzH, t0]
    refine AW.freeze 5 1 ⟨223, [.d (.sl NW WD0), .d (.int .i64 C), .d (.int .i64 w)]⟩ [.sl NW WD0, .int .i64 C, .int .i64 w] (by rfl) rfl ?_
    simp [frzH]
    refine AW.freeze 4 1 ⟨154, [.d (.ptr [.sl NW WD0, .int .i64 C, .int .i64 w] 0), .d (.int .i64 k), .d (.int .i64 a), .d (.int .i64 b)]⟩ [.ptr [.sl NW WD0, .int .i64 C, .int .i64 w] 0, .int .i64 k, .int .i64 a, .int .i64 b] (by rfl) rfl ?_
    simp [frzH]
    refine AW.freeze 9 1 ⟨129, WD1.map V.d⟩ WD1 (by simp) rfl ?_
    simp [frzH, t1]
    refine AW.freeze 8 1 ⟨223, [.d (.sl NW WD1), .d (.int .i64 C), .d (.int .i64 w)]⟩ [.sl NW WD1, .int .i64 C, .int .i64 w] (by rfl) rfl ?_
    simp [frzH]
    refine AW.freeze 7 1 ⟨154, [.d (.ptr [.sl NW WD1, .int .i64 C, .int .i64 w] 0), .d (.int .i64 k), .d (.int .i64 a), .d (.int .i64 b)]⟩ [.ptr [.sl NW WD1, .int .i64 C, .int .i64 w] 0, .int .i64 k, .int .i64 a, .int .i64 b] (by rfl) rfl ?_
    simp [frzH]
    refine AW.freeze 12 1 ⟨129, WD2.map V.d⟩ WD2 (by simp) rfl ?_
    simp [frzH, t2]
    refine AW.freeze 11 1 ⟨223, [.d (.sl NW WD2), .d (.int .i64 C), .d (.int .i64 w)]⟩ [.sl NW WD2, .int .i64 C, .int .i64 w] (by rfl) rfl ?_
    simp [frzH]
    refine AW.freeze 10 1 ⟨154, [.d (.ptr [.sl NW WD2, .int .i64 C, .int .i64 w] 0), .d (.int .i64 k), .d (.int .i64 a), .d (.int .i64 b)]⟩ [.ptr [.sl NW WD2, .int .i64 C, .int .i64 w] 0, .int .i64 k, .int .i64 a, .int .i64 b] (by rfl) rfl ?_
    simp [frzH]
    refine AW.freeze 3 3 ⟨150, [.int .u64 A0, .int .u64 B0, .ptr [.ptr [.sl NW WD0, .int .i64 C, .int .i64 w] 0, .int .i64 k, .int .i64 a, .int .i64 b] 0, .int .u64 A1, .int .u64 B1, .ptr [.ptr [.sl NW WD1, .int .i64 C, .int .i64 w] 0, .int .i64 k, .int .i64 a, .int .i64 b] 0, .int .u64 A2, .int .u64 B2, .ptr [.ptr [.sl NW WD2, .int .i64 C, .int .i64 w] 0, .int .i64 k, .int .i64 a, .int .i64 b] 0].map V.d⟩ [.int .u64 A0, .int .u64 B0, .ptr [.ptr [.sl NW WD0, .int .i64 C, .int .i64 w] 0, .int .i64 k, .int .i64 a, .int .i64 b] 0, .int .u64 A1, .int .u64 B1, .ptr [.ptr [.sl NW WD1, .int .i64 C, .int .i64 w] 0, .int .i64 k, .int .i64 a, .int .i64 b] 0, .int .u64 A2, .int .u64 B2, .ptr [.ptr [.sl NW WD2, .int .i64 C, .int .i64 w] 0, .int .i64 k, .int .i64 a, .int .i64 b] 0] (by rfl) rfl ?_
    simp [frzH]
    refine A10 q6 ?_; try with_reducible exact tt
   ·simp only [if_neg E20] at x2
    simp only [updC, if_true, if_neg E20, E00, E10] at hU
    refine CallS.g [10, 11, 12, 1] (x2) (R0 ?_); try with_reducible exact tt
    subst hU
    simp only [if_neg E20]
    refine A10 E20 ?_; try with_reducible exact tt
  ·simp only [if_neg E10] at x1
   simp only [updC, if_true, if_neg E10, E00] at hU
   refine CallS.g [7, 8, 9, 1] (x1) (R0 ?_); try with_reducible exact tt
   subst hU
   simp only [if_neg E10]
   refine A10 E10 ?_; try with_reducible exact tt
 ·simp only [if_neg E00] at x0
  simp only [updC, if_true, if_neg E00] at hU
  refine CallS.g [4, 5, 6, 1] (x0) (R0 ?_); try with_reducible exact tt
  subst hU
  simp only [if_neg E00]
  refine A10 E00 ?_; try with_reducible exact tt


theorem o_vp {C k a b T : Nat} (hg : GoodR k a b) (g1 : 1 ≤ C) (g2 : C ≤ 64) (A0 B0 A1 B1 A2 B2 A3 B3 : Nat) (l0 l1 l2 l3 : List ST) (h0 : GoodRow C k a b ⟨A0, B0, l0⟩) (h1 : GoodRow C k a b ⟨A1, B1, l1⟩) (h2 : GoodRow C k a b ⟨A2, B2, l2⟩) (h3 : GoodRow C k a b ⟨A3, B3, l3⟩) :
  Eqn Tryz.prog o_ac [.p 0 0] [skO 4 C k a b [⟨A0, B0, l0⟩, ⟨A1, B1, l1⟩, ⟨A2, B2, l2⟩, ⟨A3, B3, l3⟩] T] (.p 1 0) [skO 4 C k a b [⟨A0, B0, l0⟩, ⟨A1, B1, l1⟩, ⟨A2, B2, l2⟩, ⟨A3, B3, l3⟩] T, ⟨147, [.d (.int .i64 (4 : Nat)), .d (.int .i64 C), .d (.int .i64 k), .d (.int .i64 a), .d (.int .i64 b), .own 2 3 4, .d (.int .i64 T)]⟩, ⟨150, [.d (.int .u64 A0), .d (.int .u64 B0), .p 3 0, .d (.int .u64 A1), .d (.int .u64 B1), .p 6 0, .d (.int .u64 A2), .d (.int .u64 B2), .p 9 0, .d (.int .u64 A3), .d (.int .u64 B3), .p 12 0]⟩, arrO 4 k a b, arrV 5 k a b l0, arrB k a b l0, arrO 7 k a b, arrV 8 k a b l1, arrB k a b l1, arrO 10 k a b, arrV 11 k a b l2, arrB k a b l2, arrO 13 k a b, arrV 14 k a b l3, arrB k a b l3] := by
 obtain ⟨-, -, e0, -⟩ := h0
 simp only at e0
 obtain ⟨-, -, e1, -⟩ := h1
 simp only at e1
 obtain ⟨-, -, e2, -⟩ := h2
 simp only at e2
 obtain ⟨-, -, e3, -⟩ := h3
 simp only at e3
 refine Eqn.gen [0, 1, 2, 4, 5, 6, 8, 9, 10, 12, 13, 14, 16, 17, 18] o_ae (by simp) (by simp) (by rfl) (by decide) (by simp) (by simp [skO, skD, arrO, arrV, arrB, vecO, vecB, u64s]) ?_
 have hc := o_uy 4 [.int .u64 A0, .int .u64 B0, .ptr (arrD k a b l0) 0, .int .u64 A1, .int .u64 B1, .ptr (arrD k a b l1) 0, .int .u64 A2, .int .u64 B2, .ptr (arrD k a b l2) 0, .int .u64 A3, .int .u64 B3, .ptr (arrD k a b l3) 0] (by omega) rfl (by omega)
 have d0 := o_sg l0 hg (by omega) (by omega)
 have d1 := o_sg l1 hg (by omega) (by omega)
 have d2 := o_sg l2 hg (by omega) (by omega)
 have d3 := o_sg l3 hg (by omega) (by omega)
 simp only [o_ad, skO, skD, rowsD, rowD, List.flatMap_cons, List.flatMap_nil, List.append_nil, List.cons_append, List.nil_append, List.map_cons, List.map_nil, List.length_cons, List.length_nil, arrO, arrV, arrB, vecO, vecB, e0, e1, e2, e3] at hc d0 d1 d2 d3 ⊢
 generalize arrD k a b l0 = AD0 at *
 generalize wordsP (wdR k a b) (encs k a b l0) = WS0 at *
 generalize arrD k a b l1 = AD1 at *
 generalize wordsP (wdR k a b) (encs k a b l1) = WS1 at *
 generalize arrD k a b l2 = AD2 at *
 generalize wordsP (wdR k a b) (encs k a b l2) = WS2 at *
 generalize arrD k a b l3 = AD3 at *
 generalize wordsP (wdR k a b) (encs k a b l3) = WS3 at *
 generalize nwP C (wdR k a b) = NW at *
 generalize wdR k a b = w at *
 refine G0 ?_; try with_reducible exact tt
 refine CallS.g [] (hc) (R0 ?_); try with_reducible exact tt
 refine AW.rounds 5 ?_
 refine A00 ?_; try with_reducible exact tt
 refine CallS.g [] (d0) (R0 ?_); try with_reducible exact tt
 refine A00 ?_; try with_reducible exact tt
 refine CallS.g [] (d1) (R0 ?_); try with_reducible exact tt
 refine A00 ?_; try with_reducible exact tt
 refine CallS.g [] (d2) (R0 ?_); try with_reducible exact tt
 refine A00 ?_; try with_reducible exact tt
 refine CallS.g [] (d3) (R0 ?_); try with_reducible exact tt
 refine A00 ?_; try with_reducible exact tt

set_option maxHeartbeats 4000000 in
theorem o_vq {C k a b T : Nat} (hg : GoodR k a b) (g1 : 1 ≤ C) (g2 : C ≤ 64) (A0 B0 A1 B1 A2 B2 A3 B3 : Nat) (l0 l1 l2 l3 : List ST) (h0 : GoodRow C k a b ⟨A0, B0, l0⟩) (h1 : GoodRow C k a b ⟨A1, B1, l1⟩) (h2 : GoodRow C k a b ⟨A2, B2, l2⟩) (h3 : GoodRow C k a b ⟨A3, B3, l3⟩) (cs : List Bool) (key n p : Nat) (d : Bool) (hk : key < hP) (hn : n ≤ 1048576) (hT : T + n ≤ 1099511627776) (hp : p ≤ cs.length) (hc : cs.length ≤ 4000000) (U : UR) (hU : U = updM cs C k a b key n [⟨A0, B0, l0⟩, ⟨A1, B1, l1⟩, ⟨A2, B2, l2⟩, ⟨A3, B3, l3⟩] p d) :
  Eqn Tryz.prog o_7o [.p 0 0, .p 1 0, .d (.int .u64 key), .d (.int .i64 n)] [skO 4 C k a b [⟨A0, B0, l0⟩, ⟨A1, B1, l1⟩, ⟨A2, B2, l2⟩, ⟨A3, B3, l3⟩] T, tapeO cs p d] (.d (.int .i64 U.e)) [if U.e = 0 then skO 4 C k a b U.rs (T + n) else skO 4 C k a b [⟨A0, B0, l0⟩, ⟨A1, B1, l1⟩, ⟨A2, B2, l2⟩, ⟨A3, B3, l3⟩] T, tapeO cs U.p U.d] := by
 have hcl := o_vp (T := T) hg g1 g2 A0 B0 A1 B1 A2 B2 A3 B3 l0 l1 l2 l3 h0 h1 h2 h3
 obtain ⟨a0, b0, e0, w0⟩ := h0
 simp only at a0 b0 e0 w0
 have c0 : colOf C A0 B0 key < C := Nat.mod_lt _ (by omega)
 have o0 := o_so A0 B0 key C a0 b0 hk g1 g2
 rw [show hsum A0 B0 key % C = colOf C A0 B0 key from rfl] at o0
 obtain ⟨Z0, z0⟩ : ∃ Z, Z = updR cs C k a b key n ⟨A0, B0, l0⟩ p d := ⟨_, rfl⟩
 have p0 : Z0.p ≤ cs.length := by rw [z0]; exact (o_nx hg (o_r7 w0 (show colOf C A0 B0 key < l0.length by omega)) hp hc).1
 have x0 := o_rg cs l0 (colOf C A0 B0 key) n p d hg w0 (by omega) (by omega) hn hp hc Z0 z0
 obtain ⟨a1, b1, e1, w1⟩ := h1
 simp only at a1 b1 e1 w1
 have c1 : colOf C A1 B1 key < C := Nat.mod_lt _ (by omega)
 have o1 := o_so A1 B1 key C a1 b1 hk g1 g2
 rw [show hsum A1 B1 key % C = colOf C A1 B1 key from rfl] at o1
 obtain ⟨Z1, z1⟩ : ∃ Z, Z = updR cs C k a b key n ⟨A1, B1, l1⟩ Z0.p Z0.d := ⟨_, rfl⟩
 have p1 : Z1.p ≤ cs.length := by rw [z1]; exact (o_nx hg (o_r7 w1 (show colOf C A1 B1 key < l1.length by omega)) p0 hc).1
 have x1 := o_rg cs l1 (colOf C A1 B1 key) n Z0.p Z0.d hg w1 (by omega) (by omega) hn p0 hc Z1 z1
 obtain ⟨a2, b2, e2, w2⟩ := h2
 simp only at a2 b2 e2 w2
 have c2 : colOf C A2 B2 key < C := Nat.mod_lt _ (by omega)
 have o2 := o_so A2 B2 key C a2 b2 hk g1 g2
 rw [show hsum A2 B2 key % C = colOf C A2 B2 key from rfl] at o2
 obtain ⟨Z2, z2⟩ : ∃ Z, Z = updR cs C k a b key n ⟨A2, B2, l2⟩ Z1.p Z1.d := ⟨_, rfl⟩
 have p2 : Z2.p ≤ cs.length := by rw [z2]; exact (o_nx hg (o_r7 w2 (show colOf C A2 B2 key < l2.length by omega)) p1 hc).1
 have x2 := o_rg cs l2 (colOf C A2 B2 key) n Z1.p Z1.d hg w2 (by omega) (by omega) hn p1 hc Z2 z2
 obtain ⟨a3, b3, e3, w3⟩ := h3
 simp only at a3 b3 e3 w3
 have c3 : colOf C A3 B3 key < C := Nat.mod_lt _ (by omega)
 have o3 := o_so A3 B3 key C a3 b3 hk g1 g2
 rw [show hsum A3 B3 key % C = colOf C A3 B3 key from rfl] at o3
 obtain ⟨Z3, z3⟩ : ∃ Z, Z = updR cs C k a b key n ⟨A3, B3, l3⟩ Z2.p Z2.d := ⟨_, rfl⟩
 have p3 : Z3.p ≤ cs.length := by rw [z3]; exact (o_nx hg (o_r7 w3 (show colOf C A3 B3 key < l3.length by omega)) p2 hc).1
 have x3 := o_rg cs l3 (colOf C A3 B3 key) n Z2.p Z2.d hg w3 (by omega) (by omega) hn p2 hc Z3 z3
 simp only [updM] at hU
 rw [← z0] at hU
 rw [← z1] at hU
 rw [← z2] at hU
 rw [← z3] at hU
 clear z0 p0 z1 p1 z2 p2 z3 p3
 have D0 : arrD k a b (l0.set (colOf C A0 B0 key) (Z0.y, Z0.t, Z0.f)) = [.ptr [.sl (nwP C (wdR k a b)) ((wordsP (wdR k a b) (encs k a b (l0.set (colOf C A0 B0 key) (Z0.y, Z0.t, Z0.f)))).map fun x : Nat => D.int .u64 x), .int .i64 C, .int .i64 (wdR k a b)] 0, .int .i64 k, .int .i64 a, .int .i64 b] := by simp [arrD, vecD, e0]
 have L0 : ((wordsP (wdR k a b) (encs k a b (l0.set (colOf C A0 B0 key) (Z0.y, Z0.t, Z0.f)))).map fun x : Nat => D.int .u64 x).length = nwP C (wdR k a b) := by simp [e0]
 have u0 : u64s (wordsP (wdR k a b) (encs k a b (l0.set (colOf C A0 B0 key) (Z0.y, Z0.t, Z0.f)))) = ((wordsP (wdR k a b) (encs k a b (l0.set (colOf C A0 B0 key) (Z0.y, Z0.t, Z0.f)))).map fun x : Nat => D.int .u64 x).map V.d := by simp [u64s]
 have D1 : arrD k a b (l1.set (colOf C A1 B1 key) (Z1.y, Z1.t, Z1.f)) = [.ptr [.sl (nwP C (wdR k a b)) ((wordsP (wdR k a b) (encs k a b (l1.set (colOf C A1 B1 key) (Z1.y, Z1.t, Z1.f)))).map fun x : Nat => D.int .u64 x), .int .i64 C, .int .i64 (wdR k a b)] 0, .int .i64 k, .int .i64 a, .int .i64 b] := by simp [arrD, vecD, e1]
 have L1 : ((wordsP (wdR k a b) (encs k a b (l1.set (colOf C A1 B1 key) (Z1.y, Z1.t, Z1.f)))).map fun x : Nat => D.int .u64 x).length = nwP C (wdR k a b) := by simp [e1]
 have u1 : u64s (wordsP (wdR k a b) (encs k a b (l1.set (colOf C A1 B1 key) (Z1.y, Z1.t, Z1.f)))) = ((wordsP (wdR k a b) (encs k a b (l1.set (colOf C A1 B1 key) (Z1.y, Z1.t, Z1.f)))).map fun x : Nat => D.int .u64 x).map V.d := by simp [u64s]
 have D2 : arrD k a b (l2.set (colOf C A2 B2 key) (Z2.y, Z2.t, Z2.f)) = [.ptr [.sl (nwP C (wdR k a b)) ((wordsP (wdR k a b) (encs k a b (l2.set (colOf C A2 B2 key) (Z2.y, Z2.t, Z2.f)))).map fun x : Nat => D.int .u64 x), .int .i64 C, .int .i64 (wdR k a b)] 0, .int .i64 k, .int .i64 a, .int .i64 b] := by simp [arrD, vecD, e2]
 have L2 : ((wordsP (wdR k a b) (encs k a b (l2.set (colOf C A2 B2 key) (Z2.y, Z2.t, Z2.f)))).map fun x : Nat => D.int .u64 x).length = nwP C (wdR k a b) := by simp [e2]
 have u2 : u64s (wordsP (wdR k a b) (encs k a b (l2.set (colOf C A2 B2 key) (Z2.y, Z2.t, Z2.f)))) = ((wordsP (wdR k a b) (encs k a b (l2.set (colOf C A2 B2 key) (Z2.y, Z2.t, Z2.f)))).map fun x : Nat => D.int .u64 x).map V.d := by simp [u64s]
 have D3 : arrD k a b (l3.set (colOf C A3 B3 key) (Z3.y, Z3.t, Z3.f)) = [.ptr [.sl (nwP C (wdR k a b)) ((wordsP (wdR k a b) (encs k a b (l3.set (colOf C A3 B3 key) (Z3.y, Z3.t, Z3.f)))).map fun x : Nat => D.int .u64 x), .int .i64 C, .int .i64 (wdR k a b)] 0, .int .i64 k, .int .i64 a, .int .i64 b] := by simp [arrD, vecD, e3]
 have L3 : ((wordsP (wdR k a b) (encs k a b (l3.set (colOf C A3 B3 key) (Z3.y, Z3.t, Z3.f)))).map fun x : Nat => D.int .u64 x).length = nwP C (wdR k a b) := by simp [e3]
 have u3 : u64s (wordsP (wdR k a b) (encs k a b (l3.set (colOf C A3 B3 key) (Z3.y, Z3.t, Z3.f)))) = ((wordsP (wdR k a b) (encs k a b (l3.set (colOf C A3 B3 key) (Z3.y, Z3.t, Z3.f)))).map fun x : Nat => D.int .u64 x).map V.d := by simp [u64s]
 refine Eqn.gen [0, 1] o_7q (by simp) (by simp) (by rfl) (by decide) (by simp) (by intro ob hob; simp at hob; rcases hob with rfl | rfl; (split <;> simp [skO, skD]); simp [tapeO]) ?_
 have q1 : ¬ (2305843009213693951 : Int) ≤ key := by unfold hP at hk; omega
 have q2 : ¬ 2305843009213693951 ≤ key := by unfold hP at hk; omega
 have q3 : ¬ (n : Int) < 0 := by omega
 have q4 : ¬ (1048576 : Int) < n := by omega
 have q5 : ¬ 1048576 < n := by omega
 have q6 : IntKind.i64.wrap ((T : Int) + n) = ((T + n : Nat) : Int) := by rw [w64 (by omega) (by omega)]; omega
 have q7 : ¬ (1099511627776 : Int) < (T : Int) + n := by omega
 have q8 : ¬ 1099511627776 < T + n := by omega
 have es : ∀ rs : List Rw, rs.length = 4 → (skO 4 C k a b rs (T + n)) = ⟨147, [.d (.int .i64 (4 : Nat)), .d (.int .i64 C), .d (.int .i64 k), .d (.int .i64 a), .d (.int .i64 b), .d (.sl 4 (rowsD k a b rs)), .d (.int .i64 (T + n : Nat))]⟩ := by intro rs h; simp [skO, skD, h]
 have eo : skO 4 C k a b [⟨A0, B0, l0⟩, ⟨A1, B1, l1⟩, ⟨A2, B2, l2⟩, ⟨A3, B3, l3⟩] T = ⟨147, [.d (.int .i64 (4 : Nat)), .d (.int .i64 C), .d (.int .i64 k), .d (.int .i64 a), .d (.int .i64 b), .d (.sl 4 [.int .u64 A0, .int .u64 B0, .ptr (arrD k a b l0) 0, .int .u64 A1, .int .u64 B1, .ptr (arrD k a b l1) 0, .int .u64 A2, .int .u64 B2, .ptr (arrD k a b l2) 0, .int .u64 A3, .int .u64 B3, .ptr (arrD k a b l3) 0]), .d (.int .i64 T)]⟩ := by simp [skO, skD, rowsD, rowD]
 rw [eo] at hcl ⊢
 simp only [o_7p, arrO, arrV, arrB, vecO, vecB, hD, List.length_set, e0, e1, e2, e3] at hcl o0 o1 o2 o3 x0 x1 x2 x3 ⊢
 generalize hl0 : l0.set (colOf C A0 B0 key) (Z0.y, Z0.t, Z0.f) = m0 at *
 generalize colOf C A0 B0 key = col0 at *
 generalize arrD k a b l0 = AD0 at *
 obtain ⟨E0, Y0, T0, F0, P0, G0⟩ := Z0
 simp only at x0 hU
 generalize hl1 : l1.set (colOf C A1 B1 key) (Z1.y, Z1.t, Z1.f) = m1 at *
 generalize colOf C A1 B1 key = col1 at *
 generalize arrD k a b l1 = AD1 at *
 obtain ⟨E1, Y1, T1, F1, P1, G1⟩ := Z1
 simp only at x1 hU
 generalize hl2 : l2.set (colOf C A2 B2 key) (Z2.y, Z2.t, Z2.f) = m2 at *
 generalize colOf C A2 B2 key = col2 at *
 generalize arrD k a b l2 = AD2 at *
 obtain ⟨E2, Y2, T2, F2, P2, G2⟩ := Z2
 simp only at x2 hU
 generalize hl3 : l3.set (colOf C A3 B3 key) (Z3.y, Z3.t, Z3.f) = m3 at *
 generalize colOf C A3 B3 key = col3 at *
 generalize arrD k a b l3 = AD3 at *
 obtain ⟨E3, Y3, T3, F3, P3, G3⟩ := Z3
 simp only at x3 hU
 generalize nwP C (wdR k a b) = NW at *
 refine A10 (fs q1 (fs q2 (fs q3 (fs q4 (fs q5 (fs q6 (fs q7 q8))))))) ?_; try with_reducible exact tt
 refine CallS.g [0] (hcl) (R0 ?_); try with_reducible exact tt
 refine AW.rounds 5 ?_
 refine A01 o0 ?_; try with_reducible exact tt
 by_cases E00 : E0 = 0
 ·simp only [E00, if_true, u0] at x0
  generalize ((wordsP (wdR k a b) (encs k a b m0)).map fun x : Nat => D.int .u64 x) = WD0 at *
  refine CallS.g [4, 5, 6, 1] (x0) (R0 ?_); try with_reducible exact tt
  refine A01 o1 ?_; try with_reducible exact tt
  by_cases E10 : E1 = 0
  ·simp only [E10, if_true, u1] at x1
   generalize ((wordsP (wdR k a b) (encs k a b m1)).map fun x : Nat => D.int .u64 x) = WD1 at *
   refine CallS.g [7, 8, 9, 1] (x1) (R0 ?_); try with_reducible exact tt
   refine A01 o2 ?_; try with_reducible exact tt
   by_cases E20 : E2 = 0
   ·simp only [E20, if_true, u2] at x2
    generalize ((wordsP (wdR k a b) (encs k a b m2)).map fun x : Nat => D.int .u64 x) = WD2 at *
    refine CallS.g [10, 11, 12, 1] (x2) (R0 ?_); try with_reducible exact tt
    refine A01 o3 ?_; try with_reducible exact tt
    by_cases E30 : E3 = 0
    ·simp only [E30, if_true, u3] at x3
     generalize ((wordsP (wdR k a b) (encs k a b m3)).map fun x : Nat => D.int .u64 x) = WD3 at *
     refine CallS.g [13, 14, 15, 1] (x3) (R0 ?_); try with_reducible exact tt
     simp only [updC, if_true, E00, E10, E20, E30] at hU
     subst hU
     simp only [if_true]
     rw [es _ rfl]
     simp only [rowsD, rowD, List.flatMap_cons, List.flatMap_nil, List.append_nil, List.cons_append, List.nil_append, D0, D1, D2, D3]
     have t0 : WD0.take NW = WD0 := List.take_of_length_le (by omega)
     have t1 : WD1.take NW = WD1 := List.take_of_length_le (by omega)
     have t2 : WD2.take NW = WD2 := List.take_of_length_le (by omega)
     have t3 : WD3.take NW = WD3 := List.take_of_length_le (by omega)
     generalize wdR k a b = w at *
     refine AW.freeze 6 1 ⟨129, WD0.map V.d⟩ WD0 (by simp) rfl ?_
     simp [frzH, t0]
     refine AW.freeze 5 1 ⟨223, [.d (.sl NW WD0), .d (.int .i64 C), .d (.int .i64 w)]⟩ [.sl NW WD0, .int .i64 C, .int .i64 w] (by rfl) rfl ?_
     simp [frzH]
     refine AW.freeze 4 1 ⟨154, [.d (.ptr [.sl NW WD0, .int .i64 C, .int .i64 w] 0), .d (.int .i64 k), .d (.int .i64 a), .d (.int .i64 b)]⟩ [.ptr [.sl NW WD0, .int .i64 C, .int .i64 w] 0, .int .i64 k, .int .i64 a, .int .i64 b] (by rfl) rfl ?_
     simp [frzH]
     refine AW.freeze 9 1 ⟨129, WD1.map V.d⟩ WD1 (by simp) rfl ?_
     simp [frzH, t1]
     refine AW.freeze 8 1 ⟨223, [.d (.sl NW WD1), .d (.int .i64 C), .d (.int .i64 w)]⟩ [.sl NW WD1, .int .i64 C, .int .i64 w] (by rfl) rfl ?_
     simp [frzH]
     refine AW.freeze 7 1 ⟨154, [.d (.ptr [.sl NW WD1, .int .i64 C, .int .i64 w] 0), .d (.int .i64 k), .d (.int .i64 a), .d (.int .i64 b)]⟩ [.ptr [.sl NW WD1, .int .i64 C, .int .i64 w] 0, .int .i64 k, .int .i64 a, .int .i64 b] (by rfl) rfl ?_
     simp [frzH]
     refine AW.freeze 12 1 ⟨129, WD2.map V.d⟩ WD2 (by simp) rfl ?_
     simp [frzH, t2]
     refine AW.freeze 11 1 ⟨223, [.d (.sl NW WD2), .d (.int .i64 C), .d (.int .i64 w)]⟩ [.sl NW WD2, .int .i64 C, .int .i64 w] (by rfl) rfl ?_
     simp [frzH]
     refine AW.freeze 10 1 ⟨154, [.d (.ptr [.sl NW WD2, .int .i64 C, .int .i64 w] 0), .d (.int .i64 k), .d (.int .i64 a), .d (.int .i64 b)]⟩ [.ptr [.sl NW WD2, .int .i64 C, .int .i64 w] 0, .int .i64 k, .int .i64 a, .int .i64 b] (by rfl) rfl ?_
     simp [frzH]
     refine AW.freeze 15 1 ⟨129, WD3.map V.d⟩ WD3 (by simp) rfl ?_
     simp [frzH, t3]
     refine AW.freeze 14 1 ⟨223, [.d (.sl NW WD3), .d (.int .i64 C), .d (.int .i64 w)]⟩ [.sl NW WD3, .int .i64 C, .int .i64 w] (by rfl) rfl ?_
     simp [frzH]
     refine AW.freeze 13 1 ⟨154, [.d (.ptr [.sl NW WD3, .int .i64 C, .int .i64 w] 0), .d (.int .i64 k), .d (.int .i64 a), .d (.int .i64 b)]⟩ [.ptr [.sl NW WD3, .int .i64 C, .int .i64 w] 0, .int .i64 k, .int .i64 a, .int .i64 b] (by rfl) rfl ?_
     simp [frzH]
     refine AW.freeze 3 3 ⟨150, [.int .u64 A0, .int .u64 B0, .ptr [.ptr [.sl NW WD0, .int .i64 C, .int .i64 w] 0, .int .i64 k, .int .i64 a, .int .i64 b] 0, .int .u64 A1, .int .u64 B1, .ptr [.ptr [.sl NW WD1, .int .i64 C, .int .i64 w] 0, .int .i64 k, .int .i64 a, .int .i64 b] 0, .int .u64 A2, .int .u64 B2, .ptr [.ptr [.sl NW WD2, .int .i64 C, .int .i64 w] 0, .int .i64 k, .int .i64 a, .int .i64 b] 0, .int .u64 A3, .int .u64 B3, .ptr [.ptr [.sl NW WD3, .int .i64 C, .int .i64 w] 0, .int .i64 k, .int .i64 a, .int .i64 b] 0].map V.d⟩ [.int .u64 A0, .int .u64 B0, .ptr [.ptr [.sl NW WD0, .int .i64 C, .int .i64 w] 0, .int .i64 k, .int .i64 a, .int .i64 b] 0, .int .u64 A1, .int .u64 B1, .ptr [.ptr [.sl NW WD1, .int .i64 C, .int .i64 w] 0, .int .i64 k, .int .i64 a, .int .i64 b] 0, .int .u64 A2, .int .u64 B2, .ptr [.ptr [.sl NW WD2, .int .i64 C, .int .i64 w] 0, .int .i64 k, .int .i64 a, .int .i64 b] 0, .int .u64 A3, .int .u64 B3, .ptr [.ptr [.sl NW WD3, .int .i64 C, .int .i64 w] 0, .int .i64 k, .int .i64 a, .int .i64 b] 0] (by rfl) rfl ?_
     simp [frzH]
     refine A10 q6 ?_; try with_reducible exact tt
    ·simp only [if_neg E30] at x3
     simp only [updC, if_true, if_neg E30, E00, E10, E20] at hU
     refine CallS.g [13, 14, 15, 1] (x3) (R0 ?_); try with_reducible exact tt
     subst hU
     simp only [if_neg E30]
     refine A10 E30 ?_; try with_reducible exact tt
   ·simp only [if_neg E20] at x2
    simp only [updC, if_true, if_neg E20, E00, E10] at hU
    refine CallS.g [10, 11, 12, 1] (x2) (R0 ?_); try with_reducible exact tt
    subst hU
    simp only [if_neg E20]
    refine A10 E20 ?_; try with_reducible exact tt
  ·simp only [if_neg E10] at x1
   simp only [updC, if_true, if_neg E10, E00] at hU
   refine CallS.g [7, 8, 9, 1] (x1) (R0 ?_); try with_reducible exact tt
   subst hU
   simp only [if_neg E10]
   refine A10 E10 ?_; try with_reducible exact tt
 ·simp only [if_neg E00] at x0
  simp only [updC, if_true, if_neg E00] at hU
  refine CallS.g [4, 5, 6, 1] (x0) (R0 ?_); try with_reducible exact tt
  subst hU
  simp only [if_neg E00]
  refine A10 E00 ?_; try with_reducible exact tt
end
end Go.Proofs.YtdklbnemfelpnaaGreatDoor.Am
namespace Go.Proofs.YtdklbnemfelpnaaGreatDoor.Am
section
open Go.RowKit
theorem o_vr {R C k a b T : Nat} (hg : GoodR k a b) (g1 : 1 ≤ C) (g2 : C ≤ 64) (rs : List Rw) (hR : rs.length = R) (h1 : 1 ≤ R) (h4 : R ≤ 4) (hr : ∀ r ∈ rs, GoodRow C k a b r) (cs : List Bool) (key n p : Nat) (d : Bool) (hk : key < hP) (hn : n ≤ 1048576) (hT : T + n ≤ 1099511627776) (hp : p ≤ cs.length) (hc : cs.length ≤ 4000000) (U : UR) (hU : U = updM cs C k a b key n rs p d) :
  Eqn Tryz.prog o_7o [.p 0 0, .p 1 0, .d (.int .u64 key), .d (.int .i64 n)] [skO R C k a b rs T, tapeO cs p d] (.d (.int .i64 U.e)) [if U.e = 0 then skO R C k a b U.rs (T + n) else skO R C k a b rs T, tapeO cs U.p U.d] := by
 subst hR
 match rs, h1, h4, hr, hU with
 | [⟨A0, B0, l0⟩], _, _, hr, hU =>
  have h0 := hr _ (List.mem_cons_self)
  have h := o_v0 (T := T) hg g1 g2 A0 B0 l0 h0 cs key n p d hk hn hT hp hc _ rfl
  obtain ⟨Z, hZ⟩ : ∃ Z, Z = updR cs C k a b key n ⟨A0, B0, l0⟩ p d := ⟨_, rfl⟩
  rw [show addRM cs k a b n (l0.getD (colOf C A0 B0 key) (0, 0, false)).1 (l0.getD (colOf C A0 B0 key) (0, 0, false)).2.1 (l0.getD (colOf C A0 B0 key) (0, 0, false)).2.2 p d = Z from hZ.symm] at h
  simp only [updM] at hU
  rw [← hZ] at hU
  subst hU
  unfold updC
  by_cases he : Z.e = 0
  ·rw [if_pos he] at h
   simp only [if_pos he, if_true]
   rw [he] at h
   exact h
  ·rw [if_neg he] at h
   simp only [if_neg he]
   exact h
 | [⟨A0, B0, l0⟩, ⟨A1, B1, l1⟩], _, _, hr, hU => exact o_vm hg g1 g2 A0 B0 A1 B1 l0 l1 (hr _ (by simp)) (hr _ (by simp)) cs key n p d hk hn hT hp hc U hU
 | [⟨A0, B0, l0⟩, ⟨A1, B1, l1⟩, ⟨A2, B2, l2⟩], _, _, hr, hU => exact o_vo hg g1 g2 A0 B0 A1 B1 A2 B2 l0 l1 l2 (hr _ (by simp)) (hr _ (by simp)) (hr _ (by simp)) cs key n p d hk hn hT hp hc U hU
 | [⟨A0, B0, l0⟩, ⟨A1, B1, l1⟩, ⟨A2, B2, l2⟩, ⟨A3, B3, l3⟩], _, _, hr, hU => exact o_vq hg g1 g2 A0 B0 A1 B1 A2 B2 A3 B3 l0 l1 l2 l3 (hr _ (by simp)) (hr _ (by simp)) (hr _ (by simp)) (hr _ (by simp)) cs key n p d hk hn hT hp hc U hU

theorem o_vs {R C k a b T : Nat} (rs : List Rw) : Eqn Tryz.prog o_6f [.p 0 0] [skO R C k a b rs T] (.d (.int .i64 T)) [skO R C k a b rs T] := by
 refine Eqn.gen [0] o_6h (by simp) (by simp) (by rfl) (by decide) (by simp) (by simp [skO, skD]) ?_
 simp only [o_6g, skO, skD, List.map_cons, List.map_nil]
 refine A00 ?_; try with_reducible exact tt

theorem o_vt (key : Nat) (n : Int) (h : key < 18446744073709551616) : Eqn Tryz.prog o_80 [.d (.agg [.int .u64 key, .int .i64 n])] [] (.d (.int .u64 (key % hP : Nat))) [] := by
 refine Eqn.pure o_82 Plain.ok ?_
 have e : (key : Int).tmod 2305843009213693951 = ((key % hP : Nat) : Int) := by rw [Int.tmod_eq_emod_of_nonneg (by omega)]; unfold hP; omega
 generalize key % hP = q at *
 simp only [o_81]
 refine A10 e ?_; try with_reducible exact tt
end
end Go.Proofs.YtdklbnemfelpnaaGreatDoor.Am
namespace Go.Proofs.YtdklbnemfelpnaaGreatDoor.Am
section
open Go.RowKit
theorem o_vu {I : Nat → Prop} {w : World} {α : Type} (f : α → List D) (g : α → List Value) (h : ∀ a, D.reps I w (f a) (g a)) : ∀ l : List α, D.reps I w (l.flatMap f) (l.map g).flatten
 | [] => by simp
 | a :: l => by
  rw [List.flatMap_cons, List.map_cons, List.flatten_cons]
  exact D.reps_append (h a) (o_vu f g h l)
theorem o_vv {W : World} {v : Value} {s : Nat} {α : Type} {l : List α} (f : α → List D) (g : α → List Value) (hg : ∀ a, ∀ u ∈ g a, u.oneCell' = true) (hr : ∀ a, D.reps (fun b => b < W.heap.size) W (f a) (g a)) (h : Cells W v s l.length (l.map g).flatten) : V.rep (memW W) (.d (.sl l.length (l.flatMap f))) v := by
 rw [V.rep_d]
 unfold D.rep
 obtain ⟨h1, p, cap, rfl, h2, h3, h4⟩ := h
 refine ⟨p, cap, rfl, h2, h3, (l.map g).flatten, fun u hu => ?_, o_vu f g hr l, ?_⟩
 ·obtain ⟨x, hx, hu⟩ := List.mem_flatten.1 hu
  obtain ⟨a, -, rfl⟩ := List.mem_map.1 hx
  exact hg a u hu
 ·rcases h4 with ⟨rfl, h5, h6⟩ | ⟨b, o, rfl, hb, hc⟩
  ·left
   have : l = [] := List.eq_nil_of_length_eq_zero h5
   subst this
   exact ⟨rfl, h6, rfl⟩
  ·exact .inr ⟨b, o, rfl, .inr hb, hc⟩
end
end Go.Proofs.YtdklbnemfelpnaaGreatDoor.Am
namespace Go.Proofs.YtdklbnemfelpnaaGreatDoor.Am
section
open Go.RowKit
theorem o_vw : ∀ {L : List Int}, (∀ a ∈ L, (Lit.int .u64 a).wf = true) → ∃ ws : List Nat, L = ws.map (fun n : Nat => (n : Int)) ∧ ∀ x ∈ ws, x < 18446744073709551616
 | [], _ => ⟨[], rfl, by simp⟩
 | a :: L, h => by
  obtain ⟨ws, rfl, hw⟩ := o_vw (L := L) fun b hb => h b (List.mem_cons_of_mem _ hb)
  have ha := h a (List.mem_cons_self)
  unfold Lit.wf at ha
  simp only [Bool.and_eq_true, decide_eq_true_eq] at ha
  have h0 : (0 : Int) ≤ a := ha.1
  have h1 : a ≤ 18446744073709551615 := ha.2
  refine ⟨a.toNat :: ws, by simp [Int.toNat_of_nonneg h0], fun x hx => ?_⟩
  rcases List.mem_cons.1 hx with rfl | hx
  ·omega
  ·exact hw x hx
theorem o_vx : ∀ {L : List (Int × Int)}, (∀ a ∈ L, (Lit.int .u64 a.1).wf = true ∧ (Lit.int .i64 a.2).wf = true) → ∃ us : List (Nat × Int), L = us.map (fun u => ((u.1 : Int), u.2)) ∧ ∀ u ∈ us, u.1 < 18446744073709551616
 | [], _ => ⟨[], rfl, by simp⟩
 | (a, b) :: L, h => by
  obtain ⟨us, rfl, hw⟩ := o_vx (L := L) fun b hb => h b (List.mem_cons_of_mem _ hb)
  have ha := (h (a, b) (List.mem_cons_self)).1
  unfold Lit.wf at ha
  simp only [Bool.and_eq_true, decide_eq_true_eq] at ha
  have h0 : (0 : Int) ≤ a := ha.1
  have h1 : a ≤ 18446744073709551615 := ha.2
  refine ⟨(a.toNat, b) :: us, by simp [Int.toNat_of_nonneg h0], fun x hx => ?_⟩
  rcases List.mem_cons.1 hx with rfl | hx
  ·simp only; omega
  ·exact hw x hx
theorem o_vy {W : World} {v : Value} {s n : Nat} {l : List Value} (h : Cells W v s n l) : v.oneCell' = true := by
 obtain ⟨_, p, cap, rfl, _⟩ := h; rfl
end
end Go.Proofs.YtdklbnemfelpnaaGreatDoor.Am
namespace Go.Proofs.YtdklbnemfelpnaaGreatDoor.Am
section
open Go.RowKit
theorem o_vz {cs : List Bool} {C k a b key n : Nat} (hg : GoodR k a b) (hC : 1 ≤ C) (hc : cs.length ≤ 4000000) : ∀ (rs : List Rw) (p : Nat) (d : Bool), (∀ r ∈ rs, GoodRow C k a b r) → p ≤ cs.length →
  (updM cs C k a b key n rs p d).p ≤ cs.length ∧ ((updM cs C k a b key n rs p d).e = 0 → (updM cs C k a b key n rs p d).rs.length = rs.length ∧ (∀ r ∈ (updM cs C k a b key n rs p d).rs, GoodRow C k a b r) ∧ (updM cs C k a b key n rs p d).rs.map (fun r => (r.a, r.b)) = rs.map fun r => (r.a, r.b))
 | [], p, d, _, hp => ⟨hp, fun _ => ⟨rfl, by simp [updM], rfl⟩⟩
 | r :: rs, p, d, h, hp => by
  obtain ⟨h1, h2, h3, h4⟩ := h r (by simp)
  have hcol : colOf C r.a r.b key < r.l.length := by rw [h3]; exact Nat.mod_lt _ (by omega)
  have hw := o_nx (cs := cs) (n := n) (p := p) (d := d) hg (o_r7 h4 hcol) hp hc
  have hu : addRM cs k a b n (r.l.getD (colOf C r.a r.b key) (0, 0, false)).1 (r.l.getD (colOf C r.a r.b key) (0, 0, false)).2.1 (r.l.getD (colOf C r.a r.b key) (0, 0, false)).2.2 p d = updR cs C k a b key n r p d := rfl
  rw [hu] at hw
  have ih := o_vz (key := key) (n := n) hg hC hc rs (updR cs C k a b key n r p d).p (updR cs C k a b key n r p d).d (fun x hx => h x (by simp [hx])) hw.1
  rw [updM]
  generalize updM cs C k a b key n rs (updR cs C k a b key n r p d).p (updR cs C k a b key n r p d).d = U at *
  generalize updR cs C k a b key n r p d = Z at *
  unfold updC
  by_cases he : Z.e = 0
  ·rw [if_pos he]
   refine ⟨ih.1, fun h0 => ?_⟩
   obtain ⟨i1, i2, i3⟩ := ih.2 h0
   refine ⟨by simp [i1], fun x hx => ?_, by simp [i3]⟩
   rcases List.mem_cons.1 hx with rfl | hx
   ·exact ⟨h1, h2, by simpa using h3, o_rd h4 _ (hw.2 he)⟩
   ·exact i2 x hx
  ·rw [if_neg he]
   exact ⟨hw.1, fun h0 => absurd h0 he⟩

structure BS where
 rs : List Rw
 T : Nat
 p : Nat
 d : Bool
def bN (z : Int) : Nat := (bits BinOp.and IntKind.i64 z 7).toNat
theorem o_w0 (z : Int) : bits BinOp.and IntKind.i64 z 7 = (bN z : Nat) ∧ bN z ≤ 7 := by
 obtain ⟨n, b1, b2, -⟩ := o_nc z 7 (by omega)
 replace b1 : bits BinOp.and IntKind.i64 z 7 = n := b1
 unfold bN
 rw [b1]; simp; omega
def bstep (cs : List Bool) (C k a b : Nat) (s : BS) (u : Nat × Int) : BS :=
 if (updM cs C k a b (u.1 % hP) (bN u.2) s.rs s.p s.d).e = 0 then ⟨(updM cs C k a b (u.1 % hP) (bN u.2) s.rs s.p s.d).rs, s.T + bN u.2, (updM cs C k a b (u.1 % hP) (bN u.2) s.rs s.p s.d).p, (updM cs C k a b (u.1 % hP) (bN u.2) s.rs s.p s.d).d⟩
 else ⟨s.rs, s.T, (updM cs C k a b (u.1 % hP) (bN u.2) s.rs s.p s.d).p, (updM cs C k a b (u.1 % hP) (bN u.2) s.rs s.p s.d).d⟩
def bldM (cs : List Bool) (C k a b : Nat) (us : List (Nat × Int)) (rs : List Rw) (i : Nat) : BS := (us.take i).foldl (bstep cs C k a b) ⟨rs, 0, 0, false⟩
theorem o_w1 {cs : List Bool} {C k a b : Nat} {us : List (Nat × Int)} {rs : List Rw} {i : Nat} (h : i < us.length) : bldM cs C k a b us rs (i + 1) = bstep cs C k a b (bldM cs C k a b us rs i) us[i] := by
 unfold bldM; rw [o_ss _ _ h, List.foldl_append]; rfl
def BGood (cs : List Bool) (C k a b : Nat) (rs : List Rw) (i : Nat) (s : BS) : Prop := s.rs.length = rs.length ∧ (∀ r ∈ s.rs, GoodRow C k a b r) ∧ (s.rs.map fun r => (r.a, r.b)) = (rs.map fun r => (r.a, r.b)) ∧ s.T ≤ 7 * i ∧ s.p ≤ cs.length
theorem o_w2 {cs : List Bool} {C k a b : Nat} {rs : List Rw} {i : Nat} {s : BS} (hg : GoodR k a b) (hC : 1 ≤ C) (hc : cs.length ≤ 4000000) (h : BGood cs C k a b rs i s) (u : Nat × Int) : BGood cs C k a b rs (i + 1) (bstep cs C k a b s u) := by
 obtain ⟨h1, h2, h3, h4, h5⟩ := h
 have hn := (o_w0 u.2).2
 have hu := o_vz (key := u.1 % hP) (n := bN u.2) hg hC hc s.rs s.p s.d h2 h5
 unfold bstep
 generalize updM cs C k a b (u.1 % hP) (bN u.2) s.rs s.p s.d = U at *
 by_cases he : U.e = 0
 ·rw [if_pos he]
  obtain ⟨i1, i2, i3⟩ := hu.2 he
  exact ⟨i1.trans h1, i2, i3.trans h3, by simp only; omega, hu.1⟩
 ·rw [if_neg he]
  exact ⟨h1, h2, h3, by simp only; omega, hu.1⟩
theorem o_w3 {cs : List Bool} {C k a b : Nat} {us : List (Nat × Int)} {rs : List Rw} (hg : GoodR k a b) (hC : 1 ≤ C) (hc : cs.length ≤ 4000000) (hr : ∀ r ∈ rs, GoodRow C k a b r) : ∀ i, i ≤ us.length → BGood cs C k a b rs i (bldM cs C k a b us rs i)
 | 0, _ => ⟨rfl, hr, rfl, by simp [bldM], Nat.zero_le _⟩
 | i + 1, h => by rw [o_w1 h]; exact o_w2 hg hC hc (o_w3 hg hC hc hr i (by omega)) _
theorem o_w4 {C k a b : Nat} (hg : GoodR k a b) (x : Nat × Nat) (h : x.1 < hP ∧ x.2 < hP) : GoodRow C k a b (newRow C x) := ⟨h.1, h.2, by simp [newRow], o_rc hg C⟩

set_option maxHeartbeats 2000000 in
theorem o_w5 (r c k a b : Int) (ws : List Nat) (us : List (Nat × Int)) (cs : List Bool) (hws : ws.length ≤ 9223372036854775807) (hus : us.length ≤ 9223372036854775807) (hkey : ∀ u ∈ us, u.1 < 18446744073709551616) (hc : cs.length ≤ 4000000) {R C K A B : Nat} (hgp : GoodP R C K A B) (hR0 : (R : Int) = 1 + bits BinOp.and IntKind.i64 r 3) (hpar : Eqn Tryz.prog o_7u [.d (drD r c k a b ws)] [] (.d (cpD R C K A B)) []) (S : BS) (hS : S = bldM cs C K A B us ((drawH ws R).map (newRow C)) (min 12 us.length)) :
  Eqn Tryz.prog o_5r [.d (drD r c k a b ws), .d (.sl us.length (updD us)), .p 0 0] [tapeO cs 0 false] (.p 1 0) [tapeO cs S.p S.d, skO R C K A B S.rs S.T] := by
 refine Eqn.gen [0, 3] o_5t (by simp) (by simp) (by rfl) (by decide) (by simp) (by simp [skO, skD, tapeO]) ?_
 have hhs := o_vk r c k a b ws hws R hR0 hgp.1 hgp.2.1
 have hlt := o_vi ws hgp.2.1
 have hlen : (drawH ws R).length = R := by simp [drawH]
 have hwith := o_su hgp (drawH ws R) hlen hlt
 obtain ⟨hr1, hr4, hC1, hC64, hg⟩ := hgp
 have hul : (updD us).length = us.length * 2 := o_sp (fun x => by simp) us
 have hug : ∀ i (h : i < us.length), ((updD us).drop (i * 2)).take 2 = [.int .u64 us[i].1, .int .i64 us[i].2] := o_sr (f := fun u : Nat × Int => [D.int .u64 u.1, D.int .i64 u.2]) (fun x => by simp) us
 have hgd : ∀ r ∈ (drawH ws R).map (newRow C), GoodRow C K A B r := by
  intro x hx
  obtain ⟨y, hy, rfl⟩ := List.mem_map.1 hx
  exact o_w4 hg y (hlt y hy)
 have hl0 : ((drawH ws R).map (newRow C)).length = R := by simp [hlen]
 generalize (drawH ws R).map (newRow C) = rs0 at *
 have hbg := fun i hi => o_w3 (us := us) hg hC1 hc hgd i hi
 have hhl : (hashesD (drawH ws R)).length = R * 2 := by
  have := o_sp (f := fun h : Nat × Nat => [D.int .u64 h.1, D.int .u64 h.2]) (n := 2) (fun x => by simp) (drawH ws R)
  rw [hlen] at this; exact this
 generalize hashesD (drawH ws R) = HD at *
 have hht : HD.take (R * 2) = HD := List.take_of_length_le (by omega)
 simp only [o_5s, drD, cpD, skO, skD, List.map_cons, List.map_nil, hl0] at hpar hhs hwith ⊢
 rw [← hht] at hwith
 generalize hWD : (ws.map fun x : Nat => D.int .u64 x) = WD at *
 generalize hUD : updD us = UD at *
 refine A01 hpar ?_; try with_reducible exact tt
 refine CallS.g [] (hhs) (R0 ?_); try with_reducible exact tt
 refine CallS.gf 2 2 ⟨131, HD.map V.d⟩ HD [] (hwith) (R0 ?_); try with_reducible exact tt
 refine A00 ?_; try with_reducible exact tt
 refine AW.loopT (α := Nat) 4 (fun i => [(9, .d (.int .i64 (i : Nat)))]) (fun i => [(0, tapeO cs (bldM cs C K A B us rs0 i).p (bldM cs C K A B us rs0 i).d), (3, ⟨147, [.d (.int .i64 R), .d (.int .i64 C), .d (.int .i64 K), .d (.int .i64 A), .d (.int .i64 B), .d (.sl R (rowsD K A B (bldM cs C K A B us rs0 i).rs)), .d (.int .i64 (bldM cs C K A B us rs0 i).T)]⟩)]) (fun i => i ≤ us.length ∧ i ≤ 12) (fun i => us.length - i) 0 ?_ ?_ ⟨Nat.zero_le _, by omega⟩ ?_ ?_ ?_
 ·simp
 ·simp
 ·simp
 ·simp [bldM]
 rintro i ⟨hi, hi12⟩
 simp
 by_cases h30 : i < us.length ∧ i < 12
 ·obtain ⟨h1, h2⟩ := h30
  have h1' : (i : Int) < us.length := by omega
  have h2' : (i : Int) < 12 := by omega
  have hug1 := hug i h1
  have hub : i * 2 + 2 ≤ us.length * 2 := by omega
  have hky := hkey _ (List.getElem_mem h1)
  have hnx := o_w1 (cs := cs) (C := C) (k := K) (a := A) (b := B) (rs := rs0) h1
  obtain ⟨g1, g2, g3, g4, g5⟩ := hbg i (by omega)
  have huk := o_vt us[i].1 us[i].2 hky
  obtain ⟨bn1, bn2⟩ := o_w0 us[i].2
  have hup := o_vr (R := R) (T := (bldM cs C K A B us rs0 i).T) hg hC1 hC64 (bldM cs C K A B us rs0 i).rs (g1.trans hl0) hr1 hr4 g2 cs (us[i].1 % hP) (bN us[i].2) (bldM cs C K A B us rs0 i).p (bldM cs C K A B us rs0 i).d (Nat.mod_lt _ (by decide)) (by omega) (by omega) g5 hc _ rfl
  have hul' := o_vz (key := us[i].1 % hP) (n := bN us[i].2) hg hC1 hc (bldM cs C K A B us rs0 i).rs (bldM cs C K A B us rs0 i).p (bldM cs C K A B us rs0 i).d g2 g5
  unfold bstep at hnx
  have ew : IntKind.i64.wrap ((i : Int) + 1) = ((i + 1 : Nat) : Int) := by rw [w64 (by omega) (by omega)]; omega
  replace g1 := g1.trans hl0
  clear g2 g3 g4 g5 hbg hgd
  generalize bldM cs C K A B us rs0 i = B0 at *
  generalize us[i].1 % hP = key at *
  generalize hbn : bN us[i].2 = n at *
  generalize updM cs C K A B key n B0.rs B0.p B0.d = U at *
  generalize us[i] = u at *
  obtain ⟨k1, n0⟩ := u
  obtain ⟨hu1, hu2, hu3, hu4⟩ := seg2 hug1
  simp only at hug1 hu1 hu2 hu3 hu4 huk bn1 hbn
  by_cases hue : U.e = 0
  ·rw [if_pos hue] at hnx
   obtain ⟨ul, -, -⟩ := hul'.2 hue
   simp only [if_pos hue, skO, skD, List.map_cons, List.map_nil, g1, ul.trans g1] at hup
   refine A11 (fs h1 (fs h1' (fs h2 (fs h2' (fs hug1 (fs hu1 (fs hu2 (fs hu3 (fs hu4 (fs hub (fs hul bn1))))))))))) huk ?_; try with_reducible exact tt
   refine CallS.g [3, 0] (hup) (R1 (fs hug1 (fs hub hul)) ?_); try with_reducible exact tt
   refine A10 ew ?_; try with_reducible exact tt
   exact ⟨i + 1, ⟨by omega, by omega⟩, by omega, Sub1.int (by omega), Subs.of (by simp [hnx]), Subs.of (by simp [hnx])⟩
  ·rw [if_neg hue] at hnx
   simp only [if_neg hue, skO, skD, List.map_cons, List.map_nil, g1] at hup
   refine A11 (fs h1 (fs h1' (fs h2 (fs h2' (fs hug1 (fs hu1 (fs hu2 (fs hu3 (fs hu4 (fs hub (fs hul bn1))))))))))) huk ?_; try with_reducible exact tt
   refine CallS.g [3, 0] (hup) (R1 (fs hug1 (fs hub hul)) ?_); try with_reducible exact tt
   refine A10 ew ?_; try with_reducible exact tt
   exact ⟨i + 1, ⟨by omega, by omega⟩, by omega, Sub1.int (by omega), Subs.of (by simp [hnx]), Subs.of (by simp [hnx])⟩
 ·have hz : ¬ ((i : Int) < us.length ∧ (i : Int) < 12) := by omega
  have hmi : min 12 us.length = i := by omega
  rw [hmi] at hS
  rw [← hS]
  have hSl : S.rs.length = R := by rw [hS]; exact (hbg i (by omega)).1.trans hl0
  rw [hSl]
  by_cases h1 : (i : Int) < us.length
  ·have h2 : ¬ (i : Int) < 12 := fun h => hz ⟨h1, h⟩
   have h1n : i < us.length := by omega
   have h2n : ¬ i < 12 := by omega
   refine A10 (fs h1 (fs h2 (fs h1n h2n))) ?_; try with_reducible exact tt
  ·have h1n : ¬ i < us.length := by omega
   refine A10 (fs h1 h1n) ?_; try with_reducible exact tt
end
end Go.Proofs.YtdklbnemfelpnaaGreatDoor.Am
namespace Go.Proofs.YtdklbnemfelpnaaGreatDoor.Am
section
open Go.RowKit
theorem o_w6 {k a b : Nat} (l m : List ST) (hg : GoodR k a b) (h1 : wells k a b l) (h2 : wells k a b m) (hl : 1 ≤ l.length) (hln : l.length ≤ 256) (hm : 1 ≤ m.length) (hmn : m.length ≤ 256) :
  Eqn Tryz.prog o_90 [.d (.ptr (arrD k a b l) 0), .d (.ptr (arrD k a b m) 0)] [] (.d (.bool (decide (l = m)))) [] := by
 refine Eqn.pure o_92 Plain.ok ?_
 have hs := o_ri (wdR k a b) (wdR k a b) (encs k a b l) (encs k a b m) (by simpa using (o_rn hg hl hln).2) (by simpa using (o_rn hg hm hmn).2)
 have he : (decide ((encs k a b l).length = (encs k a b m).length ∧ wdR k a b = wdR k a b ∧ wordsP (wdR k a b) (encs k a b l) = wordsP (wdR k a b) (encs k a b m))) = decide (l = m) := by
  rw [decide_eq_decide, ← o_rm hg h1 h2]; simp
 rw [he] at hs
 simp only [o_91, arrD, o_r3] at hs ⊢
 generalize decide (l = m) = eq at *
 generalize vecD (wdR k a b) (encs k a b m) = VM at *
 generalize vecD (wdR k a b) (encs k a b l) = VL at *
 refine A01 hs ?_; try with_reducible exact tt

theorem o_w7 (ws vs : List (Nat × Nat)) (hn : ws.length ≤ 4000) (hm : vs.length ≤ 4000) : Eqn Tryz.prog o_br [.d (.sl ws.length (hashesD ws)), .d (.sl vs.length (hashesD vs))] [] (.d (.bool (decide (ws = vs)))) [] := by
 refine Eqn.pure o_bt Plain.ok ?_
 simp only [o_bs]
 by_cases hl : ws.length = vs.length
 ·have hlp : (ws.length : Int) = vs.length := by omega
  refine A10 hlp ?_; try with_reducible exact tt
  refine AW.loopT (α := Nat) 0 (fun s => [(13, .d (.int .i64 (s : Int)))]) (fun s => []) (fun s => s ≤ ws.length ∧ ws.take s = vs.take s) (fun s => ws.length - s) 0 ?_ ?_ ⟨Nat.zero_le _, by simp⟩ ?_ ?_ ?_
  ·simp
  ·simp
  ·simp
  ·simp
  rintro i ⟨hi, he⟩
  simp
  by_cases hi' : i < ws.length
  ·have h1 : (i : Int) < ws.length := by omega
   have h1v : (i : Int) < vs.length := by omega
   have hiv : i < vs.length := by omega
   have ew : IntKind.i64.wrap ((i : Int) + 1) = ((i + 1 : Nat) : Int) := by rw [w64 (by omega) (by omega)]; omega
   have g1 := o_sv ws i hi'
   have g2 := o_sv vs i hiv
   have b1 : i * 2 + 2 ≤ ws.length * 2 := by omega
   have b2 : i * 2 + 2 ≤ vs.length * 2 := by omega
   have l1 := o_sw ws
   have l2 := o_sw vs
   by_cases heq : ws[i] = vs[i]
   ·rw [← heq] at g2
    generalize hashesD ws = WD at *
    generalize hashesD vs = VD at *
    refine A10 (fs hi' (fs h1 (fs h1v (fs hiv (fs hlp (fs g1 (fs g2 (fs b1 (fs b2 (fs l1 (fs l2 ew))))))))))) ?_; try with_reducible exact tt
    refine ⟨i + 1, ⟨by omega, ?_⟩, by omega, by simp⟩
    rw [List.take_add_one, List.take_add_one, he, List.getElem?_eq_getElem hi', List.getElem?_eq_getElem hiv, heq]
   ·have hne : ¬ ((ws[i].1 : Int) = vs[i].1 ∧ (ws[i].2 : Int) = vs[i].2) := fun h => heq (Prod.ext (by omega) (by omega))
    have hne2 : ((ws[i].1 : Int) = vs[i].1) → ¬ ((ws[i].2 : Int) = vs[i].2) := fun h k => hne ⟨h, k⟩
    have hfin : decide (ws = vs) = false := by
     rw [decide_eq_false_iff_not]
     rintro rfl
     exact heq rfl
    rw [hfin]
    generalize hashesD ws = WD at *
    generalize hashesD vs = VD at *
    generalize ws[i].1 = x1 at *
    generalize ws[i].2 = x2 at *
    generalize vs[i].1 = y1 at *
    generalize vs[i].2 = y2 at *
    by_cases hx : (x1 : Int) = y1
    ·have hy := hne2 hx
     have hx' : x1 = y1 := by omega
     have hy' : ¬ x2 = y2 := by omega
     subst hx'
     refine A10 (fs hi' (fs h1 (fs h1v (fs hiv (fs hlp (fs g1 (fs g2 (fs b1 (fs b2 (fs l1 (fs l2 (fs hy hy')))))))))))) ?_; try with_reducible exact tt
    ·have hx' : ¬ x1 = y1 := by omega
     refine A10 (fs hi' (fs h1 (fs h1v (fs hiv (fs hlp (fs g1 (fs g2 (fs b1 (fs b2 (fs l1 (fs l2 (fs hx hx')))))))))))) ?_; try with_reducible exact tt
  ·have hi2 : i = ws.length := by omega
   subst hi2
   rw [List.take_length, hl, List.take_length] at he
   subst he
   refine A00 ?_; try with_reducible exact tt
 ·have hlp : ¬ (ws.length : Int) = vs.length := by omega
  have hfin : decide (ws = vs) = false := by
   rw [decide_eq_false_iff_not]
   rintro rfl
   exact hl rfl
  rw [hfin]
  refine A10 (fs hlp hl) ?_; try with_reducible exact tt
end
end Go.Proofs.YtdklbnemfelpnaaGreatDoor.Am
namespace Go.Proofs.YtdklbnemfelpnaaGreatDoor.Am
section
open Go.RowKit
end
end Go.Proofs.YtdklbnemfelpnaaGreatDoor.Am
namespace Go.Proofs.YtdklbnemfelpnaaGreatDoor.Am
section
open Go.RowKit
def hsOf (rs : List Rw) : List (Nat × Nat) := rs.map fun r => (r.a, r.b)
theorem o_w8 {R C k a b T V : Nat} (rs ms : List Rw) (h0 : 1 ≤ rs.length) (hn : rs.length ≤ 4) (m0 : 1 ≤ ms.length) (mn : ms.length ≤ 4) :
  Eqn Tryz.prog o_93 [.p 0 0, .p 1 0] [skO R C k a b rs T, skO R C k a b ms V] (.d (.bool (decide (rs.map (fun r => (r.a, r.b)) = ms.map fun r => (r.a, r.b))))) [skO R C k a b rs T, skO R C k a b ms V] := by
 refine Eqn.gen [0, 1] o_95 (by simp) (by simp) (by rfl) (by decide) (by simp) (by simp [skO, skD]) ?_
 have h1 := o_vg (R := R) (C := C) (k := k) (a := a) (b := b) (T := T) rs h0 hn
 have h2 := o_vg (R := R) (C := C) (k := k) (a := a) (b := b) (T := V) ms m0 mn
 have he := o_w7 (rs.map fun r => (r.a, r.b)) (ms.map fun r => (r.a, r.b)) (by simp; omega) (by simp; omega)
 have l1 := o_sw (rs.map fun r => (r.a, r.b))
 have l2 := o_sw (ms.map fun r => (r.a, r.b))
 have t1 : (hashesD (rs.map fun r => (r.a, r.b))).take (rs.length * 2) = hashesD (rs.map fun r => (r.a, r.b)) := List.take_of_length_le (by rw [l1]; simp)
 have t2 : (hashesD (ms.map fun r => (r.a, r.b))).take (ms.length * 2) = hashesD (ms.map fun r => (r.a, r.b)) := List.take_of_length_le (by rw [l2]; simp)
 simp only [o_94, skO, skD, List.map_cons, List.map_nil, List.length_map] at h1 h2 he ⊢
 generalize decide (rs.map (fun r => (r.a, r.b)) = ms.map fun r => (r.a, r.b)) = eq at *
 generalize hashesD (rs.map fun r => (r.a, r.b)) = H1 at *
 generalize hashesD (ms.map fun r => (r.a, r.b)) = H2 at *
 generalize rowsD k a b rs = R1 at *
 generalize rowsD k a b ms = R2 at *
 rw [← t1, ← t2] at he
 refine A00 ?_; try with_reducible exact tt
 refine CallS.g [0] (h1) (R0 ?_); try with_reducible exact tt
 refine CallS.g [1] (h2) (R0 ?_); try with_reducible exact tt
 refine CallS.ro [(2, 2, H1), (3, 2, H2)] (he) (R0 ?_) (hok := by first | (simp [frzOK, frzH, t1, t2, o_ro]; done) | (simp [frzOK, frzH, t1, t2, o_ro]; rfl)); try with_reducible exact tt
theorem o_w9 {k a b : Nat} (A B A' B' : Nat) (l m : List ST) (hg : GoodR k a b) (h1 : wells k a b l) (h2 : wells k a b m) (hl : 1 ≤ l.length) (hln : l.length ≤ 256) (hm : 1 ≤ m.length) (hmn : m.length ≤ 256) :
  Eqn Tryz.prog o_8x [.d (.agg [.int .u64 A, .int .u64 B, .ptr (arrD k a b l) 0]), .d (.agg [.int .u64 A', .int .u64 B', .ptr (arrD k a b m) 0])] [] (.d (.bool (decide (l = m)))) [] := by
 refine Eqn.pure o_8z Plain.ok ?_
 have hs := o_w6 l m hg h1 h2 hl hln hm hmn
 simp only [o_8y]
 generalize decide (l = m) = eq at *
 generalize arrD k a b l = AL at *
 generalize arrD k a b m = AM at *
 refine A01 hs ?_; try with_reducible exact tt
theorem o_wa {C k a b : Nat} (rs ms : List Rw) (hg : GoodR k a b) (hC : 1 ≤ C) (hC2 : C ≤ 64) (hr : ∀ r ∈ rs, GoodRow C k a b r) (hm : ∀ r ∈ ms, GoodRow C k a b r) (hn : rs.length ≤ 4) (hl : rs.length = ms.length) :
  Eqn Tryz.prog o_96 [.d (.sl rs.length (rowsD k a b rs)), .d (.sl ms.length (rowsD k a b ms)), .fn (.func o_8x) []] [] (.d (.bool (decide (rs.map Rw.l = ms.map Rw.l)))) [] := by
 refine Eqn.pure o_98 Plain.ok ?_
 have hlp : (rs.length : Int) = ms.length := by omega
 have hg1 := o_vf k a b rs
 have hg2 := o_vf k a b ms
 have l1 := o_ve k a b rs
 have l2 := o_ve k a b ms
 simp only [o_97]
 generalize rowsD k a b rs = RD at *
 generalize rowsD k a b ms = MD at *
 refine A10 (fs hlp hl) ?_; try with_reducible exact tt
 refine AW.loopT (α := Nat) 0 (fun s => [(17, .d (.int .i64 (s : Int)))]) (fun s => []) (fun s => s ≤ rs.length ∧ (rs.map Rw.l).take s = (ms.map Rw.l).take s) (fun s => rs.length - s) 0 ?_ ?_ ⟨Nat.zero_le _, by simp⟩ ?_ ?_ ?_
 ·simp
 ·simp
 ·simp
 ·simp
 rintro i ⟨hi, he⟩
 simp
 by_cases hi' : i < rs.length
 ·have p1 : (i : Int) < rs.length := by omega
  have pp2 : (i : Int) < ms.length := by omega
  have hiv : i < ms.length := by omega
  have ew : IntKind.i64.wrap ((i : Int) + 1) = ((i + 1 : Nat) : Int) := by rw [w64 (by omega) (by omega)]; omega
  have g1 := hg1 i hi'
  have g2 := hg2 i hiv
  have b1 : i * 3 + 3 ≤ rs.length * 3 := by omega
  have b2 : i * 3 + 3 ≤ ms.length * 3 := by omega
  obtain ⟨-, -, c1, w1⟩ := hr rs[i] (List.getElem_mem _)
  obtain ⟨-, -, c2, w2⟩ := hm ms[i] (List.getElem_mem _)
  have hsc := o_w9 rs[i].a rs[i].b ms[i].a ms[i].b rs[i].l ms[i].l hg w1 w2 (by omega) (by omega) (by omega) (by omega)
  have hnx : rs[i].l = ms[i].l → (rs.map Rw.l).take (i + 1) = (ms.map Rw.l).take (i + 1) := fun h => by
   rw [List.take_add_one, List.take_add_one, he, List.getElem?_map, List.getElem?_map, List.getElem?_eq_getElem hi', List.getElem?_eq_getElem hiv, Option.map_some, Option.map_some, h]
  have hno : ¬ rs[i].l = ms[i].l → decide (rs.map Rw.l = ms.map Rw.l) = false := fun h => by
   rw [decide_eq_false_iff_not]
   intro h2
   have := congrArg (fun l => l[i]?) h2
   simp only [List.getElem?_map, List.getElem?_eq_getElem hi', List.getElem?_eq_getElem hiv, Option.map_some, Option.some.injEq] at this
   exact h this
  by_cases heq : rs[i].l = ms[i].l
  ·rw [decide_eq_true heq] at hsc
   replace hnx := hnx heq
   clear hno
   generalize arrD k a b rs[i].l = AL at *
   generalize arrD k a b ms[i].l = AM at *
   refine A10 (fs hi' (fs p1 (fs pp2 (fs hiv (fs g1 (fs g2 (fs b1 (fs b2 (fs l1 l2))))))))) ?_; try with_reducible exact tt
   refine CallS.pu (hsc) (R1 ew ?_); try with_reducible exact tt
   refine A10 ew ?_; try with_reducible exact tt
   exact ⟨i + 1, ⟨by omega, hnx⟩, by omega, Sub1.int (by omega)⟩
  ·rw [decide_eq_false heq] at hsc
   rw [hno heq]
   generalize arrD k a b rs[i].l = AL at *
   generalize arrD k a b ms[i].l = AM at *
   refine A10 (fs hi' (fs p1 (fs pp2 (fs hiv (fs g1 (fs g2 (fs b1 (fs b2 (fs l1 l2))))))))) ?_; try with_reducible exact tt
   refine CallS.pu (hsc) (R0 ?_); try with_reducible exact tt
   refine A00 ?_; try with_reducible exact tt
 ·have hi2 : i = rs.length := by omega
  subst hi2
  rw [List.take_of_length_le (by simp), List.take_of_length_le (by simp; omega)] at he
  rw [decide_eq_true he]
  refine A10 (fs hlp hl) ?_; try with_reducible exact tt
theorem o_wb : ∀ {rs ms : List Rw}, rs.map (fun r => (r.a, r.b)) = ms.map (fun r => (r.a, r.b)) → rs.map Rw.l = ms.map Rw.l → rs = ms
 | [], [], _, _ => rfl
 | [], m :: ms, h, _ => by simp at h
 | r :: rs, [], h, _ => by simp at h
 | ⟨a, b, l⟩ :: rs, ⟨c, d, m⟩ :: ms, h, g => by
  simp only [List.map_cons, List.cons.injEq, Prod.mk.injEq] at h g
  obtain ⟨⟨rfl, rfl⟩, h⟩ := h
  obtain ⟨rfl, g⟩ := g
  rw [o_wb h g]
instance : DecidableEq Rw := fun x y => decidable_of_iff (x.a = y.a ∧ x.b = y.b ∧ x.l = y.l) (by cases x; cases y; simp)
theorem o_wc {R C k a b T V : Nat} (rs ms : List Rw) (hg : GoodR k a b) (hC : 1 ≤ C) (hC2 : C ≤ 64) (hr : ∀ r ∈ rs, GoodRow C k a b r) (hm : ∀ r ∈ ms, GoodRow C k a b r) (h1 : 1 ≤ rs.length) (hn : rs.length ≤ 4) (hl : rs.length = ms.length) :
  Eqn Tryz.prog o_6c [.p 0 0, .p 1 0] [skO R C k a b rs T, skO R C k a b ms V] (.d (.bool (decide (rs = ms ∧ T = V)))) [skO R C k a b rs T, skO R C k a b ms V] := by
 refine Eqn.gen [0, 1] o_6e (by simp) (by simp) (by rfl) (by decide) (by simp) (by simp [skO, skD]) ?_
 have ha := o_w8 (R := R) (C := C) (k := k) (a := a) (b := b) (T := T) (V := V) rs ms h1 hn (by omega) (by omega)
 have he := o_wa rs ms hg hC hC2 hr hm hn hl
 simp only [o_6d, skO, skD, List.map_cons, List.map_nil, ← hl] at ha he ⊢
 have hlp : (rs.length : Int) = ms.length := by omega
 by_cases q1 : rs.map (fun r => (r.a, r.b)) = ms.map fun r => (r.a, r.b)
 ·rw [decide_eq_true q1] at ha
  by_cases q2 : T = V
  ·subst q2
   by_cases q3 : rs.map Rw.l = ms.map Rw.l
   ·rw [decide_eq_true q3] at he
    rw [decide_eq_true (show rs = ms ∧ T = T from ⟨o_wb q1 q3, rfl⟩)]
    generalize rowsD k a b rs = RD at *
    generalize rowsD k a b ms = MD at *
    refine A00 ?_; try with_reducible exact tt
    refine CallS.g [0, 1] (ha) (R0 ?_); try with_reducible exact tt
    refine CallS.pu (he) (R0 ?_); try with_reducible exact tt
   ·rw [decide_eq_false q3] at he
    rw [decide_eq_false (show ¬ (rs = ms ∧ T = T) from fun h => q3 (by rw [h.1]))]
    generalize rowsD k a b rs = RD at *
    generalize rowsD k a b ms = MD at *
    refine A00 ?_; try with_reducible exact tt
    refine CallS.g [0, 1] (ha) (R0 ?_); try with_reducible exact tt
    refine CallS.pu (he) (R0 ?_); try with_reducible exact tt
  ·rw [decide_eq_false (show ¬ (rs = ms ∧ T = V) from fun h => q2 h.2)]
   have q2' : ¬ (T : Int) = V := by omega
   generalize rowsD k a b rs = RD at *
   generalize rowsD k a b ms = MD at *
   refine A00 ?_; try with_reducible exact tt
   refine CallS.g [0, 1] (ha) (R1 (fs q2 q2') ?_); try with_reducible exact tt
 ·rw [decide_eq_false q1] at ha
  rw [decide_eq_false (show ¬ (rs = ms ∧ T = V) from fun h => q1 (by rw [h.1]))]
  generalize rowsD k a b rs = RD at *
  generalize rowsD k a b ms = MD at *
  refine A00 ?_; try with_reducible exact tt
  refine CallS.g [0, 1] (ha) (R0 ?_); try with_reducible exact tt
end
end Go.Proofs.YtdklbnemfelpnaaGreatDoor.Am
namespace Go.Proofs.YtdklbnemfelpnaaGreatDoor.Am
section
open Go.RowKit
theorem o_wd {a w : Nat} (h : GoodC 2 a w) (x : Nat) (hx : x ≤ 2 ^ w - 1) : Eqn Tryz.prog o_dc [.d (parD 2 a w), .d (.int .i64 x)] [] (.tup [.d (rD ((valF a x : Nat) : Rat)), .d (.int .i64 0)]) [] := by
 refine Eqn.pure o_de Plain.ok ?_
 have hat := o_mu ((2 : Nat) : Int) a w h.2.2 x (by omega) (by omega) (o_ns h)
 have hkd := o_l3 ((2 : Nat) : Int) a w
 have h10 : 2 ^ w ≤ 2 ^ 10 := Nat.pow_le_pow_right (by omega) h.2.2
 obtain ⟨hc, -⟩ := h
 have a1 : a ≤ 8 := by omega
 have hv := o_vd a x a1 (by omega)
 simp only [o_dd, parD] at hat ⊢
 rw [show kindD ((2 : Nat) : Int) a = .ifc 197 (.int .i64 a) from rfl] at hkd
 generalize ((valF a x : Nat) : Rat) = v at *
 simp only [rD] at hv ⊢
 refine G0 ?_; try with_reducible exact tt
 refine CallS.pf 2 1 ⟨3, _⟩ [.int .i64 x] (hat) (by first | rfl | (simp; done)) (R0 ?_); try with_reducible exact tt
 refine AW.cond rfl (fun h => ?_) (fun h => ?_)
 ·simp at h
 refine G0 ?_; try with_reducible exact tt
 refine CallS.pu (hkd) (R0 ?_); try with_reducible exact tt
 refine ⟨_, o_vc, ?_⟩
 refine CallS.pu (hv) (R0 ?_); try with_reducible exact tt
theorem o_we {a b y : Nat} {f : Bool} (h : GoodR 2 a b) (hw : WellR 2 a b y 0 f) : Eqn Tryz.prog o_ao [.d (parD 2 a b), .d (tsD y 0 f)] [] (.tup [.d (rD ((valF a y : Nat) : Rat)), .d (.int .i64 0)]) [] := by
 refine Eqn.pure o_aq Plain.ok ?_
 have hwr := o_pn h hw
 replace h : GoodC 2 a b := by
  rcases h with ⟨h, -⟩ | ⟨-, h⟩
  ·exact absurd h (by decide)
  ·exact h
 have hy : y ≤ 2 ^ b - 1 := by
  rcases hw with ⟨h, -⟩ | ⟨-, -, h, -⟩
  ·exact absurd h (by decide)
  ·exact h
 have h1 := o_pf ((2 : Nat) : Int) a b
 have h3 := o_wd h y hy
 generalize ((valF a y : Nat) : Rat) = q at *
 simp only [o_ap, parD, tsD, rD] at hwr h1 h3 ⊢
 refine G0B ?_; try with_reducible exact tt
 refine CallS.pf 3 3 ⟨211, _⟩ [.int .i64 y, .int .i64 (0 : Nat), .bool f] (hwr) (by first | rfl | (simp [-Bool.exists_bool]; done)) (R0B ?_); try with_reducible exact tt
 refine AW.cond rfl (fun h => ?_) (fun h => ?_)
 ·simp at h
 refine G0B ?_; try with_reducible exact tt
 refine AW.cond rfl (fun h => ?_) (fun h => ?_)
 ·simp at h
 ·refine G0B ?_; try with_reducible exact tt
  refine CallS.pu (h1) (R0B ?_); try with_reducible exact tt
  refine CallS.pu (h3) (R0B ?_); try with_reducible exact tt
theorem o_wf (n : Nat) (h : n < 100) : Eqn Tryz.prog o_5i [.d (rD ((n : Nat) : Rat))] [] (.d (.str (smallS n))) [] := by
 refine Eqn.pure o_5k Plain.ok ?_
 have h1 := o_k8 n h
 have hz := o_iz 0
 have e : rD ((n : Nat) : Rat) = .agg [natW n, .bool false, natW 0] := by
  unfold rD
  rw [Rat.num_natCast, Rat.den_natCast, Int.natAbs_natCast]
  congr 4
 rw [e]
 simp only [o_5j]
 have hwh : Eqn Tryz.prog o_6u [.d (.agg [natW n, .bool false, natW 0])] [] (.d (.bool true)) [] := by
  refine Eqn.pure o_6w Plain.ok ?_
  simp only [o_6v]
  refine A01 hz ?_; try with_reducible exact tt
 refine A02 hwh h1 ?_; try with_reducible exact tt
theorem o_wg {a b T : Nat} (h : GoodR 2 a b) (y : Nat) (hw : WellR 2 a b y 0 false) (key : Nat) (hk : key < hP) :
  Eqn Tryz.prog o_7r [.p 0 0, .d (.int .u64 key)] [skO 1 1 2 a b [⟨1, 0, [(y, 0, false)]⟩] T] (.tup [.d (rD ((valF a y : Nat) : Rat)), .d (.int .i64 0)]) [skO 1 1 2 a b [⟨1, 0, [(y, 0, false)]⟩] T] := by
 refine Eqn.gen [0] o_7t (by simp) (by simp) (by rfl) (by decide) (by simp) (by simp [skO, skD]) ?_
 have hof := o_so 1 0 key 1 (by decide) (by decide) hk (by omega) (by omega)
 rw [Nat.mod_one] at hof
 have hget := o_sd [(y, 0, false)] 0 h (by intro s hs; simp at hs; subst hs; exact hw) (by simp) (by simp)
 have hval := o_we h hw
 simp only [o_7s, skO, skD, rowsD, rowD, List.map_cons, List.map_nil, List.flatMap_cons, List.flatMap_nil, List.append_nil, List.length_cons, List.length_nil, hD, tsD, parD, List.getD_cons_zero] at hof hget hval ⊢
 generalize ((valF a y : Nat) : Rat) = q at *
 simp only [rD] at hval ⊢
 generalize arrD 2 a b [(y, 0, false)] = AD at *
 refine G0 ?_; try with_reducible exact tt
 refine AW.rounds 2 ?_
 refine A03 hof hget hval ?_; try with_reducible exact tt
set_option maxHeartbeats 1000000 in
theorem o_wh : Eqn Tryz.prog o_5o [] [] (.d (.bool true)) [] := by
 refine Eqn.pure o_5q Plain.ok ?_
 have hg : GoodR 2 3 4 := .inr ⟨by omega, .inr (.inl ⟨rfl, by omega⟩), by omega, by omega⟩
 have hP1 : GoodP 1 1 2 3 4 := ⟨by omega, by omega, by omega, by omega, hg⟩
 have hw := o_su hP1 [(1, 0)] rfl (by simp [hP])
 have hc : ∀ key, colOf 1 1 0 key = 0 := fun key => Nat.mod_one _
 have hr0 : GoodRow 1 2 3 4 ⟨1, 0, [(0, 0, false)]⟩ := ⟨by decide, by decide, rfl, o_rc hg 1⟩
 have hr1 : GoodRow 1 2 3 4 ⟨1, 0, [(3, 0, false)]⟩ := ⟨by decide, by decide, rfl, by intro s hs; simp at hs; subst hs; exact .inr ⟨by omega, rfl, by simp, by simp⟩⟩
 have hr2 : GoodRow 1 2 3 4 ⟨1, 0, [(5, 0, false)]⟩ := ⟨by decide, by decide, rfl, by intro s hs; simp at hs; subst hs; exact .inr ⟨by omega, rfl, by simp, by simp⟩⟩
 have hu1 := o_v0 (T := 0) hg (by omega) (by omega) 1 0 [(0, 0, false)] hr0 [] 5 3 0 false (by decide) (by omega) (by omega) (Nat.le_refl _) (by simp) ⟨0, 3, 0, false, 0, false⟩ (by rw [hc]; kernel_rfl)
 have hu2 := o_v0 (T := 3) hg (by omega) (by omega) 1 0 [(3, 0, false)] hr1 [] 9 2 0 false (by decide) (by omega) (by omega) (Nat.le_refl _) (by simp) ⟨0, 5, 0, false, 0, false⟩ (by rw [hc]; kernel_rfl)
 have hq := o_wg (T := 5) hg 5 (.inr ⟨by omega, rfl, by simp, by simp⟩) 77 (by decide)
 rw [show valF 3 5 = 5 from rfl] at hq
 have htx := o_k8 5 (by omega)
 have hnw : Eqn Tryz.prog o_5u [.d .nilsl] [] (.p 0 0) [tapeO [] 0 false] := by
  have := o_ml [] (by simp)
  exact this.sub (Subs.cons Sub1.nil (Subs.refl _))
 have htot := o_vs (R := 1) (C := 1) (k := 2) (a := 3) (b := 4) (T := 5) [⟨1, 0, [(5, 0, false)]⟩]
 rw [show ([(1, 0)] : List (Nat × Nat)).map (newRow 1) = [⟨1, 0, [(0, 0, false)]⟩] from rfl] at hw
 simp only [o_5p, cpD, hashesD, skO, skD, rowsD, rowD, List.map_cons, List.map_nil, List.flatMap_cons, List.flatMap_nil, List.append_nil, List.length_cons, List.length_nil, if_true, List.set_cons_zero, hc] at hw hu1 hu2 hq htot ⊢
 have hrt := o_wf 5 (by omega)
 generalize arrD 2 3 4 [(0, 0, false)] = AD0 at *
 generalize arrD 2 3 4 [(3, 0, false)] = AD3 at *
 generalize arrD 2 3 4 [(5, 0, false)] = AD5 at *
 generalize ((5 : Nat) : Rat) = q5 at *
 simp only [rD] at hq hrt
 refine G0 ?_; try with_reducible exact tt
 refine CallS.gf 0 2 ⟨131, [.d (.int .u64 (1 : Nat)), .d (.int .u64 (0 : Nat))]⟩ [.int .u64 (1 : Nat), .int .u64 (0 : Nat)] [] (hw) (R0 ?_); try with_reducible exact tt
 refine CallS.n1 (hnw) (R0 ?_); try with_reducible exact tt
 refine CallS.g [1, 2] (hu1) (R0 ?_); try with_reducible exact tt
 refine CallS.n1 (hnw) (R0 ?_); try with_reducible exact tt
 refine CallS.g [1, 3] (hu2) (R0 ?_); try with_reducible exact tt
 refine A00 ?_; try with_reducible exact tt
 refine CallS.g [1] (hq) (R0 ?_); try with_reducible exact tt
 have hs5 : (smallS 5).toList = [53] := by kernel_rfl
 refine A11 hs5 hrt ?_; try with_reducible exact tt
 refine CallS.g [1] (htot) (R0 ?_); try with_reducible exact tt
end
end Go.Proofs.YtdklbnemfelpnaaGreatDoor.Am
namespace Go.Proofs.YtdklbnemfelpnaaGreatDoor.Am
section
open Go.RowKit
def mrgC (r : Rw) (Z : MR) (U : UR) : UR := if Z.e = 0 then ⟨U.e, ⟨r.a, r.b, Z.l⟩ :: U.rs, U.p, U.d⟩ else ⟨Z.e, [], Z.p, Z.d⟩
def mrgM (cs : List Bool) (C k a b : Nat) : List Rw → List Rw → Nat → Bool → UR
 | r :: rs, m :: ms, p, d => mrgC r (mergeUp cs k a b r.l m.l p d C) (mrgM cs C k a b rs ms (mergeUp cs k a b r.l m.l p d C).p (mergeUp cs k a b r.l m.l p d C).d)
 | _, _, p, d => ⟨0, [], p, d⟩
end
end Go.Proofs.YtdklbnemfelpnaaGreatDoor.Am
namespace Go.Proofs.YtdklbnemfelpnaaGreatDoor.Am
section
open Go.RowKit
def rowP (cs : List Bool) (C k a b : Nat) : List Rw → List Rw → Nat → Bool → Nat → Nat × Bool
 | r :: rs, m :: ms, p, d, j + 1 => rowP cs C k a b rs ms (mergeUp cs k a b r.l m.l p d C).p (mergeUp cs k a b r.l m.l p d C).d j
 | _, _, p, d, _ => (p, d)
@[simp] theorem o_wi {cs : List Bool} {C k a b : Nat} (rs ms : List Rw) (p : Nat) (d : Bool) : rowP cs C k a b rs ms p d 0 = (p, d) := by
 unfold rowP; cases rs <;> cases ms <;> rfl
def rowZ (cs : List Bool) (C k a b : Nat) (rs ms : List Rw) (p : Nat) (d : Bool) (j : Nat) : MR :=
 mergeUp cs k a b (rs.getD j ⟨0, 0, []⟩).l (ms.getD j ⟨0, 0, []⟩).l (rowP cs C k a b rs ms p d j).1 (rowP cs C k a b rs ms p d j).2 C
def cellR (cs : List Bool) (k a b : Nat) (l m : List ST) (p : Nat) (d : Bool) (c : Nat) : TR :=
 mergeRM cs k a b (l.getD c (0, 0, false)).1 (l.getD c (0, 0, false)).2.1 (l.getD c (0, 0, false)).2.2 (m.getD c (0, 0, false)).1 (m.getD c (0, 0, false)).2.1 (m.getD c (0, 0, false)).2.2 (mergeUp cs k a b l m p d c).p (mergeUp cs k a b l m p d c).d
theorem o_wj {R C k a b T : Nat} (rs : List Rw) : Eqn Tryz.prog o_69 [.p 0 0] [skO R C k a b rs T] (.d (cpD R C k a b)) [skO R C k a b rs T] := by
 refine Eqn.gen [0] o_6b (by simp) (by simp) (by rfl) (by decide) (by simp) (by simp [skO, skD]) ?_
 simp only [o_6a, skO, skD, cpD, List.map_cons, List.map_nil]
 refine A00 ?_; try with_reducible exact tt
end
end Go.Proofs.YtdklbnemfelpnaaGreatDoor.Am
namespace Go.Proofs.YtdklbnemfelpnaaGreatDoor.Am
section
open Go.RowKit
def coins4 (n : Nat) : List Bool := (List.range n).map fun j => decide (j % 4 ≠ 1)
theorem o_wk (n : Nat) : coins4 (n + 1) = coins4 n ++ [decide (n % 4 ≠ 1)] := by simp [coins4, List.range_succ]
theorem o_wl (n : Nat) : (coins4 n).length = n := by simp [coins4]
set_option maxHeartbeats 4000000 in
theorem o_wm (r c k a b : Int) (ws : List Nat) (us : List (Nat × Int)) (bb : List Nat) (hws : ws.length ≤ 9223372036854775807) (hus : us.length ≤ 9223372036854775807) (hku : ∀ u ∈ us, u.1 < 18446744073709551616) (hsb : smallB bb) (hbn : bb.length ≤ 9223372036854775807) :
  Eqn Tryz.prog o_5c [.d (drD r c k a b ws), .d (.sl us.length (updD us)), .d (BY bb)] [] (.d (.bool true)) [] := by
 refine Eqn.pure o_5e Plain.ok ?_
 obtain ⟨R, C, K, A, B, hgp, hR0, hpar⟩ := o_vh r c k a b ws
 simp only [o_5d, drD]
 generalize hWD : (ws.map fun x : Nat => D.int .u64 x) = WD at *
 refine A01B o_wh ?_; try with_reducible exact tt
 refine AW.loopG (α := Nat) (fun i => setS (List.replicate 119 .junk) [(1, .d (.sl us.length (updD us))), (2, .d (BY bb)), (3, .p 0 0), (7, if i = 0 then .d .nilsl else .own 1 1 i), (23, .d (.int .i64 (i : Nat)))]) (fun i => some ⟨70, [.d (.int .i64 r), .d (.int .i64 c), .d (.int .i64 k), .d (.int .i64 a), .d (.int .i64 b), .d (.sl ws.length WD)]⟩ :: (if i = 0 then [] else [some ⟨4, ((coins4 i).map D.bool).map .d⟩])) (fun i => i ≤ 300) (fun i => 300 - i) 0 ?_ (Nat.zero_le _) ?_ ?_ ?_
 ·intro i hi; split <;> simp
 ·simp
 ·simp
 rintro i hi
 by_cases hi3 : i < 300
 ·have hi3' : (i : Int) < 300 := by omega
  have ew : IntKind.i64.wrap ((i : Int) + 1) = (i : Int) + 1 := w64 (by omega) (by omega)
  have e5 : (i : Int).tmod 4 = ((i % 4 : Nat) : Int) := by rw [Int.tmod_eq_emod_of_nonneg (by omega)]; omega
  have hsn : ((coins4 (i + 1)).map D.bool).map V.d = ((coins4 i).map D.bool).map V.d ++ [.d (.bool (decide (i % 4 ≠ 1)))] := by rw [o_wk]; simp
  have hcl : ((coins4 i).map D.bool).length = i := by rw [List.length_map, o_wl]
  have hlo : ∀ n, V.lowl n (((coins4 i).map D.bool).map V.d) = true := fun n => o_4q _ _
  have hre : ∀ θ, V.rens θ (((coins4 i).map D.bool).map V.d) = ((coins4 i).map D.bool).map V.d := fun θ => o_4p _ _
  have hc0 : i = 0 → (coins4 i).map D.bool = [] := fun h => by rw [h]; rfl
  replace hsn : (coins4 (i + 1)).map (V.d ∘ D.bool) = ((coins4 i).map D.bool).map V.d ++ [.d (.bool (decide (i % 4 ≠ 1)))] := by rw [← List.map_map, hsn]
  generalize (coins4 i).map D.bool = CD at *
  generalize hx : i % 4 = x at *
  by_cases hx2 : x = 1
  ·have hx2' : (x : Int) = 1 := by omega
   have hxb : ((x : Int) != 1) = false := by simp [hx2']
   have hnx := hsn
   rw [show decide (x ≠ 1) = false by simp [hx2]] at hnx
   clear hsn
   by_cases hi0 : i = 0
   ·rw [if_pos hi0, if_pos hi0]
    rw [hc0 hi0] at hnx
    rw [hi0] at hnx
    simp [-Bool.exists_bool]
    refine A10B (fs hi3 (fs hi3' (fs e5 (fs ew (fs hx2 (fs hx2' hxb)))))) ?_; try with_reducible exact tt
    refine ⟨i + 1, 1, 2, by simp, by omega, by omega, ?_, ?_⟩
    ·simp [swT, swH, sw, Ob.sw, V.ren, V.rens, hi0, -Bool.exists_bool]
    ·simp [swT, swH, sw, Ob.sw, V.ren, V.rens, hi0, hnx, -Bool.exists_bool]
   ·rw [if_neg hi0, if_neg hi0]
    simp [-Bool.exists_bool]
    refine A10B (fs hi3 (fs hi3' (fs e5 (fs ew (fs hx2 (fs hx2' (fs hxb hcl))))))) ?_; try with_reducible exact tt
    refine ⟨i + 1, 1, 3, by simp, by omega, by omega, ?_, ?_⟩
    ·simp [swT, swH, sw, Ob.sw, V.ren, V.rens, -Bool.exists_bool]
    ·simp [swT, swH, sw, Ob.sw, V.ren, V.rens, hnx, -Bool.exists_bool]
  ·have hx2' : ¬ (x : Int) = 1 := by omega
   have hxb : ((x : Int) != 1) = true := by simp [hx2']
   have hnx := hsn
   rw [show decide (x ≠ 1) = true by simp [hx2]] at hnx
   clear hsn
   by_cases hi0 : i = 0
   ·rw [if_pos hi0, if_pos hi0]
    rw [hc0 hi0] at hnx
    rw [hi0] at hnx
    simp [-Bool.exists_bool]
    refine A10B (fs hi3 (fs hi3' (fs e5 (fs ew (fs hx2 (fs hx2' hxb)))))) ?_; try with_reducible exact tt
    refine ⟨i + 1, 1, 2, by simp, by omega, by omega, ?_, ?_⟩
    ·simp [swT, swH, sw, Ob.sw, V.ren, V.rens, hi0, -Bool.exists_bool]
    ·simp [swT, swH, sw, Ob.sw, V.ren, V.rens, hi0, hnx, -Bool.exists_bool]
   ·rw [if_neg hi0, if_neg hi0]
    simp [-Bool.exists_bool]
    refine A10B (fs hi3 (fs hi3' (fs e5 (fs ew (fs hx2 (fs hx2' (fs hxb hcl))))))) ?_; try with_reducible exact tt
    refine ⟨i + 1, 1, 3, by simp, by omega, by omega, ?_, ?_⟩
    ·simp [swT, swH, sw, Ob.sw, V.ren, V.rens, -Bool.exists_bool]
    ·simp [swT, swH, sw, Ob.sw, V.ren, V.rens, hnx, -Bool.exists_bool]
 ·have h3 : i = 300 := by omega
  subst h3
  have hcl : ((coins4 300).map D.bool).length = 300 := by rw [List.length_map, o_wl]
  have hnw : Eqn Tryz.prog o_5u [.d (.sl 300 ((coins4 300).map D.bool))] [] (.p 0 0) [tapeO (coins4 300) 0 false] := by
   have := o_ml (coins4 300) (by rw [o_wl]; omega)
   unfold BL at this
   rwa [o_wl] at this
  have hc5 := o_wl 300
  obtain ⟨S, hS⟩ : ∃ S, S = bldM (coins4 300) C K A B us ((drawH ws R).map (newRow C)) (min 12 us.length) := ⟨_, rfl⟩
  have hb := o_w5 r c k a b ws us (coins4 300) hws hus hku (by omega) hgp hR0 hpar S hS
  have hlt := o_vi ws hgp.2.1
  have hlen : (drawH ws R).length = R := by simp [drawH]
  have hgp0 := hgp
  obtain ⟨hr1, hr4, hC1, hC64, hg⟩ := hgp
  have hgd : ∀ r ∈ (drawH ws R).map (newRow C), GoodRow C K A B r := by
   intro x hx
   obtain ⟨y, hy, rfl⟩ := List.mem_map.1 hx
   exact o_w4 hg y (hlt y hy)
  have hl0 : ((drawH ws R).map (newRow C)).length = R := by simp [hlen]
  obtain ⟨k1, k2, -, k4, -⟩ := o_w3 (cs := coins4 300) (us := us) hg hC1 (by omega) hgd (min 12 us.length) (by omega)
  rw [← hS] at k1 k2 k4
  replace k1 := k1.trans hl0
  clear hS hgd hlt hl0 hlen
  obtain ⟨rs, T, p, d⟩ := S
  simp only at k1 k2 k4 hb
  have hT : T ≤ 1099511627776 := by omega
  rw [if_neg (show ¬ 300 = 0 by decide), if_neg (show ¬ 300 = 0 by decide)]
  have htk : ((coins4 300).map D.bool).take 300 = (coins4 300).map D.bool := List.take_of_length_le (by omega)
  have hsw := o_t2 (R := R) (C := C) (k := K) (a := A) (b := B) (T := T) hg hC1 hC64 rs (by omega) (by omega) k2 hT
  have hpm := o_wj (R := R) (C := C) (k := K) (a := A) (b := B) (T := T) rs
  have hto := o_vs (R := R) (C := C) (k := K) (a := A) (b := B) (T := T) rs
  have hsame := o_wc (R := R) (C := C) (k := K) (a := A) (b := B) (T := T) (V := T) rs rs hg hC1 hC64 k2 k2 (by omega) (by omega) rfl
  have hso := o_uv (T := T) hg rs k2
  have hrl := o_t0 hg hC64 rs k2
  have hvl := o_t1 5 T (by simp; omega)
  have hsl : (skB K A B T rs).length ≤ 6000 := by rw [skB, List.length_append]; omega
  have hvo := o_uu T hT (rowsB K A B rs)
  rw [show varB T ++ rowsB K A B rs = skB K A B T rs from rfl] at hvo
  have hne : skB K A B T rs ≠ [] := fun h => o_sy T (List.append_eq_nil_iff.1 h).1
  obtain ⟨bs, hbs⟩ : ∃ bs, bs = skB K A B T rs := ⟨_, rfl⟩
  rw [← hbs] at hsw hso hvo hsl hne
  have hby := o_ou bs hne (by omega)
  have hyl := o_o7 bs
  have hrd := o_p2 (bytesOf bs) (by omega)
  have hvp : (varB T).length ≤ bs.length := by rw [hbs, skB]; simp
  have hcr := o_tj hgp0 (bytesOf bs) (o_r8 bs) (by omega) (T, 0, (varB T).length) hvo.symm rfl (by simp only; omega) hT ⟨0, rs, bs.length⟩ (by rw [← k1]; exact hso.symm) rfl
  simp only [decide_true, and_self] at hsame
  clear hso hvo hbs hrl hvl hvp
  simp only [drD, hWD, skO, skD, List.map_cons, List.map_nil, k1, tapeO, wrO, wrB, rdO, cpD] at hb hnw hsw hpm hto hsame hby hrd hcr
  rw [← htk] at hnw
  generalize (coins4 300).map D.bool = CD at *
  generalize coins4 300 = cc at *
  obtain ⟨bytes, hbyt⟩ : ∃ bytes, bytes = bytesOf bs := ⟨_, rfl⟩
  rw [← hbyt] at hby hyl hrd hcr hsw
  have hB0 : u8s bytes = (yD bytes).map V.d := by simp [u8s, yD]
  have hBt : (yD bytes).take (bytes.length * 1) = yD bytes := List.take_of_length_le (by simp [yD])
  rw [hB0] at hby hsw
  rw [← hyl] at hby hsw
  simp only [o_u3] at hrd hcr
  have hrd' : Eqn Tryz.prog o_63 [.d (.sl bytes.length ((yD bytes).take (bytes.length * 1)))] [] (.p 0 0) [⟨164, [.d (.sl bytes.length (yD bytes)), .d (.int .i64 0)]⟩] := by rw [hBt]; exact hrd
  clear hrd hbyt hB0
  generalize yD bytes = LB at *
  generalize bytes.length = NB at *
  refine A00B ?_; try with_reducible exact tt
  refine CallS.gf 1 1 ⟨4, CD.map V.d⟩ CD [] (hnw) (R0B ?_); try with_reducible exact tt
  refine CallS.g [2] (hb) (R0B ?_); try with_reducible exact tt
  refine A00B ?_; try with_reducible exact tt
  refine CallS.g [3, 4] (hsw) (R0B ?_); try with_reducible exact tt
  refine CallS.g [4, 5] (hby) (R0B ?_); try with_reducible exact tt
  refine CallS.gf 6 1 ⟨5, LB.map V.d⟩ LB [] (hrd') (R0B ?_); try with_reducible exact tt
  refine CallS.g [3] (hpm) (R0B ?_); try with_reducible exact tt
  refine CallS.g [7] (hcr) (R0B ?_); try with_reducible exact tt
  refine CallS.g [8, 3] (hsame) (R0B ?_); try with_reducible exact tt
  refine CallS.g [8] (hto) (R0B ?_); try with_reducible exact tt
  refine CallS.g [3] (hto) (R0B ?_); try with_reducible exact tt
  refine A00B ?_; try with_reducible exact tt
  by_cases h30 : 300 < bb.length
  ·have h30' : (300 : Int) < bb.length := by omega
   obtain ⟨v, hv⟩ : ∃ v, v = bb.take 300 := ⟨_, rfl⟩
   have hvl : v.length = 300 := by rw [hv, List.length_take]; omega
   have hsv : smallB v := fun x hx => hsb x (by rw [hv] at hx; exact List.mem_of_mem_take hx)
   have hvt : (yD bb).take 300 = yD v := by rw [hv]; simp [yD]
   have hyw : (yD bb).length = bb.length := by simp [yD]
   rw [o_u3]
   refine A10B (fs h30 (fs h30' (fs hvt hyw))) ?_; try with_reducible exact tt
   have hyv : (yD v).length = v.length := by simp [yD]
   have hrd2 := o_p2 v (by omega)
   obtain ⟨V, hV⟩ : ∃ V, V = varR v 10 0 0 0 := ⟨_, rfl⟩
   have hve := o_tn v 10 0 0 0
   rw [← hV] at hve
   simp only [o_u3, rdO] at hrd2
   by_cases hV0 : V.2.1 = 0
   ·have hrc := fun h => o_uw (ws := v) (C := C) (k := K) (a := A) (b := B) (R := R) (by rw [← hV]; exact hV0) h
    rw [← hV] at hrc
    obtain ⟨mv, -, -, hVp, -, -⟩ := o_uj v 10 0 0 0 rfl (Nat.zero_le _) (by rw [← hV]; exact hV0)
    rw [← hV] at hVp
    by_cases hVn : 1099511627776 < V.1
    ·have hno := o_tm hgp0 v hsv (by omega) V hV hV0 hVn
     simp only [o_u3, rdO, cpD] at hno
     rw [hvl] at hrd2 hno
     refine CallS.n1 (hrd2) (R0B ?_); try with_reducible exact tt
     refine CallS.g [3] (hpm) (R0B ?_); try with_reducible exact tt
     refine CallS.g [9] (hno) (R0B ?_); try with_reducible exact tt
     refine A00B ?_; try with_reducible exact tt
     done
    ·obtain ⟨S, hS⟩ : ∃ S, S = readS v C K A B V.2.2 R := ⟨_, rfl⟩
     have hse := o_tr v C K A B V.2.2 R
     rw [← hS] at hse hrc
     by_cases hS0 : S.e = 0
     ·obtain ⟨-, hSp, hcut⟩ := hrc hS0
      have hgood := o_ti (ws := v) (C := C) (k := K) (a := A) (b := B) hVp R
      rw [← hS] at hgood
      obtain ⟨-, hSg, hSl⟩ := hgood
      replace hSl := hSl hS0
      have hcr2 := o_tj hgp0 v hsv (by omega) V hV hV0 hVp (by omega) S hS hS0
      have hsw2 := o_t2 (R := R) (C := C) (k := K) (a := A) (b := B) (T := V.1) hg hC1 hC64 S.rs (by omega) (by omega) hSg (by omega)
      have hne2 : skB K A B V.1 S.rs ≠ [] := fun h => o_sy V.1 (List.append_eq_nil_iff.1 h).1
      have hSpl : (skB K A B V.1 S.rs).length = S.p := by rw [hcut, o_ug (by omega)]
      have hget : ∀ i, i < S.p → (skB K A B V.1 S.rs).getD i false = (bitsOf v).getD i false := fun i hi => by rw [hcut]; exact o_ux hSp hi
      obtain ⟨zs, hzs⟩ : ∃ zs, zs = skB K A B V.1 S.rs := ⟨_, rfl⟩
      rw [← hzs] at hsw2 hne2 hSpl hget
      have htl := o_us zs hne2 (by omega)
      have hrb := fun i (hi : i < S.p) => o_px v i hsv (by omega) (by omega)
      have hle := o_p3 v S.p (by omega) hSp
      clear hcut hzs hrc hse hve
      simp only [o_u3, o_tw, rdO, wrO, wrB, skO, skD, cpD, List.map_cons, List.map_nil, hSl] at hcr2 hsw2 htl hrb hle
      rw [hvl] at hrd2 hcr2 hrb hle
      refine CallS.n1 (hrd2) (R0B ?_); try with_reducible exact tt
      refine CallS.g [3] (hpm) (R0B ?_); try with_reducible exact tt
      refine CallS.g [9] (hcr2) (R0B ?_); try with_reducible exact tt
      refine A00B ?_; try with_reducible exact tt
      refine CallS.g [10, 11] (hsw2) (R0B ?_); try with_reducible exact tt
      refine CallS.n1 (hrd2) (R0B ?_); try with_reducible exact tt
      refine CallS.g [11, 12] (htl) (R0B ?_); try with_reducible exact tt
      refine A00B ?_; try with_reducible exact tt
      have hzl : (bD zs).length = S.p := by simp [bD, hSpl]
      rw [hSpl]
      refine AW.loopT (α := Nat) 14 (fun i => [(97, .d (.int .i64 (i : Nat)))]) (fun i => [(13, ⟨164, [.d (.sl 300 (yD v)), .d (.int .i64 (i : Nat))]⟩)]) (fun i => i ≤ S.p) (fun i => S.p - i) 0 ?_ ?_ (Nat.zero_le _) ?_ ?_ ?_
      ·simp
      ·simp
      ·simp
      ·simp
      rintro i hi
      simp [-Bool.exists_bool]
      by_cases hin : i < S.p
      ·have hin' : (i : Int) < S.p := by omega
       have ew : IntKind.i64.wrap ((i : Int) + 1) = ((i + 1 : Nat) : Int) := by rw [w64 (by omega) (by omega)]; omega
       have hbi := hrb i hin
       have hgi : (bD zs).getD i default = D.bool ((bitsOf v).getD i false) := by
        rw [← hget i hin, bD, List.getD_eq_getElem?_getD, List.getElem?_map, List.getD_eq_getElem?_getD, List.getElem?_eq_getElem (by omega)]; rfl
       have hix : i < (bD zs).length := by omega
       have hgi2 : (bD zs)[i]'hix = D.bool ((bitsOf v).getD i false) := by rw [← hgi, List.getD_eq_getElem?_getD, List.getElem?_eq_getElem hix]; rfl
       generalize (bitsOf v).getD i false = x at *
       refine A10B (fs hin (fs hin' (fs hzl (fs hgi2 hix)))) ?_; try with_reducible exact tt
       refine CallS.o1 13 (hbi) (R1B ew ?_); try with_reducible exact tt
       refine A10B ew ?_; try with_reducible exact tt
       exact ⟨i + 1, by omega, by omega, by simp⟩
      ·have h2 : i = S.p := by omega
       rw [h2] at hi ⊢
       refine A00B ?_; try with_reducible exact tt
       refine CallS.o1 13 (hle) (R0B ?_); try with_reducible exact tt
       refine CallS.o1 9 (hle) (R0B ?_); try with_reducible exact tt
       done
     ·have hno := o_tk hgp0 v hsv (by omega) V hV hV0 hVp (by omega) S hS hS0
      have h45 : S.e = 4 ∨ S.e = 5 := by rcases hse with h | h | h <;> omega
      simp only [o_u3, rdO, cpD] at hno
      rw [hvl] at hrd2 hno
      refine CallS.n1 (hrd2) (R0B ?_); try with_reducible exact tt
      refine CallS.g [3] (hpm) (R0B ?_); try with_reducible exact tt
      rcases h45 with h45 | h45
      ·rw [h45] at hno
       refine CallS.g [9] (hno) (R0B ?_); try with_reducible exact tt
       refine A00B ?_; try with_reducible exact tt
       done
      ·rw [h45] at hno
       refine CallS.g [9] (hno) (R0B ?_); try with_reducible exact tt
       refine A00B ?_; try with_reducible exact tt
       done
   ·have hno := o_tl hgp0 v hsv (by omega) V hV hV0
    have h45 : V.2.1 = 4 ∨ V.2.1 = 5 := by rcases hve with h | h | h <;> omega
    simp only [o_u3, rdO, cpD] at hno
    rw [hvl] at hrd2 hno
    refine CallS.n1 (hrd2) (R0B ?_); try with_reducible exact tt
    refine CallS.g [3] (hpm) (R0B ?_); try with_reducible exact tt
    rcases h45 with h45 | h45
    ·rw [h45] at hno
     refine CallS.g [9] (hno) (R0B ?_); try with_reducible exact tt
     refine A00B ?_; try with_reducible exact tt
     done
    ·rw [h45] at hno
     refine CallS.g [9] (hno) (R0B ?_); try with_reducible exact tt
     refine A00B ?_; try with_reducible exact tt
     done
  ·have h30' : ¬ (300 : Int) < bb.length := by omega
   obtain ⟨v, hv⟩ : ∃ v, v = bb := ⟨_, rfl⟩
   have hsv : smallB v := by rw [hv]; exact hsb
   rw [← hv] at h30 h30' ⊢
   clear hv
   obtain ⟨m, hvl⟩ : ∃ m, v.length = m := ⟨_, rfl⟩
   rw [o_u3]
   rw [hvl] at h30 h30' ⊢
   refine A10B (fs h30 h30') ?_; try with_reducible exact tt
   have hyv : (yD v).length = v.length := by simp [yD]
   have hrd2 := o_p2 v (by omega)
   obtain ⟨V, hV⟩ : ∃ V, V = varR v 10 0 0 0 := ⟨_, rfl⟩
   have hve := o_tn v 10 0 0 0
   rw [← hV] at hve
   simp only [o_u3, rdO] at hrd2
   by_cases hV0 : V.2.1 = 0
   ·have hrc := fun h => o_uw (ws := v) (C := C) (k := K) (a := A) (b := B) (R := R) (by rw [← hV]; exact hV0) h
    rw [← hV] at hrc
    obtain ⟨mv, -, -, hVp, -, -⟩ := o_uj v 10 0 0 0 rfl (Nat.zero_le _) (by rw [← hV]; exact hV0)
    rw [← hV] at hVp
    by_cases hVn : 1099511627776 < V.1
    ·have hno := o_tm hgp0 v hsv (by omega) V hV hV0 hVn
     simp only [o_u3, rdO, cpD] at hno
     rw [hvl] at hrd2 hno
     refine CallS.n1 (hrd2) (R0B ?_); try with_reducible exact tt
     refine CallS.g [3] (hpm) (R0B ?_); try with_reducible exact tt
     refine CallS.g [9] (hno) (R0B ?_); try with_reducible exact tt
     refine A00B ?_; try with_reducible exact tt
     done
    ·obtain ⟨S, hS⟩ : ∃ S, S = readS v C K A B V.2.2 R := ⟨_, rfl⟩
     have hse := o_tr v C K A B V.2.2 R
     rw [← hS] at hse hrc
     by_cases hS0 : S.e = 0
     ·obtain ⟨-, hSp, hcut⟩ := hrc hS0
      have hgood := o_ti (ws := v) (C := C) (k := K) (a := A) (b := B) hVp R
      rw [← hS] at hgood
      obtain ⟨-, hSg, hSl⟩ := hgood
      replace hSl := hSl hS0
      have hcr2 := o_tj hgp0 v hsv (by omega) V hV hV0 hVp (by omega) S hS hS0
      have hsw2 := o_t2 (R := R) (C := C) (k := K) (a := A) (b := B) (T := V.1) hg hC1 hC64 S.rs (by omega) (by omega) hSg (by omega)
      have hne2 : skB K A B V.1 S.rs ≠ [] := fun h => o_sy V.1 (List.append_eq_nil_iff.1 h).1
      have hSpl : (skB K A B V.1 S.rs).length = S.p := by rw [hcut, o_ug (by omega)]
      have hget : ∀ i, i < S.p → (skB K A B V.1 S.rs).getD i false = (bitsOf v).getD i false := fun i hi => by rw [hcut]; exact o_ux hSp hi
      obtain ⟨zs, hzs⟩ : ∃ zs, zs = skB K A B V.1 S.rs := ⟨_, rfl⟩
      rw [← hzs] at hsw2 hne2 hSpl hget
      have htl := o_us zs hne2 (by omega)
      have hrb := fun i (hi : i < S.p) => o_px v i hsv (by omega) (by omega)
      have hle := o_p3 v S.p (by omega) hSp
      clear hcut hzs hrc hse hve
      simp only [o_u3, o_tw, rdO, wrO, wrB, skO, skD, cpD, List.map_cons, List.map_nil, hSl] at hcr2 hsw2 htl hrb hle
      rw [hvl] at hrd2 hcr2 hrb hle
      refine CallS.n1 (hrd2) (R0B ?_); try with_reducible exact tt
      refine CallS.g [3] (hpm) (R0B ?_); try with_reducible exact tt
      refine CallS.g [9] (hcr2) (R0B ?_); try with_reducible exact tt
      refine A00B ?_; try with_reducible exact tt
      refine CallS.g [10, 11] (hsw2) (R0B ?_); try with_reducible exact tt
      refine CallS.n1 (hrd2) (R0B ?_); try with_reducible exact tt
      refine CallS.g [11, 12] (htl) (R0B ?_); try with_reducible exact tt
      refine A00B ?_; try with_reducible exact tt
      have hzl : (bD zs).length = S.p := by simp [bD, hSpl]
      rw [hSpl]
      refine AW.loopT (α := Nat) 14 (fun i => [(97, .d (.int .i64 (i : Nat)))]) (fun i => [(13, ⟨164, [.d (.sl m (yD v)), .d (.int .i64 (i : Nat))]⟩)]) (fun i => i ≤ S.p) (fun i => S.p - i) 0 ?_ ?_ (Nat.zero_le _) ?_ ?_ ?_
      ·simp
      ·simp
      ·simp
      ·simp
      rintro i hi
      simp [-Bool.exists_bool]
      by_cases hin : i < S.p
      ·have hin' : (i : Int) < S.p := by omega
       have ew : IntKind.i64.wrap ((i : Int) + 1) = ((i + 1 : Nat) : Int) := by rw [w64 (by omega) (by omega)]; omega
       have hbi := hrb i hin
       have hgi : (bD zs).getD i default = D.bool ((bitsOf v).getD i false) := by
        rw [← hget i hin, bD, List.getD_eq_getElem?_getD, List.getElem?_map, List.getD_eq_getElem?_getD, List.getElem?_eq_getElem (by omega)]; rfl
       have hix : i < (bD zs).length := by omega
       have hgi2 : (bD zs)[i]'hix = D.bool ((bitsOf v).getD i false) := by rw [← hgi, List.getD_eq_getElem?_getD, List.getElem?_eq_getElem hix]; rfl
       generalize (bitsOf v).getD i false = x at *
       refine A10B (fs hin (fs hin' (fs hzl (fs hgi2 hix)))) ?_; try with_reducible exact tt
       refine CallS.o1 13 (hbi) (R1B ew ?_); try with_reducible exact tt
       refine A10B ew ?_; try with_reducible exact tt
       exact ⟨i + 1, by omega, by omega, by simp⟩
      ·have h2 : i = S.p := by omega
       rw [h2] at hi ⊢
       refine A00B ?_; try with_reducible exact tt
       refine CallS.o1 13 (hle) (R0B ?_); try with_reducible exact tt
       refine CallS.o1 9 (hle) (R0B ?_); try with_reducible exact tt
       done
     ·have hno := o_tk hgp0 v hsv (by omega) V hV hV0 hVp (by omega) S hS hS0
      have h45 : S.e = 4 ∨ S.e = 5 := by rcases hse with h | h | h <;> omega
      simp only [o_u3, rdO, cpD] at hno
      rw [hvl] at hrd2 hno
      refine CallS.n1 (hrd2) (R0B ?_); try with_reducible exact tt
      refine CallS.g [3] (hpm) (R0B ?_); try with_reducible exact tt
      rcases h45 with h45 | h45
      ·rw [h45] at hno
       refine CallS.g [9] (hno) (R0B ?_); try with_reducible exact tt
       refine A00B ?_; try with_reducible exact tt
       done
      ·rw [h45] at hno
       refine CallS.g [9] (hno) (R0B ?_); try with_reducible exact tt
       refine A00B ?_; try with_reducible exact tt
       done
   ·have hno := o_tl hgp0 v hsv (by omega) V hV hV0
    have h45 : V.2.1 = 4 ∨ V.2.1 = 5 := by rcases hve with h | h | h <;> omega
    simp only [o_u3, rdO, cpD] at hno
    rw [hvl] at hrd2 hno
    refine CallS.n1 (hrd2) (R0B ?_); try with_reducible exact tt
    refine CallS.g [3] (hpm) (R0B ?_); try with_reducible exact tt
    rcases h45 with h45 | h45
    ·rw [h45] at hno
     refine CallS.g [9] (hno) (R0B ?_); try with_reducible exact tt
     refine A00B ?_; try with_reducible exact tt
     done
    ·rw [h45] at hno
     refine CallS.g [9] (hno) (R0B ?_); try with_reducible exact tt
     refine A00B ?_; try with_reducible exact tt
     done
end
end Go.Proofs.YtdklbnemfelpnaaGreatDoor.Am
namespace Go.Proofs.YtdklbnemfelpnaaGreatDoor.Am
section
open Go.RowKit

theorem o_wn {W : World} {v : Value} {L : List Int} {r c k a b : Int} (w : Cells W v 1 L.length (L.map fun a => [Value.int .u64 a]).flatten) (h : ∀ a ∈ L, (Lit.int .u64 a).wf = true) : ∃ ws : List Nat, ws.length = L.length ∧ V.rep (memW W) (.d (drD r c k a b ws)) (.agg #[.int .i64 r, .int .i64 c, .int .i64 k, .int .i64 a, .int .i64 b, v]) := by
 obtain ⟨ws, rfl, -⟩ := o_vw h
 refine ⟨ws, by simp, ?_⟩
 have hw : Cells W v 1 ws.length (ws.map fun n : Nat => Value.int .u64 n) := by
  have e : ((ws.map fun n : Nat => (n : Int)).map fun a => [Value.int .u64 a]).flatten = ws.map fun n : Nat => Value.int .u64 n := by
   rw [List.map_map]
   clear w h
   induction ws with
   | nil => rfl
   | cons x l ih => simp only [List.map_cons, List.flatten_cons, ih]; rfl
  rw [e, List.length_map] at w; exact w
 have hr := o_rx (fun n : Nat => D.int .u64 n) (fun n : Nat => Value.int .u64 n) (fun _ => rfl) (fun _ => D.rep_int.2 rfl) hw
 refine o_ry (vs := [.int .i64 r, .int .i64 c, .int .i64 k, .int .i64 a, .int .i64 b, v]) (fun z hz => ?_) ?_
 ·simp at hz
  rcases hz with rfl | rfl | rfl | rfl | rfl | rfl <;> first | rfl | exact o_vy w
 ·exact D.reps_cons.2 ⟨D.rep_int.2 rfl, D.reps_cons.2 ⟨D.rep_int.2 rfl, D.reps_cons.2 ⟨D.rep_int.2 rfl, D.reps_cons.2 ⟨D.rep_int.2 rfl, D.reps_cons.2 ⟨D.rep_int.2 rfl, D.reps_cons.2 ⟨V.rep_d.1 hr, D.reps_nil.2 rfl⟩⟩⟩⟩⟩⟩
theorem o_wo {W : World} {v : Value} {L : List (Int × Int)} (w : Cells W v 2 L.length (L.map fun a => [Value.int .u64 a.1, Value.int .i64 a.2]).flatten) (h : ∀ a ∈ L, (Lit.int .u64 a.1).wf = true ∧ (Lit.int .i64 a.2).wf = true) : ∃ us : List (Nat × Int), us.length = L.length ∧ (∀ u ∈ us, u.1 < 18446744073709551616) ∧ V.rep (memW W) (.d (.sl us.length (updD us))) v := by
 obtain ⟨us, rfl, hu⟩ := o_vx h
 refine ⟨us, by simp, hu, ?_⟩
 rw [List.map_map, List.length_map] at w
 exact o_vv (fun u : Nat × Int => [D.int .u64 u.1, D.int .i64 u.2]) (fun u : Nat × Int => [Value.int .u64 u.1, Value.int .i64 u.2]) (fun a u hu => by simp at hu; rcases hu with rfl | rfl <;> rfl) (fun a => by simp [D.reps_cons, D.rep_int]) w
end
end Go.Proofs.YtdklbnemfelpnaaGreatDoor.Am
namespace Go.Proofs.YtdklbnemfelpnaaGreatDoor.Am
section
open Go.RowKit

theorem o_wp : ∀ {L : List Int}, (∀ a ∈ L, (Lit.int .u8 a).wf = true) → ∃ ws : List Nat, L = ws.map (fun n : Nat => (n : Int)) ∧ smallB ws
 | [], _ => ⟨[], rfl, by intro x hx; cases hx⟩
 | a :: L, h => by
  obtain ⟨ws, rfl, hw⟩ := o_wp (L := L) fun b hb => h b (List.mem_cons_of_mem _ hb)
  have ha := h a (List.mem_cons_self)
  unfold Lit.wf at ha
  simp only [Bool.and_eq_true, decide_eq_true_eq] at ha
  have h0 : (0 : Int) ≤ a := ha.1
  have h1 : a ≤ 255 := ha.2
  refine ⟨a.toNat :: ws, by simp [Int.toNat_of_nonneg h0], fun x hx => ?_⟩
  rcases List.mem_cons.1 hx with rfl | hx
  ·omega
  ·exact hw x hx
theorem cmw_walk {W : World} {v0 v1 v2 : Value} {r c k a b : Int} {L0 : List Int} {L1 : List (Int × Int)} {B : List Int}
  (_ : (Lit.int .i64 r).wf = true) (_ : (Lit.int .i64 c).wf = true) (_ : (Lit.int .i64 k).wf = true) (_ : (Lit.int .i64 a).wf = true) (_ : (Lit.int .i64 b).wf = true)
  (w0 : Cells W v0 1 L0.length (L0.map fun a => [Value.int .u64 a]).flatten) (h0 : L0.length ≤ maxLen) (p0 : ∀ a ∈ L0, (Lit.int .u64 a).wf = true)
  (w1 : Cells W v1 2 L1.length (L1.map fun a => [Value.int .u64 a.1, Value.int .i64 a.2]).flatten) (h1 : L1.length ≤ maxLen) (p1 : ∀ a ∈ L1, (Lit.int .u64 a.1).wf = true ∧ (Lit.int .i64 a.2).wf = true)
  (w2 : Cells W v2 1 B.length (B.map fun a => [Value.int .u8 a]).flatten) (h2 : B.length ≤ maxLen) (p2 : ∀ a ∈ B, (Lit.int .u8 a).wf = true) :
  Calls Tryz.prog o_5c #[.agg #[.int .i64 r, .int .i64 c, .int .i64 k, .int .i64 a, .int .i64 b, v0], v1, v2] W (fun e W' => e = .returned (.bool true) ∧ Same W W') := by
 obtain ⟨ws, hws, hr0⟩ := o_wn (r := r) (c := c) (k := k) (a := a) (b := b) w0 p0
 obtain ⟨us, hus, hk, hr1⟩ := o_wo w1 p1
 obtain ⟨bb, rfl, hsb⟩ := o_wp p2
 have hr : V.rep (memW W) (.d (BY bb)) v2 := by
  have w2' : Cells W v2 1 bb.length (bb.map fun a : Nat => [Value.int .u8 a]).flatten := by rw [List.map_map, List.length_map] at w2; exact w2
  have := o_vv (fun a : Nat => [D.int .u8 a]) (fun a : Nat => [Value.int .u8 a]) (fun a u hu => by simp at hu; subst hu; rfl) (fun a => by simp [D.reps_cons, D.rep_int]) w2'
  have e : ∀ l : List Nat, l.flatMap (fun a : Nat => [D.int .u8 a]) = l.map fun x : Nat => D.int .u8 x := by
   intro l
   induction l with
   | nil => rfl
   | cons x l ih => rw [List.flatMap_cons, ih]; rfl
  rw [e] at this
  exact this
 rw [List.length_map] at h2
 unfold maxLen at h0 h1 h2
 exact law_walk o_5e (o_wm r c k a b ws us bb (by omega) (by omega) hk hsb (by omega)) (V.reps_cons.2 ⟨hr0, V.reps_cons.2 ⟨hr1, V.reps_cons.2 ⟨hr, V.reps_nil.2 rfl⟩⟩⟩)
end
end Go.Proofs.YtdklbnemfelpnaaGreatDoor.Am
