/- Parts of the proof: CarrA, CarrB, CarrC, CarrD, CarrE, AmLaw2, ChainI, ChainJ, CmergeL, CapartL. -/
import Derived.Test.YtdbfenhaljmbfaaGreatPf
namespace Go.Proofs.YtdbfenhaljmbfaaGreat.Am
section
set_option linter.unusedVariables false
set_option linter.unusedSimpArgs false
open Go.RowKit
set_option maxRecDepth 100000
set_option linter.unusedSimpArgs false
set_option linter.unusedVariables false

/-- the bits of a vector's numbers -/
def packBits (w : Nat) (xs : List Nat) : List Bool := xs.flatMap fun x => bitsW x w
theorem packBits_len (w : Nat) (xs : List Nat) : (packBits w xs).length = xs.length * w := by
  induction xs with
  | nil => simp [packBits]
  | cons x xs ih => simp only [packBits, List.flatMap_cons, List.length_append, bitsW_len, List.length_cons, Nat.succ_mul] at ih ⊢; omega
theorem packBits_snoc (w : Nat) (xs : List Nat) (x : Nat) : packBits w (xs ++ [x]) = packBits w xs ++ bitsW x w := by simp [packBits]
theorem take_snoc {xs : List Nat} {i : Nat} (h : i < xs.length) : xs.take (i + 1) = xs.take i ++ [xs.getD i 0] := by
  rw [List.take_add_one, List.getElem?_eq_getElem h, List.getD_eq_getElem?_getD, List.getElem?_eq_getElem h]; rfl

set_option maxHeartbeats 1000000 in
theorem pwrite0_ok (w : Nat) (xs : List Nat) (h0 : 1 ≤ xs.length) (hn : xs.length ≤ 256) (hw0 : 0 < w) (hw : w ≤ 32) (hs : smallP w xs) :
    Eqn Tryz.prog n_pack_Vector_Write [.p 0 0, .p 2 0] [vecO 1 xs.length w, vecB w xs, ⟨138, [.d .nilsl, .d (.int .i64 0)]⟩] (.tup []) [vecO 1 xs.length w, vecB w xs, wrO 3 (packBits w xs), wrB (packBits w xs)] := by
  refine Eqn.gen [0, 1, 2, 3] r_pack_Vector_Write (by simp) (by simp) (by rfl) (by decide) (by simp) (by simp [vecO, vecB, wrO, wrB]) ?_
  have htk : ((wordsP w xs).map fun x : Nat => D.int .u64 x).take (nwP xs.length w) = (wordsP w xs).map fun x : Nat => D.int .u64 x := List.take_of_length_le (by simp)
  have hL0 : u64s (wordsP w xs) = ((wordsP w xs).map fun x : Nat => D.int .u64 x).map V.d := by simp [u64s]
  simp only [c_pack_Vector_Write, vecO, vecB]
  repeat (first | refine AW.seq ?_ | refine AW.block ?_ | (refine AW.reg mix ?_; simp (implicitDefEqProofs := false); try simp (disch := omega) only [w64, wu64]) | (refine need.of (by first | omega | kernel_rfl) ?_) | (refine AW.fin ?_; try simp (implicitDefEqProofs := false)))
  refine AW.loopG (α := Nat) (fun i => [.p 0 0, .p 2 0] ++ List.replicate 8 .junk ++ [.d (.int .i64 xs.length), .d (.int .i64 (i : Int))] ++ List.replicate 16 .junk) (fun i => if i = 0 then [some (vecO 1 xs.length w), some (vecB w xs), some ⟨138, [.d .nilsl, .d (.int .i64 0)]⟩] else [some (vecO 1 xs.length w), some (vecB w xs), some (wrO 3 (packBits w (xs.take i))), some (wrB (packBits w (xs.take i)))]) (fun i => i ≤ xs.length) (fun i => xs.length - i) 0 ?_ (Nat.zero_le _) ?_ ?_ ?_
  · intro i hi; split <;> simp
  · simp [vecO, vecB]
  · simp [vecO, vecB]
  rintro i hi
  by_cases hi' : i < xs.length
  · have h1 : (i : Int) < xs.length := by omega
    have hg := pget_ok w xs i hi' hn hw0 hw hs
    have hlt := smallP_get hs i
    have hsn := packBits_snoc w (xs.take i) (xs.getD i 0)
    rw [← take_snoc hi'] at hsn
    have ew : IntKind.i64.wrap ((i : Int) + 1) = ((i + 1 : Nat) : Int) := by rw [w64 (by omega) (by omega)]; omega
    have h32 : 2 ^ w ≤ 2 ^ 32 := Nat.pow_le_pow_right (by omega) hw
    generalize xs.getD i 0 = x at *
    by_cases hi0 : i = 0
    · subst hi0
      rw [if_pos rfl]
      have hB := wnum0_ok x w hw0 (by omega) hlt (by omega)
      simp [packBits] at hsn
      simp only [vecO, vecB, vecD, wrO, wrB] at hg hB ⊢
      generalize hLL : ((wordsP w xs).map fun x : Nat => D.int .u64 x) = L0 at *
      simp [hL0]
      repeat (first | refine AW.seq ?_ | refine AW.block ?_ | (refine AW.reg mix ?_; simp (implicitDefEqProofs := false) [h1, hi']; try simp (disch := omega) only [w64, wu64]) | (refine need.of (by first | omega | kernel_rfl) ?_) | (refine AW.fin ?_; try simp (implicitDefEqProofs := false) [h1, hi']))
      refine AW.cond rfl (fun h => ?_) (fun h => ?_)
      · clear h
        repeat (first | refine AW.seq ?_ | refine AW.block ?_ | (refine AW.reg mix ?_; simp (implicitDefEqProofs := false) [h1, hi']; try simp (disch := omega) only [w64, wu64]) | (refine need.of (by first | omega | kernel_rfl) ?_) | (refine AW.fin ?_; try simp (implicitDefEqProofs := false) [h1, hi']))
        refine CallS.ro [(1, 1, L0), (0, 1, [.sl (nwP xs.length w) L0, .int .i64 xs.length, .int .i64 w])] (hg) ?_ (hok := by first | (simp [frzOK, frzH, htk]; done) | (simp [frzOK, frzH, htk]; rfl))
        (try (simp (implicitDefEqProofs := false); try simp (disch := omega) only [w64, wu64]))
        repeat (first | refine AW.seq ?_ | refine AW.block ?_ | (refine AW.reg mix ?_; simp (implicitDefEqProofs := false); try simp (disch := omega) only [w64, wu64]) | (refine need.of (by first | omega | kernel_rfl) ?_) | (refine AW.fin ?_; try simp (implicitDefEqProofs := false)))
        refine CallS.g [2] (hB) ?_
        (try (simp (implicitDefEqProofs := false) [ew]; try simp (disch := omega) only [w64, wu64]))
        repeat (first | refine AW.seq ?_ | refine AW.block ?_ | (refine AW.reg mix ?_; simp (implicitDefEqProofs := false) [ew]; try simp (disch := omega) only [w64, wu64]) | (refine need.of (by first | omega | kernel_rfl) ?_) | (refine AW.fin ?_; try simp (implicitDefEqProofs := false) [ew]))
        refine ⟨1, 3, 3, by simp, by omega, by omega, ?_, ?_⟩
        · simp [swT, swH, sw, Ob.sw, V.ren, V.rens]
        · simp [swT, swH, sw, Ob.sw, V.ren, V.rens, wrO, wrB, vecO, vecB, packBits, hsn, hL0, rens_map_d, lowl_map_d]
      · simp [h1, hi'] at h
    · rw [if_neg hi0]
      have hbl : (packBits w (xs.take i)).length = i * w := by rw [packBits_len, List.length_take, Nat.min_eq_left (by omega)]
      have hiw : 1 * 1 ≤ i * w := Nat.mul_le_mul (by omega) hw0
      have hiw2 : i * w ≤ 256 * 32 := Nat.mul_le_mul (by omega) hw
      have hB := wnum_ok (packBits w (xs.take i)) x w (fun he => by rw [he] at hbl; simp at hbl; omega) (by omega) (by omega) hlt (by omega)
      rw [← hsn] at hB
      simp only [vecO, vecB, vecD, wrO, wrB] at hg hB ⊢
      generalize hLL : ((wordsP w xs).map fun x : Nat => D.int .u64 x) = L0 at *
      generalize hX2 : packBits w (xs.take (i + 1)) = X2 at *
      generalize packBits w (xs.take i) = X1 at *
      simp [hL0]
      repeat (first | refine AW.seq ?_ | refine AW.block ?_ | (refine AW.reg mix ?_; simp (implicitDefEqProofs := false) [h1, hi']; try simp (disch := omega) only [w64, wu64]) | (refine need.of (by first | omega | kernel_rfl) ?_) | (refine AW.fin ?_; try simp (implicitDefEqProofs := false) [h1, hi']))
      refine AW.cond rfl (fun h => ?_) (fun h => ?_)
      · clear h
        repeat (first | refine AW.seq ?_ | refine AW.block ?_ | (refine AW.reg mix ?_; simp (implicitDefEqProofs := false) [h1, hi']; try simp (disch := omega) only [w64, wu64]) | (refine need.of (by first | omega | kernel_rfl) ?_) | (refine AW.fin ?_; try simp (implicitDefEqProofs := false) [h1, hi']))
        refine CallS.ro [(1, 1, L0), (0, 1, [.sl (nwP xs.length w) L0, .int .i64 xs.length, .int .i64 w])] (hg) ?_ (hok := by first | (simp [frzOK, frzH, htk]; done) | (simp [frzOK, frzH, htk]; rfl))
        (try (simp (implicitDefEqProofs := false); try simp (disch := omega) only [w64, wu64]))
        repeat (first | refine AW.seq ?_ | refine AW.block ?_ | (refine AW.reg mix ?_; simp (implicitDefEqProofs := false); try simp (disch := omega) only [w64, wu64]) | (refine need.of (by first | omega | kernel_rfl) ?_) | (refine AW.fin ?_; try simp (implicitDefEqProofs := false)))
        refine CallS.g [2, 3] (hB) ?_
        (try (simp (implicitDefEqProofs := false) [ew]; try simp (disch := omega) only [w64, wu64]))
        repeat (first | refine AW.seq ?_ | refine AW.block ?_ | (refine AW.reg mix ?_; simp (implicitDefEqProofs := false) [ew]; try simp (disch := omega) only [w64, wu64]) | (refine need.of (by first | omega | kernel_rfl) ?_) | (refine AW.fin ?_; try simp (implicitDefEqProofs := false) [ew]))
        refine ⟨i + 1, 3, 4, by simp, by omega, by omega, ?_, ?_⟩
        · simp [swT, swH, sw, Ob.sw, V.ren, V.rens]
        · rw [if_neg (by omega), hX2]
          simp [swT, swH, sw, Ob.sw, V.ren, V.rens, wrO, wrB, vecO, vecB, hL0, rens_map_d, lowl_map_d]
      · simp [h1, hi'] at h
  · have h2 : i = xs.length := by omega
    subst h2
    rw [if_neg (by omega), List.take_length]
    simp only [vecO, vecB, wrO, wrB]
    repeat (first | refine AW.seq ?_ | refine AW.block ?_ | (refine AW.reg mix ?_; simp (implicitDefEqProofs := false); try simp (disch := omega) only [w64, wu64]) | (refine need.of (by first | omega | kernel_rfl) ?_) | (refine AW.fin ?_; try simp (implicitDefEqProofs := false)))
    refine AW.cond rfl (fun h => ?_) (fun h => ?_)
    · simp at h
    refine AW.exit ?_
    (try (simp (implicitDefEqProofs := false); try simp (disch := omega) only [w64, wu64]))
    repeat (first | refine AW.seq ?_ | refine AW.block ?_ | (refine AW.reg mix ?_; simp (implicitDefEqProofs := false); try simp (disch := omega) only [w64, wu64]) | (refine need.of (by first | omega | kernel_rfl) ?_) | (refine AW.fin ?_; try simp (implicitDefEqProofs := false)))
end
end Go.Proofs.YtdbfenhaljmbfaaGreat.Am
namespace Go.Proofs.YtdbfenhaljmbfaaGreat.Am
section
set_option linter.unusedVariables false
set_option linter.unusedSimpArgs false
open Go.RowKit
set_option maxRecDepth 100000
set_option linter.unusedSimpArgs false
set_option linter.unusedVariables false

set_option maxHeartbeats 1000000 in
theorem awake18_ok : Eqn Tryz.prog n_Tlaw18_awake [] [] (.d (.bool true)) [] := by
  refine Eqn.pure r_Tlaw18_awake Plain.ok ?_
  simp only [c_Tlaw18_awake]
  have hg : GoodR 2 1 3 := goodR_of (.inr ⟨by omega, by omega, by omega, by omega⟩)
  have h1 := cnew_ok 2 hg (by omega) (by omega)
  have hw0 : wells 2 1 3 (List.replicate 2 (0, 0, false)) := wells_rep hg 2
  have h2 := cset_ok (List.replicate 2 (0, 0, false)) 0 5 0 false hg hw0 (by simp) (by simp) (.inr ⟨by omega, rfl, by omega, by simp⟩)
  have hw1 : wells 2 1 3 ((List.replicate 2 (0, 0, false)).set 0 (5, 0, false)) := wells_set hw0 0 (.inr ⟨by omega, rfl, by omega, by simp⟩)
  have h3 := cget_ok ((List.replicate 2 (0, 0, false)).set 0 (5, 0, false)) 0 hg hw1 (by simp) (by simp)
  have hlen : ((List.replicate 2 ((0 : Nat), (0 : Nat), false)).set 0 (5, 0, false)).length = 2 := by simp
  generalize hl1 : (List.replicate 2 ((0 : Nat), (0 : Nat), false)).set 0 (5, 0, false) = l1 at *
  have hwd : wdR 2 1 3 = 4 := by decide
  have h4 := pwrite0_ok 4 (encs 2 1 3 l1) (by simp [hlen]) (by simp [hlen]) (by omega) (by omega) (by rw [← hwd]; exact encs_small _ _ _ _)
  have hpl := packBits_len 4 (encs 2 1 3 l1)
  rw [encs_len, hlen] at hpl
  have h5 := wlen_ok 0 (packBits 4 (encs 2 1 3 l1))
  have h6 := plen_ok 4 (encs 2 1 3 l1)
  have hg0 : l1.getD 0 (0, 0, false) = (5, 0, false) := by rw [← hl1]; rfl
  rw [hg0] at h3
  have htk : ((wordsP 4 (encs 2 1 3 l1)).map fun x : Nat => D.int .u64 x).take (nwP 2 4) = (wordsP 4 (encs 2 1 3 l1)).map fun x : Nat => D.int .u64 x := List.take_of_length_le (by simp [hlen])
  have hL0 : u64s (wordsP 4 (encs 2 1 3 l1)) = ((wordsP 4 (encs 2 1 3 l1)).map fun x : Nat => D.int .u64 x).map V.d := by simp [u64s]
  simp only [arrO, arrV, arrB, vecO, vecB, vecD, parD, tsD, encs_len, hlen, hwd, wrO, wrB, List.length_replicate] at h1 h2 h3 h4 h5 h6
  generalize wordsP 4 (encs 2 1 3 l1) = WS at *
  generalize wordsP 4 (encs 2 1 3 (List.replicate 2 (0, 0, false))) = W0 at *
  generalize packBits 4 (encs 2 1 3 l1) = PB at *
  generalize nwP 2 4 = NW at *
  generalize hLL : (WS.map fun x : Nat => D.int .u64 x) = L0 at *
  simp at h1 h2 h3 h4 h5
  clear hl1 hw0 hw1 hg0
  repeat (first | refine AW.seq ?_ | refine AW.block ?_ | (refine AW.reg mix ?_; simp (implicitDefEqProofs := false) [-Bool.exists_bool]; try simp (disch := omega) only [w64, wu64]) | (refine need.of (by first | omega | kernel_rfl) ?_) | (refine AW.fin ?_; try simp (implicitDefEqProofs := false) [-Bool.exists_bool]))
  refine CallS.g [] (h1) ?_
  (try (simp (implicitDefEqProofs := false) [-Bool.exists_bool]; try simp (disch := omega) only [w64, wu64]))
  repeat (first | refine AW.seq ?_ | refine AW.block ?_ | (refine AW.reg mix ?_; simp (implicitDefEqProofs := false) [-Bool.exists_bool]; try simp (disch := omega) only [w64, wu64]) | (refine need.of (by first | omega | kernel_rfl) ?_) | (refine AW.fin ?_; try simp (implicitDefEqProofs := false) [-Bool.exists_bool]))
  refine CallS.g [0, 1, 2] (h2) ?_
  (try (simp (implicitDefEqProofs := false) [-Bool.exists_bool]; try simp (disch := omega) only [w64, wu64]))
  repeat (first | refine AW.seq ?_ | refine AW.block ?_ | (refine AW.reg mix ?_; simp (implicitDefEqProofs := false) [-Bool.exists_bool]; try simp (disch := omega) only [w64, wu64]) | (refine need.of (by first | omega | kernel_rfl) ?_) | (refine AW.fin ?_; try simp (implicitDefEqProofs := false) [-Bool.exists_bool]))
  refine AW.cond rfl (fun h => ?_) (fun h => ?_)
  · simp at h
  repeat (first | refine AW.seq ?_ | refine AW.block ?_ | (refine AW.reg mix ?_; simp (implicitDefEqProofs := false) [-Bool.exists_bool]; try simp (disch := omega) only [w64, wu64]) | (refine need.of (by first | omega | kernel_rfl) ?_) | (refine AW.fin ?_; try simp (implicitDefEqProofs := false) [-Bool.exists_bool]))
  refine CallS.g [0, 1, 2] (h3) ?_
  (try (simp (implicitDefEqProofs := false) [-Bool.exists_bool]; try simp (disch := omega) only [w64, wu64]))
  repeat (first | refine AW.seq ?_ | refine AW.block ?_ | (refine AW.reg mix ?_; simp (implicitDefEqProofs := false) [-Bool.exists_bool]; try simp (disch := omega) only [w64, wu64]) | (refine need.of (by first | omega | kernel_rfl) ?_) | (refine AW.fin ?_; try simp (implicitDefEqProofs := false) [-Bool.exists_bool]))
  refine CallS.g [1, 2, 4] (h4) ?_
  (try (simp (implicitDefEqProofs := false) [-Bool.exists_bool]; try simp (disch := omega) only [w64, wu64]))
  repeat (first | refine AW.seq ?_ | refine AW.block ?_ | (refine AW.reg mix ?_; simp (implicitDefEqProofs := false) [-Bool.exists_bool]; try simp (disch := omega) only [w64, wu64]) | (refine need.of (by first | omega | kernel_rfl) ?_) | (refine AW.fin ?_; try simp (implicitDefEqProofs := false) [-Bool.exists_bool]))
  refine CallS.ro [(2, 1, L0), (1, 1, [.sl NW L0, .int .i64 (2 : Nat), .int .i64 (4 : Nat)])] (h6) ?_ (hok := by first | (simp [frzOK, frzH, hL0, htk]; done) | (simp [frzOK, frzH, hL0, htk]; rfl))
  (try (simp (implicitDefEqProofs := false) [-Bool.exists_bool]; try simp (disch := omega) only [w64, wu64]))
  repeat (first | refine AW.seq ?_ | refine AW.block ?_ | (refine AW.reg mix ?_; simp (implicitDefEqProofs := false) [-Bool.exists_bool]; try simp (disch := omega) only [w64, wu64]) | (refine need.of (by first | omega | kernel_rfl) ?_) | (refine AW.fin ?_; try simp (implicitDefEqProofs := false) [-Bool.exists_bool]))
  refine CallS.g [4, 5] (h5) ?_
  (try (simp (implicitDefEqProofs := false) [hpl, -Bool.exists_bool]; try simp (disch := omega) only [w64, wu64]))
  repeat (first | refine AW.seq ?_ | refine AW.block ?_ | (refine AW.reg mix ?_; simp (implicitDefEqProofs := false) [hpl, -Bool.exists_bool]; try simp (disch := omega) only [w64, wu64]) | (refine need.of (by first | omega | kernel_rfl) ?_) | (refine AW.fin ?_; try simp (implicitDefEqProofs := false) [hpl, -Bool.exists_bool]))

/-- a merge of registers, round by round -/
structure MR where
  e : Int
  l : List ST
  p : Nat
  d : Bool
def mergeUp (cs : List Bool) (k a b : Nat) (l m : List ST) (p : Nat) (d : Bool) : Nat → MR
  | 0 => ⟨0, [], p, d⟩
  | i + 1 =>
    let S := mergeUp cs k a b l m p d i
    if S.e = 0 then
      let R := mergeRM cs k a b (l.getD i (0, 0, false)).1 (l.getD i (0, 0, false)).2.1 (l.getD i (0, 0, false)).2.2 (m.getD i (0, 0, false)).1 (m.getD i (0, 0, false)).2.1 (m.getD i (0, 0, false)).2.2 S.p S.d
      if R.e = 0 then ⟨0, S.l ++ [(R.y, R.t, R.f)], R.p, R.d⟩ else ⟨R.e, S.l, R.p, R.d⟩
    else S
/-- the twin, so far -/
def twin (l acc : List ST) : List ST := acc ++ l.drop acc.length
end
end Go.Proofs.YtdbfenhaljmbfaaGreat.Am
namespace Go.Proofs.YtdbfenhaljmbfaaGreat.Am
section
set_option linter.unusedVariables false
set_option linter.unusedSimpArgs false
open Go.RowKit
set_option maxRecDepth 100000
set_option linter.unusedSimpArgs false
set_option linter.unusedVariables false
end
end Go.Proofs.YtdbfenhaljmbfaaGreat.Am
namespace Go.Proofs.YtdbfenhaljmbfaaGreat.Am
section
set_option linter.unusedVariables false
set_option linter.unusedSimpArgs false
open Go.RowKit
set_option maxRecDepth 100000
set_option linter.unusedSimpArgs false
set_option linter.unusedVariables false

/-- no error, or that of an empty tape -/
def E8 (e : Int) : Prop := e = 0 ∨ e = 8
theorem E8.ite {α : Type} (g : α → Int) {c : Prop} [Decidable c] {x y : α} (hx : c → E8 (g x)) (hy : ¬ c → E8 (g y)) : E8 (g (if c then x else y)) := by
  by_cases h : c
  · rw [if_pos h]; exact hx h
  · rw [if_neg h]; exact hy h
theorem wrongM_good {a x : Nat} (h1 : 1 ≤ a) (h2 : a ≤ 4096) (hx : x ≤ 1023) : wrongM a [(x : Int)] = 0 := by
  unfold wrongM
  rw [if_pos (by omega), if_pos (by simp [okK]; omega)]
theorem flipE_8 (cs : List Bool) (p : Nat) (d : Bool) : E8 (flipE cs p d) := by unfold flipE E8; split <;> simp
theorem halfR_8 (cs : List Bool) : ∀ k p d, E8 (halfR cs k p d).2.1
  | 0, _, _ => .inl rfl
  | k + 1, p, d => by
    rw [halfR]; split
    · exact halfR_8 cs k _ _
    · exact flipE_8 cs p d
theorem ratioR_8 (cs : List Bool) (q : Nat) : ∀ f r p d, E8 (ratioR cs q f r p d).2.1
  | 0, _, _, _ => .inl rfl
  | f + 1, r, p, d => by
    rw [ratioR]
    exact E8.ite (fun r : Bool × Int × Nat × Bool => r.2.1) (fun _ => E8.ite (fun r : Bool × Int × Nat × Bool => r.2.1) (fun _ => E8.ite (fun r : Bool × Int × Nat × Bool => r.2.1) (fun _ => .inl rfl) (fun _ => ratioR_8 cs q f _ _ _)) (fun _ => flipE_8 cs p d)) (fun _ => .inl rfl)
theorem ratioA_8 (cs : List Bool) (a q p : Nat) (d : Bool) : E8 (ratioA cs a q p d).2.1 := by
  unfold ratioA; split
  · exact .inl rfl
  · exact ratioR_8 _ _ _ _ _ _
theorem powerR_8 (cs : List Bool) (a q : Nat) : ∀ k p d, E8 (powerR cs a q k p d).2.1
  | 0, _, _ => .inl rfl
  | k + 1, p, d => by
    rw [powerR]; split
    · exact powerR_8 cs a q k _ _
    · exact ratioA_8 cs a q p d
theorem stOf_8 {k a b : Nat} (h : GoodC k a b) (cs : List Bool) (x : Nat) (hx : x ≤ 1023) (p : Nat) (d : Bool) : E8 (stOf cs k a x p d).2.1 := by
  obtain ⟨h, -⟩ := h
  unfold stOf
  rcases h with ⟨rfl, h1, h2, -⟩ | ⟨rfl, h1⟩ | ⟨rfl, h1, h2⟩
  · rw [if_pos (by rfl)]
    unfold stepM
    rw [if_pos (wrongM_good (by omega) (by omega) hx)]
    exact powerR_8 _ _ _ _ _ _
  · rw [if_neg (by decide), if_pos (by rfl)]
    unfold stepG
    rw [if_pos (wrong_good (by omega) hx)]
    exact halfR_8 _ _ _ _
  · rw [if_neg (by decide), if_neg (by decide)]
    unfold stepYG
    rw [if_pos (by unfold atE; rw [if_pos (by omega), if_pos (by omega)])]
    exact halfR_8 _ _ _ _
theorem addL_8 {st : StepT} {top : Nat} (hs : ∀ x p d, x ≤ top → E8 (st x p d).2.1) : ∀ (n x : Nat) (f : Bool) (p : Nat) (d : Bool), x ≤ top → E8 (addL st top n x f p d).1
  | 0, _, _, _, _, _ => .inl rfl
  | n + 1, x, f, p, d, hx => by
    rw [addL]
    exact E8.ite (fun r : Int × Nat × Bool × Nat × Bool => r.1) (fun _ => .inl rfl) (fun hne => E8.ite (fun r : Int × Nat × Bool × Nat × Bool => r.1) (fun _ => E8.ite (fun r : Int × Nat × Bool × Nat × Bool => r.1) (fun _ => .inl rfl) (fun _ => addL_8 hs n _ _ _ _ (by split <;> omega))) (fun _ => hs x p d hx))
theorem binM_8 (cs : List Bool) : ∀ n c p d, E8 (binM cs n c p d).1
  | 0, _, _, _ => .inl rfl
  | n + 1, c, p, d => by
    rw [binM]; split
    · exact binM_8 cs n _ _ _
    · exact flipE_8 cs p d
theorem thinM_8 (cs : List Bool) (f : Bool) : ∀ n y t p d, E8 (thinM cs f n y t p d).e
  | 0, _, _, _, _ => .inl rfl
  | n + 1, y, t, p, d => by
    rw [thinM]; split
    · exact thinM_8 cs f n _ _ _ _
    · exact binM_8 _ _ _ _ _
theorem downM_8 (cs : List Bool) (a b : Nat) : ∀ k y t f p d, E8 (downM cs a b k y t f p d).e
  | 0, _, _, _, _, _ => .inl rfl
  | k + 1, y, t, f, p, d => by
    rw [downM]; split
    · split
      · exact .inl rfl
      · split
        · exact downM_8 cs a b k _ _ _ _ _
        · exact thinM_8 _ _ _ _ _ _ _
    · exact .inl rfl
theorem oneM_8 (cs : List Bool) (a b y t : Nat) (f : Bool) (p : Nat) (d : Bool) : E8 (oneM cs a b y t f p d).e := by
  unfold oneM; split
  · exact downM_8 _ _ _ _ _ _ _ _ _
  · exact halfR_8 _ _ _ _
theorem addTM_8 (cs : List Bool) (a b : Nat) : ∀ n y t f p d, E8 (addTM cs a b n y t f p d).e
  | 0, _, _, _, _, _ => .inl rfl
  | n + 1, y, t, f, p, d => by
    rw [addTM]; split
    · exact addTM_8 cs a b n _ _ _ _ _
    · exact oneM_8 _ _ _ _ _ _ _ _
theorem addRM_8 {cs : List Bool} {k a b n y t : Nat} {f : Bool} {p : Nat} {d : Bool} (h : GoodR k a b) (hw : WellR k a b y t f) : E8 (addRM cs k a b n y t f p d).e := by
  unfold addRM
  rcases h with ⟨rfl, -⟩ | ⟨hk, hg⟩
  · rw [if_pos rfl]; exact addTM_8 _ _ _ _ _ _ _ _ _
  · rw [if_neg hk]
    rcases hw with ⟨hk', -⟩ | ⟨-, -, hy, -⟩
    · exact absurd hk' hk
    have h10 : 2 ^ b ≤ 2 ^ 10 := Nat.pow_le_pow_right (by omega) hg.2.2
    exact addL_8 (fun x p d hx => stOf_8 hg cs x (by omega) p d) _ _ _ _ _ hy
end
end Go.Proofs.YtdbfenhaljmbfaaGreat.Am
namespace Go.Proofs.YtdbfenhaljmbfaaGreat.Am
section
set_option linter.unusedVariables false
set_option linter.unusedSimpArgs false
open Go.RowKit
set_option maxRecDepth 100000
set_option linter.unusedSimpArgs false
set_option linter.unusedVariables false

/-- the coins of CarrayApart -/
def cN (i : Nat) : List Bool := (List.range i).map fun j => decide (j % 3 ≠ 1)
theorem cN_len (i : Nat) : (cN i).length = i := by simp [cN]
theorem cN_succ (i : Nat) : cN (i + 1) = cN i ++ [decide (i % 3 ≠ 1)] := by simp [cN, List.range_succ]
abbrev cV (i : Nat) : List V := ((cN i).map D.bool).map V.d
theorem cV_len (i : Nat) : (cV i).length = i := by simp [cV, cN_len]
theorem cV_succ (i : Nat) : cV i ++ [.d (.bool (decide (i % 3 ≠ 1)))] = cV (i + 1) := by simp [cV, cN_succ]

theorem mapc_ren (θ : Nat → Nat) (l : List Bool) : V.rens θ (l.map (V.d ∘ D.bool)) = l.map (V.d ∘ D.bool) := by
  have := rens_map_d θ (l.map .bool)
  rwa [List.map_map] at this
theorem mapc_low (n : Nat) (l : List Bool) : V.lowl n (l.map (V.d ∘ D.bool)) = true := by
  have := lowl_map_d n (l.map .bool)
  rwa [List.map_map] at this
theorem frzs_u64s (n s : Nat) (ds : List D) (ws : List Nat) : V.frzs n s ds (u64s ws) = u64s ws := by
  have := frzs_map_d n s ds (ws.map fun x : Nat => D.int .u64 x)
  rw [List.map_map] at this
  exact this

set_option maxHeartbeats 8000000 in
theorem carrayApart_ok (k a b a0 a1 : Int) (L : List RS) (hL : L.length ≤ 9223372036854775807) : Eqn Tryz.prog n_Tlaw18_CarrayApart [.d (parD k a b), .d (.sl L.length (rawL L)), .d (.agg [.int .i64 a0, .int .i64 a1])] [] (.d (.bool true)) [] := by
  refine Eqn.pure r_Tlaw18_CarrayApart Plain.ok ?_
  obtain ⟨K, A, B, hsr, hsm⟩ := lsmall_ok k a b
  obtain ⟨Y0, T0, F0, -, hs1⟩ := hsm 0 0 false
  have hg := goodR_of hsr
  obtain ⟨l, l1, l8, lw, hml⟩ := make18_ok hsr L hL
  have hll := stL_len l
  simp only [c_Tlaw18_CarrayApart, parD, arrO, arrV, arrB, vecO, vecB, encs_len, tsD] at hs1 hml ⊢
  repeat (first | refine AW.seq ?_ | refine AW.block ?_ | (refine AW.reg mix ?_; simp (implicitDefEqProofs := false) [-Bool.exists_bool]; try simp (disch := omega) only [w64, wu64]) | (refine need.of (by first | omega | kernel_rfl) ?_) | (refine AW.fin ?_; try simp (implicitDefEqProofs := false) [-Bool.exists_bool]))
  refine CallS.pu (awake18_ok) ?_
  (try (simp (implicitDefEqProofs := false) [-Bool.exists_bool]; try simp (disch := omega) only [w64, wu64]))
  repeat (first | refine AW.seq ?_ | refine AW.block ?_ | (refine AW.reg mix ?_; simp (implicitDefEqProofs := false) [-Bool.exists_bool]; try simp (disch := omega) only [w64, wu64]) | (refine need.of (by first | omega | kernel_rfl) ?_) | (refine AW.fin ?_; try simp (implicitDefEqProofs := false) [-Bool.exists_bool]))
  refine AW.cond rfl (fun h => ?_) (fun h => ?_)
  · simp at h
  clear h
  repeat (first | refine AW.seq ?_ | refine AW.block ?_ | (refine AW.reg mix ?_; simp (implicitDefEqProofs := false) [-Bool.exists_bool]; try simp (disch := omega) only [w64, wu64]) | (refine need.of (by first | omega | kernel_rfl) ?_) | (refine AW.fin ?_; try simp (implicitDefEqProofs := false) [-Bool.exists_bool]))
  refine CallS.pu (hs1) ?_
  (try (simp (implicitDefEqProofs := false) [-Bool.exists_bool]; try simp (disch := omega) only [w64, wu64]))
  repeat (first | refine AW.seq ?_ | refine AW.block ?_ | (refine AW.reg mix ?_; simp (implicitDefEqProofs := false) [-Bool.exists_bool]; try simp (disch := omega) only [w64, wu64]) | (refine need.of (by first | omega | kernel_rfl) ?_) | (refine AW.fin ?_; try simp (implicitDefEqProofs := false) [-Bool.exists_bool]))
  refine CallS.g [] (hml) ?_
  (try (simp (implicitDefEqProofs := false) [-Bool.exists_bool]; try simp (disch := omega) only [w64, wu64]))
  repeat (first | refine AW.seq ?_ | refine AW.block ?_ | (refine AW.reg mix ?_; simp (implicitDefEqProofs := false) [-Bool.exists_bool]; try simp (disch := omega) only [w64, wu64]) | (refine need.of (by first | omega | kernel_rfl) ?_) | (refine AW.fin ?_; try simp (implicitDefEqProofs := false) [-Bool.exists_bool]))
  refine AW.cond rfl (fun h => ?_) (fun h => ?_)
  · simp at h
  clear h
  repeat (first | refine AW.seq ?_ | refine AW.block ?_ | (refine AW.reg mix ?_; simp (implicitDefEqProofs := false) [-Bool.exists_bool]; try simp (disch := omega) only [w64, wu64]) | (refine need.of (by first | omega | kernel_rfl) ?_) | (refine AW.fin ?_; try simp (implicitDefEqProofs := false) [-Bool.exists_bool]))
  refine AW.loopG (α := Nat) (fun i => [.d (.agg [.int .i64 k, .int .i64 a, .int .i64 b]), .d (.sl L.length (rawL L)), .d (.agg [.int .i64 a0, .int .i64 a1]), .p 0 0, .junk, .p 1 0, .d (.bool false), .p 2 0, .p 3 0, .p 4 0, .d (.sl l.length (stL l)), .d (.bool true), if i = 0 then .d .nilsl else .own 7 1 i] ++ List.replicate 26 .junk ++ [.d (.int .i64 (i : Int))] ++ List.replicate 89 .junk) (fun i => [some ⟨23, [.d (.int .i64 k), .d (.int .i64 a), .d (.int .i64 b)]⟩, some ⟨40, [.d (.int .i64 a0), .d (.int .i64 a1)]⟩, some ⟨23, [.d (.int .i64 K), .d (.int .i64 A), .d (.int .i64 B)]⟩, some ⟨27, [.d (.int .i64 Y0), .d (.int .i64 T0), .d (.bool F0)]⟩, some ⟨109, [.p 5 0, .d (.int .i64 K), .d (.int .i64 A), .d (.int .i64 B)]⟩, some ⟨169, [.own 6 1 (nwP l.length (wdR K A B)), .d (.int .i64 l.length), .d (.int .i64 (wdR K A B : Nat))]⟩, some ⟨80, u64s (wordsP (wdR K A B) (encs K A B l))⟩] ++ if i = 0 then [] else [some ⟨4, cV i⟩]) (fun i => i ≤ 200) (fun i => 200 - i) 0 ?_ (Nat.zero_le _) ?_ ?_ ?_
  · intro i hi; split <;> simp
  · simp
  · simp
  rintro i hi
  by_cases hi' : i < 200
  · have h1 : (i : Int) < 200 := by omega
    have ew : IntKind.i64.wrap ((i : Int) + 1) = ((i + 1 : Nat) : Int) := by rw [w64 (by omega) (by omega)]; omega
    have hmod : ((i : Int).tmod 3 != 1) = decide (i % 3 ≠ 1) := by
      rw [Int.tmod_eq_emod_of_nonneg (by omega), Bool.eq_iff_iff]; simp; omega
    by_cases hi0 : i = 0
    · subst hi0
      rw [if_pos rfl, if_pos rfl]
      simp
      repeat (first | refine AW.seq ?_ | refine AW.block ?_ | (refine AW.reg mix ?_; simp (implicitDefEqProofs := false) [-Bool.exists_bool]; try simp (disch := omega) only [w64, wu64]) | (refine need.of (by first | omega | kernel_rfl) ?_) | (refine AW.fin ?_; try simp (implicitDefEqProofs := false) [-Bool.exists_bool]))
      refine AW.cond rfl (fun h => ?_) (fun h => ?_)
      · repeat (first | refine AW.seq ?_ | refine AW.block ?_ | (refine AW.reg mix ?_; simp (implicitDefEqProofs := false) [ew, -Bool.exists_bool]; try simp (disch := omega) only [w64, wu64]) | (refine need.of (by first | omega | kernel_rfl) ?_) | (refine AW.fin ?_; try simp (implicitDefEqProofs := false) [ew, -Bool.exists_bool]))
        refine ⟨1, 7, 8, by simp, by omega, by omega, ?_, ?_⟩
        · simp [swT, swH, sw, Ob.sw, V.ren, V.rens]
        · simp [swT, swH, sw, Ob.sw, V.ren, V.rens, cV, cN]
      · simp at h
    · rw [if_neg hi0, if_neg hi0]
      have hlc := cV_len i
      have hsn := cV_succ i
      generalize hX : cV i = X at *
      simp
      repeat (first | refine AW.seq ?_ | refine AW.block ?_ | (refine AW.reg mix ?_; simp (implicitDefEqProofs := false) [h1, hi', -Bool.exists_bool]; try simp (disch := omega) only [w64, wu64]) | (refine need.of (by first | omega | kernel_rfl) ?_) | (refine AW.fin ?_; try simp (implicitDefEqProofs := false) [h1, hi', -Bool.exists_bool]))
      refine AW.cond rfl (fun h => ?_) (fun h => ?_)
      · repeat (first | refine AW.seq ?_ | refine AW.block ?_ | (refine AW.reg mix ?_; simp (implicitDefEqProofs := false) [h1, hi', -Bool.exists_bool]; try simp (disch := omega) only [w64, wu64]) | (refine need.of (by first | omega | kernel_rfl) ?_) | (refine AW.fin ?_; try simp (implicitDefEqProofs := false) [h1, hi', -Bool.exists_bool]))
        simp only [hmod, hsn, ew]
        refine ⟨i + 1, 7, 9, by simp, by omega, by omega, ?_, ?_⟩
        · simp [swT, swH, sw, Ob.sw, V.ren, V.rens]
        · rw [if_neg (by omega)]
          simp [swT, swH, sw, Ob.sw, V.ren, V.rens, mapc_ren, mapc_low]
      · simp [h1, hi'] at h
  · have h2 : i = 200 := by omega
    subst h2
    rw [if_neg (by omega), if_neg (by omega)]
    have hcl : (cN 200).length = 200 := cN_len 200
    have hcl2 : ((cN 200).map D.bool).length = 200 := by simp [hcl]
    have hnw : Eqn Tryz.prog n_tape_New [.d (.sl 200 ((cN 200).map .bool))] [] (.p 0 0) [tapeO (cN 200) 0 false] := by
      have := new_ok (cN 200) (by omega)
      simp only [BL, hcl] at this
      exact this
    simp
    repeat (first | refine AW.seq ?_ | refine AW.block ?_ | (refine AW.reg mix ?_; simp (implicitDefEqProofs := false) [-Bool.exists_bool]; try simp (disch := omega) only [w64, wu64]) | (refine need.of (by first | omega | kernel_rfl) ?_) | (refine AW.fin ?_; try simp (implicitDefEqProofs := false) [-Bool.exists_bool]))
    refine AW.cond rfl (fun h => ?_) (fun h => ?_)
    · simp at h
    refine AW.exit ?_
    (try (simp (implicitDefEqProofs := false) [-Bool.exists_bool]; try simp (disch := omega) only [w64, wu64]))
    refine AW.freeze 7 1 ⟨4, cV 200⟩ ((cN 200).map .bool) (by rfl) rfl ?_
    simp [hcl, List.take_of_length_le, frzs_u64s]
    have hn0 : l.length ≠ 0 := by omega
    obtain ⟨u, kk, e1, e2, hkk⟩ : ∃ u kk : Nat, IntKind.i64.wrap (a0.tmod l.length + l.length) = u ∧ (u : Int).tmod l.length = kk ∧ kk < l.length := by
      have h1 := Int.tmod_lt_of_pos a0 (show (0 : Int) < l.length by omega)
      have h2 : -(l.length : Int) < a0.tmod l.length := by
        have := Int.tmod_lt_of_pos (-a0) (show (0 : Int) < l.length by omega)
        rw [Int.neg_tmod] at this; omega
      refine ⟨(a0.tmod l.length + l.length).toNat, (a0.tmod l.length + l.length).toNat % l.length, by rw [w64 (by omega) (by omega)]; omega, ?_, Nat.mod_lt _ (by omega)⟩
      rw [Int.tmod_eq_emod_of_nonneg (by omega)]; rfl
    obtain ⟨m, e3, hm7, -⟩ := and_b a1 7 (by omega)
    replace e3 : bits BinOp.and IntKind.i64 a1 7 = m := e3
    have hcl1 := cclone_ok l hg l1 (by omega)
    obtain ⟨s, hs⟩ : ∃ s, l.getD kk (0, 0, false) = s := ⟨_, rfl⟩
    have hws := wells_get lw hkk
    rw [hs] at hws
    obtain ⟨R, hR⟩ : ∃ R, R = addRM (cN 200) K A B m s.1 s.2.1 s.2.2 0 false := ⟨_, rfl⟩
    have hca := cadd_ok (cN 200) l kk m 0 false hg lw hkk (by omega) (by omega) (Nat.zero_le _) (by omega) R (by rw [hs]; exact hR)
    have hmw := addRM_well (cs := cN 200) (n := m) (p := 0) (d := false) hg hws (Nat.zero_le _) (by omega)
    have h8 := addRM_8 (cs := cN 200) (n := m) (p := 0) (d := false) hg hws
    rw [← hR] at hmw h8
    clear hR
    simp only [arrO, arrV, arrB, vecO, vecB, encs_len] at hca hcl1
    have hmi : (m : Int) ≤ 7 := by omega
    repeat (first | refine AW.seq ?_ | refine AW.block ?_ | (refine AW.reg mix ?_; simp (implicitDefEqProofs := false) [hn0, e1, e2, e3, hll, -Bool.exists_bool]; try simp (disch := omega) only [w64, wu64]) | (refine need.of (by first | omega | kernel_rfl) ?_) | (refine AW.fin ?_; try simp (implicitDefEqProofs := false) [hn0, e1, e2, e3, hll, -Bool.exists_bool]))
    refine CallS.g [4, 5, 6] (hcl1) ?_
    (try (simp (implicitDefEqProofs := false) [hn0, e1, e2, e3, hll, -Bool.exists_bool]; try simp (disch := omega) only [w64, wu64]))
    repeat (first | refine AW.seq ?_ | refine AW.block ?_ | (refine AW.reg mix ?_; simp (implicitDefEqProofs := false) [hn0, e1, e2, e3, hll, -Bool.exists_bool]; try simp (disch := omega) only [w64, wu64]) | (refine need.of (by first | omega | kernel_rfl) ?_) | (refine AW.fin ?_; try simp (implicitDefEqProofs := false) [hn0, e1, e2, e3, hll, -Bool.exists_bool]))
    refine CallS.n1 (hnw) ?_
    (try (simp (implicitDefEqProofs := false) [hn0, e1, e2, e3, hll, -Bool.exists_bool]; try simp (disch := omega) only [w64, wu64]))
    repeat (first | refine AW.seq ?_ | refine AW.block ?_ | (refine AW.reg mix ?_; simp (implicitDefEqProofs := false) [hn0, e1, e2, e3, hll, -Bool.exists_bool]; try simp (disch := omega) only [w64, wu64]) | (refine need.of (by first | omega | kernel_rfl) ?_) | (refine AW.fin ?_; try simp (implicitDefEqProofs := false) [hn0, e1, e2, e3, hll, -Bool.exists_bool]))
    by_cases he : R.e = 0
    · have hwr := hmw.2 he
      obtain ⟨l', hl'⟩ : ∃ l', l' = l.set kk (R.y, R.t, R.f) := ⟨_, rfl⟩
      have hl'len : l'.length = l.length := by rw [hl']; simp
      have hl'w : wells K A B l' := by rw [hl']; exact wells_set lw kk hwr
      have hback : l'.set kk s = l := by
        rw [hl', List.set_set]
        apply List.ext_getElem?
        intro j
        by_cases hj : kk = j
        · subst hj
          rw [List.getElem?_set_self hkk, List.getElem?_eq_getElem hkk, ← hs, List.getD_eq_getElem?_getD, List.getElem?_eq_getElem hkk]; rfl
        · rw [List.getElem?_set_ne hj]
      have hsame : ∀ j, j ≠ kk → l'.getD j (0, 0, false) = l.getD j (0, 0, false) := by
        intro j hj
        rw [hl', List.getD_eq_getElem?_getD, List.getElem?_set_ne (Ne.symm hj), List.getD_eq_getElem?_getD]
      rw [if_pos he, he, ← hl'] at hca
      clear hl'
      refine CallS.g [4, 5, 6, 11] (hca) ?_
      (try (simp (implicitDefEqProofs := false) [-Bool.exists_bool]; try simp (disch := omega) only [w64, wu64]))
      repeat (first | refine AW.seq ?_ | refine AW.block ?_ | (refine AW.reg mix ?_; simp (implicitDefEqProofs := false) [-Bool.exists_bool]; try simp (disch := omega) only [w64, wu64]) | (refine need.of (by first | omega | kernel_rfl) ?_) | (refine AW.fin ?_; try simp (implicitDefEqProofs := false) [-Bool.exists_bool]))
      refine AW.cond rfl (fun h => ?_) (fun h => ?_)
      · simp at h
      repeat (first | refine AW.seq ?_ | refine AW.block ?_ | (refine AW.reg mix ?_; simp (implicitDefEqProofs := false) [-Bool.exists_bool]; try simp (disch := omega) only [w64, wu64]) | (refine need.of (by first | omega | kernel_rfl) ?_) | (refine AW.fin ?_; try simp (implicitDefEqProofs := false) [-Bool.exists_bool]))
      refine AW.loopT (α := Nat) 12 (fun i => [(81, .d (.int .i64 (i : Int)))]) (fun i => []) (fun i => i ≤ l.length) (fun i => l.length - i) 0 ?_ ?_ (Nat.zero_le _) ?_ ?_ ?_
      · simp
      · simp
      · simp
      · simp [tapeO, -Bool.exists_bool]
      rintro i hi
      simp [-Bool.exists_bool]
      by_cases hi' : i < l.length
      · have h1 : (i : Int) < l.length := by omega
        have hgi := cget_ok l' i hg hl'w (by omega) (by omega)
        have hlg := stL_get l i hi'
        have ew : IntKind.i64.wrap ((i : Int) + 1) = ((i + 1 : Nat) : Int) := by rw [w64 (by omega) (by omega)]; omega
        by_cases hik : i = kk
        · subst hik
          generalize l'.getD i (0, 0, false) = r at hgi
          obtain ⟨r1, r2, r3⟩ := r
          simp only [arrO, arrV, arrB, vecO, vecB, encs_len, hl'len, tsD] at hgi
          repeat (first | refine AW.seq ?_ | refine AW.block ?_ | (refine AW.reg mix ?_; simp (implicitDefEqProofs := false) [hi', h1, -Bool.exists_bool]; try simp (disch := omega) only [w64, wu64]) | (refine need.of (by first | omega | kernel_rfl) ?_) | (refine AW.fin ?_; try simp (implicitDefEqProofs := false) [hi', h1, -Bool.exists_bool]))
          refine AW.cond rfl (fun h => ?_) (fun h => ?_)
          · clear h
            repeat (first | refine AW.seq ?_ | refine AW.block ?_ | (refine AW.reg mix ?_; simp (implicitDefEqProofs := false) [hi', h1, -Bool.exists_bool]; try simp (disch := omega) only [w64, wu64]) | (refine need.of (by first | omega | kernel_rfl) ?_) | (refine AW.fin ?_; try simp (implicitDefEqProofs := false) [hi', h1, -Bool.exists_bool]))
            refine CallS.g [4, 5, 6] (hgi) ?_
            (try (simp (implicitDefEqProofs := false) [hi', h1, hll, hlg, -Bool.exists_bool]; try simp (disch := omega) only [w64, wu64]))
            repeat (first | refine AW.seq ?_ | refine AW.block ?_ | (refine AW.reg mix ?_; simp (implicitDefEqProofs := false) [hi', h1, hll, hlg, -Bool.exists_bool]; try simp (disch := omega) only [w64, wu64]) | (refine need.of (by first | omega | kernel_rfl) ?_) | (refine AW.fin ?_; try simp (implicitDefEqProofs := false) [hi', h1, hll, hlg, -Bool.exists_bool]))
            refine AW.cond rfl (fun h => ?_) (fun h => ?_)
            · simp at h
            repeat (first | refine AW.seq ?_ | refine AW.block ?_ | (refine AW.reg mix ?_; simp (implicitDefEqProofs := false) [ew, -Bool.exists_bool]; try simp (disch := omega) only [w64, wu64]) | (refine need.of (by first | omega | kernel_rfl) ?_) | (refine AW.fin ?_; try simp (implicitDefEqProofs := false) [ew, -Bool.exists_bool]))
            (try (simp (implicitDefEqProofs := false) [ew, -Bool.exists_bool]; try simp (disch := omega) only [w64, wu64]))
            repeat (first | refine AW.seq ?_ | refine AW.block ?_ | (refine AW.reg mix ?_; simp (implicitDefEqProofs := false) [ew, -Bool.exists_bool]; try simp (disch := omega) only [w64, wu64]) | (refine need.of (by first | omega | kernel_rfl) ?_) | (refine AW.fin ?_; try simp (implicitDefEqProofs := false) [ew, -Bool.exists_bool]))
            exact ⟨i + 1, by omega, by omega, by simp⟩
          · simp [hi', h1] at h
        · rw [hsame i hik] at hgi
          generalize l.getD i (0, 0, false) = r at hgi hlg
          obtain ⟨r1, r2, r3⟩ := r
          have hik2 : ¬ (i : Int) = kk := by omega
          simp only [arrO, arrV, arrB, vecO, vecB, encs_len, hl'len, tsD] at hgi
          repeat (first | refine AW.seq ?_ | refine AW.block ?_ | (refine AW.reg mix ?_; simp (implicitDefEqProofs := false) [hi', h1, -Bool.exists_bool]; try simp (disch := omega) only [w64, wu64]) | (refine need.of (by first | omega | kernel_rfl) ?_) | (refine AW.fin ?_; try simp (implicitDefEqProofs := false) [hi', h1, -Bool.exists_bool]))
          refine AW.cond rfl (fun h => ?_) (fun h => ?_)
          · clear h
            repeat (first | refine AW.seq ?_ | refine AW.block ?_ | (refine AW.reg mix ?_; simp (implicitDefEqProofs := false) [hi', h1, -Bool.exists_bool]; try simp (disch := omega) only [w64, wu64]) | (refine need.of (by first | omega | kernel_rfl) ?_) | (refine AW.fin ?_; try simp (implicitDefEqProofs := false) [hi', h1, -Bool.exists_bool]))
            refine CallS.g [4, 5, 6] (hgi) ?_
            (try (simp (implicitDefEqProofs := false) [hi', h1, hik, hik2, hll, hlg, -Bool.exists_bool]; try simp (disch := omega) only [w64, wu64]))
            repeat (first | refine AW.seq ?_ | refine AW.block ?_ | (refine AW.reg mix ?_; simp (implicitDefEqProofs := false) [hi', h1, hik, hik2, hll, hlg, -Bool.exists_bool]; try simp (disch := omega) only [w64, wu64]) | (refine need.of (by first | omega | kernel_rfl) ?_) | (refine AW.fin ?_; try simp (implicitDefEqProofs := false) [hi', h1, hik, hik2, hll, hlg, -Bool.exists_bool]))
            refine AW.cond rfl (fun h => ?_) (fun h => ?_)
            · simp at h
            repeat (first | refine AW.seq ?_ | refine AW.block ?_ | (refine AW.reg mix ?_; simp (implicitDefEqProofs := false) [ew, -Bool.exists_bool]; try simp (disch := omega) only [w64, wu64]) | (refine need.of (by first | omega | kernel_rfl) ?_) | (refine AW.fin ?_; try simp (implicitDefEqProofs := false) [ew, -Bool.exists_bool]))
            (try (simp (implicitDefEqProofs := false) [ew, -Bool.exists_bool]; try simp (disch := omega) only [w64, wu64]))
            repeat (first | refine AW.seq ?_ | refine AW.block ?_ | (refine AW.reg mix ?_; simp (implicitDefEqProofs := false) [ew, -Bool.exists_bool]; try simp (disch := omega) only [w64, wu64]) | (refine need.of (by first | omega | kernel_rfl) ?_) | (refine AW.fin ?_; try simp (implicitDefEqProofs := false) [ew, -Bool.exists_bool]))
            exact ⟨i + 1, by omega, by omega, by simp⟩
          · simp [hi', h1] at h
      · have h2 : i = l.length := by omega
        subst h2
        have hg1 := cget_ok l kk hg lw hkk (by omega)
        have hlg := stL_get l kk hkk
        rw [hs] at hg1 hlg
        have hset := cset_ok l' kk s.1 s.2.1 s.2.2 hg hl'w (by omega) (by omega) hws
        rw [show (s.1, s.2.1, s.2.2) = s from rfl, hback] at hset
        have hsm2 := csame_ok l l hg lw lw l1 (by omega) l1 (by omega)
        have hkkp : (kk : Int) < l.length := by omega
        clear hback hsame hs
        obtain ⟨s1, s2, s3⟩ := s
        simp only [arrO, arrV, arrB, vecO, vecB, encs_len, hl'len, tsD, decide_true] at hg1 hlg hset hsm2
        repeat (first | refine AW.seq ?_ | refine AW.block ?_ | (refine AW.reg mix ?_; simp (implicitDefEqProofs := false) [-Bool.exists_bool]; try simp (disch := omega) only [w64, wu64]) | (refine need.of (by first | omega | kernel_rfl) ?_) | (refine AW.fin ?_; try simp (implicitDefEqProofs := false) [-Bool.exists_bool]))
        refine AW.cond rfl (fun h => ?_) (fun h => ?_)
        · simp at h
        refine AW.exit ?_
        (try (simp (implicitDefEqProofs := false) [-Bool.exists_bool]; try simp (disch := omega) only [w64, wu64]))
        repeat (first | refine AW.seq ?_ | refine AW.block ?_ | (refine AW.reg mix ?_; simp (implicitDefEqProofs := false) [-Bool.exists_bool]; try simp (disch := omega) only [w64, wu64]) | (refine need.of (by first | omega | kernel_rfl) ?_) | (refine AW.fin ?_; try simp (implicitDefEqProofs := false) [-Bool.exists_bool]))
        refine CallS.g [8, 9, 10] (hg1) ?_
        (try (simp (implicitDefEqProofs := false) [hkk, hkkp, hll, hlg, -Bool.exists_bool]; try simp (disch := omega) only [w64, wu64]))
        repeat (first | refine AW.seq ?_ | refine AW.block ?_ | (refine AW.reg mix ?_; simp (implicitDefEqProofs := false) [hkk, hkkp, hll, hlg, -Bool.exists_bool]; try simp (disch := omega) only [w64, wu64]) | (refine need.of (by first | omega | kernel_rfl) ?_) | (refine AW.fin ?_; try simp (implicitDefEqProofs := false) [hkk, hkkp, hll, hlg, -Bool.exists_bool]))
        refine CallS.g [4, 5, 6] (hset) ?_
        (try (simp (implicitDefEqProofs := false) [hkk, hkkp, hll, hlg, -Bool.exists_bool]; try simp (disch := omega) only [w64, wu64]))
        repeat (first | refine AW.seq ?_ | refine AW.block ?_ | (refine AW.reg mix ?_; simp (implicitDefEqProofs := false) [hkk, hkkp, hll, hlg, -Bool.exists_bool]; try simp (disch := omega) only [w64, wu64]) | (refine need.of (by first | omega | kernel_rfl) ?_) | (refine AW.fin ?_; try simp (implicitDefEqProofs := false) [hkk, hkkp, hll, hlg, -Bool.exists_bool]))
        refine CallS.g [4, 5, 6, 8, 9, 10] (hsm2) ?_
        (try (simp (implicitDefEqProofs := false) [-Bool.exists_bool]; try simp (disch := omega) only [w64, wu64]))
        repeat (first | refine AW.seq ?_ | refine AW.block ?_ | (refine AW.reg mix ?_; simp (implicitDefEqProofs := false) [-Bool.exists_bool]; try simp (disch := omega) only [w64, wu64]) | (refine need.of (by first | omega | kernel_rfl) ?_) | (refine AW.fin ?_; try simp (implicitDefEqProofs := false) [-Bool.exists_bool]))
    · have he8 : R.e = 8 := h8.resolve_left he
      rw [if_neg he, he8] at hca
      have hsm2 := csame_ok l l hg lw lw l1 (by omega) l1 (by omega)
      simp only [arrO, arrV, arrB, vecO, vecB, encs_len, decide_true] at hsm2
      refine CallS.g [4, 5, 6, 11] (hca) ?_
      (try (simp (implicitDefEqProofs := false) [-Bool.exists_bool]; try simp (disch := omega) only [w64, wu64]))
      repeat (first | refine AW.seq ?_ | refine AW.block ?_ | (refine AW.reg mix ?_; simp (implicitDefEqProofs := false) [-Bool.exists_bool]; try simp (disch := omega) only [w64, wu64]) | (refine need.of (by first | omega | kernel_rfl) ?_) | (refine AW.fin ?_; try simp (implicitDefEqProofs := false) [-Bool.exists_bool]))
      refine AW.cond rfl (fun h => ?_) (fun h => ?_)
      · repeat (first | refine AW.seq ?_ | refine AW.block ?_ | (refine AW.reg mix ?_; simp (implicitDefEqProofs := false) [-Bool.exists_bool]; try simp (disch := omega) only [w64, wu64]) | (refine need.of (by first | omega | kernel_rfl) ?_) | (refine AW.fin ?_; try simp (implicitDefEqProofs := false) [-Bool.exists_bool]))
        refine CallS.g [4, 5, 6, 8, 9, 10] (hsm2) ?_
        (try (simp (implicitDefEqProofs := false) [-Bool.exists_bool]; try simp (disch := omega) only [w64, wu64]))
        repeat (first | refine AW.seq ?_ | refine AW.block ?_ | (refine AW.reg mix ?_; simp (implicitDefEqProofs := false) [-Bool.exists_bool]; try simp (disch := omega) only [w64, wu64]) | (refine need.of (by first | omega | kernel_rfl) ?_) | (refine AW.fin ?_; try simp (implicitDefEqProofs := false) [-Bool.exists_bool]))
      · simp at h
end
end Go.Proofs.YtdbfenhaljmbfaaGreat.Am
namespace Go.Proofs.YtdbfenhaljmbfaaGreat.Am
section
set_option linter.unusedVariables false
set_option linter.unusedSimpArgs false
open Go.RowKit
set_option linter.unusedVariables false

theorem reps_flat {I : Nat → Prop} {w : World} {α : Type} (f : α → List D) (g : α → List Value) (h : ∀ a, D.reps I w (f a) (g a)) : ∀ l : List α, D.reps I w (l.flatMap f) (l.map g).flatten
  | [] => by simp
  | a :: l => by
    rw [List.flatMap_cons, List.map_cons, List.flatten_cons]
    exact D.reps_append (h a) (reps_flat f g h l)
/-- a slice that came in, of elements of several cells that are data -/
theorem rep_rows {W : World} {v : Value} {s : Nat} {α : Type} {l : List α} (f : α → List D) (g : α → List Value) (hg : ∀ a, ∀ u ∈ g a, u.oneCell' = true) (hr : ∀ a, D.reps (fun b => b < W.heap.size) W (f a) (g a)) (h : Cells W v s l.length (l.map g).flatten) : V.rep (memW W) (.d (.sl l.length (l.flatMap f))) v := by
  rw [V.rep_d]
  unfold D.rep
  obtain ⟨h1, p, cap, rfl, h2, h3, h4⟩ := h
  refine ⟨p, cap, rfl, h2, h3, (l.map g).flatten, fun u hu => ?_, reps_flat f g hr l, ?_⟩
  · obtain ⟨x, hx, hu⟩ := List.mem_flatten.1 hu
    obtain ⟨a, -, rfl⟩ := List.mem_map.1 hx
    exact hg a u hu
  · rcases h4 with ⟨rfl, h5, h6⟩ | ⟨b, o, rfl, hb, hc⟩
    · left
      have : l = [] := List.eq_nil_of_length_eq_zero h5
      subst this
      exact ⟨rfl, h6, rfl⟩
    · exact .inr ⟨b, o, rfl, .inr hb, hc⟩
end
end Go.Proofs.YtdbfenhaljmbfaaGreat.Am
namespace Go.Proofs.YtdbfenhaljmbfaaGreat.Am
section
set_option linter.unusedVariables false
set_option linter.unusedSimpArgs false
open Go.RowKit
set_option maxRecDepth 100000
set_option linter.unusedSimpArgs false
set_option linter.unusedVariables false
end
end Go.Proofs.YtdbfenhaljmbfaaGreat.Am
namespace Go.Proofs.YtdbfenhaljmbfaaGreat.Am
section
set_option linter.unusedVariables false
set_option linter.unusedSimpArgs false
open Go.RowKit

theorem reps_ints {I : Nat → Prop} {w : World} : ∀ l : List Int, D.reps I w (l.map (D.int .i64)) (l.map (Value.int .i64))
  | [] => D.reps_nil.2 rfl
  | _ :: l => D.reps_cons.2 ⟨D.rep_int.2 rfl, reps_ints l⟩
theorem rep_ints {W : World} (l : List Int) : V.rep (memW W) (.d (.agg (l.map (D.int .i64)))) (.agg (l.map (Value.int .i64)).toArray) :=
  rep_agg (fun u hu => by obtain ⟨n, -, rfl⟩ := List.mem_map.1 hu; rfl) (reps_ints l)
end
end Go.Proofs.YtdbfenhaljmbfaaGreat.Am
namespace Go.Proofs.YtdbfenhaljmbfaaGreat.Am
section
set_option linter.unusedVariables false
set_option linter.unusedSimpArgs false
open Go.RowKit

theorem rep_states {W : World} {v : Value} {l : List RS} (h : Cells W v 3 l.length (l.map fun a => [Value.int .i64 a.1, Value.int .i64 a.2.1, Value.bool a.2.2]).flatten) : V.rep (memW W) (.d (.sl l.length (rawL l))) v :=
  rep_rows (fun a : RS => [D.int .i64 a.1, D.int .i64 a.2.1, D.bool a.2.2]) (fun a : RS => [Value.int .i64 a.1, Value.int .i64 a.2.1, Value.bool a.2.2]) (fun a u hu => by simp at hu; rcases hu with rfl | rfl | rfl <;> rfl) (fun a => by simp [D.reps_cons, D.rep_int, D.rep_bool]) h
end
end Go.Proofs.YtdbfenhaljmbfaaGreat.Am
namespace Go.Proofs.YtdbfenhaljmbfaaGreat.Am
section
set_option linter.unusedVariables false
set_option linter.unusedSimpArgs false
open Go.RowKit

theorem ca_walk {W : World} {u : Value} {L : List RS} (w1 : Cells W u 3 L.length (L.map fun a => [Value.int .i64 a.1, Value.int .i64 a.2.1, Value.bool a.2.2]).flatten) (hL : L.length ≤ maxLen) {k a b a0 a1 : Int} : Calls Tryz.prog n_Tlaw18_CarrayApart #[.agg #[.int .i64 k, .int .i64 a, .int .i64 b], u, .agg #[.int .i64 a0, .int .i64 a1]] W (fun e W' => e = .returned (.bool true) ∧ Same W W') :=
  law_walk r_Tlaw18_CarrayApart (carrayApart_ok k a b a0 a1 L (by unfold maxLen at hL; omega))
    (V.reps_cons.2 ⟨rep_ints [k, a, b], V.reps_cons.2 ⟨rep_states w1, V.reps_cons.2 ⟨rep_ints [a0, a1], V.reps_nil.2 rfl⟩⟩⟩)
end
end Go.Proofs.YtdbfenhaljmbfaaGreat.Am
