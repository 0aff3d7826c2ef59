/- Parts of the proof: CarrB, CarrC, AmLaw2, ChainI, ChainJ, CmergeL. -/
import Derived.Test.YtdbfenhaljmbfaaGreatPf
namespace Go.Proofs.YtdbfenhaljmbfaaGreat.Am
section
set_option linter.unusedVariables false
set_option linter.unusedSimpArgs false
open Go.RowKit
set_option maxRecDepth 100000
set_option linter.unusedSimpArgs false
set_option linter.unusedVariables false

set_option maxHeartbeats 1000000 in
theorem awake18_ok : Eqn Tryz.prog n_Tlaw18_awake [] [] (.d (.bool true)) [] := by
  refine Eqn.pure r_Tlaw18_awake Plain.ok ?_
  simp only [c_Tlaw18_awake]
  have hg : GoodR 2 1 3 := goodR_of (.inr ⟨by omega, by omega, by omega, by omega⟩)
  have h1 := cnew_ok 2 hg (by omega) (by omega)
  have hw0 : wells 2 1 3 (List.replicate 2 (0, 0, false)) := wells_rep hg 2
  have h2 := cset_ok (List.replicate 2 (0, 0, false)) 0 5 0 false hg hw0 (by simp) (by simp) (.inr ⟨by omega, rfl, by omega, by simp⟩)
  have hw1 : wells 2 1 3 ((List.replicate 2 (0, 0, false)).set 0 (5, 0, false)) := wells_set hw0 0 (.inr ⟨by omega, rfl, by omega, by simp⟩)
  have h3 := cget_ok ((List.replicate 2 (0, 0, false)).set 0 (5, 0, false)) 0 hg hw1 (by simp) (by simp)
  have hlen : ((List.replicate 2 ((0 : Nat), (0 : Nat), false)).set 0 (5, 0, false)).length = 2 := by simp
  generalize hl1 : (List.replicate 2 ((0 : Nat), (0 : Nat), false)).set 0 (5, 0, false) = l1 at *
  have hwd : wdR 2 1 3 = 4 := by decide
  have h4 := pwrite0_ok 4 (encs 2 1 3 l1) (by simp [hlen]) (by simp [hlen]) (by omega) (by omega) (by rw [← hwd]; exact encs_small _ _ _ _)
  have hpl := packBits_len 4 (encs 2 1 3 l1)
  rw [encs_len, hlen] at hpl
  have h5 := wlen_ok 0 (packBits 4 (encs 2 1 3 l1))
  have h6 := plen_ok 4 (encs 2 1 3 l1)
  have hg0 : l1.getD 0 (0, 0, false) = (5, 0, false) := by rw [← hl1]; rfl
  rw [hg0] at h3
  have htk : ((wordsP 4 (encs 2 1 3 l1)).map fun x : Nat => D.int .u64 x).take (nwP 2 4) = (wordsP 4 (encs 2 1 3 l1)).map fun x : Nat => D.int .u64 x := List.take_of_length_le (by simp [hlen])
  have hL0 : u64s (wordsP 4 (encs 2 1 3 l1)) = ((wordsP 4 (encs 2 1 3 l1)).map fun x : Nat => D.int .u64 x).map V.d := by simp [u64s]
  simp only [arrO, arrV, arrB, vecO, vecB, vecD, parD, tsD, encs_len, hlen, hwd, wrO, wrB, List.length_replicate] at h1 h2 h3 h4 h5 h6
  generalize wordsP 4 (encs 2 1 3 l1) = WS at *
  generalize wordsP 4 (encs 2 1 3 (List.replicate 2 (0, 0, false))) = W0 at *
  generalize packBits 4 (encs 2 1 3 l1) = PB at *
  generalize nwP 2 4 = NW at *
  generalize hLL : (WS.map fun x : Nat => D.int .u64 x) = L0 at *
  simp at h1 h2 h3 h4 h5
  clear hl1 hw0 hw1 hg0
  repeat (first | refine AW.seq ?_ | refine AW.block ?_ | (refine AW.reg mix ?_; simp (implicitDefEqProofs := false) [-Bool.exists_bool]; try simp (disch := omega) only [w64, wu64]) | (refine need.of (by first | omega | kernel_rfl) ?_) | (refine AW.fin ?_; try simp (implicitDefEqProofs := false) [-Bool.exists_bool]))
  refine CallS.g [] (h1) ?_
  (try (simp (implicitDefEqProofs := false) [-Bool.exists_bool]; try simp (disch := omega) only [w64, wu64]))
  repeat (first | refine AW.seq ?_ | refine AW.block ?_ | (refine AW.reg mix ?_; simp (implicitDefEqProofs := false) [-Bool.exists_bool]; try simp (disch := omega) only [w64, wu64]) | (refine need.of (by first | omega | kernel_rfl) ?_) | (refine AW.fin ?_; try simp (implicitDefEqProofs := false) [-Bool.exists_bool]))
  refine CallS.g [0, 1, 2] (h2) ?_
  (try (simp (implicitDefEqProofs := false) [-Bool.exists_bool]; try simp (disch := omega) only [w64, wu64]))
  repeat (first | refine AW.seq ?_ | refine AW.block ?_ | (refine AW.reg mix ?_; simp (implicitDefEqProofs := false) [-Bool.exists_bool]; try simp (disch := omega) only [w64, wu64]) | (refine need.of (by first | omega | kernel_rfl) ?_) | (refine AW.fin ?_; try simp (implicitDefEqProofs := false) [-Bool.exists_bool]))
  refine AW.cond rfl (fun h => ?_) (fun h => ?_)
  · simp at h
  repeat (first | refine AW.seq ?_ | refine AW.block ?_ | (refine AW.reg mix ?_; simp (implicitDefEqProofs := false) [-Bool.exists_bool]; try simp (disch := omega) only [w64, wu64]) | (refine need.of (by first | omega | kernel_rfl) ?_) | (refine AW.fin ?_; try simp (implicitDefEqProofs := false) [-Bool.exists_bool]))
  refine CallS.g [0, 1, 2] (h3) ?_
  (try (simp (implicitDefEqProofs := false) [-Bool.exists_bool]; try simp (disch := omega) only [w64, wu64]))
  repeat (first | refine AW.seq ?_ | refine AW.block ?_ | (refine AW.reg mix ?_; simp (implicitDefEqProofs := false) [-Bool.exists_bool]; try simp (disch := omega) only [w64, wu64]) | (refine need.of (by first | omega | kernel_rfl) ?_) | (refine AW.fin ?_; try simp (implicitDefEqProofs := false) [-Bool.exists_bool]))
  refine CallS.g [1, 2, 4] (h4) ?_
  (try (simp (implicitDefEqProofs := false) [-Bool.exists_bool]; try simp (disch := omega) only [w64, wu64]))
  repeat (first | refine AW.seq ?_ | refine AW.block ?_ | (refine AW.reg mix ?_; simp (implicitDefEqProofs := false) [-Bool.exists_bool]; try simp (disch := omega) only [w64, wu64]) | (refine need.of (by first | omega | kernel_rfl) ?_) | (refine AW.fin ?_; try simp (implicitDefEqProofs := false) [-Bool.exists_bool]))
  refine CallS.ro [(2, 1, L0), (1, 1, [.sl NW L0, .int .i64 (2 : Nat), .int .i64 (4 : Nat)])] (h6) ?_ (hok := by first | (simp [frzOK, frzH, hL0, htk]; done) | (simp [frzOK, frzH, hL0, htk]; rfl))
  (try (simp (implicitDefEqProofs := false) [-Bool.exists_bool]; try simp (disch := omega) only [w64, wu64]))
  repeat (first | refine AW.seq ?_ | refine AW.block ?_ | (refine AW.reg mix ?_; simp (implicitDefEqProofs := false) [-Bool.exists_bool]; try simp (disch := omega) only [w64, wu64]) | (refine need.of (by first | omega | kernel_rfl) ?_) | (refine AW.fin ?_; try simp (implicitDefEqProofs := false) [-Bool.exists_bool]))
  refine CallS.g [4, 5] (h5) ?_
  (try (simp (implicitDefEqProofs := false) [hpl, -Bool.exists_bool]; try simp (disch := omega) only [w64, wu64]))
  repeat (first | refine AW.seq ?_ | refine AW.block ?_ | (refine AW.reg mix ?_; simp (implicitDefEqProofs := false) [hpl, -Bool.exists_bool]; try simp (disch := omega) only [w64, wu64]) | (refine need.of (by first | omega | kernel_rfl) ?_) | (refine AW.fin ?_; try simp (implicitDefEqProofs := false) [hpl, -Bool.exists_bool]))

/-- a merge of registers, round by round -/
structure MR where
  e : Int
  l : List ST
  p : Nat
  d : Bool
def mergeUp (cs : List Bool) (k a b : Nat) (l m : List ST) (p : Nat) (d : Bool) : Nat → MR
  | 0 => ⟨0, [], p, d⟩
  | i + 1 =>
    let S := mergeUp cs k a b l m p d i
    if S.e = 0 then
      let R := mergeRM cs k a b (l.getD i (0, 0, false)).1 (l.getD i (0, 0, false)).2.1 (l.getD i (0, 0, false)).2.2 (m.getD i (0, 0, false)).1 (m.getD i (0, 0, false)).2.1 (m.getD i (0, 0, false)).2.2 S.p S.d
      if R.e = 0 then ⟨0, S.l ++ [(R.y, R.t, R.f)], R.p, R.d⟩ else ⟨R.e, S.l, R.p, R.d⟩
    else S
theorem mergeUp_stay {cs : List Bool} {k a b : Nat} {l m : List ST} {p : Nat} {d : Bool} {i : Nat} (h : (mergeUp cs k a b l m p d i).e ≠ 0) : ∀ j, mergeUp cs k a b l m p d (i + j) = mergeUp cs k a b l m p d i
  | 0 => rfl
  | j + 1 => by
    rw [← Nat.add_assoc, mergeUp, mergeUp_stay h j]
    simp only [if_neg h]
theorem mergeUp_well {cs : List Bool} {k a b : Nat} {l m : List ST} {p : Nat} {d : Bool} (hg : GoodR k a b) (hl : wells k a b l) (hm : wells k a b m) (hp : p ≤ cs.length) : ∀ i, i ≤ l.length → i ≤ m.length → (mergeUp cs k a b l m p d i).p ≤ cs.length ∧ wells k a b (mergeUp cs k a b l m p d i).l ∧ ((mergeUp cs k a b l m p d i).e = 0 → (mergeUp cs k a b l m p d i).l.length = i)
  | 0, _, _ => ⟨hp, fun s hs => by simp [mergeUp] at hs, fun _ => rfl⟩
  | i + 1, hi, hj => by
    obtain ⟨h1, h2, h3⟩ := mergeUp_well (d := d) hg hl hm hp i (by omega) (by omega)
    rw [mergeUp]
    generalize mergeUp cs k a b l m p d i = S at *
    simp only
    by_cases he : S.e = 0
    · rw [if_pos he]
      have hw := mergeRM_well (cs := cs) (p := S.p) (d := S.d) hg (wells_get hl (i := i) (by omega)) (wells_get hm (i := i) (by omega)) h1
      generalize mergeRM cs k a b (l.getD i (0, 0, false)).1 (l.getD i (0, 0, false)).2.1 (l.getD i (0, 0, false)).2.2 (m.getD i (0, 0, false)).1 (m.getD i (0, 0, false)).2.1 (m.getD i (0, 0, false)).2.2 S.p S.d = R at *
      by_cases hr : R.e = 0
      · rw [if_pos hr]
        refine ⟨hw.1, fun s hs => ?_, fun _ => by simp [h3 he]⟩
        rcases List.mem_append.1 hs with hs | hs
        · exact h2 s hs
        · rw [List.mem_singleton] at hs
          rw [hs]; exact hw.2 hr
      · rw [if_neg hr]
        exact ⟨hw.1, h2, fun h => absurd h hr⟩
    · rw [if_neg he]
      exact ⟨h1, h2, fun h => absurd h he⟩

/-- the twin, so far -/
def twin (l acc : List ST) : List ST := acc ++ l.drop acc.length
theorem twin_len {l acc : List ST} (h : acc.length ≤ l.length) : (twin l acc).length = l.length := by simp [twin]; omega
theorem twin_nil (l : List ST) : twin l [] = l := by simp [twin]
theorem twin_end {l acc : List ST} (h : acc.length = l.length) : twin l acc = acc := by simp [twin, h]
theorem twin_set {l acc : List ST} (h : acc.length < l.length) (s : ST) : (twin l acc).set acc.length s = twin l (acc ++ [s]) := by
  simp only [twin]
  rw [List.set_append_right _ _ (Nat.le_refl _), Nat.sub_self, List.drop_eq_getElem_cons h, List.set_cons_zero, List.length_append, List.length_singleton, List.append_assoc]
  rfl
theorem twin_wells {k a b : Nat} {l acc : List ST} (hl : wells k a b l) (ha : wells k a b acc) : wells k a b (twin l acc) := by
  intro s hs
  rcases List.mem_append.1 hs with hs | hs
  · exact ha s hs
  · exact hl s (List.mem_of_mem_drop hs)

set_option maxHeartbeats 2000000 in
/-- a merge that is refused: another kind, or another number of registers -/
theorem cmerge_no {k a b k' a' b' : Nat} (cs : List Bool) (l m : List ST) (p : Nat) (d : Bool) (h : ¬ (k = k' ∧ a = a' ∧ b = b') ∨ l.length ≠ m.length) :
    Eqn Tryz.prog n_carray_Array_Merge [.p 0 0, .p 3 0, .p 4 0] [arrO 1 k a b, arrV 2 k a b l, arrB k a b l, tapeO cs p d, arrO 5 k' a' b', arrV 6 k' a' b' m, arrB k' a' b' m] (.d (.int .i64 10)) [arrO 1 k a b, arrV 2 k a b l, arrB k a b l, tapeO cs p d, arrO 5 k' a' b', arrV 6 k' a' b' m, arrB k' a' b' m] := by
  refine Eqn.gen [0, 1, 2, 3, 4, 5, 6] r_carray_Array_Merge (by simp) (by simp) (by rfl) (by decide) (by simp) (by simp [arrO, arrV, arrB, vecO, vecB, tapeO]) ?_
  have hp1 := plen_ok (wdR k a b) (encs k a b l)
  have hp2 := plen_ok (wdR k' a' b') (encs k' a' b' m)
  have htk : ((wordsP (wdR k a b) (encs k a b l)).map fun x : Nat => D.int .u64 x).take (nwP l.length (wdR k a b)) = (wordsP (wdR k a b) (encs k a b l)).map fun x : Nat => D.int .u64 x := List.take_of_length_le (by simp)
  have hL0 : u64s (wordsP (wdR k a b) (encs k a b l)) = ((wordsP (wdR k a b) (encs k a b l)).map fun x : Nat => D.int .u64 x).map V.d := by simp [u64s]
  have htkm : ((wordsP (wdR k' a' b') (encs k' a' b' m)).map fun x : Nat => D.int .u64 x).take (nwP m.length (wdR k' a' b')) = (wordsP (wdR k' a' b') (encs k' a' b' m)).map fun x : Nat => D.int .u64 x := List.take_of_length_le (by simp)
  have hL0m : u64s (wordsP (wdR k' a' b') (encs k' a' b' m)) = ((wordsP (wdR k' a' b') (encs k' a' b' m)).map fun x : Nat => D.int .u64 x).map V.d := by simp [u64s]
  simp only [c_carray_Array_Merge, arrO, arrV, arrB, vecO, vecB, vecD, encs_len] at hp1 hp2 ⊢
  generalize hn1 : l.length = n1 at *
  generalize hn2 : m.length = n2 at *
  generalize encs k' a' b' m = em at *
  generalize encs k a b l = el at *
  generalize wdR k a b = w at *
  generalize wdR k' a' b' = w' at *
  generalize wordsP w' em = wm at *
  generalize wordsP w el = wl at *
  generalize hLL : (wl.map fun x : Nat => D.int .u64 x) = L0 at *
  generalize hMM : (wm.map fun x : Nat => D.int .u64 x) = M0 at *
  generalize nwP n1 w = NW at *
  generalize nwP n2 w' = MW at *
  by_cases hk : k = k' ∧ a = a' ∧ b = b'
  · have hne : ¬ (n1 : Int) = n2 := by
      rcases h with h | h
      · exact absurd hk h
      · omega
    obtain ⟨rfl, rfl, rfl⟩ := hk
    repeat (first | refine AW.seq ?_ | refine AW.block ?_ | (refine AW.reg mix ?_; simp (implicitDefEqProofs := false); try simp (disch := omega) only [w64, wu64]) | (refine need.of (by first | omega | kernel_rfl) ?_) | (refine AW.fin ?_; try simp (implicitDefEqProofs := false)))
    refine CallS.ro [(2, 1, L0), (1, 1, [.sl NW L0, .int .i64 n1, .int .i64 w])] (hp1) ?_ (hok := by first | (simp [frzOK, frzH, hL0, htk]; done) | (simp [frzOK, frzH, hL0, htk]; rfl))
    (try (simp (implicitDefEqProofs := false); try simp (disch := omega) only [w64, wu64]))
    repeat (first | refine AW.seq ?_ | refine AW.block ?_ | (refine AW.reg mix ?_; simp (implicitDefEqProofs := false); try simp (disch := omega) only [w64, wu64]) | (refine need.of (by first | omega | kernel_rfl) ?_) | (refine AW.fin ?_; try simp (implicitDefEqProofs := false)))
    refine CallS.ro [(6, 1, M0), (5, 1, [.sl MW M0, .int .i64 n2, .int .i64 w'])] (hp2) ?_ (hok := by first | (simp [frzOK, frzH, hL0m, htkm]; done) | (simp [frzOK, frzH, hL0m, htkm]; rfl))
    (try (simp (implicitDefEqProofs := false) [hne]; try simp (disch := omega) only [w64, wu64]))
    repeat (first | refine AW.seq ?_ | refine AW.block ?_ | (refine AW.reg mix ?_; simp (implicitDefEqProofs := false) [hne]; try simp (disch := omega) only [w64, wu64]) | (refine need.of (by first | omega | kernel_rfl) ?_) | (refine AW.fin ?_; try simp (implicitDefEqProofs := false) [hne]))
    refine AW.cond rfl (fun h => ?_) (fun h => ?_)
    · repeat (first | refine AW.seq ?_ | refine AW.block ?_ | (refine AW.reg mix ?_; simp (implicitDefEqProofs := false); try simp (disch := omega) only [w64, wu64]) | (refine need.of (by first | omega | kernel_rfl) ?_) | (refine AW.fin ?_; try simp (implicitDefEqProofs := false)))
    · simp [hne] at h
  · have g1 : ¬ k = k' ∨ ¬ a = a' ∨ ¬ b = b' := by omega
    have g2 : ¬ (k : Int) = k' ∨ ¬ (a : Int) = a' ∨ ¬ (b : Int) = b' := by omega
    have g3 : (!(k : Int) == k' || (!(a : Int) == a' || !(b : Int) == b')) = true := by simpa using g2
    have g4 : (!k == k' || (!a == a' || !b == b')) = true := by simpa using g1
    repeat (first | refine AW.seq ?_ | refine AW.block ?_ | (refine AW.reg mix ?_; simp (implicitDefEqProofs := false) [g1, g2, g3, g4]; try simp (disch := omega) only [w64, wu64]) | (refine need.of (by first | omega | kernel_rfl) ?_) | (refine AW.fin ?_; try simp (implicitDefEqProofs := false) [g1, g2, g3, g4]))
    refine AW.cond rfl (fun h => ?_) (fun h => ?_)
    · repeat (first | refine AW.seq ?_ | refine AW.block ?_ | (refine AW.reg mix ?_; simp (implicitDefEqProofs := false); try simp (disch := omega) only [w64, wu64]) | (refine need.of (by first | omega | kernel_rfl) ?_) | (refine AW.fin ?_; try simp (implicitDefEqProofs := false)))
    · simp [g1, g2, g3, g4] at h

/-- a round of a merge -/
theorem mergeUp_step {cs : List Bool} {k a b : Nat} {l m : List ST} {p : Nat} {d : Bool} {i : Nat} {T : MR} (hT : mergeUp cs k a b l m p d i = T) (he : T.e = 0) {s r : ST} (hs : l.getD i (0, 0, false) = s) (hr : m.getD i (0, 0, false) = r) {R : TR} (hR : R = mergeRM cs k a b s.1 s.2.1 s.2.2 r.1 r.2.1 r.2.2 T.p T.d) :
    mergeUp cs k a b l m p d (i + 1) = if R.e = 0 then ⟨0, T.l ++ [(R.y, R.t, R.f)], R.p, R.d⟩ else ⟨R.e, T.l, R.p, R.d⟩ := by
  rw [mergeUp, hT, hs, hr, hR]
  simp only [if_pos he]

set_option maxHeartbeats 4000000 in
/-- a merge that is through: the array holds the twin's vector -/
theorem cmerge_ok {k a b : Nat} (cs : List Bool) (l m : List ST) (p : Nat) (d : Bool) (hg : GoodR k a b) (hl : wells k a b l) (hm : wells k a b m) (h1 : 1 ≤ l.length) (hn : l.length ≤ 256) (hlm : l.length = m.length) (hp : p ≤ cs.length) (hc : cs.length ≤ 4000000) (S : MR) (hS : S = mergeUp cs k a b l m p d l.length) (he : S.e = 0) :
    EqnD Tryz.prog n_carray_Array_Merge [.p 0 0, .p 3 0, .p 4 0] [arrO 1 k a b, arrV 2 k a b l, arrB k a b l, tapeO cs p d, arrO 5 k a b, arrV 6 k a b m, arrB k a b m] (.d (.int .i64 0)) [arrO 7 k a b, arrV 2 k a b l, arrB k a b l, tapeO cs S.p S.d, arrO 5 k a b, arrV 6 k a b m, arrB k a b m, arrV 8 k a b S.l, arrB k a b S.l] [1, 2] := by
  refine Eqn.gen [0, 1, 2, 3, 4, 5, 6, 8, 9] r_carray_Array_Merge (by simp) (by simp) (by rfl) (by decide) (by simp) (by simp [arrO, arrV, arrB, vecO, vecB, tapeO]) ?_
  have hSl : S.l.length = l.length := by rw [hS]; exact (mergeUp_well hg hl hm hp l.length (Nat.le_refl _) (by omega)).2.2 (by rw [← hS]; exact he)
  have hp1 := plen_ok (wdR k a b) (encs k a b l)
  have hp2 := plen_ok (wdR k a b) (encs k a b m)
  have htk : ((wordsP (wdR k a b) (encs k a b l)).map fun x : Nat => D.int .u64 x).take (nwP l.length (wdR k a b)) = (wordsP (wdR k a b) (encs k a b l)).map fun x : Nat => D.int .u64 x := List.take_of_length_le (by simp)
  have hL0 : u64s (wordsP (wdR k a b) (encs k a b l)) = ((wordsP (wdR k a b) (encs k a b l)).map fun x : Nat => D.int .u64 x).map V.d := by simp [u64s]
  have htkm : ((wordsP (wdR k a b) (encs k a b m)).map fun x : Nat => D.int .u64 x).take (nwP m.length (wdR k a b)) = (wordsP (wdR k a b) (encs k a b m)).map fun x : Nat => D.int .u64 x := List.take_of_length_le (by simp)
  have hL0m : u64s (wordsP (wdR k a b) (encs k a b m)) = ((wordsP (wdR k a b) (encs k a b m)).map fun x : Nat => D.int .u64 x).map V.d := by simp [u64s]
  have hcl := cclone_ok l hg h1 hn
  have hlp : (l.length : Int) = m.length := by omega
  simp only [c_carray_Array_Merge, arrO, arrV, arrB, vecO, vecB, vecD, encs_len, hSl, ← hlm] at hp1 hp2 hcl htkm ⊢
  repeat (first | refine AW.seq ?_ | refine AW.block ?_ | (refine AW.reg mix ?_; simp (implicitDefEqProofs := false) [-Bool.exists_bool]; try simp (disch := omega) only [w64, wu64]) | (refine need.of (by first | omega | kernel_rfl) ?_) | (refine AW.fin ?_; try simp (implicitDefEqProofs := false) [-Bool.exists_bool]))
  refine CallS.ro [(2, 1, (wordsP (wdR k a b) (encs k a b l)).map fun x : Nat => D.int .u64 x), (1, 1, [.sl (nwP l.length (wdR k a b)) ((wordsP (wdR k a b) (encs k a b l)).map fun x : Nat => D.int .u64 x), .int .i64 l.length, .int .i64 (wdR k a b : Nat)])] (hp1) ?_ (hok := by first | (simp [frzOK, frzH, hL0, htk]; done) | (simp [frzOK, frzH, hL0, htk]; rfl))
  (try (simp (implicitDefEqProofs := false) [-Bool.exists_bool]; try simp (disch := omega) only [w64, wu64]))
  repeat (first | refine AW.seq ?_ | refine AW.block ?_ | (refine AW.reg mix ?_; simp (implicitDefEqProofs := false) [-Bool.exists_bool]; try simp (disch := omega) only [w64, wu64]) | (refine need.of (by first | omega | kernel_rfl) ?_) | (refine AW.fin ?_; try simp (implicitDefEqProofs := false) [-Bool.exists_bool]))
  refine CallS.ro [(6, 1, (wordsP (wdR k a b) (encs k a b m)).map fun x : Nat => D.int .u64 x), (5, 1, [.sl (nwP l.length (wdR k a b)) ((wordsP (wdR k a b) (encs k a b m)).map fun x : Nat => D.int .u64 x), .int .i64 l.length, .int .i64 (wdR k a b : Nat)])] (hp2) ?_ (hok := by first | (simp [frzOK, frzH, hL0m, htkm]; done) | (simp [frzOK, frzH, hL0m, htkm]; rfl))
  (try (simp (implicitDefEqProofs := false) [-Bool.exists_bool]; try simp (disch := omega) only [w64, wu64]))
  repeat (first | refine AW.seq ?_ | refine AW.block ?_ | (refine AW.reg mix ?_; simp (implicitDefEqProofs := false) [-Bool.exists_bool]; try simp (disch := omega) only [w64, wu64]) | (refine need.of (by first | omega | kernel_rfl) ?_) | (refine AW.fin ?_; try simp (implicitDefEqProofs := false) [-Bool.exists_bool]))
  refine AW.cond rfl (fun h => ?_) (fun h => ?_)
  · simp at h
  repeat (first | refine AW.seq ?_ | refine AW.block ?_ | (refine AW.reg mix ?_; simp (implicitDefEqProofs := false) [-Bool.exists_bool]; try simp (disch := omega) only [w64, wu64]) | (refine need.of (by first | omega | kernel_rfl) ?_) | (refine AW.fin ?_; try simp (implicitDefEqProofs := false) [-Bool.exists_bool]))
  refine CallS.g [0, 1, 2] (hcl) ?_
  (try (simp (implicitDefEqProofs := false) [-Bool.exists_bool]; try simp (disch := omega) only [w64, wu64]))
  repeat (first | refine AW.seq ?_ | refine AW.block ?_ | (refine AW.reg mix ?_; simp (implicitDefEqProofs := false) [-Bool.exists_bool]; try simp (disch := omega) only [w64, wu64]) | (refine need.of (by first | omega | kernel_rfl) ?_) | (refine AW.fin ?_; try simp (implicitDefEqProofs := false) [-Bool.exists_bool]))
  refine CallS.ro [(2, 1, (wordsP (wdR k a b) (encs k a b l)).map fun x : Nat => D.int .u64 x), (1, 1, [.sl (nwP l.length (wdR k a b)) ((wordsP (wdR k a b) (encs k a b l)).map fun x : Nat => D.int .u64 x), .int .i64 l.length, .int .i64 (wdR k a b : Nat)])] (hp1) ?_ (hok := by first | (simp [frzOK, frzH, hL0, htk]; done) | (simp [frzOK, frzH, hL0, htk]; rfl))
  (try (simp (implicitDefEqProofs := false) [-Bool.exists_bool]; try simp (disch := omega) only [w64, wu64]))
  repeat (first | refine AW.seq ?_ | refine AW.block ?_ | (refine AW.reg mix ?_; simp (implicitDefEqProofs := false) [-Bool.exists_bool]; try simp (disch := omega) only [w64, wu64]) | (refine need.of (by first | omega | kernel_rfl) ?_) | (refine AW.fin ?_; try simp (implicitDefEqProofs := false) [-Bool.exists_bool]))
  refine AW.loopT (α := Nat) 10 (fun i => [(44, .d (.int .i64 (i : Int)))]) (fun i => [(3, tapeO cs (mergeUp cs k a b l m p d i).p (mergeUp cs k a b l m p d i).d), (9, ⟨80, u64s (wordsP (wdR k a b) (encs k a b (twin l (mergeUp cs k a b l m p d i).l)))⟩)]) (fun i => i ≤ l.length ∧ (mergeUp cs k a b l m p d i).e = 0) (fun i => l.length - i) 0 ?_ ?_ ⟨Nat.zero_le _, rfl⟩ ?_ ?_ ?_
  · simp
  · simp
  · simp
  · simp [twin_nil, mergeUp, -Bool.exists_bool]
  rintro i ⟨hi, hTe⟩
  simp [-Bool.exists_bool]
  have hTw := mergeUp_well (d := d) hg hl hm hp i (by omega) (by omega)
  by_cases hi' : i < l.length
  · have hno : (mergeUp cs k a b l m p d (i + 1)).e = 0 := by
      by_cases h : (mergeUp cs k a b l m p d (i + 1)).e = 0
      · exact h
      · have := mergeUp_stay h (l.length - (i + 1))
        rw [show i + 1 + (l.length - (i + 1)) = l.length by omega, ← hS] at this
        rw [← this]; exact he
    have hga := cget_ok l i hg hl hi' hn
    have hgm := cget_ok m i hg hm (by omega) (by omega)
    have hwl := wells_get hl hi'
    have hwm := wells_get hm (i := i) (by omega)
    obtain ⟨s, hs⟩ : ∃ s, l.getD i (0, 0, false) = s := ⟨_, rfl⟩
    obtain ⟨r, hr⟩ : ∃ s, m.getD i (0, 0, false) = s := ⟨_, rfl⟩
    rw [hs] at hga hwl
    rw [hr] at hgm hwm
    obtain ⟨R, hR⟩ : ∃ R, R = mergeRM cs k a b s.1 s.2.1 s.2.2 r.1 r.2.1 r.2.2 (mergeUp cs k a b l m p d i).p (mergeUp cs k a b l m p d i).d := ⟨_, rfl⟩
    have hst := mergeUp_step rfl hTe hs hr hR
    have hmw := mergeRM_well (cs := cs) (p := (mergeUp cs k a b l m p d i).p) (d := (mergeUp cs k a b l m p d i).d) hg hwl hwm hTw.1
    rw [← hR] at hmw
    have hrm := rmerge_ok cs k a b s.1 s.2.1 s.2.2 r.1 r.2.1 r.2.2 _ _ hg hwl hwm hTw.1 hc R hR
    have hset := fun y t f => cset_ok (twin l (mergeUp cs k a b l m p d i).l) i y t f hg (twin_wells hl hTw.2.1) (by rw [twin_len (by rw [hTw.2.2 hTe]; omega)]; exact hi') (by rw [twin_len (by rw [hTw.2.2 hTe]; omega)]; exact hn)
    have htl : (twin l (mergeUp cs k a b l m p d i).l).length = l.length := twin_len (by rw [hTw.2.2 hTe]; omega)
    have hts := twin_set (l := l) (acc := (mergeUp cs k a b l m p d i).l) (by rw [hTw.2.2 hTe]; omega) (R.y, R.t, R.f)
    have htl2 : (twin l ((mergeUp cs k a b l m p d i).l ++ [(R.y, R.t, R.f)])).length = l.length := twin_len (by rw [List.length_append, hTw.2.2 hTe]; simp; omega)
    rw [hTw.2.2 hTe] at hts
    clear hR hs hr
    generalize mergeUp cs k a b l m p d i = T at *
    obtain ⟨Te, Tl, Tp, Td⟩ := T
    obtain ⟨s1, s2, s3⟩ := s
    obtain ⟨r1, r2, r3⟩ := r
    obtain ⟨e, ry, rt, rf, rp, rd⟩ := R
    have hi2 : (i : Int) < l.length := by omega
    have ew : IntKind.i64.wrap ((i : Int) + 1) = ((i + 1 : Nat) : Int) := by rw [w64 (by omega) (by omega)]; omega
    simp only at hTe hst hmw hrm hset hts htl htl2
    simp only [arrO, arrV, arrB, vecO, vecB, encs_len, htl, parD, tsD, stR, ← hlm] at hga hgm hrm hset ⊢
    repeat (first | refine AW.seq ?_ | refine AW.block ?_ | (refine AW.reg mix ?_; simp (implicitDefEqProofs := false) [hi', hi2, -Bool.exists_bool]; try simp (disch := omega) only [w64, wu64]) | (refine need.of (by first | omega | kernel_rfl) ?_) | (refine AW.fin ?_; try simp (implicitDefEqProofs := false) [hi', hi2, -Bool.exists_bool]))
    refine AW.cond rfl (fun h => ?_) (fun h => ?_)
    rotate_left
    · simp [hi', hi2] at h
    clear h
    repeat (first | refine AW.seq ?_ | refine AW.block ?_ | (refine AW.reg mix ?_; simp (implicitDefEqProofs := false) [-Bool.exists_bool]; try simp (disch := omega) only [w64, wu64]) | (refine need.of (by first | omega | kernel_rfl) ?_) | (refine AW.fin ?_; try simp (implicitDefEqProofs := false) [-Bool.exists_bool]))
    refine CallS.g [0, 1, 2] (hga) ?_
    (try (simp (implicitDefEqProofs := false) [-Bool.exists_bool]; try simp (disch := omega) only [w64, wu64]))
    repeat (first | refine AW.seq ?_ | refine AW.block ?_ | (refine AW.reg mix ?_; simp (implicitDefEqProofs := false) [-Bool.exists_bool]; try simp (disch := omega) only [w64, wu64]) | (refine need.of (by first | omega | kernel_rfl) ?_) | (refine AW.fin ?_; try simp (implicitDefEqProofs := false) [-Bool.exists_bool]))
    refine CallS.g [4, 5, 6] (hgm) ?_
    (try (simp (implicitDefEqProofs := false) [-Bool.exists_bool]; try simp (disch := omega) only [w64, wu64]))
    repeat (first | refine AW.seq ?_ | refine AW.block ?_ | (refine AW.reg mix ?_; simp (implicitDefEqProofs := false) [-Bool.exists_bool]; try simp (disch := omega) only [w64, wu64]) | (refine need.of (by first | omega | kernel_rfl) ?_) | (refine AW.fin ?_; try simp (implicitDefEqProofs := false) [-Bool.exists_bool]))
    by_cases hre : e = 0
    · subst hre
      rw [if_pos rfl] at hst
      replace hset := hset ry rt rf (hmw.2 rfl)
      rw [hts] at hset
      try simp only [htl2] at hset
      simp only [if_true] at hrm
      refine CallS.o1 3 (hrm) ?_
      (try (simp (implicitDefEqProofs := false) [-Bool.exists_bool]; try simp (disch := omega) only [w64, wu64]))
      repeat (first | refine AW.seq ?_ | refine AW.block ?_ | (refine AW.reg mix ?_; simp (implicitDefEqProofs := false) [-Bool.exists_bool]; try simp (disch := omega) only [w64, wu64]) | (refine need.of (by first | omega | kernel_rfl) ?_) | (refine AW.fin ?_; try simp (implicitDefEqProofs := false) [-Bool.exists_bool]))
      refine AW.cond rfl (fun h => ?_) (fun h => ?_)
      · simp at h
      repeat (first | refine AW.seq ?_ | refine AW.block ?_ | (refine AW.reg mix ?_; simp (implicitDefEqProofs := false) [-Bool.exists_bool]; try simp (disch := omega) only [w64, wu64]) | (refine need.of (by first | omega | kernel_rfl) ?_) | (refine AW.fin ?_; try simp (implicitDefEqProofs := false) [-Bool.exists_bool]))
      refine CallS.g [7, 8, 9] (hset) ?_
      (try (simp (implicitDefEqProofs := false) [ew, -Bool.exists_bool]; try simp (disch := omega) only [w64, wu64]))
      repeat (first | refine AW.seq ?_ | refine AW.block ?_ | (refine AW.reg mix ?_; simp (implicitDefEqProofs := false) [ew, -Bool.exists_bool]; try simp (disch := omega) only [w64, wu64]) | (refine need.of (by first | omega | kernel_rfl) ?_) | (refine AW.fin ?_; try simp (implicitDefEqProofs := false) [ew, -Bool.exists_bool]))
      refine ⟨i + 1, ⟨by omega, by rw [hst]⟩, by omega, ?_⟩
      rw [hst]
      simp [-Bool.exists_bool]
    · exfalso
      rw [if_neg hre] at hst
      rw [hst] at hno
      exact hre hno
  · have h2 : i = l.length := by omega
    subst h2
    rw [← hS]
    rw [twin_end hSl]
    repeat (first | refine AW.seq ?_ | refine AW.block ?_ | (refine AW.reg mix ?_; simp (implicitDefEqProofs := false) [-Bool.exists_bool]; try simp (disch := omega) only [w64, wu64]) | (refine need.of (by first | omega | kernel_rfl) ?_) | (refine AW.fin ?_; try simp (implicitDefEqProofs := false) [-Bool.exists_bool]))
    refine AW.cond rfl (fun h => ?_) (fun h => ?_)
    · simp at h
    refine AW.exit ?_
    (try (simp (implicitDefEqProofs := false) [-Bool.exists_bool]; try simp (disch := omega) only [w64, wu64]))
    repeat (first | refine AW.seq ?_ | refine AW.block ?_ | (refine AW.reg mix ?_; simp (implicitDefEqProofs := false) [-Bool.exists_bool]; try simp (disch := omega) only [w64, wu64]) | (refine need.of (by first | omega | kernel_rfl) ?_) | (refine AW.fin ?_; try simp (implicitDefEqProofs := false) [-Bool.exists_bool]))

set_option maxHeartbeats 4000000 in
/-- a merge that fails: nothing has changed but the tape -/
theorem cmerge_err {k a b : Nat} (cs : List Bool) (l m : List ST) (p : Nat) (d : Bool) (hg : GoodR k a b) (hl : wells k a b l) (hm : wells k a b m) (h1 : 1 ≤ l.length) (hn : l.length ≤ 256) (hlm : l.length = m.length) (hp : p ≤ cs.length) (hc : cs.length ≤ 4000000) (S : MR) (hS : S = mergeUp cs k a b l m p d l.length) (he : S.e ≠ 0) :
    Eqn Tryz.prog n_carray_Array_Merge [.p 0 0, .p 3 0, .p 4 0] [arrO 1 k a b, arrV 2 k a b l, arrB k a b l, tapeO cs p d, arrO 5 k a b, arrV 6 k a b m, arrB k a b m] (.d (.int .i64 S.e)) [arrO 1 k a b, arrV 2 k a b l, arrB k a b l, tapeO cs S.p S.d, arrO 5 k a b, arrV 6 k a b m, arrB k a b m] := by
  refine Eqn.gen [0, 1, 2, 3, 4, 5, 6] r_carray_Array_Merge (by simp) (by simp) (by rfl) (by decide) (by simp) (by simp [arrO, arrV, arrB, vecO, vecB, tapeO]) ?_
  have hSl : True := trivial
  have hp1 := plen_ok (wdR k a b) (encs k a b l)
  have hp2 := plen_ok (wdR k a b) (encs k a b m)
  have htk : ((wordsP (wdR k a b) (encs k a b l)).map fun x : Nat => D.int .u64 x).take (nwP l.length (wdR k a b)) = (wordsP (wdR k a b) (encs k a b l)).map fun x : Nat => D.int .u64 x := List.take_of_length_le (by simp)
  have hL0 : u64s (wordsP (wdR k a b) (encs k a b l)) = ((wordsP (wdR k a b) (encs k a b l)).map fun x : Nat => D.int .u64 x).map V.d := by simp [u64s]
  have htkm : ((wordsP (wdR k a b) (encs k a b m)).map fun x : Nat => D.int .u64 x).take (nwP m.length (wdR k a b)) = (wordsP (wdR k a b) (encs k a b m)).map fun x : Nat => D.int .u64 x := List.take_of_length_le (by simp)
  have hL0m : u64s (wordsP (wdR k a b) (encs k a b m)) = ((wordsP (wdR k a b) (encs k a b m)).map fun x : Nat => D.int .u64 x).map V.d := by simp [u64s]
  have hcl := cclone_ok l hg h1 hn
  have hlp : (l.length : Int) = m.length := by omega
  simp only [c_carray_Array_Merge, arrO, arrV, arrB, vecO, vecB, vecD, encs_len, hSl, ← hlm] at hp1 hp2 hcl htkm ⊢
  repeat (first | refine AW.seq ?_ | refine AW.block ?_ | (refine AW.reg mix ?_; simp (implicitDefEqProofs := false) [-Bool.exists_bool]; try simp (disch := omega) only [w64, wu64]) | (refine need.of (by first | omega | kernel_rfl) ?_) | (refine AW.fin ?_; try simp (implicitDefEqProofs := false) [-Bool.exists_bool]))
  refine CallS.ro [(2, 1, (wordsP (wdR k a b) (encs k a b l)).map fun x : Nat => D.int .u64 x), (1, 1, [.sl (nwP l.length (wdR k a b)) ((wordsP (wdR k a b) (encs k a b l)).map fun x : Nat => D.int .u64 x), .int .i64 l.length, .int .i64 (wdR k a b : Nat)])] (hp1) ?_ (hok := by first | (simp [frzOK, frzH, hL0, htk]; done) | (simp [frzOK, frzH, hL0, htk]; rfl))
  (try (simp (implicitDefEqProofs := false) [-Bool.exists_bool]; try simp (disch := omega) only [w64, wu64]))
  repeat (first | refine AW.seq ?_ | refine AW.block ?_ | (refine AW.reg mix ?_; simp (implicitDefEqProofs := false) [-Bool.exists_bool]; try simp (disch := omega) only [w64, wu64]) | (refine need.of (by first | omega | kernel_rfl) ?_) | (refine AW.fin ?_; try simp (implicitDefEqProofs := false) [-Bool.exists_bool]))
  refine CallS.ro [(6, 1, (wordsP (wdR k a b) (encs k a b m)).map fun x : Nat => D.int .u64 x), (5, 1, [.sl (nwP l.length (wdR k a b)) ((wordsP (wdR k a b) (encs k a b m)).map fun x : Nat => D.int .u64 x), .int .i64 l.length, .int .i64 (wdR k a b : Nat)])] (hp2) ?_ (hok := by first | (simp [frzOK, frzH, hL0m, htkm]; done) | (simp [frzOK, frzH, hL0m, htkm]; rfl))
  (try (simp (implicitDefEqProofs := false) [-Bool.exists_bool]; try simp (disch := omega) only [w64, wu64]))
  repeat (first | refine AW.seq ?_ | refine AW.block ?_ | (refine AW.reg mix ?_; simp (implicitDefEqProofs := false) [-Bool.exists_bool]; try simp (disch := omega) only [w64, wu64]) | (refine need.of (by first | omega | kernel_rfl) ?_) | (refine AW.fin ?_; try simp (implicitDefEqProofs := false) [-Bool.exists_bool]))
  refine AW.cond rfl (fun h => ?_) (fun h => ?_)
  · simp at h
  repeat (first | refine AW.seq ?_ | refine AW.block ?_ | (refine AW.reg mix ?_; simp (implicitDefEqProofs := false) [-Bool.exists_bool]; try simp (disch := omega) only [w64, wu64]) | (refine need.of (by first | omega | kernel_rfl) ?_) | (refine AW.fin ?_; try simp (implicitDefEqProofs := false) [-Bool.exists_bool]))
  refine CallS.g [0, 1, 2] (hcl) ?_
  (try (simp (implicitDefEqProofs := false) [-Bool.exists_bool]; try simp (disch := omega) only [w64, wu64]))
  repeat (first | refine AW.seq ?_ | refine AW.block ?_ | (refine AW.reg mix ?_; simp (implicitDefEqProofs := false) [-Bool.exists_bool]; try simp (disch := omega) only [w64, wu64]) | (refine need.of (by first | omega | kernel_rfl) ?_) | (refine AW.fin ?_; try simp (implicitDefEqProofs := false) [-Bool.exists_bool]))
  refine CallS.ro [(2, 1, (wordsP (wdR k a b) (encs k a b l)).map fun x : Nat => D.int .u64 x), (1, 1, [.sl (nwP l.length (wdR k a b)) ((wordsP (wdR k a b) (encs k a b l)).map fun x : Nat => D.int .u64 x), .int .i64 l.length, .int .i64 (wdR k a b : Nat)])] (hp1) ?_ (hok := by first | (simp [frzOK, frzH, hL0, htk]; done) | (simp [frzOK, frzH, hL0, htk]; rfl))
  (try (simp (implicitDefEqProofs := false) [-Bool.exists_bool]; try simp (disch := omega) only [w64, wu64]))
  repeat (first | refine AW.seq ?_ | refine AW.block ?_ | (refine AW.reg mix ?_; simp (implicitDefEqProofs := false) [-Bool.exists_bool]; try simp (disch := omega) only [w64, wu64]) | (refine need.of (by first | omega | kernel_rfl) ?_) | (refine AW.fin ?_; try simp (implicitDefEqProofs := false) [-Bool.exists_bool]))
  refine AW.loopT (α := Nat) 10 (fun i => [(44, .d (.int .i64 (i : Int)))]) (fun i => [(3, tapeO cs (mergeUp cs k a b l m p d i).p (mergeUp cs k a b l m p d i).d), (9, ⟨80, u64s (wordsP (wdR k a b) (encs k a b (twin l (mergeUp cs k a b l m p d i).l)))⟩)]) (fun i => i ≤ l.length ∧ (mergeUp cs k a b l m p d i).e = 0) (fun i => l.length - i) 0 ?_ ?_ ⟨Nat.zero_le _, rfl⟩ ?_ ?_ ?_
  · simp
  · simp
  · simp
  · simp [twin_nil, mergeUp, -Bool.exists_bool]
  rintro i ⟨hi, hTe⟩
  simp [-Bool.exists_bool]
  have hTw := mergeUp_well (d := d) hg hl hm hp i (by omega) (by omega)
  by_cases hi' : i < l.length
  · have hend : (mergeUp cs k a b l m p d (i + 1)).e ≠ 0 → mergeUp cs k a b l m p d (i + 1) = S := fun h => by
      have := mergeUp_stay h (l.length - (i + 1))
      rw [show i + 1 + (l.length - (i + 1)) = l.length by omega, ← hS] at this
      exact this.symm
    have hga := cget_ok l i hg hl hi' hn
    have hgm := cget_ok m i hg hm (by omega) (by omega)
    have hwl := wells_get hl hi'
    have hwm := wells_get hm (i := i) (by omega)
    obtain ⟨s, hs⟩ : ∃ s, l.getD i (0, 0, false) = s := ⟨_, rfl⟩
    obtain ⟨r, hr⟩ : ∃ s, m.getD i (0, 0, false) = s := ⟨_, rfl⟩
    rw [hs] at hga hwl
    rw [hr] at hgm hwm
    obtain ⟨R, hR⟩ : ∃ R, R = mergeRM cs k a b s.1 s.2.1 s.2.2 r.1 r.2.1 r.2.2 (mergeUp cs k a b l m p d i).p (mergeUp cs k a b l m p d i).d := ⟨_, rfl⟩
    have hst := mergeUp_step rfl hTe hs hr hR
    have hmw := mergeRM_well (cs := cs) (p := (mergeUp cs k a b l m p d i).p) (d := (mergeUp cs k a b l m p d i).d) hg hwl hwm hTw.1
    rw [← hR] at hmw
    have hrm := rmerge_ok cs k a b s.1 s.2.1 s.2.2 r.1 r.2.1 r.2.2 _ _ hg hwl hwm hTw.1 hc R hR
    have hset := fun y t f => cset_ok (twin l (mergeUp cs k a b l m p d i).l) i y t f hg (twin_wells hl hTw.2.1) (by rw [twin_len (by rw [hTw.2.2 hTe]; omega)]; exact hi') (by rw [twin_len (by rw [hTw.2.2 hTe]; omega)]; exact hn)
    have htl : (twin l (mergeUp cs k a b l m p d i).l).length = l.length := twin_len (by rw [hTw.2.2 hTe]; omega)
    have hts := twin_set (l := l) (acc := (mergeUp cs k a b l m p d i).l) (by rw [hTw.2.2 hTe]; omega) (R.y, R.t, R.f)
    have htl2 : (twin l ((mergeUp cs k a b l m p d i).l ++ [(R.y, R.t, R.f)])).length = l.length := twin_len (by rw [List.length_append, hTw.2.2 hTe]; simp; omega)
    rw [hTw.2.2 hTe] at hts
    clear hR hs hr
    generalize mergeUp cs k a b l m p d i = T at *
    obtain ⟨Te, Tl, Tp, Td⟩ := T
    obtain ⟨s1, s2, s3⟩ := s
    obtain ⟨r1, r2, r3⟩ := r
    obtain ⟨e, ry, rt, rf, rp, rd⟩ := R
    have hi2 : (i : Int) < l.length := by omega
    have ew : IntKind.i64.wrap ((i : Int) + 1) = ((i + 1 : Nat) : Int) := by rw [w64 (by omega) (by omega)]; omega
    simp only at hTe hst hmw hrm hset hts htl htl2
    simp only [arrO, arrV, arrB, vecO, vecB, encs_len, htl, parD, tsD, stR, ← hlm] at hga hgm hrm hset ⊢
    repeat (first | refine AW.seq ?_ | refine AW.block ?_ | (refine AW.reg mix ?_; simp (implicitDefEqProofs := false) [hi', hi2, -Bool.exists_bool]; try simp (disch := omega) only [w64, wu64]) | (refine need.of (by first | omega | kernel_rfl) ?_) | (refine AW.fin ?_; try simp (implicitDefEqProofs := false) [hi', hi2, -Bool.exists_bool]))
    refine AW.cond rfl (fun h => ?_) (fun h => ?_)
    rotate_left
    · simp [hi', hi2] at h
    clear h
    repeat (first | refine AW.seq ?_ | refine AW.block ?_ | (refine AW.reg mix ?_; simp (implicitDefEqProofs := false) [-Bool.exists_bool]; try simp (disch := omega) only [w64, wu64]) | (refine need.of (by first | omega | kernel_rfl) ?_) | (refine AW.fin ?_; try simp (implicitDefEqProofs := false) [-Bool.exists_bool]))
    refine CallS.g [0, 1, 2] (hga) ?_
    (try (simp (implicitDefEqProofs := false) [-Bool.exists_bool]; try simp (disch := omega) only [w64, wu64]))
    repeat (first | refine AW.seq ?_ | refine AW.block ?_ | (refine AW.reg mix ?_; simp (implicitDefEqProofs := false) [-Bool.exists_bool]; try simp (disch := omega) only [w64, wu64]) | (refine need.of (by first | omega | kernel_rfl) ?_) | (refine AW.fin ?_; try simp (implicitDefEqProofs := false) [-Bool.exists_bool]))
    refine CallS.g [4, 5, 6] (hgm) ?_
    (try (simp (implicitDefEqProofs := false) [-Bool.exists_bool]; try simp (disch := omega) only [w64, wu64]))
    repeat (first | refine AW.seq ?_ | refine AW.block ?_ | (refine AW.reg mix ?_; simp (implicitDefEqProofs := false) [-Bool.exists_bool]; try simp (disch := omega) only [w64, wu64]) | (refine need.of (by first | omega | kernel_rfl) ?_) | (refine AW.fin ?_; try simp (implicitDefEqProofs := false) [-Bool.exists_bool]))
    by_cases hre : e = 0
    · subst hre
      rw [if_pos rfl] at hst
      replace hset := hset ry rt rf (hmw.2 rfl)
      rw [hts] at hset
      try simp only [htl2] at hset
      simp only [if_true] at hrm
      refine CallS.o1 3 (hrm) ?_
      (try (simp (implicitDefEqProofs := false) [-Bool.exists_bool]; try simp (disch := omega) only [w64, wu64]))
      repeat (first | refine AW.seq ?_ | refine AW.block ?_ | (refine AW.reg mix ?_; simp (implicitDefEqProofs := false) [-Bool.exists_bool]; try simp (disch := omega) only [w64, wu64]) | (refine need.of (by first | omega | kernel_rfl) ?_) | (refine AW.fin ?_; try simp (implicitDefEqProofs := false) [-Bool.exists_bool]))
      refine AW.cond rfl (fun h => ?_) (fun h => ?_)
      · simp at h
      repeat (first | refine AW.seq ?_ | refine AW.block ?_ | (refine AW.reg mix ?_; simp (implicitDefEqProofs := false) [-Bool.exists_bool]; try simp (disch := omega) only [w64, wu64]) | (refine need.of (by first | omega | kernel_rfl) ?_) | (refine AW.fin ?_; try simp (implicitDefEqProofs := false) [-Bool.exists_bool]))
      refine CallS.g [7, 8, 9] (hset) ?_
      (try (simp (implicitDefEqProofs := false) [ew, -Bool.exists_bool]; try simp (disch := omega) only [w64, wu64]))
      repeat (first | refine AW.seq ?_ | refine AW.block ?_ | (refine AW.reg mix ?_; simp (implicitDefEqProofs := false) [ew, -Bool.exists_bool]; try simp (disch := omega) only [w64, wu64]) | (refine need.of (by first | omega | kernel_rfl) ?_) | (refine AW.fin ?_; try simp (implicitDefEqProofs := false) [ew, -Bool.exists_bool]))
      refine ⟨i + 1, ⟨by omega, by rw [hst]⟩, by omega, ?_⟩
      rw [hst]
      simp [-Bool.exists_bool]
    · rw [if_neg hre] at hst
      have hSe := hend (by rw [hst]; exact hre)
      rw [hst] at hSe
      rw [← hSe]
      simp only [if_neg hre] at hrm
      refine CallS.o1 3 (hrm) ?_
      (try (simp (implicitDefEqProofs := false) [hre, -Bool.exists_bool]; try simp (disch := omega) only [w64, wu64]))
      repeat (first | refine AW.seq ?_ | refine AW.block ?_ | (refine AW.reg mix ?_; simp (implicitDefEqProofs := false) [hre, -Bool.exists_bool]; try simp (disch := omega) only [w64, wu64]) | (refine need.of (by first | omega | kernel_rfl) ?_) | (refine AW.fin ?_; try simp (implicitDefEqProofs := false) [hre, -Bool.exists_bool]))
      refine AW.cond rfl (fun h => ?_) (fun h => ?_)
      · repeat (first | refine AW.seq ?_ | refine AW.block ?_ | (refine AW.reg mix ?_; simp (implicitDefEqProofs := false) [-Bool.exists_bool]; try simp (disch := omega) only [w64, wu64]) | (refine need.of (by first | omega | kernel_rfl) ?_) | (refine AW.fin ?_; try simp (implicitDefEqProofs := false) [-Bool.exists_bool]))
      · simp [hre] at h
  · exfalso
    have h2 : i = l.length := by omega
    subst h2
    rw [← hS] at hTe
    exact he hTe
end
end Go.Proofs.YtdbfenhaljmbfaaGreat.Am
namespace Go.Proofs.YtdbfenhaljmbfaaGreat.Am
section
set_option linter.unusedVariables false
set_option linter.unusedSimpArgs false
open Go.RowKit
set_option maxRecDepth 100000
set_option linter.unusedSimpArgs false
set_option linter.unusedVariables false

theorem stV_set : ∀ (l : List ST) (i : Nat) (s : ST), i < l.length → (((stV l).set (i * 3) (.d (.int .i64 s.1))).set (i * 3 + 1) (.d (.int .i64 s.2.1))).set (i * 3 + 1 + 1) (.d (.bool s.2.2)) = stV (l.set i s)
  | [], i, s, h => by simp at h
  | r :: l, 0, s, h => by simp [stV, stL]
  | r :: l, i + 1, s, h => by
    have ih := stV_set l i s (by simpa using h)
    rw [show (i + 1) * 3 = i * 3 + 1 + 1 + 1 by omega]
    have e : stV (r :: l) = .d (.int .i64 r.1) :: .d (.int .i64 r.2.1) :: .d (.bool r.2.2) :: stV l := rfl
    rw [e]
    simp only [List.set_cons_succ]
    rw [ih]
    rfl

set_option maxHeartbeats 8000000 in
theorem carrayMerges_ok (cs : List Bool) (k a b : Int) (L M : List RS) (hn : cs.length ≤ 9223372036854775807) (hL : L.length ≤ 9223372036854775807) (hM : M.length ≤ 9223372036854775807) : Eqn Tryz.prog n_Tlaw18_CarrayMerges [.d (parD k a b), .d (.agg [.sl L.length (rawL L), .sl M.length (rawL M)]), .d (BL cs)] [] (.d (.bool true)) [] := by
  refine Eqn.pure r_Tlaw18_CarrayMerges Plain.ok ?_
  obtain ⟨K, A, B, hsr, hsm⟩ := lsmall_ok k a b
  obtain ⟨Y0, T0, F0, -, hs1⟩ := hsm 0 0 false
  have hg := goodR_of hsr
  have hfew := few_ok cs 200 hn (by omega)
  have hx : (cs.take 200).length ≤ 200 := by rw [List.length_take]; omega
  generalize cs.take 200 = xs at hfew hx
  have hown := lown_ok K A B
  obtain ⟨l, l1, l8, lw, hml⟩ := make18_ok hsr L hL
  obtain ⟨m, m1, m8, mw, hmm⟩ := make18_ok hsr M hM
  have hll := stL_len l
  have hlm := stL_len m
  have hl0 : l.length ≠ 0 := by omega
  have htkl : (stL l).take (l.length * 3) = stL l := List.take_of_length_le (by omega)
  have hnw : Eqn Tryz.prog n_tape_New [.d (.sl xs.length (xs.map .bool))] [] (.p 0 0) [tapeO xs 0 false] := new_ok xs (by omega)
  simp only [c_Tlaw18_CarrayMerges, parD, BL, arrO, arrV, arrB, vecO, vecB, encs_len] at hs1 hown hml hmm hfew ⊢
  repeat (first | refine AW.seq ?_ | refine AW.block ?_ | (refine AW.reg mix ?_; simp (implicitDefEqProofs := false) [-Bool.exists_bool]; try simp (disch := omega) only [w64, wu64]) | (refine need.of (by first | omega | kernel_rfl) ?_) | (refine AW.fin ?_; try simp (implicitDefEqProofs := false) [-Bool.exists_bool]))
  refine CallS.pu (awake18_ok) ?_
  (try (simp (implicitDefEqProofs := false) [-Bool.exists_bool]; try simp (disch := omega) only [w64, wu64]))
  repeat (first | refine AW.seq ?_ | refine AW.block ?_ | (refine AW.reg mix ?_; simp (implicitDefEqProofs := false) [-Bool.exists_bool]; try simp (disch := omega) only [w64, wu64]) | (refine need.of (by first | omega | kernel_rfl) ?_) | (refine AW.fin ?_; try simp (implicitDefEqProofs := false) [-Bool.exists_bool]))
  refine AW.cond rfl (fun h => ?_) (fun h => ?_)
  · simp at h
  clear h
  simp only [tsD] at hs1
  repeat (first | refine AW.seq ?_ | refine AW.block ?_ | (refine AW.reg mix ?_; simp (implicitDefEqProofs := false) [-Bool.exists_bool]; try simp (disch := omega) only [w64, wu64]) | (refine need.of (by first | omega | kernel_rfl) ?_) | (refine AW.fin ?_; try simp (implicitDefEqProofs := false) [-Bool.exists_bool]))
  refine CallS.pu (hs1) ?_
  (try (simp (implicitDefEqProofs := false) [-Bool.exists_bool]; try simp (disch := omega) only [w64, wu64]))
  repeat (first | refine AW.seq ?_ | refine AW.block ?_ | (refine AW.reg mix ?_; simp (implicitDefEqProofs := false) [-Bool.exists_bool]; try simp (disch := omega) only [w64, wu64]) | (refine need.of (by first | omega | kernel_rfl) ?_) | (refine AW.fin ?_; try simp (implicitDefEqProofs := false) [-Bool.exists_bool]))
  refine CallS.pu (hfew) ?_
  (try (simp (implicitDefEqProofs := false) [-Bool.exists_bool]; try simp (disch := omega) only [w64, wu64]))
  repeat (first | refine AW.seq ?_ | refine AW.block ?_ | (refine AW.reg mix ?_; simp (implicitDefEqProofs := false) [-Bool.exists_bool]; try simp (disch := omega) only [w64, wu64]) | (refine need.of (by first | omega | kernel_rfl) ?_) | (refine AW.fin ?_; try simp (implicitDefEqProofs := false) [-Bool.exists_bool]))
  refine CallS.g [] (hml) ?_
  (try (simp (implicitDefEqProofs := false) [-Bool.exists_bool]; try simp (disch := omega) only [w64, wu64]))
  repeat (first | refine AW.seq ?_ | refine AW.block ?_ | (refine AW.reg mix ?_; simp (implicitDefEqProofs := false) [-Bool.exists_bool]; try simp (disch := omega) only [w64, wu64]) | (refine need.of (by first | omega | kernel_rfl) ?_) | (refine AW.fin ?_; try simp (implicitDefEqProofs := false) [-Bool.exists_bool]))
  refine CallS.g [] (hmm) ?_
  (try (simp (implicitDefEqProofs := false) [-Bool.exists_bool]; try simp (disch := omega) only [w64, wu64]))
  repeat (first | refine AW.seq ?_ | refine AW.block ?_ | (refine AW.reg mix ?_; simp (implicitDefEqProofs := false) [-Bool.exists_bool]; try simp (disch := omega) only [w64, wu64]) | (refine need.of (by first | omega | kernel_rfl) ?_) | (refine AW.fin ?_; try simp (implicitDefEqProofs := false) [-Bool.exists_bool]))
  refine AW.cond rfl (fun h => ?_) (fun h => ?_)
  · simp at h
  clear h
  repeat (first | refine AW.seq ?_ | refine AW.block ?_ | (refine AW.reg mix ?_; simp (implicitDefEqProofs := false) [-Bool.exists_bool]; try simp (disch := omega) only [w64, wu64]) | (refine need.of (by first | omega | kernel_rfl) ?_) | (refine AW.fin ?_; try simp (implicitDefEqProofs := false) [-Bool.exists_bool]))
  refine CallS.pu (hown) ?_
  (try (simp (implicitDefEqProofs := false) [-Bool.exists_bool]; try simp (disch := omega) only [w64, wu64]))
  repeat (first | refine AW.seq ?_ | refine AW.block ?_ | (refine AW.reg mix ?_; simp (implicitDefEqProofs := false) [-Bool.exists_bool]; try simp (disch := omega) only [w64, wu64]) | (refine need.of (by first | omega | kernel_rfl) ?_) | (refine AW.fin ?_; try simp (implicitDefEqProofs := false) [-Bool.exists_bool]))
  refine CallS.n1 (hnw) ?_
  (try (simp (implicitDefEqProofs := false) [-Bool.exists_bool]; try simp (disch := omega) only [w64, wu64]))
  repeat (first | refine AW.seq ?_ | refine AW.block ?_ | (refine AW.reg mix ?_; simp (implicitDefEqProofs := false) [-Bool.exists_bool]; try simp (disch := omega) only [w64, wu64]) | (refine need.of (by first | omega | kernel_rfl) ?_) | (refine AW.fin ?_; try simp (implicitDefEqProofs := false) [-Bool.exists_bool]))
  refine CallS.n1 (hnw) ?_
  (try (simp (implicitDefEqProofs := false) [-Bool.exists_bool]; try simp (disch := omega) only [w64, wu64]))
  repeat (first | refine AW.seq ?_ | refine AW.block ?_ | (refine AW.reg mix ?_; simp (implicitDefEqProofs := false) [-Bool.exists_bool]; try simp (disch := omega) only [w64, wu64]) | (refine need.of (by first | omega | kernel_rfl) ?_) | (refine AW.fin ?_; try simp (implicitDefEqProofs := false) [-Bool.exists_bool]))
  have hial := is_ok l l hg lw l1 (by omega) (by omega)
  have hibm := is_ok m m hg mw m1 (by omega) (by omega)
  simp only [decide_true, arrO, arrV, arrB, vecO, vecB, encs_len] at hial hibm
  by_cases hlm' : l.length = m.length
  · have hlp : (l.length : Int) = m.length := by omega
    obtain ⟨S, hS⟩ : ∃ S, S = mergeUp xs K A B l m 0 false l.length := ⟨_, rfl⟩
    by_cases he : S.e = 0
    · have hcm := cmerge_ok xs l m 0 false hg lw mw l1 (by omega) hlm' (Nat.zero_le _) (by omega) S hS he
      have hSw := mergeUp_well (d := false) hg lw mw (Nat.zero_le xs.length) l.length (Nat.le_refl _) (by omega)
      rw [← hS] at hSw
      have hSl := hSw.2.2 he
      simp only [arrO, arrV, arrB, vecO, vecB, encs_len, hSl] at hcm
      refine CallS.g [4, 5, 6, 11, 7, 8, 9] (hcm) ?_
      (try (simp (implicitDefEqProofs := false) [-Bool.exists_bool]; try simp (disch := omega) only [w64, wu64]))
      repeat (first | refine AW.seq ?_ | refine AW.block ?_ | (refine AW.reg mix ?_; simp (implicitDefEqProofs := false) [-Bool.exists_bool]; try simp (disch := omega) only [w64, wu64]) | (refine need.of (by first | omega | kernel_rfl) ?_) | (refine AW.fin ?_; try simp (implicitDefEqProofs := false) [-Bool.exists_bool]))
      refine AW.cond rfl (fun h => ?_) (fun h => ?_)
      · simp [hlp] at h
      clear h
      repeat (first | refine AW.seq ?_ | refine AW.block ?_ | (refine AW.reg mix ?_; simp (implicitDefEqProofs := false) [hl0, htkl, hll, -Bool.exists_bool]; try simp (disch := omega) only [w64, wu64]) | (refine need.of (by first | omega | kernel_rfl) ?_) | (refine AW.fin ?_; try simp (implicitDefEqProofs := false) [hl0, htkl, hll, -Bool.exists_bool]))
      refine AW.loopT (α := Nat) 16 (fun i => [(89, .d (.int .i64 (i : Int)))]) (fun i => [(12, tapeO xs (mergeUp xs K A B l m 0 false i).p (mergeUp xs K A B l m 0 false i).d), (15, ⟨36, stV (twin l (mergeUp xs K A B l m 0 false i).l)⟩)]) (fun i => i ≤ l.length ∧ (mergeUp xs K A B l m 0 false i).e = 0) (fun i => l.length - i) 0 ?_ ?_ ⟨Nat.zero_le _, rfl⟩ ?_ ?_ ?_
      · simp
      · simp
      · simp
      · simp [twin_nil, mergeUp, -Bool.exists_bool, lowl_map_d]
      rintro i ⟨hi, hTe⟩
      simp [-Bool.exists_bool]
      have hTw := mergeUp_well (d := false) hg lw mw (Nat.zero_le xs.length) i (by omega) (by omega)
      by_cases hi' : i < l.length
      · have hno : (mergeUp xs K A B l m 0 false (i + 1)).e = 0 := by
          by_cases h : (mergeUp xs K A B l m 0 false (i + 1)).e = 0
          · exact h
          · have := mergeUp_stay h (l.length - (i + 1))
            rw [show i + 1 + (l.length - (i + 1)) = l.length by omega, ← hS] at this
            rw [← this]; exact he
        have hlg := stL_get l i hi'
        have hmg := stL_get m i (by omega)
        have hwl := wells_get lw hi'
        have hwm := wells_get mw (i := i) (by omega)
        obtain ⟨s, hs⟩ : ∃ s, l.getD i (0, 0, false) = s := ⟨_, rfl⟩
        obtain ⟨r, hr⟩ : ∃ s, m.getD i (0, 0, false) = s := ⟨_, rfl⟩
        rw [hs] at hlg hwl
        rw [hr] at hmg hwm
        obtain ⟨R, hR⟩ : ∃ R, R = mergeRM xs K A B s.1 s.2.1 s.2.2 r.1 r.2.1 r.2.2 (mergeUp xs K A B l m 0 false i).p (mergeUp xs K A B l m 0 false i).d := ⟨_, rfl⟩
        have hst := mergeUp_step rfl hTe hs hr hR
        have hmw := mergeRM_well (cs := xs) (p := (mergeUp xs K A B l m 0 false i).p) (d := (mergeUp xs K A B l m 0 false i).d) hg hwl hwm hTw.1
        rw [← hR] at hmw
        have hrm := rmerge_ok xs K A B s.1 s.2.1 s.2.2 r.1 r.2.1 r.2.2 _ _ hg hwl hwm hTw.1 (by omega) R hR
        have htl : (twin l (mergeUp xs K A B l m 0 false i).l).length = l.length := twin_len (by rw [hTw.2.2 hTe]; omega)
        have hts := twin_set (l := l) (acc := (mergeUp xs K A B l m 0 false i).l) (by rw [hTw.2.2 hTe]; omega) (R.y, R.t, R.f)
        rw [hTw.2.2 hTe] at hts
        have hsv := stV_set (twin l (mergeUp xs K A B l m 0 false i).l) i (R.y, R.t, R.f) (by omega)
        rw [hts] at hsv
        have hvl := stV_len (twin l (mergeUp xs K A B l m 0 false i).l)
        rw [htl] at hvl
        clear hR hs hr
        generalize mergeUp xs K A B l m 0 false i = T at *
        obtain ⟨Te, Tl, Tp, Td⟩ := T
        obtain ⟨s1, s2, s3⟩ := s
        obtain ⟨r1, r2, r3⟩ := r
        obtain ⟨e, ry, rt, rf, rp, rd⟩ := R
        have hi2 : (i : Int) < l.length := by omega
        have hi3 : (i : Int) < m.length := by omega
        have hi4 : i < m.length := by omega
        have ew : IntKind.i64.wrap ((i : Int) + 1) = ((i + 1 : Nat) : Int) := by rw [w64 (by omega) (by omega)]; omega
        simp only at hTe hst hmw hrm hsv hvl hlg hmg
        simp only [parD, tsD, stR] at hrm
        repeat (first | refine AW.seq ?_ | refine AW.block ?_ | (refine AW.reg mix ?_; simp (implicitDefEqProofs := false) [hi', hi2, -Bool.exists_bool]; try simp (disch := omega) only [w64, wu64]) | (refine need.of (by first | omega | kernel_rfl) ?_) | (refine AW.fin ?_; try simp (implicitDefEqProofs := false) [hi', hi2, -Bool.exists_bool]))
        refine AW.cond rfl (fun h => ?_) (fun h => ?_)
        rotate_left
        · simp [hi', hi2] at h
        clear h
        repeat (first | refine AW.seq ?_ | refine AW.block ?_ | (refine AW.reg mix ?_; simp (implicitDefEqProofs := false) [hi', hi2, hi3, hi4, hll, hlm, hlg, hmg, -Bool.exists_bool]; try simp (disch := omega) only [w64, wu64]) | (refine need.of (by first | omega | kernel_rfl) ?_) | (refine AW.fin ?_; try simp (implicitDefEqProofs := false) [hi', hi2, hi3, hi4, hll, hlm, hlg, hmg, -Bool.exists_bool]))
        by_cases hre : e = 0
        · subst hre
          rw [if_pos rfl] at hst
          simp only [if_true] at hrm
          refine CallS.o1 12 (hrm) ?_
          (try (simp (implicitDefEqProofs := false) [hll, hlm, hlg, hmg, -Bool.exists_bool]; try simp (disch := omega) only [w64, wu64]))
          repeat (first | refine AW.seq ?_ | refine AW.block ?_ | (refine AW.reg mix ?_; simp (implicitDefEqProofs := false) [hll, hlm, hlg, hmg, -Bool.exists_bool]; try simp (disch := omega) only [w64, wu64]) | (refine need.of (by first | omega | kernel_rfl) ?_) | (refine AW.fin ?_; try simp (implicitDefEqProofs := false) [hll, hlm, hlg, hmg, -Bool.exists_bool]))
          refine AW.cond rfl (fun h => ?_) (fun h => ?_)
          · simp at h
          repeat (first | refine AW.seq ?_ | refine AW.block ?_ | (refine AW.reg mix ?_; simp (implicitDefEqProofs := false) [hi', hi2, hvl, hsv, ew, -Bool.exists_bool]; try simp (disch := omega) only [w64, wu64]) | (refine need.of (by first | omega | kernel_rfl) ?_) | (refine AW.fin ?_; try simp (implicitDefEqProofs := false) [hi', hi2, hvl, hsv, ew, -Bool.exists_bool]))
          (try (simp (implicitDefEqProofs := false) [hi', hi2, hvl, hsv, ew, -Bool.exists_bool]; try simp (disch := omega) only [w64, wu64]))
          repeat (first | refine AW.seq ?_ | refine AW.block ?_ | (refine AW.reg mix ?_; simp (implicitDefEqProofs := false) [hi', hi2, hvl, hsv, ew, -Bool.exists_bool]; try simp (disch := omega) only [w64, wu64]) | (refine need.of (by first | omega | kernel_rfl) ?_) | (refine AW.fin ?_; try simp (implicitDefEqProofs := false) [hi', hi2, hvl, hsv, ew, -Bool.exists_bool]))
          refine ⟨i + 1, ⟨by omega, by rw [hst]⟩, by omega, ?_⟩
          rw [hst]
          simp [hsv, -Bool.exists_bool]
        · exfalso
          rw [if_neg hre] at hst
          rw [hst] at hno
          exact hre hno
      · have h2 : i = l.length := by omega
        subst h2
        rw [← hS, twin_end hSl]
        have hnew := cnew_ok (k := 4) (a := 999) (b := 1) l.length (.inl ⟨rfl, by unfold GoodT; omega⟩) l1 (by omega)
        have his := is_ok S.l S.l hg hSw.2.1 (by omega) (by omega) (by omega)
        have hcn := cmerge_no (k := K) (a := A) (b := B) (k' := 4) (a' := 999) (b' := 1) xs S.l (List.replicate l.length (0, 0, false)) S.p S.d (.inl (fun h => by have := hsr; unfold SmallR GoodS at this; omega))
        simp only [parD, decide_true, arrO, arrV, arrB, vecO, vecB, encs_len, hSl, List.length_replicate] at his hnew hcn
        repeat (first | refine AW.seq ?_ | refine AW.block ?_ | (refine AW.reg mix ?_; simp (implicitDefEqProofs := false) [-Bool.exists_bool]; try simp (disch := omega) only [w64, wu64]) | (refine need.of (by first | omega | kernel_rfl) ?_) | (refine AW.fin ?_; try simp (implicitDefEqProofs := false) [-Bool.exists_bool]))
        refine AW.cond rfl (fun h => ?_) (fun h => ?_)
        · simp at h
        refine AW.exit ?_
        (try (simp (implicitDefEqProofs := false) [-Bool.exists_bool]; try simp (disch := omega) only [w64, wu64]))
        repeat (first | refine AW.seq ?_ | refine AW.block ?_ | (refine AW.reg mix ?_; simp (implicitDefEqProofs := false) [-Bool.exists_bool]; try simp (disch := omega) only [w64, wu64]) | (refine need.of (by first | omega | kernel_rfl) ?_) | (refine AW.fin ?_; try simp (implicitDefEqProofs := false) [-Bool.exists_bool]))
        refine CallS.g [] (hnew) ?_
        (try (simp (implicitDefEqProofs := false) [-Bool.exists_bool]; try simp (disch := omega) only [w64, wu64]))
        repeat (first | refine AW.seq ?_ | refine AW.block ?_ | (refine AW.reg mix ?_; simp (implicitDefEqProofs := false) [-Bool.exists_bool]; try simp (disch := omega) only [w64, wu64]) | (refine need.of (by first | omega | kernel_rfl) ?_) | (refine AW.fin ?_; try simp (implicitDefEqProofs := false) [-Bool.exists_bool]))
        have htkS : (stL S.l).take (l.length * 3) = stL S.l := List.take_of_length_le (by rw [stL_len]; omega)
        rw [← htkS] at his
        refine CallS.gf 15 3 ⟨36, stV S.l⟩ (stL S.l) [4, 13, 14] (his) ?_
        (try (simp (implicitDefEqProofs := false) [-Bool.exists_bool]; try simp (disch := omega) only [w64, wu64]))
        repeat (first | refine AW.seq ?_ | refine AW.block ?_ | (refine AW.reg mix ?_; simp (implicitDefEqProofs := false) [-Bool.exists_bool]; try simp (disch := omega) only [w64, wu64]) | (refine need.of (by first | omega | kernel_rfl) ?_) | (refine AW.fin ?_; try simp (implicitDefEqProofs := false) [-Bool.exists_bool]))
        refine CallS.g [7, 8, 9] (hibm) ?_
        (try (simp (implicitDefEqProofs := false) [-Bool.exists_bool]; try simp (disch := omega) only [w64, wu64]))
        repeat (first | refine AW.seq ?_ | refine AW.block ?_ | (refine AW.reg mix ?_; simp (implicitDefEqProofs := false) [-Bool.exists_bool]; try simp (disch := omega) only [w64, wu64]) | (refine need.of (by first | omega | kernel_rfl) ?_) | (refine AW.fin ?_; try simp (implicitDefEqProofs := false) [-Bool.exists_bool]))
        refine CallS.o1 11 (read_ok xs S.p S.d) ?_
        (try (simp (implicitDefEqProofs := false) [-Bool.exists_bool]; try simp (disch := omega) only [w64, wu64]))
        repeat (first | refine AW.seq ?_ | refine AW.block ?_ | (refine AW.reg mix ?_; simp (implicitDefEqProofs := false) [-Bool.exists_bool]; try simp (disch := omega) only [w64, wu64]) | (refine need.of (by first | omega | kernel_rfl) ?_) | (refine AW.fin ?_; try simp (implicitDefEqProofs := false) [-Bool.exists_bool]))
        refine CallS.o1 12 (read_ok xs S.p S.d) ?_
        (try (simp (implicitDefEqProofs := false) [-Bool.exists_bool]; try simp (disch := omega) only [w64, wu64]))
        repeat (first | refine AW.seq ?_ | refine AW.block ?_ | (refine AW.reg mix ?_; simp (implicitDefEqProofs := false) [-Bool.exists_bool]; try simp (disch := omega) only [w64, wu64]) | (refine need.of (by first | omega | kernel_rfl) ?_) | (refine AW.fin ?_; try simp (implicitDefEqProofs := false) [-Bool.exists_bool]))
        refine CallS.g [4, 13, 14, 11, 16, 17, 18] (hcn) ?_
        (try (simp (implicitDefEqProofs := false) [-Bool.exists_bool]; try simp (disch := omega) only [w64, wu64]))
        repeat (first | refine AW.seq ?_ | refine AW.block ?_ | (refine AW.reg mix ?_; simp (implicitDefEqProofs := false) [-Bool.exists_bool]; try simp (disch := omega) only [w64, wu64]) | (refine need.of (by first | omega | kernel_rfl) ?_) | (refine AW.fin ?_; try simp (implicitDefEqProofs := false) [-Bool.exists_bool]))
    · have hcm := cmerge_err xs l m 0 false hg lw mw l1 (by omega) hlm' (Nat.zero_le _) (by omega) S hS he
      simp only [arrO, arrV, arrB, vecO, vecB, encs_len] at hcm
      refine CallS.g [4, 5, 6, 11, 7, 8, 9] (hcm) ?_
      (try (simp (implicitDefEqProofs := false) [-Bool.exists_bool]; try simp (disch := omega) only [w64, wu64]))
      repeat (first | refine AW.seq ?_ | refine AW.block ?_ | (refine AW.reg mix ?_; simp (implicitDefEqProofs := false) [-Bool.exists_bool]; try simp (disch := omega) only [w64, wu64]) | (refine need.of (by first | omega | kernel_rfl) ?_) | (refine AW.fin ?_; try simp (implicitDefEqProofs := false) [-Bool.exists_bool]))
      refine AW.cond rfl (fun h => ?_) (fun h => ?_)
      · simp [hlp] at h
      clear h
      repeat (first | refine AW.seq ?_ | refine AW.block ?_ | (refine AW.reg mix ?_; simp (implicitDefEqProofs := false) [hl0, htkl, hll, -Bool.exists_bool]; try simp (disch := omega) only [w64, wu64]) | (refine need.of (by first | omega | kernel_rfl) ?_) | (refine AW.fin ?_; try simp (implicitDefEqProofs := false) [hl0, htkl, hll, -Bool.exists_bool]))
      refine AW.loopT (α := Nat) 14 (fun i => [(89, .d (.int .i64 (i : Int)))]) (fun i => [(12, tapeO xs (mergeUp xs K A B l m 0 false i).p (mergeUp xs K A B l m 0 false i).d), (13, ⟨36, stV (twin l (mergeUp xs K A B l m 0 false i).l)⟩)]) (fun i => i ≤ l.length ∧ (mergeUp xs K A B l m 0 false i).e = 0) (fun i => l.length - i) 0 ?_ ?_ ⟨Nat.zero_le _, rfl⟩ ?_ ?_ ?_
      · simp
      · simp
      · simp
      · simp [twin_nil, mergeUp, -Bool.exists_bool, lowl_map_d]
      rintro i ⟨hi, hTe⟩
      simp [-Bool.exists_bool]
      have hTw := mergeUp_well (d := false) hg lw mw (Nat.zero_le xs.length) i (by omega) (by omega)
      by_cases hi' : i < l.length
      · have hend : (mergeUp xs K A B l m 0 false (i + 1)).e ≠ 0 → mergeUp xs K A B l m 0 false (i + 1) = S := fun h => by
          have := mergeUp_stay h (l.length - (i + 1))
          rw [show i + 1 + (l.length - (i + 1)) = l.length by omega, ← hS] at this
          exact this.symm
        have hlg := stL_get l i hi'
        have hmg := stL_get m i (by omega)
        have hwl := wells_get lw hi'
        have hwm := wells_get mw (i := i) (by omega)
        obtain ⟨s, hs⟩ : ∃ s, l.getD i (0, 0, false) = s := ⟨_, rfl⟩
        obtain ⟨r, hr⟩ : ∃ s, m.getD i (0, 0, false) = s := ⟨_, rfl⟩
        rw [hs] at hlg hwl
        rw [hr] at hmg hwm
        obtain ⟨R, hR⟩ : ∃ R, R = mergeRM xs K A B s.1 s.2.1 s.2.2 r.1 r.2.1 r.2.2 (mergeUp xs K A B l m 0 false i).p (mergeUp xs K A B l m 0 false i).d := ⟨_, rfl⟩
        have hst := mergeUp_step rfl hTe hs hr hR
        have hmw := mergeRM_well (cs := xs) (p := (mergeUp xs K A B l m 0 false i).p) (d := (mergeUp xs K A B l m 0 false i).d) hg hwl hwm hTw.1
        rw [← hR] at hmw
        have hrm := rmerge_ok xs K A B s.1 s.2.1 s.2.2 r.1 r.2.1 r.2.2 _ _ hg hwl hwm hTw.1 (by omega) R hR
        have htl : (twin l (mergeUp xs K A B l m 0 false i).l).length = l.length := twin_len (by rw [hTw.2.2 hTe]; omega)
        have hts := twin_set (l := l) (acc := (mergeUp xs K A B l m 0 false i).l) (by rw [hTw.2.2 hTe]; omega) (R.y, R.t, R.f)
        rw [hTw.2.2 hTe] at hts
        have hsv := stV_set (twin l (mergeUp xs K A B l m 0 false i).l) i (R.y, R.t, R.f) (by omega)
        rw [hts] at hsv
        have hvl := stV_len (twin l (mergeUp xs K A B l m 0 false i).l)
        rw [htl] at hvl
        clear hR hs hr
        generalize mergeUp xs K A B l m 0 false i = T at *
        obtain ⟨Te, Tl, Tp, Td⟩ := T
        obtain ⟨s1, s2, s3⟩ := s
        obtain ⟨r1, r2, r3⟩ := r
        obtain ⟨e, ry, rt, rf, rp, rd⟩ := R
        have hi2 : (i : Int) < l.length := by omega
        have hi3 : (i : Int) < m.length := by omega
        have hi4 : i < m.length := by omega
        have ew : IntKind.i64.wrap ((i : Int) + 1) = ((i + 1 : Nat) : Int) := by rw [w64 (by omega) (by omega)]; omega
        simp only at hTe hst hmw hrm hsv hvl hlg hmg
        simp only [parD, tsD, stR] at hrm
        repeat (first | refine AW.seq ?_ | refine AW.block ?_ | (refine AW.reg mix ?_; simp (implicitDefEqProofs := false) [hi', hi2, -Bool.exists_bool]; try simp (disch := omega) only [w64, wu64]) | (refine need.of (by first | omega | kernel_rfl) ?_) | (refine AW.fin ?_; try simp (implicitDefEqProofs := false) [hi', hi2, -Bool.exists_bool]))
        refine AW.cond rfl (fun h => ?_) (fun h => ?_)
        rotate_left
        · simp [hi', hi2] at h
        clear h
        repeat (first | refine AW.seq ?_ | refine AW.block ?_ | (refine AW.reg mix ?_; simp (implicitDefEqProofs := false) [hi', hi2, hi3, hi4, hll, hlm, hlg, hmg, -Bool.exists_bool]; try simp (disch := omega) only [w64, wu64]) | (refine need.of (by first | omega | kernel_rfl) ?_) | (refine AW.fin ?_; try simp (implicitDefEqProofs := false) [hi', hi2, hi3, hi4, hll, hlm, hlg, hmg, -Bool.exists_bool]))
        by_cases hre : e = 0
        · subst hre
          rw [if_pos rfl] at hst
          simp only [if_true] at hrm
          refine CallS.o1 12 (hrm) ?_
          (try (simp (implicitDefEqProofs := false) [hll, hlm, hlg, hmg, -Bool.exists_bool]; try simp (disch := omega) only [w64, wu64]))
          repeat (first | refine AW.seq ?_ | refine AW.block ?_ | (refine AW.reg mix ?_; simp (implicitDefEqProofs := false) [hll, hlm, hlg, hmg, -Bool.exists_bool]; try simp (disch := omega) only [w64, wu64]) | (refine need.of (by first | omega | kernel_rfl) ?_) | (refine AW.fin ?_; try simp (implicitDefEqProofs := false) [hll, hlm, hlg, hmg, -Bool.exists_bool]))
          refine AW.cond rfl (fun h => ?_) (fun h => ?_)
          · simp at h
          repeat (first | refine AW.seq ?_ | refine AW.block ?_ | (refine AW.reg mix ?_; simp (implicitDefEqProofs := false) [hi', hi2, hvl, hsv, ew, -Bool.exists_bool]; try simp (disch := omega) only [w64, wu64]) | (refine need.of (by first | omega | kernel_rfl) ?_) | (refine AW.fin ?_; try simp (implicitDefEqProofs := false) [hi', hi2, hvl, hsv, ew, -Bool.exists_bool]))
          (try (simp (implicitDefEqProofs := false) [hi', hi2, hvl, hsv, ew, -Bool.exists_bool]; try simp (disch := omega) only [w64, wu64]))
          repeat (first | refine AW.seq ?_ | refine AW.block ?_ | (refine AW.reg mix ?_; simp (implicitDefEqProofs := false) [hi', hi2, hvl, hsv, ew, -Bool.exists_bool]; try simp (disch := omega) only [w64, wu64]) | (refine need.of (by first | omega | kernel_rfl) ?_) | (refine AW.fin ?_; try simp (implicitDefEqProofs := false) [hi', hi2, hvl, hsv, ew, -Bool.exists_bool]))
          refine ⟨i + 1, ⟨by omega, by rw [hst]⟩, by omega, ?_⟩
          rw [hst]
          simp [hsv, -Bool.exists_bool]
        · rw [if_neg hre] at hst
          have hSe := hend (by rw [hst]; exact hre)
          rw [hst] at hSe
          subst hSe
          simp only [if_neg hre] at hrm
          refine CallS.o1 12 (hrm) ?_
          (try (simp (implicitDefEqProofs := false) [hll, hlm, hlg, hmg, hre, -Bool.exists_bool]; try simp (disch := omega) only [w64, wu64]))
          repeat (first | refine AW.seq ?_ | refine AW.block ?_ | (refine AW.reg mix ?_; simp (implicitDefEqProofs := false) [hll, hlm, hlg, hmg, hre, -Bool.exists_bool]; try simp (disch := omega) only [w64, wu64]) | (refine need.of (by first | omega | kernel_rfl) ?_) | (refine AW.fin ?_; try simp (implicitDefEqProofs := false) [hll, hlm, hlg, hmg, hre, -Bool.exists_bool]))
          refine AW.cond rfl (fun h => ?_) (fun h => ?_)
          · repeat (first | refine AW.seq ?_ | refine AW.block ?_ | (refine AW.reg mix ?_; simp (implicitDefEqProofs := false) [-Bool.exists_bool]; try simp (disch := omega) only [w64, wu64]) | (refine need.of (by first | omega | kernel_rfl) ?_) | (refine AW.fin ?_; try simp (implicitDefEqProofs := false) [-Bool.exists_bool]))
            refine CallS.g [4, 5, 6] (hial) ?_
            (try (simp (implicitDefEqProofs := false) [-Bool.exists_bool]; try simp (disch := omega) only [w64, wu64]))
            repeat (first | refine AW.seq ?_ | refine AW.block ?_ | (refine AW.reg mix ?_; simp (implicitDefEqProofs := false) [-Bool.exists_bool]; try simp (disch := omega) only [w64, wu64]) | (refine need.of (by first | omega | kernel_rfl) ?_) | (refine AW.fin ?_; try simp (implicitDefEqProofs := false) [-Bool.exists_bool]))
            refine CallS.g [7, 8, 9] (hibm) ?_
            (try (simp (implicitDefEqProofs := false) [-Bool.exists_bool]; try simp (disch := omega) only [w64, wu64]))
            repeat (first | refine AW.seq ?_ | refine AW.block ?_ | (refine AW.reg mix ?_; simp (implicitDefEqProofs := false) [-Bool.exists_bool]; try simp (disch := omega) only [w64, wu64]) | (refine need.of (by first | omega | kernel_rfl) ?_) | (refine AW.fin ?_; try simp (implicitDefEqProofs := false) [-Bool.exists_bool]))
            refine CallS.o1 11 (read_ok xs rp rd) ?_
            (try (simp (implicitDefEqProofs := false) [-Bool.exists_bool]; try simp (disch := omega) only [w64, wu64]))
            repeat (first | refine AW.seq ?_ | refine AW.block ?_ | (refine AW.reg mix ?_; simp (implicitDefEqProofs := false) [-Bool.exists_bool]; try simp (disch := omega) only [w64, wu64]) | (refine need.of (by first | omega | kernel_rfl) ?_) | (refine AW.fin ?_; try simp (implicitDefEqProofs := false) [-Bool.exists_bool]))
            refine CallS.o1 12 (read_ok xs rp rd) ?_
            (try (simp (implicitDefEqProofs := false) [-Bool.exists_bool]; try simp (disch := omega) only [w64, wu64]))
            repeat (first | refine AW.seq ?_ | refine AW.block ?_ | (refine AW.reg mix ?_; simp (implicitDefEqProofs := false) [-Bool.exists_bool]; try simp (disch := omega) only [w64, wu64]) | (refine need.of (by first | omega | kernel_rfl) ?_) | (refine AW.fin ?_; try simp (implicitDefEqProofs := false) [-Bool.exists_bool]))
          · simp [hre] at h
      · exfalso
        have h2 : i = l.length := by omega
        subst h2
        rw [← hS] at hTe
        exact he hTe
  · have hlp : ¬ (l.length : Int) = m.length := by omega
    have hcm := cmerge_no (k := K) (a := A) (b := B) (k' := K) (a' := A) (b' := B) xs l m 0 false (.inr hlm')
    simp only [arrO, arrV, arrB, vecO, vecB, encs_len] at hcm
    refine CallS.g [4, 5, 6, 11, 7, 8, 9] (hcm) ?_
    (try (simp (implicitDefEqProofs := false) [-Bool.exists_bool]; try simp (disch := omega) only [w64, wu64]))
    repeat (first | refine AW.seq ?_ | refine AW.block ?_ | (refine AW.reg mix ?_; simp (implicitDefEqProofs := false) [-Bool.exists_bool]; try simp (disch := omega) only [w64, wu64]) | (refine need.of (by first | omega | kernel_rfl) ?_) | (refine AW.fin ?_; try simp (implicitDefEqProofs := false) [-Bool.exists_bool]))
    refine AW.cond rfl (fun h => ?_) (fun h => ?_)
    · repeat (first | refine AW.seq ?_ | refine AW.block ?_ | (refine AW.reg mix ?_; simp (implicitDefEqProofs := false) [-Bool.exists_bool]; try simp (disch := omega) only [w64, wu64]) | (refine need.of (by first | omega | kernel_rfl) ?_) | (refine AW.fin ?_; try simp (implicitDefEqProofs := false) [-Bool.exists_bool]))
      refine CallS.g [4, 5, 6] (hial) ?_
      (try (simp (implicitDefEqProofs := false) [-Bool.exists_bool]; try simp (disch := omega) only [w64, wu64]))
      repeat (first | refine AW.seq ?_ | refine AW.block ?_ | (refine AW.reg mix ?_; simp (implicitDefEqProofs := false) [-Bool.exists_bool]; try simp (disch := omega) only [w64, wu64]) | (refine need.of (by first | omega | kernel_rfl) ?_) | (refine AW.fin ?_; try simp (implicitDefEqProofs := false) [-Bool.exists_bool]))
      refine CallS.o1 11 (read_ok xs 0 false) ?_
      (try (simp (implicitDefEqProofs := false) [-Bool.exists_bool]; try simp (disch := omega) only [w64, wu64]))
      repeat (first | refine AW.seq ?_ | refine AW.block ?_ | (refine AW.reg mix ?_; simp (implicitDefEqProofs := false) [-Bool.exists_bool]; try simp (disch := omega) only [w64, wu64]) | (refine need.of (by first | omega | kernel_rfl) ?_) | (refine AW.fin ?_; try simp (implicitDefEqProofs := false) [-Bool.exists_bool]))
    · simp [hlp] at h
end
end Go.Proofs.YtdbfenhaljmbfaaGreat.Am
namespace Go.Proofs.YtdbfenhaljmbfaaGreat.Am
section
set_option linter.unusedVariables false
set_option linter.unusedSimpArgs false
open Go.RowKit
set_option linter.unusedVariables false

theorem reps_flat {I : Nat → Prop} {w : World} {α : Type} (f : α → List D) (g : α → List Value) (h : ∀ a, D.reps I w (f a) (g a)) : ∀ l : List α, D.reps I w (l.flatMap f) (l.map g).flatten
  | [] => by simp
  | a :: l => by
    rw [List.flatMap_cons, List.map_cons, List.flatten_cons]
    exact D.reps_append (h a) (reps_flat f g h l)
/-- a slice that came in, of elements of several cells that are data -/
theorem rep_rows {W : World} {v : Value} {s : Nat} {α : Type} {l : List α} (f : α → List D) (g : α → List Value) (hg : ∀ a, ∀ u ∈ g a, u.oneCell' = true) (hr : ∀ a, D.reps (fun b => b < W.heap.size) W (f a) (g a)) (h : Cells W v s l.length (l.map g).flatten) : V.rep (memW W) (.d (.sl l.length (l.flatMap f))) v := by
  rw [V.rep_d]
  unfold D.rep
  obtain ⟨h1, p, cap, rfl, h2, h3, h4⟩ := h
  refine ⟨p, cap, rfl, h2, h3, (l.map g).flatten, fun u hu => ?_, reps_flat f g hr l, ?_⟩
  · obtain ⟨x, hx, hu⟩ := List.mem_flatten.1 hu
    obtain ⟨a, -, rfl⟩ := List.mem_map.1 hx
    exact hg a u hu
  · rcases h4 with ⟨rfl, h5, h6⟩ | ⟨b, o, rfl, hb, hc⟩
    · left
      have : l = [] := List.eq_nil_of_length_eq_zero h5
      subst this
      exact ⟨rfl, h6, rfl⟩
    · exact .inr ⟨b, o, rfl, .inr hb, hc⟩
end
end Go.Proofs.YtdbfenhaljmbfaaGreat.Am
namespace Go.Proofs.YtdbfenhaljmbfaaGreat.Am
section
set_option linter.unusedVariables false
set_option linter.unusedSimpArgs false
open Go.RowKit
set_option maxRecDepth 100000
set_option linter.unusedSimpArgs false
set_option linter.unusedVariables false
end
end Go.Proofs.YtdbfenhaljmbfaaGreat.Am
namespace Go.Proofs.YtdbfenhaljmbfaaGreat.Am
section
set_option linter.unusedVariables false
set_option linter.unusedSimpArgs false
open Go.RowKit

theorem reps_ints {I : Nat → Prop} {w : World} : ∀ l : List Int, D.reps I w (l.map (D.int .i64)) (l.map (Value.int .i64))
  | [] => D.reps_nil.2 rfl
  | _ :: l => D.reps_cons.2 ⟨D.rep_int.2 rfl, reps_ints l⟩
theorem rep_ints {W : World} (l : List Int) : V.rep (memW W) (.d (.agg (l.map (D.int .i64)))) (.agg (l.map (Value.int .i64)).toArray) :=
  rep_agg (fun u hu => by obtain ⟨n, -, rfl⟩ := List.mem_map.1 hu; rfl) (reps_ints l)
end
end Go.Proofs.YtdbfenhaljmbfaaGreat.Am
namespace Go.Proofs.YtdbfenhaljmbfaaGreat.Am
section
set_option linter.unusedVariables false
set_option linter.unusedSimpArgs false
open Go.RowKit

theorem rep_states {W : World} {v : Value} {l : List RS} (h : Cells W v 3 l.length (l.map fun a => [Value.int .i64 a.1, Value.int .i64 a.2.1, Value.bool a.2.2]).flatten) : V.rep (memW W) (.d (.sl l.length (rawL l))) v :=
  rep_rows (fun a : RS => [D.int .i64 a.1, D.int .i64 a.2.1, D.bool a.2.2]) (fun a : RS => [Value.int .i64 a.1, Value.int .i64 a.2.1, Value.bool a.2.2]) (fun a u hu => by simp at hu; rcases hu with rfl | rfl | rfl <;> rfl) (fun a => by simp [D.reps_cons, D.rep_int, D.rep_bool]) h
theorem slice_one {W : World} {v : Value} {s n : Nat} {l : List Value} (h : Cells W v s n l) : v.oneCell' = true := by
  obtain ⟨_, p, cap, rfl, _⟩ := h; rfl

theorem cm_walk {W : World} {u u' v : Value} {L M : List RS} (w1 : Cells W u 3 L.length (L.map fun a => [Value.int .i64 a.1, Value.int .i64 a.2.1, Value.bool a.2.2]).flatten) (hL : L.length ≤ maxLen) (w2 : Cells W u' 3 M.length (M.map fun a => [Value.int .i64 a.1, Value.int .i64 a.2.1, Value.bool a.2.2]).flatten) (hM : M.length ≤ maxLen) {cs : List Bool} (w3 : Bools W v cs) {k a b : Int} : Calls Tryz.prog n_Tlaw18_CarrayMerges #[.agg #[.int .i64 k, .int .i64 a, .int .i64 b], .agg #[u, u'], v] W (fun e W' => e = .returned (.bool true) ∧ Same W W') :=
  law_walk r_Tlaw18_CarrayMerges (carrayMerges_ok cs k a b L M (by have := bools_len w3; unfold maxLen at this; omega) (by unfold maxLen at hL; omega) (by unfold maxLen at hM; omega))
    (V.reps_cons.2 ⟨rep_ints [k, a, b], V.reps_cons.2 ⟨rep_agg (vs := [u, u']) (fun z hz => by simp at hz; rcases hz with rfl | rfl; exact slice_one w1; exact slice_one w2) (D.reps_cons.2 ⟨V.rep_d.1 (rep_states w1), D.reps_cons.2 ⟨V.rep_d.1 (rep_states w2), D.reps_nil.2 rfl⟩⟩), V.reps_cons.2 ⟨rep_bools w3, V.reps_nil.2 rfl⟩⟩⟩)
end
end Go.Proofs.YtdbfenhaljmbfaaGreat.Am
