/- Parts of the proof: Carr8, Carr9, CarrA, CarrB, CarrC, CarrD, CarrE, CarrF, AmLaw2, ChainI, ChainJ, CmergeL, CplaysL. -/
import Derived.Test.YtdbfenhaljmbfaaGreatPf
namespace Go.Proofs.YtdbfenhaljmbfaaGreat.Am
section
set_option linter.unusedVariables false
set_option linter.unusedSimpArgs false
open Go.RowKit
set_option maxRecDepth 100000
set_option linter.unusedSimpArgs false
set_option linter.unusedVariables false

theorem plen_ok (w : Nat) (xs : List Nat) : Eqn Tryz.prog n_pack_Vector_Len [.ia (vecD w xs) 0] [] (.d (.int .i64 xs.length)) [] := by
  refine Eqn.pure r_pack_Vector_Len Plain.ok ?_
  simp only [c_pack_Vector_Len, vecD]
  repeat (first | refine AW.seq ?_ | refine AW.block ?_ | (refine AW.reg mix ?_; simp (implicitDefEqProofs := false); try simp (disch := omega) only [w64, wu64]) | (refine need.of (by first | omega | kernel_rfl) ?_) | (refine AW.fin ?_; try simp (implicitDefEqProofs := false)))

/-- states as the cells of a slice -/
def stL (l : List ST) : List D := l.flatMap fun s => [.int .i64 s.1, .int .i64 s.2.1, .bool s.2.2]
theorem stL_len (l : List ST) : (stL l).length = 3 * l.length := by induction l <;> simp_all [stL]; omega
theorem stL_drop : ∀ (l : List ST) (i : Nat), (stL l).drop (i * 3) = stL (l.drop i)
  | l, 0 => by simp
  | [], i + 1 => by simp [stL]
  | s :: l, i + 1 => by
    have := stL_drop l i
    rw [show (i + 1) * 3 = 3 + i * 3 by omega, List.drop_succ_cons, ← this, ← List.drop_drop]
    rfl
theorem stL_get (l : List ST) (i : Nat) (h : i < l.length) : ((stL l).drop (i * 3)).take 3 = [.int .i64 (l.getD i (0, 0, false)).1, .int .i64 (l.getD i (0, 0, false)).2.1, .bool (l.getD i (0, 0, false)).2.2] := by
  rw [stL_drop, List.drop_eq_getElem_cons h, List.getD_eq_getElem?_getD, List.getElem?_eq_getElem h]
  rfl
theorem stEq {s r : ST} : ((s.1 : Int) == r.1 && ((s.2.1 : Int) == r.2.1 && (s.2.2 == r.2.2))) = decide (s = r) := by
  obtain ⟨a, b, c⟩ := s; obtain ⟨x, y, z⟩ := r
  rw [Bool.eq_iff_iff]; simp only [Bool.and_eq_true, beq_iff_eq, decide_eq_true_eq, Prod.mk.injEq, Int.natCast_inj]

theorem take_eq_succ {l m : List ST} {i : Nat} (h : l.take i = m.take i) (hl : i < l.length) (hm : i < m.length) (he : l.getD i (0, 0, false) = m.getD i (0, 0, false)) : l.take (i + 1) = m.take (i + 1) := by
  rw [List.take_add_one, List.take_add_one, h]
  simp only [List.getD_eq_getElem?_getD, List.getElem?_eq_getElem hl, List.getElem?_eq_getElem hm, Option.getD_some] at he
  rw [List.getElem?_eq_getElem hl, List.getElem?_eq_getElem hm, he]

set_option maxHeartbeats 1000000 in
theorem is_ok {k a b : Nat} (l m : List ST) (hg : GoodR k a b) (hw : wells k a b l) (h1 : 1 ≤ l.length) (hn : l.length ≤ 256) (hm : m.length ≤ 256) :
    Eqn Tryz.prog n_Tlaw18_is [.p 0 0, .d (.sl m.length (stL m))] [arrO 1 k a b, arrV 2 k a b l, arrB k a b l] (.d (.bool (decide (l = m)))) [arrO 1 k a b, arrV 2 k a b l, arrB k a b l] := by
  refine Eqn.gen [0, 1, 2] r_Tlaw18_is (by simp) (by simp) (by rfl) (by decide) (by simp) (by simp [arrO, arrV, arrB, vecO, vecB]) ?_
  have hml := stL_len m
  simp only [c_Tlaw18_is]
  repeat (first | refine AW.seq ?_ | refine AW.block ?_ | (refine AW.reg mix ?_; simp (implicitDefEqProofs := false); try simp (disch := omega) only [w64, wu64]) | (refine need.of (by first | omega | kernel_rfl) ?_) | (refine AW.fin ?_; try simp (implicitDefEqProofs := false)))
  refine AW.loopT (α := Nat) 3 (fun s => [(15, .d (.int .i64 (s : Int)))]) (fun s => []) (fun s => s ≤ l.length ∧ s ≤ m.length ∧ l.take s = m.take s) (fun s => m.length - s) 0 ?_ ?_ ⟨Nat.zero_le _, Nat.zero_le _, by simp⟩ ?_ ?_ ?_
  · simp
  · simp
  · simp
  · simp [arrO, arrV, arrB, vecO, vecB]
  rintro i ⟨hil, him, he⟩
  simp
  by_cases him' : i < m.length
  · have him2 : (i : Int) < m.length := by omega
    have hmg := stL_get m i him'
    obtain ⟨r, hr⟩ : ∃ r, r = m.getD i (0, 0, false) := ⟨_, rfl⟩
    rw [← hr] at hmg
    by_cases hil' : i < l.length
    · have hgi := cget_ok l i hg hw hil' hn
      obtain ⟨s, hs⟩ : ∃ s, s = l.getD i (0, 0, false) := ⟨_, rfl⟩
      rw [← hs] at hgi
      have hse := stEq (s := s) (r := r)
      have ew : IntKind.i64.wrap ((i : Int) + 1) = ((i + 1 : Nat) : Int) := by rw [w64 (by omega) (by omega)]; omega
      have hstep : s = r → l.take (i + 1) = m.take (i + 1) := fun h => take_eq_succ he hil' him' (by rw [← hs, ← hr, h])
      have hno : s ≠ r → l ≠ m := fun h e => h (by rw [hs, hr, e])
      clear hs hr
      obtain ⟨s1, s2, s3⟩ := s
      obtain ⟨r1, r2, r3⟩ := r
      simp only [arrO, arrV, arrB, vecO, vecB, encs_len, tsD] at hgi hse hmg ⊢
      generalize wordsP (wdR k a b) (encs k a b l) = WS at *
      generalize nwP l.length (wdR k a b) = NW at *
      repeat (first | refine AW.seq ?_ | refine AW.block ?_ | (refine AW.reg mix ?_; simp (implicitDefEqProofs := false) [him', him2, -Bool.exists_bool]; try simp (disch := omega) only [w64, wu64]) | (refine need.of (by first | omega | kernel_rfl) ?_) | (refine AW.fin ?_; try simp (implicitDefEqProofs := false) [him', him2, -Bool.exists_bool]))
      refine AW.cond rfl (fun h => ?_) (fun h => ?_)
      · clear h
        by_cases hsr : (s1, s2, s3) = (r1, r2, r3)
        · rw [decide_eq_true hsr] at hse
          repeat (first | refine AW.seq ?_ | refine AW.block ?_ | (refine AW.reg mix ?_; simp (implicitDefEqProofs := false) [him', him2, hml, hmg, -Bool.exists_bool]; try simp (disch := omega) only [w64, wu64]) | (refine need.of (by first | omega | kernel_rfl) ?_) | (refine AW.fin ?_; try simp (implicitDefEqProofs := false) [him', him2, hml, hmg, -Bool.exists_bool]))
          refine CallS.g [0, 1, 2] (hgi) ?_
          (try (simp (implicitDefEqProofs := false) [him', him2, hml, hmg, hse, -Bool.exists_bool]; try simp (disch := omega) only [w64, wu64]))
          repeat (first | refine AW.seq ?_ | refine AW.block ?_ | (refine AW.reg mix ?_; simp (implicitDefEqProofs := false) [him', him2, hml, hmg, hse, -Bool.exists_bool]; try simp (disch := omega) only [w64, wu64]) | (refine need.of (by first | omega | kernel_rfl) ?_) | (refine AW.fin ?_; try simp (implicitDefEqProofs := false) [him', him2, hml, hmg, hse, -Bool.exists_bool]))
          refine AW.cond rfl (fun h => ?_) (fun h => ?_)
          · simp [hse] at h
          repeat (first | refine AW.seq ?_ | refine AW.block ?_ | (refine AW.reg mix ?_; simp (implicitDefEqProofs := false) [ew, -Bool.exists_bool]; try simp (disch := omega) only [w64, wu64]) | (refine need.of (by first | omega | kernel_rfl) ?_) | (refine AW.fin ?_; try simp (implicitDefEqProofs := false) [ew, -Bool.exists_bool]))
          (try (simp (implicitDefEqProofs := false) [ew, -Bool.exists_bool]; try simp (disch := omega) only [w64, wu64]))
          repeat (first | refine AW.seq ?_ | refine AW.block ?_ | (refine AW.reg mix ?_; simp (implicitDefEqProofs := false) [ew, -Bool.exists_bool]; try simp (disch := omega) only [w64, wu64]) | (refine need.of (by first | omega | kernel_rfl) ?_) | (refine AW.fin ?_; try simp (implicitDefEqProofs := false) [ew, -Bool.exists_bool]))
          exact ⟨i + 1, ⟨by omega, by omega, hstep hsr⟩, by omega, by simp⟩
        · rw [decide_eq_false hsr] at hse
          repeat (first | refine AW.seq ?_ | refine AW.block ?_ | (refine AW.reg mix ?_; simp (implicitDefEqProofs := false) [him', him2, hml, hmg, -Bool.exists_bool]; try simp (disch := omega) only [w64, wu64]) | (refine need.of (by first | omega | kernel_rfl) ?_) | (refine AW.fin ?_; try simp (implicitDefEqProofs := false) [him', him2, hml, hmg, -Bool.exists_bool]))
          refine CallS.g [0, 1, 2] (hgi) ?_
          (try (simp (implicitDefEqProofs := false) [him', him2, hml, hmg, hse, -Bool.exists_bool]; try simp (disch := omega) only [w64, wu64]))
          repeat (first | refine AW.seq ?_ | refine AW.block ?_ | (refine AW.reg mix ?_; simp (implicitDefEqProofs := false) [him', him2, hml, hmg, hse, -Bool.exists_bool]; try simp (disch := omega) only [w64, wu64]) | (refine need.of (by first | omega | kernel_rfl) ?_) | (refine AW.fin ?_; try simp (implicitDefEqProofs := false) [him', him2, hml, hmg, hse, -Bool.exists_bool]))
          refine AW.cond rfl (fun h => ?_) (fun h => ?_)
          · repeat (first | refine AW.seq ?_ | refine AW.block ?_ | (refine AW.reg mix ?_; simp (implicitDefEqProofs := false) [hno, hsr, -Bool.exists_bool]; try simp (disch := omega) only [w64, wu64]) | (refine need.of (by first | omega | kernel_rfl) ?_) | (refine AW.fin ?_; try simp (implicitDefEqProofs := false) [hno, hsr, -Bool.exists_bool]))
          · simp [hse] at h
      · simp [him', him2] at h
    · have hgi := cget_out l i hg (.inr (by omega))
      have hno : l ≠ m := fun e => by subst e; omega
      simp only [arrO, arrV, arrB, vecO, vecB, encs_len, tsD] at hgi hmg ⊢
      generalize wordsP (wdR k a b) (encs k a b l) = WS at *
      generalize nwP l.length (wdR k a b) = NW at *
      repeat (first | refine AW.seq ?_ | refine AW.block ?_ | (refine AW.reg mix ?_; simp (implicitDefEqProofs := false) [him', him2, -Bool.exists_bool]; try simp (disch := omega) only [w64, wu64]) | (refine need.of (by first | omega | kernel_rfl) ?_) | (refine AW.fin ?_; try simp (implicitDefEqProofs := false) [him', him2, -Bool.exists_bool]))
      refine AW.cond rfl (fun h => ?_) (fun h => ?_)
      · clear h
        obtain ⟨r1, r2, r3⟩ := r
        simp only at hmg
        by_cases hz : r1 = 0 ∧ r2 = 0 ∧ r3 = false
        · obtain ⟨rfl, rfl, rfl⟩ := hz
          repeat (first | refine AW.seq ?_ | refine AW.block ?_ | (refine AW.reg mix ?_; simp (implicitDefEqProofs := false) [him', him2, hml, hmg, -Bool.exists_bool]; try simp (disch := omega) only [w64, wu64]) | (refine need.of (by first | omega | kernel_rfl) ?_) | (refine AW.fin ?_; try simp (implicitDefEqProofs := false) [him', him2, hml, hmg, -Bool.exists_bool]))
          refine CallS.g [0, 1, 2] (hgi) ?_
          (try (simp (implicitDefEqProofs := false) [him', him2, hml, hmg, -Bool.exists_bool]; try simp (disch := omega) only [w64, wu64]))
          repeat (first | refine AW.seq ?_ | refine AW.block ?_ | (refine AW.reg mix ?_; simp (implicitDefEqProofs := false) [him', him2, hml, hmg, -Bool.exists_bool]; try simp (disch := omega) only [w64, wu64]) | (refine need.of (by first | omega | kernel_rfl) ?_) | (refine AW.fin ?_; try simp (implicitDefEqProofs := false) [him', him2, hml, hmg, -Bool.exists_bool]))
          refine AW.cond rfl (fun h => ?_) (fun h => ?_)
          · repeat (first | refine AW.seq ?_ | refine AW.block ?_ | (refine AW.reg mix ?_; simp (implicitDefEqProofs := false) [hno, -Bool.exists_bool]; try simp (disch := omega) only [w64, wu64]) | (refine need.of (by first | omega | kernel_rfl) ?_) | (refine AW.fin ?_; try simp (implicitDefEqProofs := false) [hno, -Bool.exists_bool]))
          · simp at h
        · have hz' : ¬ (0 : Int) = r1 ∨ ¬ (0 : Int) = r2 ∨ r3 = true := by
            by_cases h1 : r1 = 0
            · by_cases h2 : r2 = 0
              · exact .inr (.inr (by cases r3 with | true => rfl | false => exact absurd ⟨h1, h2, rfl⟩ hz))
              · exact .inr (.inl (by omega))
            · exact .inl (by omega)
          have hz2 : (!(0 : Int) == r1 || (!(0 : Int) == r2 || r3)) = true := by simpa using hz'
          repeat (first | refine AW.seq ?_ | refine AW.block ?_ | (refine AW.reg mix ?_; simp (implicitDefEqProofs := false) [him', him2, hml, hmg, -Bool.exists_bool]; try simp (disch := omega) only [w64, wu64]) | (refine need.of (by first | omega | kernel_rfl) ?_) | (refine AW.fin ?_; try simp (implicitDefEqProofs := false) [him', him2, hml, hmg, -Bool.exists_bool]))
          refine CallS.g [0, 1, 2] (hgi) ?_
          (try (simp (implicitDefEqProofs := false) [him', him2, hml, hmg, hz', hz2, -Bool.exists_bool]; try simp (disch := omega) only [w64, wu64]))
          repeat (first | refine AW.seq ?_ | refine AW.block ?_ | (refine AW.reg mix ?_; simp (implicitDefEqProofs := false) [him', him2, hml, hmg, hz', hz2, -Bool.exists_bool]; try simp (disch := omega) only [w64, wu64]) | (refine need.of (by first | omega | kernel_rfl) ?_) | (refine AW.fin ?_; try simp (implicitDefEqProofs := false) [him', him2, hml, hmg, hz', hz2, -Bool.exists_bool]))
          refine AW.cond rfl (fun h => ?_) (fun h => ?_)
          · repeat (first | refine AW.seq ?_ | refine AW.block ?_ | (refine AW.reg mix ?_; simp (implicitDefEqProofs := false) [hno, -Bool.exists_bool]; try simp (disch := omega) only [w64, wu64]) | (refine need.of (by first | omega | kernel_rfl) ?_) | (refine AW.fin ?_; try simp (implicitDefEqProofs := false) [hno, -Bool.exists_bool]))
          · simp at h
      · simp [him', him2] at h
  · have him2 : i = m.length := by omega
    subst him2
    rw [List.take_length] at he
    have hg1 := cget_out l (-1) hg (.inl (by omega))
    have hpl := plen_ok (wdR k a b) (encs k a b l)
    have htk : ((wordsP (wdR k a b) (encs k a b l)).map fun x : Nat => D.int .u64 x).take (nwP l.length (wdR k a b)) = (wordsP (wdR k a b) (encs k a b l)).map fun x : Nat => D.int .u64 x := List.take_of_length_le (by simp)
    have hL0 : u64s (wordsP (wdR k a b) (encs k a b l)) = ((wordsP (wdR k a b) (encs k a b l)).map fun x : Nat => D.int .u64 x).map V.d := by simp [u64s]
    by_cases hll : l.length = m.length
    · have hlm : l = m := by rw [List.take_of_length_le (by omega)] at he; exact he
      have hg2 := cget_out l m.length hg (.inr (by omega))
      have hllp : (l.length : Int) = m.length := by omega
      rw [decide_eq_true hlm]
      clear hlm he
      simp only [arrO, arrV, arrB, vecO, vecB, vecD, encs_len, tsD] at hg1 hg2 hpl ⊢
      generalize encs k a b l = el at *
      generalize wordsP (wdR k a b) el = wl at *
      generalize hLL : (wl.map fun x : Nat => D.int .u64 x) = L0 at *
      generalize nwP l.length (wdR k a b) = NW at *
      repeat (first | refine AW.seq ?_ | refine AW.block ?_ | (refine AW.reg mix ?_; simp (implicitDefEqProofs := false) [-Bool.exists_bool]; try simp (disch := omega) only [w64, wu64]) | (refine need.of (by first | omega | kernel_rfl) ?_) | (refine AW.fin ?_; try simp (implicitDefEqProofs := false) [-Bool.exists_bool]))
      refine AW.cond rfl (fun h => ?_) (fun h => ?_)
      · simp at h
      refine AW.exit ?_
      (try (simp (implicitDefEqProofs := false) [-Bool.exists_bool]; try simp (disch := omega) only [w64, wu64]))
      repeat (first | refine AW.seq ?_ | refine AW.block ?_ | (refine AW.reg mix ?_; simp (implicitDefEqProofs := false) [-Bool.exists_bool]; try simp (disch := omega) only [w64, wu64]) | (refine need.of (by first | omega | kernel_rfl) ?_) | (refine AW.fin ?_; try simp (implicitDefEqProofs := false) [-Bool.exists_bool]))
      refine CallS.g [0, 1, 2] (hg1) ?_
      (try (simp (implicitDefEqProofs := false) [-Bool.exists_bool]; try simp (disch := omega) only [w64, wu64]))
      repeat (first | refine AW.seq ?_ | refine AW.block ?_ | (refine AW.reg mix ?_; simp (implicitDefEqProofs := false) [-Bool.exists_bool]; try simp (disch := omega) only [w64, wu64]) | (refine need.of (by first | omega | kernel_rfl) ?_) | (refine AW.fin ?_; try simp (implicitDefEqProofs := false) [-Bool.exists_bool]))
      refine CallS.g [0, 1, 2] (hg2) ?_
      (try (simp (implicitDefEqProofs := false) [-Bool.exists_bool]; try simp (disch := omega) only [w64, wu64]))
      repeat (first | refine AW.seq ?_ | refine AW.block ?_ | (refine AW.reg mix ?_; simp (implicitDefEqProofs := false) [-Bool.exists_bool]; try simp (disch := omega) only [w64, wu64]) | (refine need.of (by first | omega | kernel_rfl) ?_) | (refine AW.fin ?_; try simp (implicitDefEqProofs := false) [-Bool.exists_bool]))
      refine CallS.ro [(2, 1, L0), (1, 1, [.sl NW L0, .int .i64 l.length, .int .i64 (wdR k a b : Nat)])] (hpl) ?_ (hok := by first | (simp [frzOK, frzH, hL0, htk]; done) | (simp [frzOK, frzH, hL0, htk]; rfl))
      (try (simp (implicitDefEqProofs := false) [hllp, -Bool.exists_bool]; try simp (disch := omega) only [w64, wu64]))
      repeat (first | refine AW.seq ?_ | refine AW.block ?_ | (refine AW.reg mix ?_; simp (implicitDefEqProofs := false) [hllp, -Bool.exists_bool]; try simp (disch := omega) only [w64, wu64]) | (refine need.of (by first | omega | kernel_rfl) ?_) | (refine AW.fin ?_; try simp (implicitDefEqProofs := false) [hllp, -Bool.exists_bool]))
    · have hlm : l ≠ m := fun e => hll (by rw [e])
      have hg2 := cget_ok l m.length hg hw (by omega) hn
      have hllp : ¬ (l.length : Int) = m.length := by omega
      generalize l.getD m.length (0, 0, false) = s at hg2
      obtain ⟨s1, s2, s3⟩ := s
      rw [decide_eq_false hlm]
      clear hlm he
      simp only [arrO, arrV, arrB, vecO, vecB, vecD, encs_len, tsD] at hg1 hg2 hpl ⊢
      generalize encs k a b l = el at *
      generalize wordsP (wdR k a b) el = wl at *
      generalize hLL : (wl.map fun x : Nat => D.int .u64 x) = L0 at *
      generalize nwP l.length (wdR k a b) = NW at *
      repeat (first | refine AW.seq ?_ | refine AW.block ?_ | (refine AW.reg mix ?_; simp (implicitDefEqProofs := false) [-Bool.exists_bool]; try simp (disch := omega) only [w64, wu64]) | (refine need.of (by first | omega | kernel_rfl) ?_) | (refine AW.fin ?_; try simp (implicitDefEqProofs := false) [-Bool.exists_bool]))
      refine AW.cond rfl (fun h => ?_) (fun h => ?_)
      · simp at h
      refine AW.exit ?_
      (try (simp (implicitDefEqProofs := false) [-Bool.exists_bool]; try simp (disch := omega) only [w64, wu64]))
      repeat (first | refine AW.seq ?_ | refine AW.block ?_ | (refine AW.reg mix ?_; simp (implicitDefEqProofs := false) [-Bool.exists_bool]; try simp (disch := omega) only [w64, wu64]) | (refine need.of (by first | omega | kernel_rfl) ?_) | (refine AW.fin ?_; try simp (implicitDefEqProofs := false) [-Bool.exists_bool]))
      refine CallS.g [0, 1, 2] (hg1) ?_
      (try (simp (implicitDefEqProofs := false) [-Bool.exists_bool]; try simp (disch := omega) only [w64, wu64]))
      repeat (first | refine AW.seq ?_ | refine AW.block ?_ | (refine AW.reg mix ?_; simp (implicitDefEqProofs := false) [-Bool.exists_bool]; try simp (disch := omega) only [w64, wu64]) | (refine need.of (by first | omega | kernel_rfl) ?_) | (refine AW.fin ?_; try simp (implicitDefEqProofs := false) [-Bool.exists_bool]))
      refine CallS.g [0, 1, 2] (hg2) ?_
      (try (simp (implicitDefEqProofs := false) [-Bool.exists_bool]; try simp (disch := omega) only [w64, wu64]))
      repeat (first | refine AW.seq ?_ | refine AW.block ?_ | (refine AW.reg mix ?_; simp (implicitDefEqProofs := false) [-Bool.exists_bool]; try simp (disch := omega) only [w64, wu64]) | (refine need.of (by first | omega | kernel_rfl) ?_) | (refine AW.fin ?_; try simp (implicitDefEqProofs := false) [-Bool.exists_bool]))
      refine CallS.ro [(2, 1, L0), (1, 1, [.sl NW L0, .int .i64 l.length, .int .i64 (wdR k a b : Nat)])] (hpl) ?_ (hok := by first | (simp [frzOK, frzH, hL0, htk]; done) | (simp [frzOK, frzH, hL0, htk]; rfl))
      (try (simp (implicitDefEqProofs := false) [hllp, -Bool.exists_bool]; try simp (disch := omega) only [w64, wu64]))
      repeat (first | refine AW.seq ?_ | refine AW.block ?_ | (refine AW.reg mix ?_; simp (implicitDefEqProofs := false) [hllp, -Bool.exists_bool]; try simp (disch := omega) only [w64, wu64]) | (refine need.of (by first | omega | kernel_rfl) ?_) | (refine AW.fin ?_; try simp (implicitDefEqProofs := false) [hllp, -Bool.exists_bool]))

theorem same18_ok (l m : List ST) (hl : l.length = m.length) (hn : l.length ≤ 256) : Eqn Tryz.prog n_Tlaw18_same [.d (.sl l.length (stL l)), .d (.sl m.length (stL m))] [] (.d (.bool (decide (l = m)))) [] := by
  refine Eqn.pure r_Tlaw18_same Plain.ok ?_
  have hll := stL_len l
  have hml := stL_len m
  have hlp : (l.length : Int) = m.length := by omega
  simp only [c_Tlaw18_same]
  repeat (first | refine AW.seq ?_ | refine AW.block ?_ | (refine AW.reg mix ?_; simp (implicitDefEqProofs := false); try simp (disch := omega) only [w64, wu64]) | (refine need.of (by first | omega | kernel_rfl) ?_) | (refine AW.fin ?_; try simp (implicitDefEqProofs := false)))
  refine AW.loopT (α := Nat) 0 (fun s => [(8, .d (.int .i64 (s : Int)))]) (fun s => []) (fun s => s ≤ l.length ∧ l.take s = m.take s) (fun s => l.length - s) 0 ?_ ?_ ⟨Nat.zero_le _, by simp⟩ ?_ ?_ ?_
  · simp
  · simp
  · simp
  · simp
  rintro i ⟨hi, he⟩
  simp
  by_cases hi' : i < l.length
  · have h1 : (i : Int) < l.length := by omega
    have h2 : i < m.length := by omega
    have h2' : (i : Int) < m.length := by omega
    have hlg := stL_get l i hi'
    have hmg := stL_get m i h2
    obtain ⟨s, hs⟩ : ∃ s, s = l.getD i (0, 0, false) := ⟨_, rfl⟩
    obtain ⟨r, hr⟩ : ∃ r, r = m.getD i (0, 0, false) := ⟨_, rfl⟩
    rw [← hs] at hlg
    rw [← hr] at hmg
    have hse := stEq (s := s) (r := r)
    have ew : IntKind.i64.wrap ((i : Int) + 1) = ((i + 1 : Nat) : Int) := by rw [w64 (by omega) (by omega)]; omega
    have hstep : s = r → l.take (i + 1) = m.take (i + 1) := fun h => take_eq_succ he hi' h2 (by rw [← hs, ← hr, h])
    have hno : s ≠ r → l ≠ m := fun h e => h (by rw [hs, hr, e])
    clear hs hr
    obtain ⟨s1, s2, s3⟩ := s
    obtain ⟨r1, r2, r3⟩ := r
    simp only at hlg hmg hse
    by_cases hsr : (s1, s2, s3) = (r1, r2, r3)
    · rw [decide_eq_true hsr] at hse
      repeat (first | refine AW.seq ?_ | refine AW.block ?_ | (refine AW.reg mix ?_; simp (implicitDefEqProofs := false) [hi', h1, h2, h2', hll, hml, hlp, -Bool.exists_bool]; try simp (disch := omega) only [w64, wu64]) | (refine need.of (by first | omega | kernel_rfl) ?_) | (refine AW.fin ?_; try simp (implicitDefEqProofs := false) [hi', h1, h2, h2', hll, hml, hlp, -Bool.exists_bool]))
      refine AW.cond rfl (fun h => ?_) (fun h => ?_)
      · clear h
        repeat (first | refine AW.seq ?_ | refine AW.block ?_ | (refine AW.reg mix ?_; simp (implicitDefEqProofs := false) [hi', h1, h2, h2', hll, hml, hlg, hmg, hse, hlp, -Bool.exists_bool]; try simp (disch := omega) only [w64, wu64]) | (refine need.of (by first | omega | kernel_rfl) ?_) | (refine AW.fin ?_; try simp (implicitDefEqProofs := false) [hi', h1, h2, h2', hll, hml, hlg, hmg, hse, hlp, -Bool.exists_bool]))
        refine AW.cond rfl (fun h => ?_) (fun h => ?_)
        · simp [hse] at h
        repeat (first | refine AW.seq ?_ | refine AW.block ?_ | (refine AW.reg mix ?_; simp (implicitDefEqProofs := false) [ew, -Bool.exists_bool]; try simp (disch := omega) only [w64, wu64]) | (refine need.of (by first | omega | kernel_rfl) ?_) | (refine AW.fin ?_; try simp (implicitDefEqProofs := false) [ew, -Bool.exists_bool]))
        (try (simp (implicitDefEqProofs := false) [ew, -Bool.exists_bool]; try simp (disch := omega) only [w64, wu64]))
        repeat (first | refine AW.seq ?_ | refine AW.block ?_ | (refine AW.reg mix ?_; simp (implicitDefEqProofs := false) [ew, -Bool.exists_bool]; try simp (disch := omega) only [w64, wu64]) | (refine need.of (by first | omega | kernel_rfl) ?_) | (refine AW.fin ?_; try simp (implicitDefEqProofs := false) [ew, -Bool.exists_bool]))
        exact ⟨i + 1, ⟨by omega, hstep hsr⟩, by omega, by simp⟩
      · simp [hi', h1, h2, h2'] at h
    · rw [decide_eq_false hsr] at hse
      have hlm := hno hsr
      repeat (first | refine AW.seq ?_ | refine AW.block ?_ | (refine AW.reg mix ?_; simp (implicitDefEqProofs := false) [hi', h1, h2, h2', hll, hml, hlp, -Bool.exists_bool]; try simp (disch := omega) only [w64, wu64]) | (refine need.of (by first | omega | kernel_rfl) ?_) | (refine AW.fin ?_; try simp (implicitDefEqProofs := false) [hi', h1, h2, h2', hll, hml, hlp, -Bool.exists_bool]))
      refine AW.cond rfl (fun h => ?_) (fun h => ?_)
      · clear h
        repeat (first | refine AW.seq ?_ | refine AW.block ?_ | (refine AW.reg mix ?_; simp (implicitDefEqProofs := false) [hi', h1, h2, h2', hll, hml, hlg, hmg, hse, hlp, -Bool.exists_bool]; try simp (disch := omega) only [w64, wu64]) | (refine need.of (by first | omega | kernel_rfl) ?_) | (refine AW.fin ?_; try simp (implicitDefEqProofs := false) [hi', h1, h2, h2', hll, hml, hlg, hmg, hse, hlp, -Bool.exists_bool]))
        refine AW.cond rfl (fun h => ?_) (fun h => ?_)
        · repeat (first | refine AW.seq ?_ | refine AW.block ?_ | (refine AW.reg mix ?_; simp (implicitDefEqProofs := false) [hlm, -Bool.exists_bool]; try simp (disch := omega) only [w64, wu64]) | (refine need.of (by first | omega | kernel_rfl) ?_) | (refine AW.fin ?_; try simp (implicitDefEqProofs := false) [hlm, -Bool.exists_bool]))
        · simp [hse] at h
      · simp [hi', h1, h2, h2'] at h
  · have hi2 : i = l.length := by omega
    subst hi2
    have hlm : l = m := by rw [List.take_length, hl, List.take_length] at he; exact he
    rw [decide_eq_true hlm]
    repeat (first | refine AW.seq ?_ | refine AW.block ?_ | (refine AW.reg mix ?_; simp (implicitDefEqProofs := false) [hlp]; try simp (disch := omega) only [w64, wu64]) | (refine need.of (by first | omega | kernel_rfl) ?_) | (refine AW.fin ?_; try simp (implicitDefEqProofs := false) [hlp]))
    refine AW.cond rfl (fun h => ?_) (fun h => ?_)
    · simp [hlp] at h
    refine AW.exit ?_
    (try (simp (implicitDefEqProofs := false); try simp (disch := omega) only [w64, wu64]))
    repeat (first | refine AW.seq ?_ | refine AW.block ?_ | (refine AW.reg mix ?_; simp (implicitDefEqProofs := false) [hlp]; try simp (disch := omega) only [w64, wu64]) | (refine need.of (by first | omega | kernel_rfl) ?_) | (refine AW.fin ?_; try simp (implicitDefEqProofs := false) [hlp]))
end
end Go.Proofs.YtdbfenhaljmbfaaGreat.Am
namespace Go.Proofs.YtdbfenhaljmbfaaGreat.Am
section
set_option linter.unusedVariables false
set_option linter.unusedSimpArgs false
open Go.RowKit
set_option maxRecDepth 100000
set_option linter.unusedSimpArgs false
set_option linter.unusedVariables false

/-- states of any numbers, as they come in -/
abbrev RS := Int × Int × Bool
def rawL (l : List RS) : List D := l.flatMap fun s => [.int .i64 s.1, .int .i64 s.2.1, .bool s.2.2]
abbrev stV (l : List ST) : List V := (stL l).map .d
theorem stV_len (l : List ST) : (stV l).length = 3 * l.length := by simp [stV, stL_len]
@[simp] theorem stV_low (n : Nat) (l : List ST) : V.lowl n (stV l) = true := lowl_map_d n _
@[simp] theorem stV_ren (θ : Nat → Nat) (l : List ST) : V.rens θ (stV l) = stV l := rens_map_d θ _

/-- the array filled so far -/
def upTo (l : List ST) (i : Nat) : List ST := l.take i ++ List.replicate (l.length - i) (0, 0, false)
end
end Go.Proofs.YtdbfenhaljmbfaaGreat.Am
namespace Go.Proofs.YtdbfenhaljmbfaaGreat.Am
section
set_option linter.unusedVariables false
set_option linter.unusedSimpArgs false
open Go.RowKit
set_option maxRecDepth 100000
set_option linter.unusedSimpArgs false
set_option linter.unusedVariables false

/-- the bits of a vector's numbers -/
def packBits (w : Nat) (xs : List Nat) : List Bool := xs.flatMap fun x => bitsW x w
theorem packBits_len (w : Nat) (xs : List Nat) : (packBits w xs).length = xs.length * w := by
  induction xs with
  | nil => simp [packBits]
  | cons x xs ih => simp only [packBits, List.flatMap_cons, List.length_append, bitsW_len, List.length_cons, Nat.succ_mul] at ih ⊢; omega
theorem packBits_snoc (w : Nat) (xs : List Nat) (x : Nat) : packBits w (xs ++ [x]) = packBits w xs ++ bitsW x w := by simp [packBits]
theorem take_snoc {xs : List Nat} {i : Nat} (h : i < xs.length) : xs.take (i + 1) = xs.take i ++ [xs.getD i 0] := by
  rw [List.take_add_one, List.getElem?_eq_getElem h, List.getD_eq_getElem?_getD, List.getElem?_eq_getElem h]; rfl

set_option maxHeartbeats 1000000 in
theorem pwrite0_ok (w : Nat) (xs : List Nat) (h0 : 1 ≤ xs.length) (hn : xs.length ≤ 256) (hw0 : 0 < w) (hw : w ≤ 32) (hs : smallP w xs) :
    Eqn Tryz.prog n_pack_Vector_Write [.p 0 0, .p 2 0] [vecO 1 xs.length w, vecB w xs, ⟨138, [.d .nilsl, .d (.int .i64 0)]⟩] (.tup []) [vecO 1 xs.length w, vecB w xs, wrO 3 (packBits w xs), wrB (packBits w xs)] := by
  refine Eqn.gen [0, 1, 2, 3] r_pack_Vector_Write (by simp) (by simp) (by rfl) (by decide) (by simp) (by simp [vecO, vecB, wrO, wrB]) ?_
  have htk : ((wordsP w xs).map fun x : Nat => D.int .u64 x).take (nwP xs.length w) = (wordsP w xs).map fun x : Nat => D.int .u64 x := List.take_of_length_le (by simp)
  have hL0 : u64s (wordsP w xs) = ((wordsP w xs).map fun x : Nat => D.int .u64 x).map V.d := by simp [u64s]
  simp only [c_pack_Vector_Write, vecO, vecB]
  repeat (first | refine AW.seq ?_ | refine AW.block ?_ | (refine AW.reg mix ?_; simp (implicitDefEqProofs := false); try simp (disch := omega) only [w64, wu64]) | (refine need.of (by first | omega | kernel_rfl) ?_) | (refine AW.fin ?_; try simp (implicitDefEqProofs := false)))
  refine AW.loopG (α := Nat) (fun i => [.p 0 0, .p 2 0] ++ List.replicate 8 .junk ++ [.d (.int .i64 xs.length), .d (.int .i64 (i : Int))] ++ List.replicate 16 .junk) (fun i => if i = 0 then [some (vecO 1 xs.length w), some (vecB w xs), some ⟨138, [.d .nilsl, .d (.int .i64 0)]⟩] else [some (vecO 1 xs.length w), some (vecB w xs), some (wrO 3 (packBits w (xs.take i))), some (wrB (packBits w (xs.take i)))]) (fun i => i ≤ xs.length) (fun i => xs.length - i) 0 ?_ (Nat.zero_le _) ?_ ?_ ?_
  · intro i hi; split <;> simp
  · simp [vecO, vecB]
  · simp [vecO, vecB]
  rintro i hi
  by_cases hi' : i < xs.length
  · have h1 : (i : Int) < xs.length := by omega
    have hg := pget_ok w xs i hi' hn hw0 hw hs
    have hlt := smallP_get hs i
    have hsn := packBits_snoc w (xs.take i) (xs.getD i 0)
    rw [← take_snoc hi'] at hsn
    have ew : IntKind.i64.wrap ((i : Int) + 1) = ((i + 1 : Nat) : Int) := by rw [w64 (by omega) (by omega)]; omega
    have h32 : 2 ^ w ≤ 2 ^ 32 := Nat.pow_le_pow_right (by omega) hw
    generalize xs.getD i 0 = x at *
    by_cases hi0 : i = 0
    · subst hi0
      rw [if_pos rfl]
      have hB := wnum0_ok x w hw0 (by omega) hlt (by omega)
      simp [packBits] at hsn
      simp only [vecO, vecB, vecD, wrO, wrB] at hg hB ⊢
      generalize hLL : ((wordsP w xs).map fun x : Nat => D.int .u64 x) = L0 at *
      simp [hL0]
      repeat (first | refine AW.seq ?_ | refine AW.block ?_ | (refine AW.reg mix ?_; simp (implicitDefEqProofs := false) [h1, hi']; try simp (disch := omega) only [w64, wu64]) | (refine need.of (by first | omega | kernel_rfl) ?_) | (refine AW.fin ?_; try simp (implicitDefEqProofs := false) [h1, hi']))
      refine AW.cond rfl (fun h => ?_) (fun h => ?_)
      · clear h
        repeat (first | refine AW.seq ?_ | refine AW.block ?_ | (refine AW.reg mix ?_; simp (implicitDefEqProofs := false) [h1, hi']; try simp (disch := omega) only [w64, wu64]) | (refine need.of (by first | omega | kernel_rfl) ?_) | (refine AW.fin ?_; try simp (implicitDefEqProofs := false) [h1, hi']))
        refine CallS.ro [(1, 1, L0), (0, 1, [.sl (nwP xs.length w) L0, .int .i64 xs.length, .int .i64 w])] (hg) ?_ (hok := by first | (simp [frzOK, frzH, htk]; done) | (simp [frzOK, frzH, htk]; rfl))
        (try (simp (implicitDefEqProofs := false); try simp (disch := omega) only [w64, wu64]))
        repeat (first | refine AW.seq ?_ | refine AW.block ?_ | (refine AW.reg mix ?_; simp (implicitDefEqProofs := false); try simp (disch := omega) only [w64, wu64]) | (refine need.of (by first | omega | kernel_rfl) ?_) | (refine AW.fin ?_; try simp (implicitDefEqProofs := false)))
        refine CallS.g [2] (hB) ?_
        (try (simp (implicitDefEqProofs := false) [ew]; try simp (disch := omega) only [w64, wu64]))
        repeat (first | refine AW.seq ?_ | refine AW.block ?_ | (refine AW.reg mix ?_; simp (implicitDefEqProofs := false) [ew]; try simp (disch := omega) only [w64, wu64]) | (refine need.of (by first | omega | kernel_rfl) ?_) | (refine AW.fin ?_; try simp (implicitDefEqProofs := false) [ew]))
        refine ⟨1, 3, 3, by simp, by omega, by omega, ?_, ?_⟩
        · simp [swT, swH, sw, Ob.sw, V.ren, V.rens]
        · simp [swT, swH, sw, Ob.sw, V.ren, V.rens, wrO, wrB, vecO, vecB, packBits, hsn, hL0, rens_map_d, lowl_map_d]
      · simp [h1, hi'] at h
    · rw [if_neg hi0]
      have hbl : (packBits w (xs.take i)).length = i * w := by rw [packBits_len, List.length_take, Nat.min_eq_left (by omega)]
      have hiw : 1 * 1 ≤ i * w := Nat.mul_le_mul (by omega) hw0
      have hiw2 : i * w ≤ 256 * 32 := Nat.mul_le_mul (by omega) hw
      have hB := wnum_ok (packBits w (xs.take i)) x w (fun he => by rw [he] at hbl; simp at hbl; omega) (by omega) (by omega) hlt (by omega)
      rw [← hsn] at hB
      simp only [vecO, vecB, vecD, wrO, wrB] at hg hB ⊢
      generalize hLL : ((wordsP w xs).map fun x : Nat => D.int .u64 x) = L0 at *
      generalize hX2 : packBits w (xs.take (i + 1)) = X2 at *
      generalize packBits w (xs.take i) = X1 at *
      simp [hL0]
      repeat (first | refine AW.seq ?_ | refine AW.block ?_ | (refine AW.reg mix ?_; simp (implicitDefEqProofs := false) [h1, hi']; try simp (disch := omega) only [w64, wu64]) | (refine need.of (by first | omega | kernel_rfl) ?_) | (refine AW.fin ?_; try simp (implicitDefEqProofs := false) [h1, hi']))
      refine AW.cond rfl (fun h => ?_) (fun h => ?_)
      · clear h
        repeat (first | refine AW.seq ?_ | refine AW.block ?_ | (refine AW.reg mix ?_; simp (implicitDefEqProofs := false) [h1, hi']; try simp (disch := omega) only [w64, wu64]) | (refine need.of (by first | omega | kernel_rfl) ?_) | (refine AW.fin ?_; try simp (implicitDefEqProofs := false) [h1, hi']))
        refine CallS.ro [(1, 1, L0), (0, 1, [.sl (nwP xs.length w) L0, .int .i64 xs.length, .int .i64 w])] (hg) ?_ (hok := by first | (simp [frzOK, frzH, htk]; done) | (simp [frzOK, frzH, htk]; rfl))
        (try (simp (implicitDefEqProofs := false); try simp (disch := omega) only [w64, wu64]))
        repeat (first | refine AW.seq ?_ | refine AW.block ?_ | (refine AW.reg mix ?_; simp (implicitDefEqProofs := false); try simp (disch := omega) only [w64, wu64]) | (refine need.of (by first | omega | kernel_rfl) ?_) | (refine AW.fin ?_; try simp (implicitDefEqProofs := false)))
        refine CallS.g [2, 3] (hB) ?_
        (try (simp (implicitDefEqProofs := false) [ew]; try simp (disch := omega) only [w64, wu64]))
        repeat (first | refine AW.seq ?_ | refine AW.block ?_ | (refine AW.reg mix ?_; simp (implicitDefEqProofs := false) [ew]; try simp (disch := omega) only [w64, wu64]) | (refine need.of (by first | omega | kernel_rfl) ?_) | (refine AW.fin ?_; try simp (implicitDefEqProofs := false) [ew]))
        refine ⟨i + 1, 3, 4, by simp, by omega, by omega, ?_, ?_⟩
        · simp [swT, swH, sw, Ob.sw, V.ren, V.rens]
        · rw [if_neg (by omega), hX2]
          simp [swT, swH, sw, Ob.sw, V.ren, V.rens, wrO, wrB, vecO, vecB, hL0, rens_map_d, lowl_map_d]
      · simp [h1, hi'] at h
  · have h2 : i = xs.length := by omega
    subst h2
    rw [if_neg (by omega), List.take_length]
    simp only [vecO, vecB, wrO, wrB]
    repeat (first | refine AW.seq ?_ | refine AW.block ?_ | (refine AW.reg mix ?_; simp (implicitDefEqProofs := false); try simp (disch := omega) only [w64, wu64]) | (refine need.of (by first | omega | kernel_rfl) ?_) | (refine AW.fin ?_; try simp (implicitDefEqProofs := false)))
    refine AW.cond rfl (fun h => ?_) (fun h => ?_)
    · simp at h
    refine AW.exit ?_
    (try (simp (implicitDefEqProofs := false); try simp (disch := omega) only [w64, wu64]))
    repeat (first | refine AW.seq ?_ | refine AW.block ?_ | (refine AW.reg mix ?_; simp (implicitDefEqProofs := false); try simp (disch := omega) only [w64, wu64]) | (refine need.of (by first | omega | kernel_rfl) ?_) | (refine AW.fin ?_; try simp (implicitDefEqProofs := false)))
end
end Go.Proofs.YtdbfenhaljmbfaaGreat.Am
namespace Go.Proofs.YtdbfenhaljmbfaaGreat.Am
section
set_option linter.unusedVariables false
set_option linter.unusedSimpArgs false
open Go.RowKit
set_option maxRecDepth 100000
set_option linter.unusedSimpArgs false
set_option linter.unusedVariables false

set_option maxHeartbeats 1000000 in
theorem awake18_ok : Eqn Tryz.prog n_Tlaw18_awake [] [] (.d (.bool true)) [] := by
  refine Eqn.pure r_Tlaw18_awake Plain.ok ?_
  simp only [c_Tlaw18_awake]
  have hg : GoodR 2 1 3 := goodR_of (.inr ⟨by omega, by omega, by omega, by omega⟩)
  have h1 := cnew_ok 2 hg (by omega) (by omega)
  have hw0 : wells 2 1 3 (List.replicate 2 (0, 0, false)) := wells_rep hg 2
  have h2 := cset_ok (List.replicate 2 (0, 0, false)) 0 5 0 false hg hw0 (by simp) (by simp) (.inr ⟨by omega, rfl, by omega, by simp⟩)
  have hw1 : wells 2 1 3 ((List.replicate 2 (0, 0, false)).set 0 (5, 0, false)) := wells_set hw0 0 (.inr ⟨by omega, rfl, by omega, by simp⟩)
  have h3 := cget_ok ((List.replicate 2 (0, 0, false)).set 0 (5, 0, false)) 0 hg hw1 (by simp) (by simp)
  have hlen : ((List.replicate 2 ((0 : Nat), (0 : Nat), false)).set 0 (5, 0, false)).length = 2 := by simp
  generalize hl1 : (List.replicate 2 ((0 : Nat), (0 : Nat), false)).set 0 (5, 0, false) = l1 at *
  have hwd : wdR 2 1 3 = 4 := by decide
  have h4 := pwrite0_ok 4 (encs 2 1 3 l1) (by simp [hlen]) (by simp [hlen]) (by omega) (by omega) (by rw [← hwd]; exact encs_small _ _ _ _)
  have hpl := packBits_len 4 (encs 2 1 3 l1)
  rw [encs_len, hlen] at hpl
  have h5 := wlen_ok 0 (packBits 4 (encs 2 1 3 l1))
  have h6 := plen_ok 4 (encs 2 1 3 l1)
  have hg0 : l1.getD 0 (0, 0, false) = (5, 0, false) := by rw [← hl1]; rfl
  rw [hg0] at h3
  have htk : ((wordsP 4 (encs 2 1 3 l1)).map fun x : Nat => D.int .u64 x).take (nwP 2 4) = (wordsP 4 (encs 2 1 3 l1)).map fun x : Nat => D.int .u64 x := List.take_of_length_le (by simp [hlen])
  have hL0 : u64s (wordsP 4 (encs 2 1 3 l1)) = ((wordsP 4 (encs 2 1 3 l1)).map fun x : Nat => D.int .u64 x).map V.d := by simp [u64s]
  simp only [arrO, arrV, arrB, vecO, vecB, vecD, parD, tsD, encs_len, hlen, hwd, wrO, wrB, List.length_replicate] at h1 h2 h3 h4 h5 h6
  generalize wordsP 4 (encs 2 1 3 l1) = WS at *
  generalize wordsP 4 (encs 2 1 3 (List.replicate 2 (0, 0, false))) = W0 at *
  generalize packBits 4 (encs 2 1 3 l1) = PB at *
  generalize nwP 2 4 = NW at *
  generalize hLL : (WS.map fun x : Nat => D.int .u64 x) = L0 at *
  simp at h1 h2 h3 h4 h5
  clear hl1 hw0 hw1 hg0
  repeat (first | refine AW.seq ?_ | refine AW.block ?_ | (refine AW.reg mix ?_; simp (implicitDefEqProofs := false) [-Bool.exists_bool]; try simp (disch := omega) only [w64, wu64]) | (refine need.of (by first | omega | kernel_rfl) ?_) | (refine AW.fin ?_; try simp (implicitDefEqProofs := false) [-Bool.exists_bool]))
  refine CallS.g [] (h1) ?_
  (try (simp (implicitDefEqProofs := false) [-Bool.exists_bool]; try simp (disch := omega) only [w64, wu64]))
  repeat (first | refine AW.seq ?_ | refine AW.block ?_ | (refine AW.reg mix ?_; simp (implicitDefEqProofs := false) [-Bool.exists_bool]; try simp (disch := omega) only [w64, wu64]) | (refine need.of (by first | omega | kernel_rfl) ?_) | (refine AW.fin ?_; try simp (implicitDefEqProofs := false) [-Bool.exists_bool]))
  refine CallS.g [0, 1, 2] (h2) ?_
  (try (simp (implicitDefEqProofs := false) [-Bool.exists_bool]; try simp (disch := omega) only [w64, wu64]))
  repeat (first | refine AW.seq ?_ | refine AW.block ?_ | (refine AW.reg mix ?_; simp (implicitDefEqProofs := false) [-Bool.exists_bool]; try simp (disch := omega) only [w64, wu64]) | (refine need.of (by first | omega | kernel_rfl) ?_) | (refine AW.fin ?_; try simp (implicitDefEqProofs := false) [-Bool.exists_bool]))
  refine AW.cond rfl (fun h => ?_) (fun h => ?_)
  · simp at h
  repeat (first | refine AW.seq ?_ | refine AW.block ?_ | (refine AW.reg mix ?_; simp (implicitDefEqProofs := false) [-Bool.exists_bool]; try simp (disch := omega) only [w64, wu64]) | (refine need.of (by first | omega | kernel_rfl) ?_) | (refine AW.fin ?_; try simp (implicitDefEqProofs := false) [-Bool.exists_bool]))
  refine CallS.g [0, 1, 2] (h3) ?_
  (try (simp (implicitDefEqProofs := false) [-Bool.exists_bool]; try simp (disch := omega) only [w64, wu64]))
  repeat (first | refine AW.seq ?_ | refine AW.block ?_ | (refine AW.reg mix ?_; simp (implicitDefEqProofs := false) [-Bool.exists_bool]; try simp (disch := omega) only [w64, wu64]) | (refine need.of (by first | omega | kernel_rfl) ?_) | (refine AW.fin ?_; try simp (implicitDefEqProofs := false) [-Bool.exists_bool]))
  refine CallS.g [1, 2, 4] (h4) ?_
  (try (simp (implicitDefEqProofs := false) [-Bool.exists_bool]; try simp (disch := omega) only [w64, wu64]))
  repeat (first | refine AW.seq ?_ | refine AW.block ?_ | (refine AW.reg mix ?_; simp (implicitDefEqProofs := false) [-Bool.exists_bool]; try simp (disch := omega) only [w64, wu64]) | (refine need.of (by first | omega | kernel_rfl) ?_) | (refine AW.fin ?_; try simp (implicitDefEqProofs := false) [-Bool.exists_bool]))
  refine CallS.ro [(2, 1, L0), (1, 1, [.sl NW L0, .int .i64 (2 : Nat), .int .i64 (4 : Nat)])] (h6) ?_ (hok := by first | (simp [frzOK, frzH, hL0, htk]; done) | (simp [frzOK, frzH, hL0, htk]; rfl))
  (try (simp (implicitDefEqProofs := false) [-Bool.exists_bool]; try simp (disch := omega) only [w64, wu64]))
  repeat (first | refine AW.seq ?_ | refine AW.block ?_ | (refine AW.reg mix ?_; simp (implicitDefEqProofs := false) [-Bool.exists_bool]; try simp (disch := omega) only [w64, wu64]) | (refine need.of (by first | omega | kernel_rfl) ?_) | (refine AW.fin ?_; try simp (implicitDefEqProofs := false) [-Bool.exists_bool]))
  refine CallS.g [4, 5] (h5) ?_
  (try (simp (implicitDefEqProofs := false) [hpl, -Bool.exists_bool]; try simp (disch := omega) only [w64, wu64]))
  repeat (first | refine AW.seq ?_ | refine AW.block ?_ | (refine AW.reg mix ?_; simp (implicitDefEqProofs := false) [hpl, -Bool.exists_bool]; try simp (disch := omega) only [w64, wu64]) | (refine need.of (by first | omega | kernel_rfl) ?_) | (refine AW.fin ?_; try simp (implicitDefEqProofs := false) [hpl, -Bool.exists_bool]))

/-- a merge of registers, round by round -/
structure MR where
  e : Int
  l : List ST
  p : Nat
  d : Bool
def mergeUp (cs : List Bool) (k a b : Nat) (l m : List ST) (p : Nat) (d : Bool) : Nat → MR
  | 0 => ⟨0, [], p, d⟩
  | i + 1 =>
    let S := mergeUp cs k a b l m p d i
    if S.e = 0 then
      let R := mergeRM cs k a b (l.getD i (0, 0, false)).1 (l.getD i (0, 0, false)).2.1 (l.getD i (0, 0, false)).2.2 (m.getD i (0, 0, false)).1 (m.getD i (0, 0, false)).2.1 (m.getD i (0, 0, false)).2.2 S.p S.d
      if R.e = 0 then ⟨0, S.l ++ [(R.y, R.t, R.f)], R.p, R.d⟩ else ⟨R.e, S.l, R.p, R.d⟩
    else S
/-- the twin, so far -/
def twin (l acc : List ST) : List ST := acc ++ l.drop acc.length
end
end Go.Proofs.YtdbfenhaljmbfaaGreat.Am
namespace Go.Proofs.YtdbfenhaljmbfaaGreat.Am
section
set_option linter.unusedVariables false
set_option linter.unusedSimpArgs false
open Go.RowKit
set_option maxRecDepth 100000
set_option linter.unusedSimpArgs false
set_option linter.unusedVariables false

theorem stV_set : ∀ (l : List ST) (i : Nat) (s : ST), i < l.length → (((stV l).set (i * 3) (.d (.int .i64 s.1))).set (i * 3 + 1) (.d (.int .i64 s.2.1))).set (i * 3 + 1 + 1) (.d (.bool s.2.2)) = stV (l.set i s)
  | [], i, s, h => by simp at h
  | r :: l, 0, s, h => by simp [stV, stL]
  | r :: l, i + 1, s, h => by
    have ih := stV_set l i s (by simpa using h)
    rw [show (i + 1) * 3 = i * 3 + 1 + 1 + 1 by omega]
    have e : stV (r :: l) = .d (.int .i64 r.1) :: .d (.int .i64 r.2.1) :: .d (.bool r.2.2) :: stV l := rfl
    rw [e]
    simp only [List.set_cons_succ]
    rw [ih]
    rfl
end
end Go.Proofs.YtdbfenhaljmbfaaGreat.Am
namespace Go.Proofs.YtdbfenhaljmbfaaGreat.Am
section
set_option linter.unusedVariables false
set_option linter.unusedSimpArgs false
open Go.RowKit
set_option maxRecDepth 100000
set_option linter.unusedSimpArgs false
set_option linter.unusedVariables false

/-- no error, or that of an empty tape -/
def E8 (e : Int) : Prop := e = 0 ∨ e = 8
end
end Go.Proofs.YtdbfenhaljmbfaaGreat.Am
namespace Go.Proofs.YtdbfenhaljmbfaaGreat.Am
section
set_option linter.unusedVariables false
set_option linter.unusedSimpArgs false
open Go.RowKit
set_option maxRecDepth 100000
set_option linter.unusedSimpArgs false
set_option linter.unusedVariables false

/-- the coins of CarrayApart -/
def cN (i : Nat) : List Bool := (List.range i).map fun j => decide (j % 3 ≠ 1)
abbrev cV (i : Nat) : List V := ((cN i).map D.bool).map V.d
theorem frzs_u64s (n s : Nat) (ds : List D) (ws : List Nat) : V.frzs n s ds (u64s ws) = u64s ws := by
  have := frzs_map_d n s ds (ws.map fun x : Nat => D.int .u64 x)
  rw [List.map_map] at this
  exact this
end
end Go.Proofs.YtdbfenhaljmbfaaGreat.Am
namespace Go.Proofs.YtdbfenhaljmbfaaGreat.Am
section
set_option linter.unusedVariables false
set_option linter.unusedSimpArgs false
open Go.RowKit
set_option maxRecDepth 100000
set_option linter.unusedSimpArgs false
set_option linter.unusedVariables false

/-- acts: is it set, register, how many, the state -/
abbrev AC := Bool × Int × Int × Int × Int × Bool
def acL (l : List AC) : List D := l.flatMap fun s => [.bool s.1, .int .i64 s.2.1, .int .i64 s.2.2.1, .int .i64 s.2.2.2.1, .int .i64 s.2.2.2.2.1, .bool s.2.2.2.2.2]
theorem acL_len (l : List AC) : (acL l).length = 6 * l.length := by induction l <;> simp_all [acL]; omega
theorem acL_drop : ∀ (l : List AC) (i : Nat), (acL l).drop (i * 6) = acL (l.drop i)
  | l, 0 => by simp
  | [], i + 1 => by simp [acL]
  | s :: l, i + 1 => by
    have := acL_drop l i
    rw [show (i + 1) * 6 = 6 + i * 6 by omega, List.drop_succ_cons, ← this, ← List.drop_drop]
    rfl
theorem acL_get (l : List AC) (i : Nat) (x : AC) (h : i < l.length) : ((acL l).drop (i * 6)).take 6 = [.bool (l.getD i x).1, .int .i64 (l.getD i x).2.1, .int .i64 (l.getD i x).2.2.1, .int .i64 (l.getD i x).2.2.2.1, .int .i64 (l.getD i x).2.2.2.2.1, .bool (l.getD i x).2.2.2.2.2] := by
  rw [acL_drop, List.drop_eq_getElem_cons h, List.getD_eq_getElem?_getD, List.getElem?_eq_getElem h]
  rfl
theorem zero_cells : ∀ n : Nat, (List.replicate n [V.d (.int .i64 0), V.d (.int .i64 0), V.d (.bool false)]).flatten = stV (List.replicate n (0, 0, false))
  | 0 => rfl
  | n + 1 => by
    rw [List.replicate_succ, List.flatten_cons, zero_cells n, List.replicate_succ]
    rfl

theorem cparam_ok {k a b : Nat} (l : List ST) : Eqn Tryz.prog n_carray_Array_Param [.p 0 0] [arrO 1 k a b, arrV 2 k a b l, arrB k a b l] (.d (parD k a b)) [arrO 1 k a b, arrV 2 k a b l, arrB k a b l] := by
  refine Eqn.gen [0, 1, 2] r_carray_Array_Param (by simp) (by simp) (by rfl) (by decide) (by simp [parD]) (by simp [arrO, arrV, arrB, vecO, vecB]) ?_
  simp only [c_carray_Array_Param, arrO, arrV, arrB, vecO, vecB, parD]
  repeat (first | refine AW.seq ?_ | refine AW.block ?_ | (refine AW.reg mix ?_; simp (implicitDefEqProofs := false); try simp (disch := omega) only [w64, wu64]) | (refine need.of (by first | omega | kernel_rfl) ?_) | (refine AW.fin ?_; try simp (implicitDefEqProofs := false)))

set_option maxHeartbeats 8000000 in
theorem carrayPlays_ok (cs : List Bool) (k a b : Int) (acts : List AC) (hcs : cs.length ≤ 9223372036854775807) (hac : acts.length ≤ 9223372036854775807) : Eqn Tryz.prog n_Tlaw18_CarrayPlays [.d (parD k a b), .d (.sl acts.length (acL acts)), .d (BL cs)] [] (.d (.bool true)) [] := by
  refine Eqn.pure r_Tlaw18_CarrayPlays Plain.ok ?_
  obtain ⟨K, A, B, hsr, hsm⟩ := lsmall_ok k a b
  obtain ⟨Y0, T0, F0, -, hs1⟩ := hsm 0 0 false
  have hg := goodR_of hsr
  have hfew := few_ok cs 200 hcs (by omega)
  have hx : (cs.take 200).length ≤ 200 := by rw [List.length_take]; omega
  generalize cs.take 200 = xs at hfew hx
  have hown := lown_ok K A B
  obtain ⟨q, n, e1, e2, n1, n7⟩ : ∃ q n : Nat, (acts.length : Int).tmod 7 = q ∧ IntKind.i64.wrap (1 + (q : Int)) = n ∧ 1 ≤ n ∧ n ≤ 7 := by
    refine ⟨acts.length % 7, 1 + acts.length % 7, by rw [Int.tmod_eq_emod_of_nonneg (by omega)]; rfl, by rw [w64 (by omega) (by omega)]; omega, by omega, by omega⟩
  have hnew := cnew_ok n hg n1 (by omega)
  have hpar := cparam_ok (k := K) (a := A) (b := B) (List.replicate n (0, 0, false))
  have hnw : Eqn Tryz.prog n_tape_New [.d (.sl xs.length (xs.map .bool))] [] (.p 0 0) [tapeO xs 0 false] := new_ok xs (by omega)
  simp only [c_Tlaw18_CarrayPlays, parD, BL, arrO, arrV, arrB, vecO, vecB, encs_len, List.length_replicate, tsD] at hs1 hown hfew hnew hpar ⊢
  repeat (first | refine AW.seq ?_ | refine AW.block ?_ | (refine AW.reg mix ?_; simp (implicitDefEqProofs := false) [-Bool.exists_bool]; try simp (disch := omega) only [w64, wu64]) | (refine need.of (by first | omega | kernel_rfl) ?_) | (refine AW.fin ?_; try simp (implicitDefEqProofs := false) [-Bool.exists_bool]))
  refine CallS.pu (awake18_ok) ?_
  (try (simp (implicitDefEqProofs := false) [-Bool.exists_bool]; try simp (disch := omega) only [w64, wu64]))
  repeat (first | refine AW.seq ?_ | refine AW.block ?_ | (refine AW.reg mix ?_; simp (implicitDefEqProofs := false) [-Bool.exists_bool]; try simp (disch := omega) only [w64, wu64]) | (refine need.of (by first | omega | kernel_rfl) ?_) | (refine AW.fin ?_; try simp (implicitDefEqProofs := false) [-Bool.exists_bool]))
  refine AW.cond rfl (fun h => ?_) (fun h => ?_)
  · simp at h
  clear h
  repeat (first | refine AW.seq ?_ | refine AW.block ?_ | (refine AW.reg mix ?_; simp (implicitDefEqProofs := false) [-Bool.exists_bool]; try simp (disch := omega) only [w64, wu64]) | (refine need.of (by first | omega | kernel_rfl) ?_) | (refine AW.fin ?_; try simp (implicitDefEqProofs := false) [-Bool.exists_bool]))
  refine CallS.pu (hs1) ?_
  (try (simp (implicitDefEqProofs := false) [-Bool.exists_bool]; try simp (disch := omega) only [w64, wu64]))
  repeat (first | refine AW.seq ?_ | refine AW.block ?_ | (refine AW.reg mix ?_; simp (implicitDefEqProofs := false) [-Bool.exists_bool]; try simp (disch := omega) only [w64, wu64]) | (refine need.of (by first | omega | kernel_rfl) ?_) | (refine AW.fin ?_; try simp (implicitDefEqProofs := false) [-Bool.exists_bool]))
  refine CallS.pu (hfew) ?_
  (try (simp (implicitDefEqProofs := false) [-Bool.exists_bool]; try simp (disch := omega) only [w64, wu64]))
  repeat (first | refine AW.seq ?_ | refine AW.block ?_ | (refine AW.reg mix ?_; simp (implicitDefEqProofs := false) [-Bool.exists_bool]; try simp (disch := omega) only [w64, wu64]) | (refine need.of (by first | omega | kernel_rfl) ?_) | (refine AW.fin ?_; try simp (implicitDefEqProofs := false) [-Bool.exists_bool]))
  refine CallS.pu (hown) ?_
  (try (simp (implicitDefEqProofs := false) [e1, e2, -Bool.exists_bool]; try simp (disch := omega) only [w64, wu64]))
  repeat (first | refine AW.seq ?_ | refine AW.block ?_ | (refine AW.reg mix ?_; simp (implicitDefEqProofs := false) [e1, e2, -Bool.exists_bool]; try simp (disch := omega) only [w64, wu64]) | (refine need.of (by first | omega | kernel_rfl) ?_) | (refine AW.fin ?_; try simp (implicitDefEqProofs := false) [e1, e2, -Bool.exists_bool]))
  refine CallS.g [] (hnew) ?_
  (try (simp (implicitDefEqProofs := false) [e1, e2, -Bool.exists_bool]; try simp (disch := omega) only [w64, wu64]))
  repeat (first | refine AW.seq ?_ | refine AW.block ?_ | (refine AW.reg mix ?_; simp (implicitDefEqProofs := false) [e1, e2, -Bool.exists_bool]; try simp (disch := omega) only [w64, wu64]) | (refine need.of (by first | omega | kernel_rfl) ?_) | (refine AW.fin ?_; try simp (implicitDefEqProofs := false) [e1, e2, -Bool.exists_bool]))
  refine CallS.g [2, 3, 4] (hpar) ?_
  (try (simp (implicitDefEqProofs := false) [e1, e2, -Bool.exists_bool]; try simp (disch := omega) only [w64, wu64]))
  repeat (first | refine AW.seq ?_ | refine AW.block ?_ | (refine AW.reg mix ?_; simp (implicitDefEqProofs := false) [e1, e2, -Bool.exists_bool]; try simp (disch := omega) only [w64, wu64]) | (refine need.of (by first | omega | kernel_rfl) ?_) | (refine AW.fin ?_; try simp (implicitDefEqProofs := false) [e1, e2, -Bool.exists_bool]))
  refine AW.cond rfl (fun h => ?_) (fun h => ?_)
  · simp at h
  clear h
  have hz := zero_cells n
  have hn0 : (0 : Int) ≤ n := by omega
  refine AW.skip ?_
  simp
  repeat (first | refine AW.seq ?_ | refine AW.block ?_)
  refine AW.reg mix ?_
  (simp (implicitDefEqProofs := false) [hn0, -Bool.exists_bool]; try simp (disch := omega) only [w64, wu64])
  try refine need.of (by first | omega | kernel_rfl) ?_
  rw [hz]
  have hzl : (stL (List.replicate n ((0 : Nat), (0 : Nat), false))).length = 3 * n := by rw [stL_len, List.length_replicate]
  refine AW.freeze 5 3 ⟨36, stV (List.replicate n (0, 0, false))⟩ (stL (List.replicate n (0, 0, false))) (by rfl) rfl ?_
  have hztk : (stL (List.replicate n ((0 : Nat), (0 : Nat), false))).take (n * 3) = stL (List.replicate n (0, 0, false)) := List.take_of_length_le (by omega)
  simp [frzs_u64s, hztk, -Bool.exists_bool]
  repeat (first | refine AW.seq ?_ | refine AW.block ?_ | (refine AW.reg mix ?_; simp (implicitDefEqProofs := false) [-Bool.exists_bool]; try simp (disch := omega) only [w64, wu64]) | (refine need.of (by first | omega | kernel_rfl) ?_) | (refine AW.fin ?_; try simp (implicitDefEqProofs := false) [-Bool.exists_bool]))
  refine CallS.n1 (hnw) ?_
  (try (simp (implicitDefEqProofs := false) [-Bool.exists_bool]; try simp (disch := omega) only [w64, wu64]))
  repeat (first | refine AW.seq ?_ | refine AW.block ?_ | (refine AW.reg mix ?_; simp (implicitDefEqProofs := false) [-Bool.exists_bool]; try simp (disch := omega) only [w64, wu64]) | (refine need.of (by first | omega | kernel_rfl) ?_) | (refine AW.fin ?_; try simp (implicitDefEqProofs := false) [-Bool.exists_bool]))
  refine CallS.n1 (hnw) ?_
  (try (simp (implicitDefEqProofs := false) [-Bool.exists_bool]; try simp (disch := omega) only [w64, wu64]))
  repeat (first | refine AW.seq ?_ | refine AW.block ?_ | (refine AW.reg mix ?_; simp (implicitDefEqProofs := false) [-Bool.exists_bool]; try simp (disch := omega) only [w64, wu64]) | (refine need.of (by first | omega | kernel_rfl) ?_) | (refine AW.fin ?_; try simp (implicitDefEqProofs := false) [-Bool.exists_bool]))
  refine AW.loopT (α := Nat × List ST × Nat × Bool) 8 (fun s => [(14, .d (.int .i64 (s.1 : Nat))), (11, .d (.sl n (stL s.2.1)))]) (fun s => [(4, ⟨80, u64s (wordsP (wdR K A B) (encs K A B s.2.1))⟩), (6, tapeO xs s.2.2.1 s.2.2.2), (7, tapeO xs s.2.2.1 s.2.2.2)]) (fun s => s.1 ≤ acts.length ∧ s.2.1.length = n ∧ wells K A B s.2.1 ∧ s.2.2.1 ≤ xs.length) (fun s => acts.length - s.1) (0, List.replicate n (0, 0, false), 0, false) ?_ ?_ ⟨Nat.zero_le _, List.length_replicate, wells_rep hg n, Nat.zero_le _⟩ ?_ ?_ ?_
  · simp
  · simp
  · simp
  · simp [-Bool.exists_bool]
  rintro ⟨i, l, p, d⟩ ⟨hi, hn, lw, hp⟩
  simp only at hi hn lw hp
  simp [-Bool.exists_bool]
  have hcl := cclone_ok l hg (by omega) (by omega)
  have hll := stL_len l
  have htk : (stL l).take (n * 3) = stL l := List.take_of_length_le (by omega)
  simp only [arrO, arrV, arrB, vecO, vecB, encs_len, hn] at hcl
  have hnz : n ≠ 0 := by omega
  by_cases h30 : i < acts.length ∧ i < 30
  · obtain ⟨g1, g2⟩ := h30
    have g1' : (i : Int) < acts.length := by omega
    have g2' : (i : Int) < 30 := by omega
    have hal := acL_len acts
    have hag := acL_get acts i (false, 0, 0, 0, 0, false) g1
    have ew : IntKind.i64.wrap ((i : Int) + 1) = ((i + 1 : Nat) : Int) := by rw [w64 (by omega) (by omega)]; omega
    generalize acts.getD i (false, 0, 0, 0, 0, false) = y at hag
    obtain ⟨st, I, N, yk, yt, yf⟩ := y
    simp only at hag
    repeat (first | refine AW.seq ?_ | refine AW.block ?_ | (refine AW.reg mix ?_; simp (implicitDefEqProofs := false) [g1, g1', g2, g2', -Bool.exists_bool]; try simp (disch := omega) only [w64, wu64]) | (refine need.of (by first | omega | kernel_rfl) ?_) | (refine AW.fin ?_; try simp (implicitDefEqProofs := false) [g1, g1', g2, g2', -Bool.exists_bool]))
    refine AW.cond rfl (fun h => ?_) (fun h => ?_)
    rotate_left
    · simp [g1, g1', g2, g2'] at h
    clear h
    repeat (first | refine AW.seq ?_ | refine AW.block ?_ | (refine AW.reg mix ?_; simp (implicitDefEqProofs := false) [g1, g1', hal, hag, -Bool.exists_bool]; try simp (disch := omega) only [w64, wu64]) | (refine need.of (by first | omega | kernel_rfl) ?_) | (refine AW.fin ?_; try simp (implicitDefEqProofs := false) [g1, g1', hal, hag, -Bool.exists_bool]))
    by_cases h0 : 0 ≤ I
    · by_cases hIn : I < n
      · obtain ⟨j, rfl⟩ : ∃ j : Nat, I = j := ⟨I.toNat, by omega⟩
        have hj : j < n := by omega
        have hjl : j < l.length := by omega
        have hlg := stL_get l j hjl
        have hws := wells_get lw hjl
        obtain ⟨s, hs⟩ : ∃ s, l.getD j (0, 0, false) = s := ⟨_, rfl⟩
        rw [hs] at hlg hws
        have hsv := fun r => stV_set l j r hjl
        have hvl := stV_len l
        have hlset : ∀ r, (l.set j r).length = n := fun r => by rw [List.length_set]; exact hn
        have hself : l.set j s = l := by
          rw [← hs, List.getD_eq_getElem?_getD, List.getElem?_eq_getElem hjl]
          exact List.set_getElem_self hjl
        refine CallS.g [2, 3, 4] (hcl) ?_
        (try (simp (implicitDefEqProofs := false) [h0, hIn, hj, hll, htk, hnz, -Bool.exists_bool]; try simp (disch := omega) only [w64, wu64]))
        repeat (first | refine AW.seq ?_ | refine AW.block ?_ | (refine AW.reg mix ?_; simp (implicitDefEqProofs := false) [h0, hIn, hj, hll, htk, hnz, -Bool.exists_bool]; try simp (disch := omega) only [w64, wu64]) | (refine need.of (by first | omega | kernel_rfl) ?_) | (refine AW.fin ?_; try simp (implicitDefEqProofs := false) [h0, hIn, hj, hll, htk, hnz, -Bool.exists_bool]))
        cases st with
        | true =>
          have hls := lstate_ok yk yt yf
          rcases rwell_any hg yk yt yf with ⟨Y, T, rfl, rfl, hwY, hW⟩ | hW
          · have hset := cset_ok l j Y T yf hg lw hjl (by omega) hwY
            have hlw := wells_set lw j (s := (Y, T, yf)) hwY
            replace hsv := hsv (Y, T, yf)
            replace hlset := hlset (Y, T, yf)
            simp only [arrO, arrV, arrB, vecO, vecB, encs_len, hn, parD, tsD, hlset] at hset hW hsv
            generalize l.set j (Y, T, yf) = l' at *
            refine AW.cond rfl (fun h => ?_) (fun h => ?_)
            rotate_left
            · simp at h
            repeat (first | refine AW.seq ?_ | refine AW.block ?_ | (refine AW.reg mix ?_; simp (implicitDefEqProofs := false) [-Bool.exists_bool]; try simp (disch := omega) only [w64, wu64]) | (refine need.of (by first | omega | kernel_rfl) ?_) | (refine AW.fin ?_; try simp (implicitDefEqProofs := false) [-Bool.exists_bool]))
            refine CallS.pu (hls) ?_
            (try (simp (implicitDefEqProofs := false) [-Bool.exists_bool]; try simp (disch := omega) only [w64, wu64]))
            repeat (first | refine AW.seq ?_ | refine AW.block ?_ | (refine AW.reg mix ?_; simp (implicitDefEqProofs := false) [-Bool.exists_bool]; try simp (disch := omega) only [w64, wu64]) | (refine need.of (by first | omega | kernel_rfl) ?_) | (refine AW.fin ?_; try simp (implicitDefEqProofs := false) [-Bool.exists_bool]))
            refine CallS.g [2, 3, 4] (hset) ?_
            (try (simp (implicitDefEqProofs := false) [-Bool.exists_bool]; try simp (disch := omega) only [w64, wu64]))
            repeat (first | refine AW.seq ?_ | refine AW.block ?_ | (refine AW.reg mix ?_; simp (implicitDefEqProofs := false) [-Bool.exists_bool]; try simp (disch := omega) only [w64, wu64]) | (refine need.of (by first | omega | kernel_rfl) ?_) | (refine AW.fin ?_; try simp (implicitDefEqProofs := false) [-Bool.exists_bool]))
            refine AW.cond rfl (fun h => ?_) (fun h => ?_)
            · simp at h
            repeat (first | refine AW.seq ?_ | refine AW.block ?_ | (refine AW.reg mix ?_; simp (implicitDefEqProofs := false) [-Bool.exists_bool]; try simp (disch := omega) only [w64, wu64]) | (refine need.of (by first | omega | kernel_rfl) ?_) | (refine AW.fin ?_; try simp (implicitDefEqProofs := false) [-Bool.exists_bool]))
            refine CallS.pu (hW) ?_
            (try (simp (implicitDefEqProofs := false) [-Bool.exists_bool]; try simp (disch := omega) only [w64, wu64]))
            repeat (first | refine AW.seq ?_ | refine AW.block ?_ | (refine AW.reg mix ?_; simp (implicitDefEqProofs := false) [-Bool.exists_bool]; try simp (disch := omega) only [w64, wu64]) | (refine need.of (by first | omega | kernel_rfl) ?_) | (refine AW.fin ?_; try simp (implicitDefEqProofs := false) [-Bool.exists_bool]))
            refine AW.cond rfl (fun h => ?_) (fun h => ?_)
            · simp at h
            repeat (first | refine AW.seq ?_ | refine AW.block ?_)
            refine AW.reg mix ?_
            (simp (implicitDefEqProofs := false) [hj, hIn, hvl, hsv, -Bool.exists_bool]; try simp (disch := omega) only [w64, wu64])
            try refine need.of (by first | omega | kernel_rfl) ?_
            try simp only [hsv]
            have his1 := is_ok l l hg lw (by omega) (by omega) (by omega)
            have his2 := is_ok l' l' hg hlw (by omega) (by omega) (by omega)
            have hs18 := same18_ok l l' (by omega) (by omega)
            have hsame := csame_ok l' l hg hlw lw (by omega) (by omega) (by omega) (by omega)
            rw [show decide (l' = l) = decide (l = l') from decide_eq_decide.2 eq_comm] at hsame
            have htk' : (stL l').take (n * 3) = stL l' := List.take_of_length_le (by rw [stL_len]; omega)
            simp only [arrO, arrV, arrB, vecO, vecB, encs_len, hn, hlset, decide_true] at his1 his2 hs18 hsame
            generalize decide (l = l') = eq at hs18 hsame
            refine AW.freeze 12 3 ⟨36, stV l'⟩ (stL l') (by rfl) rfl ?_
            simp [frzs_u64s, htk', -Bool.exists_bool]
            repeat (first | refine AW.seq ?_ | refine AW.block ?_ | (refine AW.reg mix ?_; simp (implicitDefEqProofs := false) [-Bool.exists_bool]; try simp (disch := omega) only [w64, wu64]) | (refine need.of (by first | omega | kernel_rfl) ?_) | (refine AW.fin ?_; try simp (implicitDefEqProofs := false) [-Bool.exists_bool]))
            refine CallS.g [9, 10, 11] (his1) ?_
            (try (simp (implicitDefEqProofs := false) [-Bool.exists_bool]; try simp (disch := omega) only [w64, wu64]))
            repeat (first | refine AW.seq ?_ | refine AW.block ?_ | (refine AW.reg mix ?_; simp (implicitDefEqProofs := false) [-Bool.exists_bool]; try simp (disch := omega) only [w64, wu64]) | (refine need.of (by first | omega | kernel_rfl) ?_) | (refine AW.fin ?_; try simp (implicitDefEqProofs := false) [-Bool.exists_bool]))
            refine CallS.g [2, 3, 4] (his2) ?_
            (try (simp (implicitDefEqProofs := false) [-Bool.exists_bool]; try simp (disch := omega) only [w64, wu64]))
            repeat (first | refine AW.seq ?_ | refine AW.block ?_ | (refine AW.reg mix ?_; simp (implicitDefEqProofs := false) [-Bool.exists_bool]; try simp (disch := omega) only [w64, wu64]) | (refine need.of (by first | omega | kernel_rfl) ?_) | (refine AW.fin ?_; try simp (implicitDefEqProofs := false) [-Bool.exists_bool]))
            refine CallS.o1 6 (read_ok xs p d) ?_
            (try (simp (implicitDefEqProofs := false) [-Bool.exists_bool]; try simp (disch := omega) only [w64, wu64]))
            repeat (first | refine AW.seq ?_ | refine AW.block ?_ | (refine AW.reg mix ?_; simp (implicitDefEqProofs := false) [-Bool.exists_bool]; try simp (disch := omega) only [w64, wu64]) | (refine need.of (by first | omega | kernel_rfl) ?_) | (refine AW.fin ?_; try simp (implicitDefEqProofs := false) [-Bool.exists_bool]))
            refine CallS.o1 7 (read_ok xs p d) ?_
            (try (simp (implicitDefEqProofs := false) [-Bool.exists_bool]; try simp (disch := omega) only [w64, wu64]))
            repeat (first | refine AW.seq ?_ | refine AW.block ?_ | (refine AW.reg mix ?_; simp (implicitDefEqProofs := false) [-Bool.exists_bool]; try simp (disch := omega) only [w64, wu64]) | (refine need.of (by first | omega | kernel_rfl) ?_) | (refine AW.fin ?_; try simp (implicitDefEqProofs := false) [-Bool.exists_bool]))
            refine CallS.g [2, 3, 4, 9, 10, 11] (hsame) ?_
            (try (simp (implicitDefEqProofs := false) [-Bool.exists_bool]; try simp (disch := omega) only [w64, wu64]))
            repeat (first | refine AW.seq ?_ | refine AW.block ?_ | (refine AW.reg mix ?_; simp (implicitDefEqProofs := false) [-Bool.exists_bool]; try simp (disch := omega) only [w64, wu64]) | (refine need.of (by first | omega | kernel_rfl) ?_) | (refine AW.fin ?_; try simp (implicitDefEqProofs := false) [-Bool.exists_bool]))
            refine CallS.pu (hs18) ?_
            (try (simp (implicitDefEqProofs := false) [-Bool.exists_bool]; try simp (disch := omega) only [w64, wu64]))
            repeat (first | refine AW.seq ?_ | refine AW.block ?_ | (refine AW.reg mix ?_; simp (implicitDefEqProofs := false) [-Bool.exists_bool]; try simp (disch := omega) only [w64, wu64]) | (refine need.of (by first | omega | kernel_rfl) ?_) | (refine AW.fin ?_; try simp (implicitDefEqProofs := false) [-Bool.exists_bool]))
            refine AW.cond rfl (fun h => ?_) (fun h => ?_)
            · simp at h
            repeat (first | refine AW.seq ?_ | refine AW.block ?_ | (refine AW.reg mix ?_; simp (implicitDefEqProofs := false) [ew, -Bool.exists_bool]; try simp (disch := omega) only [w64, wu64]) | (refine need.of (by first | omega | kernel_rfl) ?_) | (refine AW.fin ?_; try simp (implicitDefEqProofs := false) [ew, -Bool.exists_bool]))
            (try (simp (implicitDefEqProofs := false) [ew, -Bool.exists_bool]; try simp (disch := omega) only [w64, wu64]))
            repeat (first | refine AW.seq ?_ | refine AW.block ?_ | (refine AW.reg mix ?_; simp (implicitDefEqProofs := false) [ew, -Bool.exists_bool]; try simp (disch := omega) only [w64, wu64]) | (refine need.of (by first | omega | kernel_rfl) ?_) | (refine AW.fin ?_; try simp (implicitDefEqProofs := false) [ew, -Bool.exists_bool]))
            exact ⟨i + 1, l', p, ⟨by omega, hlset, hlw, hp⟩, by omega, by simp, Subs.refl _, d, by simp⟩
          · have hset := cset_bad l j yk yt yf hg hjl (by omega) hW
            simp only [arrO, arrV, arrB, vecO, vecB, encs_len, hn, parD, tsD] at hset hW
            refine AW.cond rfl (fun h => ?_) (fun h => ?_)
            rotate_left
            · simp at h
            repeat (first | refine AW.seq ?_ | refine AW.block ?_ | (refine AW.reg mix ?_; simp (implicitDefEqProofs := false) [-Bool.exists_bool]; try simp (disch := omega) only [w64, wu64]) | (refine need.of (by first | omega | kernel_rfl) ?_) | (refine AW.fin ?_; try simp (implicitDefEqProofs := false) [-Bool.exists_bool]))
            refine CallS.pu (hls) ?_
            (try (simp (implicitDefEqProofs := false) [-Bool.exists_bool]; try simp (disch := omega) only [w64, wu64]))
            repeat (first | refine AW.seq ?_ | refine AW.block ?_ | (refine AW.reg mix ?_; simp (implicitDefEqProofs := false) [-Bool.exists_bool]; try simp (disch := omega) only [w64, wu64]) | (refine need.of (by first | omega | kernel_rfl) ?_) | (refine AW.fin ?_; try simp (implicitDefEqProofs := false) [-Bool.exists_bool]))
            refine CallS.g [2, 3, 4] (hset) ?_
            (try (simp (implicitDefEqProofs := false) [-Bool.exists_bool]; try simp (disch := omega) only [w64, wu64]))
            repeat (first | refine AW.seq ?_ | refine AW.block ?_ | (refine AW.reg mix ?_; simp (implicitDefEqProofs := false) [-Bool.exists_bool]; try simp (disch := omega) only [w64, wu64]) | (refine need.of (by first | omega | kernel_rfl) ?_) | (refine AW.fin ?_; try simp (implicitDefEqProofs := false) [-Bool.exists_bool]))
            refine AW.cond rfl (fun h => ?_) (fun h => ?_)
            · simp at h
            repeat (first | refine AW.seq ?_ | refine AW.block ?_ | (refine AW.reg mix ?_; simp (implicitDefEqProofs := false) [-Bool.exists_bool]; try simp (disch := omega) only [w64, wu64]) | (refine need.of (by first | omega | kernel_rfl) ?_) | (refine AW.fin ?_; try simp (implicitDefEqProofs := false) [-Bool.exists_bool]))
            refine CallS.pu (hW) ?_
            (try (simp (implicitDefEqProofs := false) [-Bool.exists_bool]; try simp (disch := omega) only [w64, wu64]))
            repeat (first | refine AW.seq ?_ | refine AW.block ?_ | (refine AW.reg mix ?_; simp (implicitDefEqProofs := false) [-Bool.exists_bool]; try simp (disch := omega) only [w64, wu64]) | (refine need.of (by first | omega | kernel_rfl) ?_) | (refine AW.fin ?_; try simp (implicitDefEqProofs := false) [-Bool.exists_bool]))
            refine AW.cond rfl (fun h => ?_) (fun h => ?_)
            rotate_left
            · simp at h
            repeat (first | refine AW.seq ?_ | refine AW.block ?_)
            refine AW.reg mix ?_
            (simp (implicitDefEqProofs := false) [-Bool.exists_bool]; try simp (disch := omega) only [w64, wu64])
            try refine need.of (by first | omega | kernel_rfl) ?_
            have his1 := is_ok l l hg lw (by omega) (by omega) (by omega)
            have his2 := is_ok l l hg lw (by omega) (by omega) (by omega)
            have hs18 := same18_ok l l (by omega) (by omega)
            have hsame := csame_ok l l hg lw lw (by omega) (by omega) (by omega) (by omega)
            rw [show decide (l = l) = decide (l = l) from decide_eq_decide.2 eq_comm] at hsame
            have htk2 : (stL l).take (n * 3) = stL l := List.take_of_length_le (by rw [stL_len]; omega)
            simp only [arrO, arrV, arrB, vecO, vecB, encs_len, hn, hn, decide_true] at his1 his2 hs18 hsame
            generalize decide (l = l) = eq at hs18 hsame
            refine AW.freeze 12 3 ⟨36, stV l⟩ (stL l) (by rfl) rfl ?_
            simp [frzs_u64s, htk2, -Bool.exists_bool]
            repeat (first | refine AW.seq ?_ | refine AW.block ?_ | (refine AW.reg mix ?_; simp (implicitDefEqProofs := false) [-Bool.exists_bool]; try simp (disch := omega) only [w64, wu64]) | (refine need.of (by first | omega | kernel_rfl) ?_) | (refine AW.fin ?_; try simp (implicitDefEqProofs := false) [-Bool.exists_bool]))
            refine CallS.g [9, 10, 11] (his1) ?_
            (try (simp (implicitDefEqProofs := false) [-Bool.exists_bool]; try simp (disch := omega) only [w64, wu64]))
            repeat (first | refine AW.seq ?_ | refine AW.block ?_ | (refine AW.reg mix ?_; simp (implicitDefEqProofs := false) [-Bool.exists_bool]; try simp (disch := omega) only [w64, wu64]) | (refine need.of (by first | omega | kernel_rfl) ?_) | (refine AW.fin ?_; try simp (implicitDefEqProofs := false) [-Bool.exists_bool]))
            refine CallS.g [2, 3, 4] (his2) ?_
            (try (simp (implicitDefEqProofs := false) [-Bool.exists_bool]; try simp (disch := omega) only [w64, wu64]))
            repeat (first | refine AW.seq ?_ | refine AW.block ?_ | (refine AW.reg mix ?_; simp (implicitDefEqProofs := false) [-Bool.exists_bool]; try simp (disch := omega) only [w64, wu64]) | (refine need.of (by first | omega | kernel_rfl) ?_) | (refine AW.fin ?_; try simp (implicitDefEqProofs := false) [-Bool.exists_bool]))
            refine CallS.o1 6 (read_ok xs p d) ?_
            (try (simp (implicitDefEqProofs := false) [-Bool.exists_bool]; try simp (disch := omega) only [w64, wu64]))
            repeat (first | refine AW.seq ?_ | refine AW.block ?_ | (refine AW.reg mix ?_; simp (implicitDefEqProofs := false) [-Bool.exists_bool]; try simp (disch := omega) only [w64, wu64]) | (refine need.of (by first | omega | kernel_rfl) ?_) | (refine AW.fin ?_; try simp (implicitDefEqProofs := false) [-Bool.exists_bool]))
            refine CallS.o1 7 (read_ok xs p d) ?_
            (try (simp (implicitDefEqProofs := false) [-Bool.exists_bool]; try simp (disch := omega) only [w64, wu64]))
            repeat (first | refine AW.seq ?_ | refine AW.block ?_ | (refine AW.reg mix ?_; simp (implicitDefEqProofs := false) [-Bool.exists_bool]; try simp (disch := omega) only [w64, wu64]) | (refine need.of (by first | omega | kernel_rfl) ?_) | (refine AW.fin ?_; try simp (implicitDefEqProofs := false) [-Bool.exists_bool]))
            refine CallS.g [2, 3, 4, 9, 10, 11] (hsame) ?_
            (try (simp (implicitDefEqProofs := false) [-Bool.exists_bool]; try simp (disch := omega) only [w64, wu64]))
            repeat (first | refine AW.seq ?_ | refine AW.block ?_ | (refine AW.reg mix ?_; simp (implicitDefEqProofs := false) [-Bool.exists_bool]; try simp (disch := omega) only [w64, wu64]) | (refine need.of (by first | omega | kernel_rfl) ?_) | (refine AW.fin ?_; try simp (implicitDefEqProofs := false) [-Bool.exists_bool]))
            refine CallS.pu (hs18) ?_
            (try (simp (implicitDefEqProofs := false) [-Bool.exists_bool]; try simp (disch := omega) only [w64, wu64]))
            repeat (first | refine AW.seq ?_ | refine AW.block ?_ | (refine AW.reg mix ?_; simp (implicitDefEqProofs := false) [-Bool.exists_bool]; try simp (disch := omega) only [w64, wu64]) | (refine need.of (by first | omega | kernel_rfl) ?_) | (refine AW.fin ?_; try simp (implicitDefEqProofs := false) [-Bool.exists_bool]))
            refine AW.cond rfl (fun h => ?_) (fun h => ?_)
            · simp at h
            repeat (first | refine AW.seq ?_ | refine AW.block ?_ | (refine AW.reg mix ?_; simp (implicitDefEqProofs := false) [ew, -Bool.exists_bool]; try simp (disch := omega) only [w64, wu64]) | (refine need.of (by first | omega | kernel_rfl) ?_) | (refine AW.fin ?_; try simp (implicitDefEqProofs := false) [ew, -Bool.exists_bool]))
            (try (simp (implicitDefEqProofs := false) [ew, -Bool.exists_bool]; try simp (disch := omega) only [w64, wu64]))
            repeat (first | refine AW.seq ?_ | refine AW.block ?_ | (refine AW.reg mix ?_; simp (implicitDefEqProofs := false) [ew, -Bool.exists_bool]; try simp (disch := omega) only [w64, wu64]) | (refine need.of (by first | omega | kernel_rfl) ?_) | (refine AW.fin ?_; try simp (implicitDefEqProofs := false) [ew, -Bool.exists_bool]))
            exact ⟨i + 1, l, p, ⟨by omega, hn, lw, hp⟩, by omega, by simp, Subs.refl _, d, by simp⟩
        | false =>
          obtain ⟨M, hM⟩ : ∃ M : Nat, max 0 (min N 30) = (M : Int) := ⟨(max 0 (min N 30)).toNat, by omega⟩
          obtain ⟨R, hR⟩ : ∃ R, R = addRM xs K A B M s.1 s.2.1 s.2.2 p d := ⟨_, rfl⟩
          have hca := cadd_int xs l j M p (min N 30) hM d hg lw hjl (by omega) (by omega) hp (by omega) R (by rw [hs]; exact hR)
          have hra := radd_int xs K A B s.1 s.2.1 s.2.2 M (min N 30) hM p d hg hws (by omega) hp (by omega) R hR
          have hmw := addRM_well (cs := xs) (n := M) (p := p) (d := d) hg hws hp (by omega)
          rw [← hR] at hmw
          clear hR hs
          obtain ⟨s1, s2, s3⟩ := s
          obtain ⟨e, ry, rt, rf, rp, rd⟩ := R
          have hrp := hmw.1
          simp only at hrp hlg
          by_cases he : e = 0
          · subst he
            have hlw := wells_set lw j (s := (ry, rt, rf)) (hmw.2 rfl)
            replace hsv := hsv (ry, rt, rf)
            replace hlset := hlset (ry, rt, rf)
            simp only [arrO, arrV, arrB, vecO, vecB, encs_len, hn, parD, tsD, stR, if_true, hlset] at hca hra hsv
            generalize l.set j (ry, rt, rf) = l' at *
            refine AW.cond rfl (fun h => ?_) (fun h => ?_)
            · simp at h
            repeat (first | refine AW.seq ?_ | refine AW.block ?_ | (refine AW.reg mix ?_; simp (implicitDefEqProofs := false) [-Bool.exists_bool]; try simp (disch := omega) only [w64, wu64]) | (refine need.of (by first | omega | kernel_rfl) ?_) | (refine AW.fin ?_; try simp (implicitDefEqProofs := false) [-Bool.exists_bool]))
            refine CallS.g [2, 3, 4, 6] (hca) ?_
            (try (simp (implicitDefEqProofs := false) [-Bool.exists_bool]; try simp (disch := omega) only [w64, wu64]))
            repeat (first | refine AW.seq ?_ | refine AW.block ?_ | (refine AW.reg mix ?_; simp (implicitDefEqProofs := false) [-Bool.exists_bool]; try simp (disch := omega) only [w64, wu64]) | (refine need.of (by first | omega | kernel_rfl) ?_) | (refine AW.fin ?_; try simp (implicitDefEqProofs := false) [-Bool.exists_bool]))
            refine AW.cond rfl (fun h => ?_) (fun h => ?_)
            rotate_left
            · simp at h
            repeat (first | refine AW.seq ?_ | refine AW.block ?_ | (refine AW.reg mix ?_; simp (implicitDefEqProofs := false) [hj, hIn, hll, hn, hlg, -Bool.exists_bool]; try simp (disch := omega) only [w64, wu64]) | (refine need.of (by first | omega | kernel_rfl) ?_) | (refine AW.fin ?_; try simp (implicitDefEqProofs := false) [hj, hIn, hll, hn, hlg, -Bool.exists_bool]))
            refine CallS.o1 7 (hra) ?_
            (try (simp (implicitDefEqProofs := false) [hj, hIn, hvl, hn, hsv, -Bool.exists_bool]; try simp (disch := omega) only [w64, wu64]))
            repeat refine need.of (by first | omega | kernel_rfl) ?_
            try simp only [hsv]
            have his1 := is_ok l l hg lw (by omega) (by omega) (by omega)
            have his2 := is_ok l' l' hg hlw (by omega) (by omega) (by omega)
            have hs18 := same18_ok l l' (by omega) (by omega)
            have hsame := csame_ok l' l hg hlw lw (by omega) (by omega) (by omega) (by omega)
            rw [show decide (l' = l) = decide (l = l') from decide_eq_decide.2 eq_comm] at hsame
            have htk' : (stL l').take (n * 3) = stL l' := List.take_of_length_le (by rw [stL_len]; omega)
            simp only [arrO, arrV, arrB, vecO, vecB, encs_len, hn, hlset, decide_true] at his1 his2 hs18 hsame
            generalize decide (l = l') = eq at hs18 hsame
            refine AW.freeze 12 3 ⟨36, stV l'⟩ (stL l') (by rfl) rfl ?_
            simp [frzs_u64s, htk', -Bool.exists_bool]
            repeat (first | refine AW.seq ?_ | refine AW.block ?_ | (refine AW.reg mix ?_; simp (implicitDefEqProofs := false) [-Bool.exists_bool]; try simp (disch := omega) only [w64, wu64]) | (refine need.of (by first | omega | kernel_rfl) ?_) | (refine AW.fin ?_; try simp (implicitDefEqProofs := false) [-Bool.exists_bool]))
            refine CallS.g [9, 10, 11] (his1) ?_
            (try (simp (implicitDefEqProofs := false) [-Bool.exists_bool]; try simp (disch := omega) only [w64, wu64]))
            repeat (first | refine AW.seq ?_ | refine AW.block ?_ | (refine AW.reg mix ?_; simp (implicitDefEqProofs := false) [-Bool.exists_bool]; try simp (disch := omega) only [w64, wu64]) | (refine need.of (by first | omega | kernel_rfl) ?_) | (refine AW.fin ?_; try simp (implicitDefEqProofs := false) [-Bool.exists_bool]))
            refine CallS.g [2, 3, 4] (his2) ?_
            (try (simp (implicitDefEqProofs := false) [-Bool.exists_bool]; try simp (disch := omega) only [w64, wu64]))
            repeat (first | refine AW.seq ?_ | refine AW.block ?_ | (refine AW.reg mix ?_; simp (implicitDefEqProofs := false) [-Bool.exists_bool]; try simp (disch := omega) only [w64, wu64]) | (refine need.of (by first | omega | kernel_rfl) ?_) | (refine AW.fin ?_; try simp (implicitDefEqProofs := false) [-Bool.exists_bool]))
            refine CallS.o1 6 (read_ok xs rp rd) ?_
            (try (simp (implicitDefEqProofs := false) [-Bool.exists_bool]; try simp (disch := omega) only [w64, wu64]))
            repeat (first | refine AW.seq ?_ | refine AW.block ?_ | (refine AW.reg mix ?_; simp (implicitDefEqProofs := false) [-Bool.exists_bool]; try simp (disch := omega) only [w64, wu64]) | (refine need.of (by first | omega | kernel_rfl) ?_) | (refine AW.fin ?_; try simp (implicitDefEqProofs := false) [-Bool.exists_bool]))
            refine CallS.o1 7 (read_ok xs rp rd) ?_
            (try (simp (implicitDefEqProofs := false) [-Bool.exists_bool]; try simp (disch := omega) only [w64, wu64]))
            repeat (first | refine AW.seq ?_ | refine AW.block ?_ | (refine AW.reg mix ?_; simp (implicitDefEqProofs := false) [-Bool.exists_bool]; try simp (disch := omega) only [w64, wu64]) | (refine need.of (by first | omega | kernel_rfl) ?_) | (refine AW.fin ?_; try simp (implicitDefEqProofs := false) [-Bool.exists_bool]))
            refine CallS.g [2, 3, 4, 9, 10, 11] (hsame) ?_
            (try (simp (implicitDefEqProofs := false) [-Bool.exists_bool]; try simp (disch := omega) only [w64, wu64]))
            repeat (first | refine AW.seq ?_ | refine AW.block ?_ | (refine AW.reg mix ?_; simp (implicitDefEqProofs := false) [-Bool.exists_bool]; try simp (disch := omega) only [w64, wu64]) | (refine need.of (by first | omega | kernel_rfl) ?_) | (refine AW.fin ?_; try simp (implicitDefEqProofs := false) [-Bool.exists_bool]))
            refine CallS.pu (hs18) ?_
            (try (simp (implicitDefEqProofs := false) [-Bool.exists_bool]; try simp (disch := omega) only [w64, wu64]))
            repeat (first | refine AW.seq ?_ | refine AW.block ?_ | (refine AW.reg mix ?_; simp (implicitDefEqProofs := false) [-Bool.exists_bool]; try simp (disch := omega) only [w64, wu64]) | (refine need.of (by first | omega | kernel_rfl) ?_) | (refine AW.fin ?_; try simp (implicitDefEqProofs := false) [-Bool.exists_bool]))
            refine AW.cond rfl (fun h => ?_) (fun h => ?_)
            · simp at h
            repeat (first | refine AW.seq ?_ | refine AW.block ?_ | (refine AW.reg mix ?_; simp (implicitDefEqProofs := false) [ew, -Bool.exists_bool]; try simp (disch := omega) only [w64, wu64]) | (refine need.of (by first | omega | kernel_rfl) ?_) | (refine AW.fin ?_; try simp (implicitDefEqProofs := false) [ew, -Bool.exists_bool]))
            (try (simp (implicitDefEqProofs := false) [ew, -Bool.exists_bool]; try simp (disch := omega) only [w64, wu64]))
            repeat (first | refine AW.seq ?_ | refine AW.block ?_ | (refine AW.reg mix ?_; simp (implicitDefEqProofs := false) [ew, -Bool.exists_bool]; try simp (disch := omega) only [w64, wu64]) | (refine need.of (by first | omega | kernel_rfl) ?_) | (refine AW.fin ?_; try simp (implicitDefEqProofs := false) [ew, -Bool.exists_bool]))
            exact ⟨i + 1, l', rp, ⟨by omega, hlset, hlw, hrp⟩, by omega, by simp, Subs.refl _, rd, by simp⟩
          · have hsv2 := hsv (s1, s2, s3)
            rw [hself] at hsv2
            simp only [arrO, arrV, arrB, vecO, vecB, encs_len, hn, parD, tsD, stR, if_neg he] at hca hra hsv2
            refine AW.cond rfl (fun h => ?_) (fun h => ?_)
            · simp at h
            repeat (first | refine AW.seq ?_ | refine AW.block ?_ | (refine AW.reg mix ?_; simp (implicitDefEqProofs := false) [-Bool.exists_bool]; try simp (disch := omega) only [w64, wu64]) | (refine need.of (by first | omega | kernel_rfl) ?_) | (refine AW.fin ?_; try simp (implicitDefEqProofs := false) [-Bool.exists_bool]))
            refine CallS.g [2, 3, 4, 6] (hca) ?_
            (try (simp (implicitDefEqProofs := false) [-Bool.exists_bool]; try simp (disch := omega) only [w64, wu64]))
            repeat (first | refine AW.seq ?_ | refine AW.block ?_ | (refine AW.reg mix ?_; simp (implicitDefEqProofs := false) [-Bool.exists_bool]; try simp (disch := omega) only [w64, wu64]) | (refine need.of (by first | omega | kernel_rfl) ?_) | (refine AW.fin ?_; try simp (implicitDefEqProofs := false) [-Bool.exists_bool]))
            refine AW.cond rfl (fun h => ?_) (fun h => ?_)
            rotate_left
            · simp at h
            repeat (first | refine AW.seq ?_ | refine AW.block ?_ | (refine AW.reg mix ?_; simp (implicitDefEqProofs := false) [hj, hIn, hll, hn, hlg, -Bool.exists_bool]; try simp (disch := omega) only [w64, wu64]) | (refine need.of (by first | omega | kernel_rfl) ?_) | (refine AW.fin ?_; try simp (implicitDefEqProofs := false) [hj, hIn, hll, hn, hlg, -Bool.exists_bool]))
            refine CallS.o1 7 (hra) ?_
            (try (simp (implicitDefEqProofs := false) [hj, hIn, hvl, hn, hsv2, -Bool.exists_bool]; try simp (disch := omega) only [w64, wu64]))
            repeat refine need.of (by first | omega | kernel_rfl) ?_
            try simp only [hsv2]
            have his1 := is_ok l l hg lw (by omega) (by omega) (by omega)
            have his2 := is_ok l l hg lw (by omega) (by omega) (by omega)
            have hs18 := same18_ok l l (by omega) (by omega)
            have hsame := csame_ok l l hg lw lw (by omega) (by omega) (by omega) (by omega)
            rw [show decide (l = l) = decide (l = l) from decide_eq_decide.2 eq_comm] at hsame
            have htk2 : (stL l).take (n * 3) = stL l := List.take_of_length_le (by rw [stL_len]; omega)
            simp only [arrO, arrV, arrB, vecO, vecB, encs_len, hn, hn, decide_true] at his1 his2 hs18 hsame
            generalize decide (l = l) = eq at hs18 hsame
            refine AW.freeze 12 3 ⟨36, stV l⟩ (stL l) (by rfl) rfl ?_
            simp [frzs_u64s, htk2, -Bool.exists_bool]
            repeat (first | refine AW.seq ?_ | refine AW.block ?_ | (refine AW.reg mix ?_; simp (implicitDefEqProofs := false) [-Bool.exists_bool]; try simp (disch := omega) only [w64, wu64]) | (refine need.of (by first | omega | kernel_rfl) ?_) | (refine AW.fin ?_; try simp (implicitDefEqProofs := false) [-Bool.exists_bool]))
            refine CallS.g [9, 10, 11] (his1) ?_
            (try (simp (implicitDefEqProofs := false) [-Bool.exists_bool]; try simp (disch := omega) only [w64, wu64]))
            repeat (first | refine AW.seq ?_ | refine AW.block ?_ | (refine AW.reg mix ?_; simp (implicitDefEqProofs := false) [-Bool.exists_bool]; try simp (disch := omega) only [w64, wu64]) | (refine need.of (by first | omega | kernel_rfl) ?_) | (refine AW.fin ?_; try simp (implicitDefEqProofs := false) [-Bool.exists_bool]))
            refine CallS.g [2, 3, 4] (his2) ?_
            (try (simp (implicitDefEqProofs := false) [-Bool.exists_bool]; try simp (disch := omega) only [w64, wu64]))
            repeat (first | refine AW.seq ?_ | refine AW.block ?_ | (refine AW.reg mix ?_; simp (implicitDefEqProofs := false) [-Bool.exists_bool]; try simp (disch := omega) only [w64, wu64]) | (refine need.of (by first | omega | kernel_rfl) ?_) | (refine AW.fin ?_; try simp (implicitDefEqProofs := false) [-Bool.exists_bool]))
            refine CallS.o1 6 (read_ok xs rp rd) ?_
            (try (simp (implicitDefEqProofs := false) [-Bool.exists_bool]; try simp (disch := omega) only [w64, wu64]))
            repeat (first | refine AW.seq ?_ | refine AW.block ?_ | (refine AW.reg mix ?_; simp (implicitDefEqProofs := false) [-Bool.exists_bool]; try simp (disch := omega) only [w64, wu64]) | (refine need.of (by first | omega | kernel_rfl) ?_) | (refine AW.fin ?_; try simp (implicitDefEqProofs := false) [-Bool.exists_bool]))
            refine CallS.o1 7 (read_ok xs rp rd) ?_
            (try (simp (implicitDefEqProofs := false) [-Bool.exists_bool]; try simp (disch := omega) only [w64, wu64]))
            repeat (first | refine AW.seq ?_ | refine AW.block ?_ | (refine AW.reg mix ?_; simp (implicitDefEqProofs := false) [-Bool.exists_bool]; try simp (disch := omega) only [w64, wu64]) | (refine need.of (by first | omega | kernel_rfl) ?_) | (refine AW.fin ?_; try simp (implicitDefEqProofs := false) [-Bool.exists_bool]))
            refine CallS.g [2, 3, 4, 9, 10, 11] (hsame) ?_
            (try (simp (implicitDefEqProofs := false) [-Bool.exists_bool]; try simp (disch := omega) only [w64, wu64]))
            repeat (first | refine AW.seq ?_ | refine AW.block ?_ | (refine AW.reg mix ?_; simp (implicitDefEqProofs := false) [-Bool.exists_bool]; try simp (disch := omega) only [w64, wu64]) | (refine need.of (by first | omega | kernel_rfl) ?_) | (refine AW.fin ?_; try simp (implicitDefEqProofs := false) [-Bool.exists_bool]))
            refine CallS.pu (hs18) ?_
            (try (simp (implicitDefEqProofs := false) [-Bool.exists_bool]; try simp (disch := omega) only [w64, wu64]))
            repeat (first | refine AW.seq ?_ | refine AW.block ?_ | (refine AW.reg mix ?_; simp (implicitDefEqProofs := false) [-Bool.exists_bool]; try simp (disch := omega) only [w64, wu64]) | (refine need.of (by first | omega | kernel_rfl) ?_) | (refine AW.fin ?_; try simp (implicitDefEqProofs := false) [-Bool.exists_bool]))
            refine AW.cond rfl (fun h => ?_) (fun h => ?_)
            · simp at h
            repeat (first | refine AW.seq ?_ | refine AW.block ?_ | (refine AW.reg mix ?_; simp (implicitDefEqProofs := false) [ew, -Bool.exists_bool]; try simp (disch := omega) only [w64, wu64]) | (refine need.of (by first | omega | kernel_rfl) ?_) | (refine AW.fin ?_; try simp (implicitDefEqProofs := false) [ew, -Bool.exists_bool]))
            (try (simp (implicitDefEqProofs := false) [ew, -Bool.exists_bool]; try simp (disch := omega) only [w64, wu64]))
            repeat (first | refine AW.seq ?_ | refine AW.block ?_ | (refine AW.reg mix ?_; simp (implicitDefEqProofs := false) [ew, -Bool.exists_bool]; try simp (disch := omega) only [w64, wu64]) | (refine need.of (by first | omega | kernel_rfl) ?_) | (refine AW.fin ?_; try simp (implicitDefEqProofs := false) [ew, -Bool.exists_bool]))
            exact ⟨i + 1, l, rp, ⟨by omega, hn, lw, hrp⟩, by omega, by simp, Subs.refl _, rd, by simp⟩
      · have hout : I < 0 ∨ (l.length : Int) ≤ I := .inr (by omega)
        refine CallS.g [2, 3, 4] (hcl) ?_
        (try (simp (implicitDefEqProofs := false) [h0, hIn, hll, htk, hnz, -Bool.exists_bool]; try simp (disch := omega) only [w64, wu64]))
        repeat (first | refine AW.seq ?_ | refine AW.block ?_ | (refine AW.reg mix ?_; simp (implicitDefEqProofs := false) [h0, hIn, hll, htk, hnz, -Bool.exists_bool]; try simp (disch := omega) only [w64, wu64]) | (refine need.of (by first | omega | kernel_rfl) ?_) | (refine AW.fin ?_; try simp (implicitDefEqProofs := false) [h0, hIn, hll, htk, hnz, -Bool.exists_bool]))
        cases st with
        | true =>
          have hls := lstate_ok yk yt yf
          have hset := cset_out l I yk yt yf hg hout
          simp only [arrO, arrV, arrB, vecO, vecB, encs_len, hn] at hset
          refine AW.cond rfl (fun h => ?_) (fun h => ?_)
          rotate_left
          · simp at h
          repeat (first | refine AW.seq ?_ | refine AW.block ?_ | (refine AW.reg mix ?_; simp (implicitDefEqProofs := false) [-Bool.exists_bool]; try simp (disch := omega) only [w64, wu64]) | (refine need.of (by first | omega | kernel_rfl) ?_) | (refine AW.fin ?_; try simp (implicitDefEqProofs := false) [-Bool.exists_bool]))
          refine CallS.pu (hls) ?_
          (try (simp (implicitDefEqProofs := false) [-Bool.exists_bool]; try simp (disch := omega) only [w64, wu64]))
          repeat (first | refine AW.seq ?_ | refine AW.block ?_ | (refine AW.reg mix ?_; simp (implicitDefEqProofs := false) [-Bool.exists_bool]; try simp (disch := omega) only [w64, wu64]) | (refine need.of (by first | omega | kernel_rfl) ?_) | (refine AW.fin ?_; try simp (implicitDefEqProofs := false) [-Bool.exists_bool]))
          refine CallS.g [2, 3, 4] (hset) ?_
          (try (simp (implicitDefEqProofs := false) [-Bool.exists_bool]; try simp (disch := omega) only [w64, wu64]))
          repeat (first | refine AW.seq ?_ | refine AW.block ?_ | (refine AW.reg mix ?_; simp (implicitDefEqProofs := false) [-Bool.exists_bool]; try simp (disch := omega) only [w64, wu64]) | (refine need.of (by first | omega | kernel_rfl) ?_) | (refine AW.fin ?_; try simp (implicitDefEqProofs := false) [-Bool.exists_bool]))
          refine AW.cond rfl (fun h => ?_) (fun h => ?_)
          rotate_left
          · simp at h
          repeat (first | refine AW.seq ?_ | refine AW.block ?_)
          refine AW.reg mix ?_
          (simp (implicitDefEqProofs := false) [-Bool.exists_bool]; try simp (disch := omega) only [w64, wu64])
          try refine need.of (by first | omega | kernel_rfl) ?_
          have his1 := is_ok l l hg lw (by omega) (by omega) (by omega)
          have his2 := is_ok l l hg lw (by omega) (by omega) (by omega)
          have hs18 := same18_ok l l (by omega) (by omega)
          have hsame := csame_ok l l hg lw lw (by omega) (by omega) (by omega) (by omega)
          rw [show decide (l = l) = decide (l = l) from decide_eq_decide.2 eq_comm] at hsame
          have htk2 : (stL l).take (n * 3) = stL l := List.take_of_length_le (by rw [stL_len]; omega)
          simp only [arrO, arrV, arrB, vecO, vecB, encs_len, hn, hn, decide_true] at his1 his2 hs18 hsame
          generalize decide (l = l) = eq at hs18 hsame
          refine AW.freeze 12 3 ⟨36, stV l⟩ (stL l) (by rfl) rfl ?_
          simp [frzs_u64s, htk2, -Bool.exists_bool]
          repeat (first | refine AW.seq ?_ | refine AW.block ?_ | (refine AW.reg mix ?_; simp (implicitDefEqProofs := false) [-Bool.exists_bool]; try simp (disch := omega) only [w64, wu64]) | (refine need.of (by first | omega | kernel_rfl) ?_) | (refine AW.fin ?_; try simp (implicitDefEqProofs := false) [-Bool.exists_bool]))
          refine CallS.g [9, 10, 11] (his1) ?_
          (try (simp (implicitDefEqProofs := false) [-Bool.exists_bool]; try simp (disch := omega) only [w64, wu64]))
          repeat (first | refine AW.seq ?_ | refine AW.block ?_ | (refine AW.reg mix ?_; simp (implicitDefEqProofs := false) [-Bool.exists_bool]; try simp (disch := omega) only [w64, wu64]) | (refine need.of (by first | omega | kernel_rfl) ?_) | (refine AW.fin ?_; try simp (implicitDefEqProofs := false) [-Bool.exists_bool]))
          refine CallS.g [2, 3, 4] (his2) ?_
          (try (simp (implicitDefEqProofs := false) [-Bool.exists_bool]; try simp (disch := omega) only [w64, wu64]))
          repeat (first | refine AW.seq ?_ | refine AW.block ?_ | (refine AW.reg mix ?_; simp (implicitDefEqProofs := false) [-Bool.exists_bool]; try simp (disch := omega) only [w64, wu64]) | (refine need.of (by first | omega | kernel_rfl) ?_) | (refine AW.fin ?_; try simp (implicitDefEqProofs := false) [-Bool.exists_bool]))
          refine CallS.o1 6 (read_ok xs p d) ?_
          (try (simp (implicitDefEqProofs := false) [-Bool.exists_bool]; try simp (disch := omega) only [w64, wu64]))
          repeat (first | refine AW.seq ?_ | refine AW.block ?_ | (refine AW.reg mix ?_; simp (implicitDefEqProofs := false) [-Bool.exists_bool]; try simp (disch := omega) only [w64, wu64]) | (refine need.of (by first | omega | kernel_rfl) ?_) | (refine AW.fin ?_; try simp (implicitDefEqProofs := false) [-Bool.exists_bool]))
          refine CallS.o1 7 (read_ok xs p d) ?_
          (try (simp (implicitDefEqProofs := false) [-Bool.exists_bool]; try simp (disch := omega) only [w64, wu64]))
          repeat (first | refine AW.seq ?_ | refine AW.block ?_ | (refine AW.reg mix ?_; simp (implicitDefEqProofs := false) [-Bool.exists_bool]; try simp (disch := omega) only [w64, wu64]) | (refine need.of (by first | omega | kernel_rfl) ?_) | (refine AW.fin ?_; try simp (implicitDefEqProofs := false) [-Bool.exists_bool]))
          refine CallS.g [2, 3, 4, 9, 10, 11] (hsame) ?_
          (try (simp (implicitDefEqProofs := false) [-Bool.exists_bool]; try simp (disch := omega) only [w64, wu64]))
          repeat (first | refine AW.seq ?_ | refine AW.block ?_ | (refine AW.reg mix ?_; simp (implicitDefEqProofs := false) [-Bool.exists_bool]; try simp (disch := omega) only [w64, wu64]) | (refine need.of (by first | omega | kernel_rfl) ?_) | (refine AW.fin ?_; try simp (implicitDefEqProofs := false) [-Bool.exists_bool]))
          refine CallS.pu (hs18) ?_
          (try (simp (implicitDefEqProofs := false) [-Bool.exists_bool]; try simp (disch := omega) only [w64, wu64]))
          repeat (first | refine AW.seq ?_ | refine AW.block ?_ | (refine AW.reg mix ?_; simp (implicitDefEqProofs := false) [-Bool.exists_bool]; try simp (disch := omega) only [w64, wu64]) | (refine need.of (by first | omega | kernel_rfl) ?_) | (refine AW.fin ?_; try simp (implicitDefEqProofs := false) [-Bool.exists_bool]))
          refine AW.cond rfl (fun h => ?_) (fun h => ?_)
          · simp at h
          repeat (first | refine AW.seq ?_ | refine AW.block ?_ | (refine AW.reg mix ?_; simp (implicitDefEqProofs := false) [ew, -Bool.exists_bool]; try simp (disch := omega) only [w64, wu64]) | (refine need.of (by first | omega | kernel_rfl) ?_) | (refine AW.fin ?_; try simp (implicitDefEqProofs := false) [ew, -Bool.exists_bool]))
          (try (simp (implicitDefEqProofs := false) [ew, -Bool.exists_bool]; try simp (disch := omega) only [w64, wu64]))
          repeat (first | refine AW.seq ?_ | refine AW.block ?_ | (refine AW.reg mix ?_; simp (implicitDefEqProofs := false) [ew, -Bool.exists_bool]; try simp (disch := omega) only [w64, wu64]) | (refine need.of (by first | omega | kernel_rfl) ?_) | (refine AW.fin ?_; try simp (implicitDefEqProofs := false) [ew, -Bool.exists_bool]))
          exact ⟨i + 1, l, p, ⟨by omega, hn, lw, hp⟩, by omega, by simp, Subs.refl _, d, by simp⟩
        | false =>
          have hadd := cadd_out (k := K) (a := A) (b := B) xs l I (min N 30) p d hg hout
          simp only [arrO, arrV, arrB, vecO, vecB, encs_len, hn] at hadd
          refine AW.cond rfl (fun h => ?_) (fun h => ?_)
          · simp at h
          repeat (first | refine AW.seq ?_ | refine AW.block ?_ | (refine AW.reg mix ?_; simp (implicitDefEqProofs := false) [-Bool.exists_bool]; try simp (disch := omega) only [w64, wu64]) | (refine need.of (by first | omega | kernel_rfl) ?_) | (refine AW.fin ?_; try simp (implicitDefEqProofs := false) [-Bool.exists_bool]))
          refine CallS.g [2, 3, 4, 6] (hadd) ?_
          (try (simp (implicitDefEqProofs := false) [-Bool.exists_bool]; try simp (disch := omega) only [w64, wu64]))
          repeat (first | refine AW.seq ?_ | refine AW.block ?_ | (refine AW.reg mix ?_; simp (implicitDefEqProofs := false) [-Bool.exists_bool]; try simp (disch := omega) only [w64, wu64]) | (refine need.of (by first | omega | kernel_rfl) ?_) | (refine AW.fin ?_; try simp (implicitDefEqProofs := false) [-Bool.exists_bool]))
          refine AW.cond rfl (fun h => ?_) (fun h => ?_)
          · simp at h
          refine AW.skip ?_
          simp [-Bool.exists_bool]
          have his1 := is_ok l l hg lw (by omega) (by omega) (by omega)
          have his2 := is_ok l l hg lw (by omega) (by omega) (by omega)
          have hs18 := same18_ok l l (by omega) (by omega)
          have hsame := csame_ok l l hg lw lw (by omega) (by omega) (by omega) (by omega)
          rw [show decide (l = l) = decide (l = l) from decide_eq_decide.2 eq_comm] at hsame
          have htk2 : (stL l).take (n * 3) = stL l := List.take_of_length_le (by rw [stL_len]; omega)
          simp only [arrO, arrV, arrB, vecO, vecB, encs_len, hn, hn, decide_true] at his1 his2 hs18 hsame
          generalize decide (l = l) = eq at hs18 hsame
          refine AW.freeze 12 3 ⟨36, stV l⟩ (stL l) (by rfl) rfl ?_
          simp [frzs_u64s, htk2, -Bool.exists_bool]
          repeat (first | refine AW.seq ?_ | refine AW.block ?_ | (refine AW.reg mix ?_; simp (implicitDefEqProofs := false) [-Bool.exists_bool]; try simp (disch := omega) only [w64, wu64]) | (refine need.of (by first | omega | kernel_rfl) ?_) | (refine AW.fin ?_; try simp (implicitDefEqProofs := false) [-Bool.exists_bool]))
          refine CallS.g [9, 10, 11] (his1) ?_
          (try (simp (implicitDefEqProofs := false) [-Bool.exists_bool]; try simp (disch := omega) only [w64, wu64]))
          repeat (first | refine AW.seq ?_ | refine AW.block ?_ | (refine AW.reg mix ?_; simp (implicitDefEqProofs := false) [-Bool.exists_bool]; try simp (disch := omega) only [w64, wu64]) | (refine need.of (by first | omega | kernel_rfl) ?_) | (refine AW.fin ?_; try simp (implicitDefEqProofs := false) [-Bool.exists_bool]))
          refine CallS.g [2, 3, 4] (his2) ?_
          (try (simp (implicitDefEqProofs := false) [-Bool.exists_bool]; try simp (disch := omega) only [w64, wu64]))
          repeat (first | refine AW.seq ?_ | refine AW.block ?_ | (refine AW.reg mix ?_; simp (implicitDefEqProofs := false) [-Bool.exists_bool]; try simp (disch := omega) only [w64, wu64]) | (refine need.of (by first | omega | kernel_rfl) ?_) | (refine AW.fin ?_; try simp (implicitDefEqProofs := false) [-Bool.exists_bool]))
          refine CallS.o1 6 (read_ok xs p d) ?_
          (try (simp (implicitDefEqProofs := false) [-Bool.exists_bool]; try simp (disch := omega) only [w64, wu64]))
          repeat (first | refine AW.seq ?_ | refine AW.block ?_ | (refine AW.reg mix ?_; simp (implicitDefEqProofs := false) [-Bool.exists_bool]; try simp (disch := omega) only [w64, wu64]) | (refine need.of (by first | omega | kernel_rfl) ?_) | (refine AW.fin ?_; try simp (implicitDefEqProofs := false) [-Bool.exists_bool]))
          refine CallS.o1 7 (read_ok xs p d) ?_
          (try (simp (implicitDefEqProofs := false) [-Bool.exists_bool]; try simp (disch := omega) only [w64, wu64]))
          repeat (first | refine AW.seq ?_ | refine AW.block ?_ | (refine AW.reg mix ?_; simp (implicitDefEqProofs := false) [-Bool.exists_bool]; try simp (disch := omega) only [w64, wu64]) | (refine need.of (by first | omega | kernel_rfl) ?_) | (refine AW.fin ?_; try simp (implicitDefEqProofs := false) [-Bool.exists_bool]))
          refine CallS.g [2, 3, 4, 9, 10, 11] (hsame) ?_
          (try (simp (implicitDefEqProofs := false) [-Bool.exists_bool]; try simp (disch := omega) only [w64, wu64]))
          repeat (first | refine AW.seq ?_ | refine AW.block ?_ | (refine AW.reg mix ?_; simp (implicitDefEqProofs := false) [-Bool.exists_bool]; try simp (disch := omega) only [w64, wu64]) | (refine need.of (by first | omega | kernel_rfl) ?_) | (refine AW.fin ?_; try simp (implicitDefEqProofs := false) [-Bool.exists_bool]))
          refine CallS.pu (hs18) ?_
          (try (simp (implicitDefEqProofs := false) [-Bool.exists_bool]; try simp (disch := omega) only [w64, wu64]))
          repeat (first | refine AW.seq ?_ | refine AW.block ?_ | (refine AW.reg mix ?_; simp (implicitDefEqProofs := false) [-Bool.exists_bool]; try simp (disch := omega) only [w64, wu64]) | (refine need.of (by first | omega | kernel_rfl) ?_) | (refine AW.fin ?_; try simp (implicitDefEqProofs := false) [-Bool.exists_bool]))
          refine AW.cond rfl (fun h => ?_) (fun h => ?_)
          · simp at h
          repeat (first | refine AW.seq ?_ | refine AW.block ?_ | (refine AW.reg mix ?_; simp (implicitDefEqProofs := false) [ew, -Bool.exists_bool]; try simp (disch := omega) only [w64, wu64]) | (refine need.of (by first | omega | kernel_rfl) ?_) | (refine AW.fin ?_; try simp (implicitDefEqProofs := false) [ew, -Bool.exists_bool]))
          (try (simp (implicitDefEqProofs := false) [ew, -Bool.exists_bool]; try simp (disch := omega) only [w64, wu64]))
          repeat (first | refine AW.seq ?_ | refine AW.block ?_ | (refine AW.reg mix ?_; simp (implicitDefEqProofs := false) [ew, -Bool.exists_bool]; try simp (disch := omega) only [w64, wu64]) | (refine need.of (by first | omega | kernel_rfl) ?_) | (refine AW.fin ?_; try simp (implicitDefEqProofs := false) [ew, -Bool.exists_bool]))
          exact ⟨i + 1, l, p, ⟨by omega, hn, lw, hp⟩, by omega, by simp, Subs.refl _, d, by simp⟩
    · have hout : I < 0 ∨ (l.length : Int) ≤ I := .inl (by omega)
      refine CallS.g [2, 3, 4] (hcl) ?_
      (try (simp (implicitDefEqProofs := false) [h0, hll, htk, hnz, -Bool.exists_bool]; try simp (disch := omega) only [w64, wu64]))
      repeat (first | refine AW.seq ?_ | refine AW.block ?_ | (refine AW.reg mix ?_; simp (implicitDefEqProofs := false) [h0, hll, htk, hnz, -Bool.exists_bool]; try simp (disch := omega) only [w64, wu64]) | (refine need.of (by first | omega | kernel_rfl) ?_) | (refine AW.fin ?_; try simp (implicitDefEqProofs := false) [h0, hll, htk, hnz, -Bool.exists_bool]))
      cases st with
      | true =>
        have hls := lstate_ok yk yt yf
        have hset := cset_out l I yk yt yf hg hout
        simp only [arrO, arrV, arrB, vecO, vecB, encs_len, hn] at hset
        refine AW.cond rfl (fun h => ?_) (fun h => ?_)
        rotate_left
        · simp at h
        repeat (first | refine AW.seq ?_ | refine AW.block ?_ | (refine AW.reg mix ?_; simp (implicitDefEqProofs := false) [-Bool.exists_bool]; try simp (disch := omega) only [w64, wu64]) | (refine need.of (by first | omega | kernel_rfl) ?_) | (refine AW.fin ?_; try simp (implicitDefEqProofs := false) [-Bool.exists_bool]))
        refine CallS.pu (hls) ?_
        (try (simp (implicitDefEqProofs := false) [-Bool.exists_bool]; try simp (disch := omega) only [w64, wu64]))
        repeat (first | refine AW.seq ?_ | refine AW.block ?_ | (refine AW.reg mix ?_; simp (implicitDefEqProofs := false) [-Bool.exists_bool]; try simp (disch := omega) only [w64, wu64]) | (refine need.of (by first | omega | kernel_rfl) ?_) | (refine AW.fin ?_; try simp (implicitDefEqProofs := false) [-Bool.exists_bool]))
        refine CallS.g [2, 3, 4] (hset) ?_
        (try (simp (implicitDefEqProofs := false) [-Bool.exists_bool]; try simp (disch := omega) only [w64, wu64]))
        repeat (first | refine AW.seq ?_ | refine AW.block ?_ | (refine AW.reg mix ?_; simp (implicitDefEqProofs := false) [-Bool.exists_bool]; try simp (disch := omega) only [w64, wu64]) | (refine need.of (by first | omega | kernel_rfl) ?_) | (refine AW.fin ?_; try simp (implicitDefEqProofs := false) [-Bool.exists_bool]))
        refine AW.cond rfl (fun h => ?_) (fun h => ?_)
        rotate_left
        · simp at h
        repeat (first | refine AW.seq ?_ | refine AW.block ?_)
        refine AW.reg mix ?_
        (simp (implicitDefEqProofs := false) [-Bool.exists_bool]; try simp (disch := omega) only [w64, wu64])
        try refine need.of (by first | omega | kernel_rfl) ?_
        have his1 := is_ok l l hg lw (by omega) (by omega) (by omega)
        have his2 := is_ok l l hg lw (by omega) (by omega) (by omega)
        have hs18 := same18_ok l l (by omega) (by omega)
        have hsame := csame_ok l l hg lw lw (by omega) (by omega) (by omega) (by omega)
        rw [show decide (l = l) = decide (l = l) from decide_eq_decide.2 eq_comm] at hsame
        have htk2 : (stL l).take (n * 3) = stL l := List.take_of_length_le (by rw [stL_len]; omega)
        simp only [arrO, arrV, arrB, vecO, vecB, encs_len, hn, hn, decide_true] at his1 his2 hs18 hsame
        generalize decide (l = l) = eq at hs18 hsame
        refine AW.freeze 12 3 ⟨36, stV l⟩ (stL l) (by rfl) rfl ?_
        simp [frzs_u64s, htk2, -Bool.exists_bool]
        repeat (first | refine AW.seq ?_ | refine AW.block ?_ | (refine AW.reg mix ?_; simp (implicitDefEqProofs := false) [-Bool.exists_bool]; try simp (disch := omega) only [w64, wu64]) | (refine need.of (by first | omega | kernel_rfl) ?_) | (refine AW.fin ?_; try simp (implicitDefEqProofs := false) [-Bool.exists_bool]))
        refine CallS.g [9, 10, 11] (his1) ?_
        (try (simp (implicitDefEqProofs := false) [-Bool.exists_bool]; try simp (disch := omega) only [w64, wu64]))
        repeat (first | refine AW.seq ?_ | refine AW.block ?_ | (refine AW.reg mix ?_; simp (implicitDefEqProofs := false) [-Bool.exists_bool]; try simp (disch := omega) only [w64, wu64]) | (refine need.of (by first | omega | kernel_rfl) ?_) | (refine AW.fin ?_; try simp (implicitDefEqProofs := false) [-Bool.exists_bool]))
        refine CallS.g [2, 3, 4] (his2) ?_
        (try (simp (implicitDefEqProofs := false) [-Bool.exists_bool]; try simp (disch := omega) only [w64, wu64]))
        repeat (first | refine AW.seq ?_ | refine AW.block ?_ | (refine AW.reg mix ?_; simp (implicitDefEqProofs := false) [-Bool.exists_bool]; try simp (disch := omega) only [w64, wu64]) | (refine need.of (by first | omega | kernel_rfl) ?_) | (refine AW.fin ?_; try simp (implicitDefEqProofs := false) [-Bool.exists_bool]))
        refine CallS.o1 6 (read_ok xs p d) ?_
        (try (simp (implicitDefEqProofs := false) [-Bool.exists_bool]; try simp (disch := omega) only [w64, wu64]))
        repeat (first | refine AW.seq ?_ | refine AW.block ?_ | (refine AW.reg mix ?_; simp (implicitDefEqProofs := false) [-Bool.exists_bool]; try simp (disch := omega) only [w64, wu64]) | (refine need.of (by first | omega | kernel_rfl) ?_) | (refine AW.fin ?_; try simp (implicitDefEqProofs := false) [-Bool.exists_bool]))
        refine CallS.o1 7 (read_ok xs p d) ?_
        (try (simp (implicitDefEqProofs := false) [-Bool.exists_bool]; try simp (disch := omega) only [w64, wu64]))
        repeat (first | refine AW.seq ?_ | refine AW.block ?_ | (refine AW.reg mix ?_; simp (implicitDefEqProofs := false) [-Bool.exists_bool]; try simp (disch := omega) only [w64, wu64]) | (refine need.of (by first | omega | kernel_rfl) ?_) | (refine AW.fin ?_; try simp (implicitDefEqProofs := false) [-Bool.exists_bool]))
        refine CallS.g [2, 3, 4, 9, 10, 11] (hsame) ?_
        (try (simp (implicitDefEqProofs := false) [-Bool.exists_bool]; try simp (disch := omega) only [w64, wu64]))
        repeat (first | refine AW.seq ?_ | refine AW.block ?_ | (refine AW.reg mix ?_; simp (implicitDefEqProofs := false) [-Bool.exists_bool]; try simp (disch := omega) only [w64, wu64]) | (refine need.of (by first | omega | kernel_rfl) ?_) | (refine AW.fin ?_; try simp (implicitDefEqProofs := false) [-Bool.exists_bool]))
        refine CallS.pu (hs18) ?_
        (try (simp (implicitDefEqProofs := false) [-Bool.exists_bool]; try simp (disch := omega) only [w64, wu64]))
        repeat (first | refine AW.seq ?_ | refine AW.block ?_ | (refine AW.reg mix ?_; simp (implicitDefEqProofs := false) [-Bool.exists_bool]; try simp (disch := omega) only [w64, wu64]) | (refine need.of (by first | omega | kernel_rfl) ?_) | (refine AW.fin ?_; try simp (implicitDefEqProofs := false) [-Bool.exists_bool]))
        refine AW.cond rfl (fun h => ?_) (fun h => ?_)
        · simp at h
        repeat (first | refine AW.seq ?_ | refine AW.block ?_ | (refine AW.reg mix ?_; simp (implicitDefEqProofs := false) [ew, -Bool.exists_bool]; try simp (disch := omega) only [w64, wu64]) | (refine need.of (by first | omega | kernel_rfl) ?_) | (refine AW.fin ?_; try simp (implicitDefEqProofs := false) [ew, -Bool.exists_bool]))
        (try (simp (implicitDefEqProofs := false) [ew, -Bool.exists_bool]; try simp (disch := omega) only [w64, wu64]))
        repeat (first | refine AW.seq ?_ | refine AW.block ?_ | (refine AW.reg mix ?_; simp (implicitDefEqProofs := false) [ew, -Bool.exists_bool]; try simp (disch := omega) only [w64, wu64]) | (refine need.of (by first | omega | kernel_rfl) ?_) | (refine AW.fin ?_; try simp (implicitDefEqProofs := false) [ew, -Bool.exists_bool]))
        exact ⟨i + 1, l, p, ⟨by omega, hn, lw, hp⟩, by omega, by simp, Subs.refl _, d, by simp⟩
      | false =>
        have hadd := cadd_out (k := K) (a := A) (b := B) xs l I (min N 30) p d hg hout
        simp only [arrO, arrV, arrB, vecO, vecB, encs_len, hn] at hadd
        refine AW.cond rfl (fun h => ?_) (fun h => ?_)
        · simp at h
        repeat (first | refine AW.seq ?_ | refine AW.block ?_ | (refine AW.reg mix ?_; simp (implicitDefEqProofs := false) [-Bool.exists_bool]; try simp (disch := omega) only [w64, wu64]) | (refine need.of (by first | omega | kernel_rfl) ?_) | (refine AW.fin ?_; try simp (implicitDefEqProofs := false) [-Bool.exists_bool]))
        refine CallS.g [2, 3, 4, 6] (hadd) ?_
        (try (simp (implicitDefEqProofs := false) [-Bool.exists_bool]; try simp (disch := omega) only [w64, wu64]))
        repeat (first | refine AW.seq ?_ | refine AW.block ?_ | (refine AW.reg mix ?_; simp (implicitDefEqProofs := false) [-Bool.exists_bool]; try simp (disch := omega) only [w64, wu64]) | (refine need.of (by first | omega | kernel_rfl) ?_) | (refine AW.fin ?_; try simp (implicitDefEqProofs := false) [-Bool.exists_bool]))
        refine AW.cond rfl (fun h => ?_) (fun h => ?_)
        · simp at h
        refine AW.skip ?_
        simp [-Bool.exists_bool]
        have his1 := is_ok l l hg lw (by omega) (by omega) (by omega)
        have his2 := is_ok l l hg lw (by omega) (by omega) (by omega)
        have hs18 := same18_ok l l (by omega) (by omega)
        have hsame := csame_ok l l hg lw lw (by omega) (by omega) (by omega) (by omega)
        rw [show decide (l = l) = decide (l = l) from decide_eq_decide.2 eq_comm] at hsame
        have htk2 : (stL l).take (n * 3) = stL l := List.take_of_length_le (by rw [stL_len]; omega)
        simp only [arrO, arrV, arrB, vecO, vecB, encs_len, hn, hn, decide_true] at his1 his2 hs18 hsame
        generalize decide (l = l) = eq at hs18 hsame
        refine AW.freeze 12 3 ⟨36, stV l⟩ (stL l) (by rfl) rfl ?_
        simp [frzs_u64s, htk2, -Bool.exists_bool]
        repeat (first | refine AW.seq ?_ | refine AW.block ?_ | (refine AW.reg mix ?_; simp (implicitDefEqProofs := false) [-Bool.exists_bool]; try simp (disch := omega) only [w64, wu64]) | (refine need.of (by first | omega | kernel_rfl) ?_) | (refine AW.fin ?_; try simp (implicitDefEqProofs := false) [-Bool.exists_bool]))
        refine CallS.g [9, 10, 11] (his1) ?_
        (try (simp (implicitDefEqProofs := false) [-Bool.exists_bool]; try simp (disch := omega) only [w64, wu64]))
        repeat (first | refine AW.seq ?_ | refine AW.block ?_ | (refine AW.reg mix ?_; simp (implicitDefEqProofs := false) [-Bool.exists_bool]; try simp (disch := omega) only [w64, wu64]) | (refine need.of (by first | omega | kernel_rfl) ?_) | (refine AW.fin ?_; try simp (implicitDefEqProofs := false) [-Bool.exists_bool]))
        refine CallS.g [2, 3, 4] (his2) ?_
        (try (simp (implicitDefEqProofs := false) [-Bool.exists_bool]; try simp (disch := omega) only [w64, wu64]))
        repeat (first | refine AW.seq ?_ | refine AW.block ?_ | (refine AW.reg mix ?_; simp (implicitDefEqProofs := false) [-Bool.exists_bool]; try simp (disch := omega) only [w64, wu64]) | (refine need.of (by first | omega | kernel_rfl) ?_) | (refine AW.fin ?_; try simp (implicitDefEqProofs := false) [-Bool.exists_bool]))
        refine CallS.o1 6 (read_ok xs p d) ?_
        (try (simp (implicitDefEqProofs := false) [-Bool.exists_bool]; try simp (disch := omega) only [w64, wu64]))
        repeat (first | refine AW.seq ?_ | refine AW.block ?_ | (refine AW.reg mix ?_; simp (implicitDefEqProofs := false) [-Bool.exists_bool]; try simp (disch := omega) only [w64, wu64]) | (refine need.of (by first | omega | kernel_rfl) ?_) | (refine AW.fin ?_; try simp (implicitDefEqProofs := false) [-Bool.exists_bool]))
        refine CallS.o1 7 (read_ok xs p d) ?_
        (try (simp (implicitDefEqProofs := false) [-Bool.exists_bool]; try simp (disch := omega) only [w64, wu64]))
        repeat (first | refine AW.seq ?_ | refine AW.block ?_ | (refine AW.reg mix ?_; simp (implicitDefEqProofs := false) [-Bool.exists_bool]; try simp (disch := omega) only [w64, wu64]) | (refine need.of (by first | omega | kernel_rfl) ?_) | (refine AW.fin ?_; try simp (implicitDefEqProofs := false) [-Bool.exists_bool]))
        refine CallS.g [2, 3, 4, 9, 10, 11] (hsame) ?_
        (try (simp (implicitDefEqProofs := false) [-Bool.exists_bool]; try simp (disch := omega) only [w64, wu64]))
        repeat (first | refine AW.seq ?_ | refine AW.block ?_ | (refine AW.reg mix ?_; simp (implicitDefEqProofs := false) [-Bool.exists_bool]; try simp (disch := omega) only [w64, wu64]) | (refine need.of (by first | omega | kernel_rfl) ?_) | (refine AW.fin ?_; try simp (implicitDefEqProofs := false) [-Bool.exists_bool]))
        refine CallS.pu (hs18) ?_
        (try (simp (implicitDefEqProofs := false) [-Bool.exists_bool]; try simp (disch := omega) only [w64, wu64]))
        repeat (first | refine AW.seq ?_ | refine AW.block ?_ | (refine AW.reg mix ?_; simp (implicitDefEqProofs := false) [-Bool.exists_bool]; try simp (disch := omega) only [w64, wu64]) | (refine need.of (by first | omega | kernel_rfl) ?_) | (refine AW.fin ?_; try simp (implicitDefEqProofs := false) [-Bool.exists_bool]))
        refine AW.cond rfl (fun h => ?_) (fun h => ?_)
        · simp at h
        repeat (first | refine AW.seq ?_ | refine AW.block ?_ | (refine AW.reg mix ?_; simp (implicitDefEqProofs := false) [ew, -Bool.exists_bool]; try simp (disch := omega) only [w64, wu64]) | (refine need.of (by first | omega | kernel_rfl) ?_) | (refine AW.fin ?_; try simp (implicitDefEqProofs := false) [ew, -Bool.exists_bool]))
        (try (simp (implicitDefEqProofs := false) [ew, -Bool.exists_bool]; try simp (disch := omega) only [w64, wu64]))
        repeat (first | refine AW.seq ?_ | refine AW.block ?_ | (refine AW.reg mix ?_; simp (implicitDefEqProofs := false) [ew, -Bool.exists_bool]; try simp (disch := omega) only [w64, wu64]) | (refine need.of (by first | omega | kernel_rfl) ?_) | (refine AW.fin ?_; try simp (implicitDefEqProofs := false) [ew, -Bool.exists_bool]))
        exact ⟨i + 1, l, p, ⟨by omega, hn, lw, hp⟩, by omega, by simp, Subs.refl _, d, by simp⟩
  · by_cases g1 : (i : Int) < acts.length
    · have g2 : ¬ (i : Int) < 30 := by omega
      have g1n : i < acts.length := by omega
      have g2n : ¬ i < 30 := by omega
      repeat (first | refine AW.seq ?_ | refine AW.block ?_ | (refine AW.reg mix ?_; simp (implicitDefEqProofs := false) [g1, g1n, g2, g2n, -Bool.exists_bool]; try simp (disch := omega) only [w64, wu64]) | (refine need.of (by first | omega | kernel_rfl) ?_) | (refine AW.fin ?_; try simp (implicitDefEqProofs := false) [g1, g1n, g2, g2n, -Bool.exists_bool]))
      refine AW.cond rfl (fun h => ?_) (fun h => ?_)
      · simp [g2, g2n] at h
      refine AW.exit ?_
      (try (simp (implicitDefEqProofs := false) [-Bool.exists_bool]; try simp (disch := omega) only [w64, wu64]))
      repeat (first | refine AW.seq ?_ | refine AW.block ?_ | (refine AW.reg mix ?_; simp (implicitDefEqProofs := false) [-Bool.exists_bool]; try simp (disch := omega) only [w64, wu64]) | (refine need.of (by first | omega | kernel_rfl) ?_) | (refine AW.fin ?_; try simp (implicitDefEqProofs := false) [-Bool.exists_bool]))
    · have g1n : ¬ i < acts.length := by omega
      repeat (first | refine AW.seq ?_ | refine AW.block ?_ | (refine AW.reg mix ?_; simp (implicitDefEqProofs := false) [g1, g1n, -Bool.exists_bool]; try simp (disch := omega) only [w64, wu64]) | (refine need.of (by first | omega | kernel_rfl) ?_) | (refine AW.fin ?_; try simp (implicitDefEqProofs := false) [g1, g1n, -Bool.exists_bool]))
      refine AW.cond rfl (fun h => ?_) (fun h => ?_)
      · simp [g1, g1n] at h
      refine AW.exit ?_
      (try (simp (implicitDefEqProofs := false) [-Bool.exists_bool]; try simp (disch := omega) only [w64, wu64]))
      repeat (first | refine AW.seq ?_ | refine AW.block ?_ | (refine AW.reg mix ?_; simp (implicitDefEqProofs := false) [-Bool.exists_bool]; try simp (disch := omega) only [w64, wu64]) | (refine need.of (by first | omega | kernel_rfl) ?_) | (refine AW.fin ?_; try simp (implicitDefEqProofs := false) [-Bool.exists_bool]))
end
end Go.Proofs.YtdbfenhaljmbfaaGreat.Am
namespace Go.Proofs.YtdbfenhaljmbfaaGreat.Am
section
set_option linter.unusedVariables false
set_option linter.unusedSimpArgs false
open Go.RowKit
set_option linter.unusedVariables false

theorem reps_flat {I : Nat → Prop} {w : World} {α : Type} (f : α → List D) (g : α → List Value) (h : ∀ a, D.reps I w (f a) (g a)) : ∀ l : List α, D.reps I w (l.flatMap f) (l.map g).flatten
  | [] => by simp
  | a :: l => by
    rw [List.flatMap_cons, List.map_cons, List.flatten_cons]
    exact D.reps_append (h a) (reps_flat f g h l)
/-- a slice that came in, of elements of several cells that are data -/
theorem rep_rows {W : World} {v : Value} {s : Nat} {α : Type} {l : List α} (f : α → List D) (g : α → List Value) (hg : ∀ a, ∀ u ∈ g a, u.oneCell' = true) (hr : ∀ a, D.reps (fun b => b < W.heap.size) W (f a) (g a)) (h : Cells W v s l.length (l.map g).flatten) : V.rep (memW W) (.d (.sl l.length (l.flatMap f))) v := by
  rw [V.rep_d]
  unfold D.rep
  obtain ⟨h1, p, cap, rfl, h2, h3, h4⟩ := h
  refine ⟨p, cap, rfl, h2, h3, (l.map g).flatten, fun u hu => ?_, reps_flat f g hr l, ?_⟩
  · obtain ⟨x, hx, hu⟩ := List.mem_flatten.1 hu
    obtain ⟨a, -, rfl⟩ := List.mem_map.1 hx
    exact hg a u hu
  · rcases h4 with ⟨rfl, h5, h6⟩ | ⟨b, o, rfl, hb, hc⟩
    · left
      have : l = [] := List.eq_nil_of_length_eq_zero h5
      subst this
      exact ⟨rfl, h6, rfl⟩
    · exact .inr ⟨b, o, rfl, .inr hb, hc⟩
end
end Go.Proofs.YtdbfenhaljmbfaaGreat.Am
namespace Go.Proofs.YtdbfenhaljmbfaaGreat.Am
section
set_option linter.unusedVariables false
set_option linter.unusedSimpArgs false
open Go.RowKit
set_option maxRecDepth 100000
set_option linter.unusedSimpArgs false
set_option linter.unusedVariables false
end
end Go.Proofs.YtdbfenhaljmbfaaGreat.Am
namespace Go.Proofs.YtdbfenhaljmbfaaGreat.Am
section
set_option linter.unusedVariables false
set_option linter.unusedSimpArgs false
open Go.RowKit

theorem reps_ints {I : Nat → Prop} {w : World} : ∀ l : List Int, D.reps I w (l.map (D.int .i64)) (l.map (Value.int .i64))
  | [] => D.reps_nil.2 rfl
  | _ :: l => D.reps_cons.2 ⟨D.rep_int.2 rfl, reps_ints l⟩
theorem rep_ints {W : World} (l : List Int) : V.rep (memW W) (.d (.agg (l.map (D.int .i64)))) (.agg (l.map (Value.int .i64)).toArray) :=
  rep_agg (fun u hu => by obtain ⟨n, -, rfl⟩ := List.mem_map.1 hu; rfl) (reps_ints l)
end
end Go.Proofs.YtdbfenhaljmbfaaGreat.Am
namespace Go.Proofs.YtdbfenhaljmbfaaGreat.Am
section
set_option linter.unusedVariables false
set_option linter.unusedSimpArgs false
open Go.RowKit
end
end Go.Proofs.YtdbfenhaljmbfaaGreat.Am
namespace Go.Proofs.YtdbfenhaljmbfaaGreat.Am
section
set_option linter.unusedVariables false
set_option linter.unusedSimpArgs false
open Go.RowKit

theorem cp_walk {W : World} {u v : Value} {L : List AC} (w1 : Cells W u 6 L.length (L.map fun a => [Value.bool a.1, Value.int .i64 a.2.1, Value.int .i64 a.2.2.1, Value.int .i64 a.2.2.2.1, Value.int .i64 a.2.2.2.2.1, Value.bool a.2.2.2.2.2]).flatten) (hL : L.length ≤ maxLen) {cs : List Bool} (w2 : Bools W v cs) {k a b : Int} : Calls Tryz.prog n_Tlaw18_CarrayPlays #[.agg #[.int .i64 k, .int .i64 a, .int .i64 b], u, v] W (fun e W' => e = .returned (.bool true) ∧ Same W W') :=
  law_walk r_Tlaw18_CarrayPlays (carrayPlays_ok cs k a b L (by have := bools_len w2; unfold maxLen at this; omega) (by unfold maxLen at hL; omega))
    (V.reps_cons.2 ⟨rep_ints [k, a, b], V.reps_cons.2 ⟨rep_rows (fun a : AC => [D.bool a.1, D.int .i64 a.2.1, D.int .i64 a.2.2.1, D.int .i64 a.2.2.2.1, D.int .i64 a.2.2.2.2.1, D.bool a.2.2.2.2.2]) (fun a : AC => [Value.bool a.1, Value.int .i64 a.2.1, Value.int .i64 a.2.2.1, Value.int .i64 a.2.2.2.1, Value.int .i64 a.2.2.2.2.1, Value.bool a.2.2.2.2.2]) (fun a u hu => by simp at hu; rcases hu with rfl | rfl | rfl | rfl | rfl | rfl <;> rfl) (fun a => by simp [D.reps_cons, D.rep_int, D.rep_bool]) w1, V.reps_cons.2 ⟨rep_bools w2, V.reps_nil.2 rfl⟩⟩⟩)
end
end Go.Proofs.YtdbfenhaljmbfaaGreat.Am
