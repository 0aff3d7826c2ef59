/- the reference of thin, walked: Merge. -/
import Derived.Test.YtfcamaiehepinaaThinU
namespace Go.Proofs.Ytfcamaiehepinaa
open Go.RowKit

set_option maxRecDepth 100000 in
set_option maxHeartbeats 2000000 in
theorem rmerge_any (w : World) (pa : Option Addr) (ca : Nat) (cs : List Bool) (most times : Nat) (s o : St) (hb : Bools w (.slice pa cs.length ca) cs) (hl : cs.length ≤ 1000) (hm : most ≤ 1023) (htm : times ≤ 20) (hok : s.ok most times) (hoo : o.ok most times) :
    Calls Try.prog 32 #[.agg #[.int .i64 most, .int .i64 times], .slice pa cs.length ca, .int .i64 0, encSt s, encSt o] w (RPost encOut (fun _ => True) 0 cs.length w (mergeM cs most times s o 0)) := by
  obtain ⟨R, HR⟩ : ∃ R, Hid (mergeM cs most times s o 0 = R) := ⟨_, rfl⟩
  rw [HR.out]
  unfold encSt
  go_enter Try.func32, Try.ntmps32
  have hsy := hok.1
  have hst := hok.2.1
  have hoy := hoo.1
  have hot := hoo.2.1
  have HR0 := HR.out
  unfold mergeM at HR0
  clear HR
  go_wp2_with fail
  refine (rthin_any _ pa ca cs 0 s _ (hb.same (by simp [ext_s])) hl (Nat.zero_le _) (by omega) (by omega) (by omega)).mono ?_
  rw [show ((o.t : Int) - s.t).toNat = o.t - s.t by omega]
  intro e w2 hT
  rcases hB : thinM cs (o.t - s.t) s 0 with _ | ⟨a, p1⟩ <;> rw [hB] at hT HR0
  · obtain ⟨x, -, rfl, hs2⟩ := hT
    have m2 := hs2.read [(w.heap.size, 2), (w.heap.size + 1, 3), (w.heap.size + 1 + 1, 3), (w.heap.size + 1 + 1 + 1, 5)] (by simp; omega)
    simp [Reads, SameN, go_sem] at m2
    have hs : Same w w2 := hs2.to (by simp [ext_s])
    clear hs2 hB
    unfold encOut
    go_wp2
    subst HR0
    exact bodyPost_ret (v := encOut x cs.length 8) (by simp [results, Try.results32, go_sem, encOut, m2]) rfl ⟨x, trivial, by simp, by simp [ext_s, hs, hs.size]⟩
  · obtain ⟨rfl, hs2⟩ := hT
    have m2 := hs2.read [(w.heap.size, 2), (w.heap.size + 1, 3), (w.heap.size + 1 + 1, 3), (w.heap.size + 1 + 1 + 1, 5)] (by simp; omega)
    simp [Reads, SameN, go_sem] at m2
    have hs : Same w w2 := hs2.to (by simp [ext_s])
    obtain ⟨q1, q2, q3, q4, q5⟩ := thinM_le hB (Nat.zero_le _)
    replace q4 := Lib.hid q4
    clear hs2 hB q5
    unfold encOut
    go_wp2_with fail
    refine (rthin_any _ pa ca cs p1 o _ (hb.same (by simp [ext_s, hs, hs.size])) hl q2 (by omega) (by omega) (by omega)).mono ?_
    rw [show ((s.t : Int) - o.t).toNat = s.t - o.t by omega]
    intro e w3 hT
    rcases hB : thinM cs (s.t - o.t) o p1 with _ | ⟨c, p2⟩ <;> rw [hB] at hT HR0
    · obtain ⟨x, -, rfl, hs3⟩ := hT
      have m3 := hs3.read [(w.heap.size, 2), (w.heap.size + 1, 3), (w.heap.size + 1 + 1, 3), (w.heap.size + 1 + 1 + 1, 5), (w2.heap.size, 5)] (by simp; omega)
      simp [Reads, SameN, go_sem, m2] at m3
      have hs : Same w w3 := hs3.to (by simp [ext_s, hs, hs.size])
      clear hs3 hB m2
      unfold encOut
      go_wp2
      subst HR0
      exact bodyPost_ret (v := encOut s cs.length 8) (by simp [results, Try.results32, go_sem, encOut, m3]; try omega) rfl ⟨s, trivial, by simp, by simp [ext_s, hs, hs.size]⟩
    · obtain ⟨rfl, hs3⟩ := hT
      have m3 := hs3.read [(w.heap.size, 2), (w.heap.size + 1, 3), (w.heap.size + 1 + 1, 3), (w.heap.size + 1 + 1 + 1, 5), (w2.heap.size, 5)] (by simp; omega)
      simp [Reads, SameN, go_sem, m2] at m3
      have hs : Same w w3 := hs3.to (by simp [ext_s, hs, hs.size])
      obtain ⟨r1, r2, r3, r4, r5⟩ := thinM_le hB q2
      clear hs3 m2 hB r4 r5
      have q4' := q4.out
      have hd := rdown_any (w3.alloc (.cells #[.int .i64 c.y, .int .i64 c.t, .bool c.full, .int .i64 ((p2 : Int) - p1), .int .i64 0] 60)) pa ca cs p2 most times ⟨a.y + c.y, a.t, s.full || o.full⟩ (hb.same (by simp [ext_s, hs, hs.size])) hl r2 hm htm (by simp only; omega) (by simp only; omega)
      unfold encSt at hd
      simp only [HR0, Int.natCast_add] at hd
      clear q4'
      replace hd := Lib.hid hd
      have hz := hs.size
      unfold encOut
      cases hf : s.full <;> (simp only [hf, Bool.true_or, Bool.false_or] at hd; go_wp2_with fail; rw [show ((p1 : Int) + ((p2 : Int) - p1)) = (p2 : Int) by omega]; refine hd.out.mono ?_)
      all_goals
        clear hd
        intro e w4 hT
        rcases R with _ | ⟨s4, p4⟩
        · obtain ⟨x, -, rfl, hs4⟩ := hT
          have m4 := hs4.read [(w.heap.size, 2), (w.heap.size + 1, 3), (w.heap.size + 1 + 1, 3), (w.heap.size + 1 + 1 + 1, 5), (w2.heap.size, 5), (w3.heap.size, 5)] (by simp; omega)
          simp [Reads, SameN, go_sem, m3] at m4
          have hs : Same w w4 := hs4.to (by simp [ext_s, hs, hs.size])
          clear hs4 m3
          unfold encOut
          go_wp2
          exact bodyPost_ret (v := encOut x cs.length 8) (by simp [results, Try.results32, go_sem, encOut, m4]; omega) rfl ⟨x, trivial, by simp, by simp [ext_s, hs, hs.size]⟩
        · obtain ⟨rfl, hs4⟩ := hT
          have m4 := hs4.read [(w.heap.size, 2), (w.heap.size + 1, 3), (w.heap.size + 1 + 1, 3), (w.heap.size + 1 + 1 + 1, 5), (w2.heap.size, 5), (w3.heap.size, 5)] (by simp; omega)
          simp [Reads, SameN, go_sem, m3] at m4
          have hs : Same w w4 := hs4.to (by simp [ext_s, hs, hs.size])
          have hp4 := (downM_le HR0 r2).2.1
          clear hs4 m3
          unfold encOut
          go_wp2
          exact bodyPost_ret (v := encOut s4 p4 0) (by simp [results, Try.results32, go_sem, encOut, m4]; omega) rfl ⟨by simp, by simp [ext_s, hs, hs.size]⟩

end Go.Proofs.Ytfcamaiehepinaa
