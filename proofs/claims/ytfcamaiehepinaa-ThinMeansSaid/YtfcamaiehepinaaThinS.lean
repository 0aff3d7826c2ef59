/- the reference of thin, walked: Down. -/
import Derived.Test.YtfcamaiehepinaaThinR
namespace Go.Proofs.Ytfcamaiehepinaa
open Go.RowKit

theorem rdown_any (w : World) (pa : Option Addr) (ca : Nat) (cs : List Bool) (p most times : Nat) (s : St) (hb : Bools w (.slice pa cs.length ca) cs) (hl : cs.length ≤ 1000) (hp : p ≤ cs.length) (hm : most ≤ 1023) (htm : times ≤ 20) (hy : s.y ≤ 100000) (hst : s.t ≤ times) :
    Calls Try.prog 42 #[.agg #[.int .i64 most, .int .i64 times], .slice pa cs.length ca, .int .i64 p, encSt s] w (RPost encOut (fun _ => True) p cs.length w (downM cs most (times - s.t) s p)) := by
  obtain ⟨R, HR⟩ : ∃ R, Hid (downM cs most (times - s.t) s p = R) := ⟨_, rfl⟩
  rw [HR.out]
  unfold encSt
  go_enter Try.func42, Try.ntmps42
  obtain ⟨hP, hA, hC⟩ := heap_alloc3 w (.cells #[.int .i64 most, .int .i64 times] 48) (.cells #[.int .i64 s.y, .int .i64 s.t, .bool s.full] 50) (.cells #[.int .i64 0, .int .i64 0, .bool false, .int .i64 0, .int .i64 0] 60)
  have hs1 := (((Ext.refl (fun _ => False) w).alloc (.cells #[.int .i64 most, .int .i64 times] 48)).alloc (.cells #[.int .i64 s.y, .int .i64 s.t, .bool s.full] 50)).alloc (.cells #[.int .i64 0, .int .i64 0, .bool false, .int .i64 0, .int .i64 0] 60)
  go_wp2_with fail
  generalize ((w.alloc (.cells #[.int .i64 most, .int .i64 times] 48)).alloc (.cells #[.int .i64 s.y, .int .i64 s.t, .bool s.full] 50)).alloc (.cells #[.int .i64 0, .int .i64 0, .bool false, .int .i64 0, .int .i64 0] 60) = w1 at *
  go_loopg [9] (times - s.t) (fun gn k wr => ∃ q : Nat, ∃ s' : St, gn = times - s'.t ∧ p ≤ q ∧ q ≤ cs.length ∧ k = .int .i64 ((q : Int) - p) ∧ s'.y ≤ 100000 ∧ s'.t ≤ times ∧ wr.heap[w.heap.size]? = some (.cells #[.int .i64 most, .int .i64 times] 48 (0, 0)) ∧ wr.heap[w.heap.size + 1]? = some (.cells #[.int .i64 s'.y, .int .i64 s'.t, .bool s'.full] 50 (0, 0)) ∧ wr.heap[w.heap.size + 1 + 1]? = some (.cells #[.int .i64 0, .int .i64 0, .bool false, .int .i64 0, .int .i64 0] 60 (0, 0)) ∧ Hid (downM cs most (times - s'.t) s' q = R) ∧ Same w wr)
  case atStart => exact ⟨p, s, rfl, Nat.le_refl _, hp, by simp, hy, hst, hP, hA, hC, HR.out, hs1⟩
  case round =>
    obtain ⟨q, s', rfl, hpq, hql, rfl, hy', ht', hP, hA, hC, Hq, hs⟩ := hrel
    clear hs1 HR
    obtain ⟨b0, b1, _, _⟩ := cells2 hP
    obtain ⟨a0, a1, a2, fA, hAl⟩ := cells3 hA
    obtain ⟨c0, c1, c2, c3, c4, fC, hCl⟩ := cells5 hC
    by_cases hbig : most < s'.y
    · by_cases hend : s'.t = times
      · have Hr := Hq.out
        rw [show times - s'.t = 0 by omega] at Hr
        unfold downM at Hr
        rw [if_pos hbig] at Hr
        have hb1 : ¬ (s'.t : Int) < times := by omega
        clear hend Hq
        replace Hr := Lib.hid Hr
        go_wp2
        obtain ⟨hA3, hx1⟩ := set1c (i := 0) (u := .int .i64 most) hA
        obtain ⟨hA4, hx2⟩ := set1c (i := 2) (u := .bool true) hA3
        have hx3 := hx1.trans hx2 (fun k hk e => e)
        obtain ⟨hC5, hx5⟩ := set5 (hx3.obj hC (by omega)) (.int .i64 most) (.int .i64 s'.t) (.bool true) (.int .i64 ((q : Int) - p)) (.int .i64 0)
        generalize ((((((wr.setCell ⟨w.heap.size + 1, 0, none⟩ (.int .i64 most)).setCell ⟨w.heap.size + 1, 2, none⟩ (.bool true)).setCell ⟨w.heap.size + 1 + 1, 0, none⟩ (.int .i64 most)).setCell ⟨w.heap.size + 1 + 1, 1, none⟩ (.int .i64 s'.t)).setCell ⟨w.heap.size + 1 + 1, 2, none⟩ (.bool true)).setCell ⟨w.heap.size + 1 + 1, 3, none⟩ (.int .i64 ((q : Int) - p))).setCell ⟨w.heap.size + 1 + 1, 4, none⟩ (.int .i64 0) = w5 at *
        obtain ⟨d0, d1, d2, d3, d4, _, _⟩ := cells5 hC5
        have := Hr.out
        subst this
        exact bodyPost_ret (v := encOut ⟨most, s'.t, true⟩ ((q : Int) - p) 0) (by simp [results, Try.results42, go_sem, encOut, d0, d1, d2, d3, d4]) rfl ⟨rfl, (hs.trans hx3 (fun k hk e => by omega)).trans hx5 (fun k hk e => by omega)⟩
      · have hlt : s'.t < times := by omega
        have Hr := Hq.out
        rw [show times - s'.t = (times - (s'.t + 1)) + 1 by omega] at Hr
        unfold downM at Hr
        rw [if_pos hbig] at Hr
        replace Hr := Lib.hid Hr
        clear hend Hq
        go_wp2_with fail
        rw [show (p : Int) + ((q : Int) - p) = (q : Int) by omega]
        refine (rthin_any _ pa ca cs q s' 1 (hb.same hs) hl hql (by omega) (by omega) (by omega)).mono ?_
        intro e w2 hT
        rcases hB : thinM cs (1 : Int).toNat s' q with _ | ⟨s2, q'⟩
        · rw [hB] at hT
          have hB' : thinM cs 1 s' q = none := hB
          have := Hr.out
          rw [hB'] at this
          simp only at this
          subst this
          obtain ⟨x, _, rfl, hs2⟩ := hT
          have hA2 := hs2.obj hA (fun h => h)
          have hC2 := hs2.obj hC (fun h => h)
          have hs3 := hs.same hs2
          clear a0 a1 a2 fA c0 c1 c2 c3 c4 fC hB hs2 hs b0 b1 hB' Hr
          obtain ⟨a0, a1, a2, fA, hAl⟩ := cells3 hA2
          obtain ⟨c0, c1, c2, c3, c4, fC, hCl⟩ := cells5 hC2
          unfold encOut
          go_wp2
          obtain ⟨hC5, hx5⟩ := set5 hC2 (.int .i64 s'.y) (.int .i64 s'.t) (.bool s'.full) (.int .i64 ((q : Int) - p + ((cs.length : Int) - q))) (.int .i64 8)
          generalize ((((w2.setCell ⟨w.heap.size + 1 + 1, 0, none⟩ (.int .i64 s'.y)).setCell ⟨w.heap.size + 1 + 1, 1, none⟩ (.int .i64 s'.t)).setCell ⟨w.heap.size + 1 + 1, 2, none⟩ (.bool s'.full)).setCell ⟨w.heap.size + 1 + 1, 3, none⟩ (.int .i64 ((q : Int) - p + ((cs.length : Int) - q)))).setCell ⟨w.heap.size + 1 + 1, 4, none⟩ (.int .i64 8) = w5 at *
          have hal := (Ext.refl (fun _ => False) w5).alloc (.cells #[.int .i64 x.y, .int .i64 x.t, .bool x.full, .int .i64 ((cs.length : Int) - q), .int .i64 8] 60)
          obtain ⟨d0, d1, d2, d3, d4, _, _⟩ := cells5 (hal.obj hC5 (fun h => h))
          exact bodyPost_ret (v := encOut s' ((cs.length : Int) - p) 8) (by simp [results, Try.results42, go_sem, encOut, d0, d1, d2, d3, d4]; omega) rfl ⟨s', trivial, rfl, (hs3.trans hx5 (fun k hk e => by omega)).same hal⟩
        · rw [hB] at hT
          have hB' : thinM cs 1 s' q = some (s2, q') := hB
          have hr2 := Hr.out
          rw [hB'] at hr2
          simp only at hr2
          have hle := thinM_le hB' hql
          obtain ⟨l1, l2, l3, l4, l5⟩ := hle
          obtain ⟨rfl, hs2⟩ := hT
          have hP2 := hs2.obj hP (fun h => h)
          have hA2 := hs2.obj hA (fun h => h)
          have hC2 := hs2.obj hC (fun h => h)
          have hs3 := hs.same hs2
          have Hr2 := Lib.hid hr2
          have Hle2 : Hid (s2.t = s'.t + 1) := l4
          clear a0 a1 a2 fA c0 c1 c2 c3 c4 fC hB hs2 hs b0 b1 hB' Hr hr2 l4 l5
          obtain ⟨a0, a1, a2, fA, hAl⟩ := cells3 hA2
          unfold encOut
          go_wp2
          obtain ⟨hA3, hx⟩ := set3 hA2 (.int .i64 s2.y) (.int .i64 s2.t) (.bool s2.full)
          generalize ((w2.setCell ⟨w.heap.size + 1, 0, none⟩ (.int .i64 s2.y)).setCell ⟨w.heap.size + 1, 1, none⟩ (.int .i64 s2.t)).setCell ⟨w.heap.size + 1, 2, none⟩ (.bool s2.full) = w3 at *
          have hal := (Ext.refl (fun _ => False) w3).alloc (.cells #[.int .i64 s2.y, .int .i64 s2.t, .bool s2.full, .int .i64 ((q' : Int) - q), .int .i64 0] 60)
          have hl2 := Hle2.out
          go_roundg (times - s2.t)
          case measure => omega
          case rel => exact ⟨q', s2, rfl, by omega, l2, by congr 1; omega, by omega, by omega, hal.obj (hx.obj hP2 (by omega)) (fun h => h), hal.obj hA3 (fun h => h), hal.obj (hx.obj hC2 (by omega)) (fun h => h), by rw [hl2]; exact Hr2.out, (hs3.trans hx (fun k hk e => by omega)).same hal⟩
    · have Hr := Hq.out
      rw [downM_small hbig] at Hr
      have hb0 : ¬ (most : Int) < (s'.y : Int) := by omega
      go_wp2
      subst Hr
      obtain ⟨hC5, hx5⟩ := set5 hC (.int .i64 s'.y) (.int .i64 s'.t) (.bool s'.full) (.int .i64 ((q : Int) - p)) (.int .i64 0)
      generalize ((((wr.setCell ⟨w.heap.size + 1 + 1, 0, none⟩ (.int .i64 s'.y)).setCell ⟨w.heap.size + 1 + 1, 1, none⟩ (.int .i64 s'.t)).setCell ⟨w.heap.size + 1 + 1, 2, none⟩ (.bool s'.full)).setCell ⟨w.heap.size + 1 + 1, 3, none⟩ (.int .i64 ((q : Int) - p))).setCell ⟨w.heap.size + 1 + 1, 4, none⟩ (.int .i64 0) = w5 at *
      obtain ⟨d0, d1, d2, d3, d4, _, _⟩ := cells5 hC5
      exact bodyPost_ret (v := encOut s' ((q : Int) - p) 0) (by simp [results, Try.results42, go_sem, encOut, d0, d1, d2, d3, d4]) rfl ⟨rfl, hs.trans hx5 (fun k hk e => by omega)⟩

end Go.Proofs.Ytfcamaiehepinaa
