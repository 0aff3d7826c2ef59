/- package thin, walked: down, one, Add. -/
import Derived.Test.YtfcamaiehepinaaThinB
namespace Go.Proofs.Ytfcamaiehepinaa
open Go.RowKit

theorem downM_small {cs : List Bool} {most f : Nat} {s : St} {p : Nat} (h : ¬ most < s.y) : downM cs most f s p = some (s, p) := by
  cases f <;> simp [downM, h]

theorem down_any (w : World) (b : Nat) (v : Value) (cs : List Bool) (p : Nat) (most times : Nat) (s : St) (ht : TapeAt w b v cs p false) (hm : most ≤ 1023) (htm : times ≤ 20) (hy : s.y ≤ 100000) (hst : s.t ≤ times) :
    Calls Try.prog 44 #[.agg #[.int .i64 most, .int .i64 times], .pointer (some ⟨b, 0, none⟩), encSt s] w (TPost encSt (fun _ => True) w b v cs (downM cs most (times - s.t) s p)) := by
  obtain ⟨R, HR⟩ : ∃ R, Hid (downM cs most (times - s.t) s p = R) := ⟨_, rfl⟩
  rw [HR.out]
  unfold encSt
  go_enter Try.func44, Try.ntmps44
  obtain ⟨hP, hA, hC⟩ := heap_alloc3 w (.cells #[.int .i64 most, .int .i64 times] 53) (.cells #[.int .i64 s.y, .int .i64 s.t, .bool s.full] 55) (.cells #[.int .i64 0, .int .i64 0, .bool false] 55)
  have hx0 := (((Ext.refl (fun _ => False) w).alloc (.cells #[.int .i64 most, .int .i64 times] 53)).alloc (.cells #[.int .i64 s.y, .int .i64 s.t, .bool s.full] 55)).alloc (.cells #[.int .i64 0, .int .i64 0, .bool false] 55)
  have ht1 := ht.same hx0
  have hs1 : Ext (· = b) w _ := Same.ext hx0
  have hvl := ht.2.1.lt
  have hbl := ht.lt
  clear ht hx0
  go_wp2_with fail
  generalize ((w.alloc (.cells #[.int .i64 most, .int .i64 times] 53)).alloc (.cells #[.int .i64 s.y, .int .i64 s.t, .bool s.full] 55)).alloc (.cells #[.int .i64 0, .int .i64 0, .bool false] 55) = w1 at *
  go_loopg [] (times - s.t) (fun gn wr => ∃ q : Nat, ∃ s' : St, gn = times - s'.t ∧ s'.y ≤ 100000 ∧ s'.t ≤ times ∧ TapeAt wr b v cs q false ∧ wr.heap[w.heap.size]? = some (.cells #[.int .i64 most, .int .i64 times] 53 (0, 0)) ∧ wr.heap[w.heap.size + 1]? = some (.cells #[.int .i64 s'.y, .int .i64 s'.t, .bool s'.full] 55 (0, 0)) ∧ wr.heap[w.heap.size + 1 + 1]? = some (.cells #[.int .i64 0, .int .i64 0, .bool false] 55 (0, 0)) ∧ Hid (downM cs most (times - s'.t) s' q = R) ∧ Ext (· = b) w wr)
  case atStart => exact ⟨p, s, rfl, hy, hst, ht1, hP, hA, hC, HR.out, hs1⟩
  case round =>
    obtain ⟨q, s', rfl, hy', ht', ht, hP, hA, hC, Hq, hs⟩ := hrel
    clear ht1 hs1 HR
    obtain ⟨b0, b1, _, _⟩ := cells2 hP
    obtain ⟨a0, a1, a2, fA, _⟩ := cells3 hA
    obtain ⟨c0, c1, c2, fC, _⟩ := cells3 hC
    by_cases hbig : most < s'.y
    · by_cases hend : s'.t = times
      · have Hr := Hq.out
        rw [show times - s'.t = 0 by omega] at Hr
        unfold downM at Hr
        rw [if_pos hbig] at Hr
        have hb1 : ((s'.t : Int) == (times : Int)) = true := by rw [beq_iff_eq]; omega
        clear hend Hq
        replace Hr := Lib.hid Hr
        go_wp2
        obtain ⟨hA3, hx1⟩ := set1c (i := 0) (u := .int .i64 most) hA
        obtain ⟨hA4, hx2⟩ := set1c (i := 2) (u := .bool true) hA3
        have hx3 := hx1.trans hx2 (fun k hk e => e)
        obtain ⟨hC3, hx4⟩ := set3 (hx3.obj hC (by omega)) (.int .i64 most) (.int .i64 s'.t) (.bool true)
        generalize ((((wr.setCell ⟨w.heap.size + 1, 0, none⟩ (.int .i64 most)).setCell ⟨w.heap.size + 1, 2, none⟩ (.bool true)).setCell ⟨w.heap.size + 1 + 1, 0, none⟩ (.int .i64 most)).setCell ⟨w.heap.size + 1 + 1, 1, none⟩ (.int .i64 s'.t)).setCell ⟨w.heap.size + 1 + 1, 2, none⟩ (.bool true) = w3 at *
        obtain ⟨d0, d1, d2, _, _⟩ := cells3 hC3
        have := Hr.out
        subst this
        exact bodyPost_ret (v := .tuple #[encSt ⟨most, s'.t, true⟩, .int .i64 0]) (by simp [results, Try.results44, go_sem, encSt, d0, d1, d2]) rfl ⟨rfl, (ht.ext hx3 (by omega) (fun k hk => by have := hvl k hk; omega)).ext hx4 (by omega) (fun k hk => by have := hvl k hk; omega), (hs.trans hx3 (fun k hk e => by omega)).trans hx4 (fun k hk e => by omega)⟩
      · have hlt : s'.t < times := by omega
        have hb1 : ((s'.t : Int) == (times : Int)) = false := by rw [beq_eq_false_iff_ne]; omega
        have Hr := Hq.out
        rw [show times - s'.t = (times - (s'.t + 1)) + 1 by omega] at Hr
        unfold downM at Hr
        rw [if_pos hbig] at Hr
        replace Hr := Lib.hid Hr
        clear hend Hq
        go_wp2_with fail
        refine (thinned_any _ b v cs q s' 1 ht (by omega) (by omega) (by omega)).mono ?_
        intro e w2 hT
        have hql := ht.2.2.2.1
        rcases hB : thinM cs (1 : Int).toNat s' q with _ | ⟨s2, q'⟩
        · rw [hB] at hT
          have hB' : thinM cs 1 s' q = none := hB
          have := Hr.out
          rw [hB'] at this
          simp only at this
          subst this
          obtain ⟨x, _, rfl, ht2, hs2⟩ := hT
          have hA2 := hs2.obj hA (by omega)
          have hC2 := hs2.obj hC (by omega)
          have hsz := hs2.size
          have hs3 := hs.trans hs2 (fun k hk e => e)
          clear a0 a1 a2 fA c0 c1 c2 fC hB hs2 hs b0 b1 hB' Hr
          obtain ⟨a0, a1, a2, fA, _⟩ := cells3 hA2
          obtain ⟨c0, c1, c2, fC, _⟩ := cells3 hC2
          unfold encSt
          go_wp2
          obtain ⟨hC3, hx⟩ := set3 hC2 (.int .i64 s'.y) (.int .i64 s'.t) (.bool s'.full)
          generalize ((w2.setCell ⟨w.heap.size + 1 + 1, 0, none⟩ (.int .i64 s'.y)).setCell ⟨w.heap.size + 1 + 1, 1, none⟩ (.int .i64 s'.t)).setCell ⟨w.heap.size + 1 + 1, 2, none⟩ (.bool s'.full) = w3 at *
          have hal := (Ext.refl (fun _ => False) w3).alloc (.cells #[.int .i64 x.y, .int .i64 x.t, .bool x.full] 55)
          obtain ⟨d0, d1, d2, _, _⟩ := cells3 (hal.obj hC3 (fun h => h))
          exact bodyPost_ret (v := .tuple #[encSt s', .int .i64 8]) (by simp [results, Try.results44, go_sem, encSt, d0, d1, d2]) rfl ⟨s', trivial, rfl, (ht2.ext hx (by omega) (fun k hk => by have := hvl k hk; omega)).same hal, (hs3.trans hx (fun k hk e => by omega)).same hal⟩
        · rw [hB] at hT
          have hB' : thinM cs 1 s' q = some (s2, q') := hB
          have hr2 := Hr.out
          rw [hB'] at hr2
          simp only at hr2
          have hle := thinM_le hB' hql
          obtain ⟨rfl, ht2, hs2⟩ := hT
          have hP2 := hs2.obj hP (by omega)
          have hA2 := hs2.obj hA (by omega)
          have hC2 := hs2.obj hC (by omega)
          have hsz := hs2.size
          have hs3 := hs.trans hs2 (fun k hk e => e)
          have Hr2 := Lib.hid hr2
          have hle1 : s2.y ≤ 100000 := by omega
          have Hle2 : Hid (s2.t = s'.t + 1) := hle.2.2.2.1
          clear a0 a1 a2 fA c0 c1 c2 fC hB hs2 hs b0 b1 hB' Hr hr2 hle
          obtain ⟨a0, a1, a2, fA, _⟩ := cells3 hA2
          obtain ⟨c0, c1, c2, fC, _⟩ := cells3 hC2
          unfold encSt
          go_wp2
          obtain ⟨hA3, hx⟩ := set3 hA2 (.int .i64 s2.y) (.int .i64 s2.t) (.bool s2.full)
          generalize ((w2.setCell ⟨w.heap.size + 1, 0, none⟩ (.int .i64 s2.y)).setCell ⟨w.heap.size + 1, 1, none⟩ (.int .i64 s2.t)).setCell ⟨w.heap.size + 1, 2, none⟩ (.bool s2.full) = w3 at *
          have hal := (Ext.refl (fun _ => False) w3).alloc (.cells #[.int .i64 s2.y, .int .i64 s2.t, .bool s2.full] 55)
          have hl2 := Hle2.out
          go_roundg (times - s2.t)
          case measure => omega
          case rel => exact ⟨q', s2, rfl, hle1, by omega, (ht2.ext hx (by omega) (fun k hk => by have := hvl k hk; omega)).same hal, hal.obj (hx.obj hP2 (by omega)) (fun h => h), hal.obj hA3 (fun h => h), hal.obj (hx.obj hC2 (by omega)) (fun h => h), by rw [hl2]; exact Hr2.out, (hs3.trans hx (fun k hk e => by omega)).same hal⟩
    · have Hr := Hq.out
      rw [downM_small hbig] at Hr
      have hb0 : ¬ (most : Int) < (s'.y : Int) := by omega
      go_wp2
      subst Hr
      obtain ⟨hC3, hx⟩ := set3 hC (.int .i64 s'.y) (.int .i64 s'.t) (.bool s'.full)
      generalize ((wr.setCell ⟨w.heap.size + 1 + 1, 0, none⟩ (.int .i64 s'.y)).setCell ⟨w.heap.size + 1 + 1, 1, none⟩ (.int .i64 s'.t)).setCell ⟨w.heap.size + 1 + 1, 2, none⟩ (.bool s'.full) = w3 at *
      obtain ⟨d0, d1, d2, _, _⟩ := cells3 hC3
      exact bodyPost_ret (v := .tuple #[encSt s', .int .i64 0]) (by simp [results, Try.results44, go_sem, encSt, d0, d1, d2]) rfl ⟨rfl, ht.ext hx (by omega) (fun k hk => by have := hvl k hk; omega), hs.trans hx (fun k hk e => by omega)⟩

end Go.Proofs.Ytfcamaiehepinaa
