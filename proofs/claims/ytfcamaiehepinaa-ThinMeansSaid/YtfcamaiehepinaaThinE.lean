/- package thin, walked: Add, Inc. -/
import Derived.Test.YtfcamaiehepinaaThinD
namespace Go.Proofs.Ytfcamaiehepinaa
open Go.RowKit

/-- one state, boxed as a slice -/
theorem Cells.st1 (w : World) (s : St) (T : TypeId) : Cells (w.alloc (.cells #[.int .i64 s.y, .int .i64 s.t, .bool s.full] T)) (.slice (some ⟨w.heap.size, 0, none⟩) 1 1) 3 [s].length ([s].map cellsSt).flatten := by
  refine ⟨rfl, _, 1, rfl, Nat.le_refl _, by unfold maxLen; omega, .inr ⟨_, _, rfl, by simp, fun i u' hi => ?_⟩⟩
  rw [Nat.zero_add, World.cell?_alloc_new]
  simpa [cellsSt] using hi

set_option maxRecDepth 100000 in
theorem add_any (w : World) (b : Nat) (v : Value) (cs : List Bool) (p : Nat) (most times : Nat) (s : St) (n : Int) (ht : TapeAt w b v cs p false) (hg : goodThin most times) (hok : s.ok most times) (hn : n ≤ 1048576) :
    Calls Try.prog 27 #[.agg #[.int .i64 most, .int .i64 times], .pointer (some ⟨b, 0, none⟩), encSt s, .int .i64 n] w (TPost encSt (· = s) w b v cs (addM cs most times n.toNat s p)) := by
  obtain ⟨R, HR⟩ : ∃ R, Hid (addM cs most times n.toNat s p = R) := ⟨_, rfl⟩
  rw [HR.out]
  unfold encSt
  go_enter Try.func27, Try.ntmps27
  obtain ⟨hP, hA, hC⟩ := heap_alloc3 w (.cells #[.int .i64 most, .int .i64 times] 53) (.cells #[.int .i64 s.y, .int .i64 s.t, .bool s.full] 55) (.cells #[.int .i64 0, .int .i64 0, .bool false] 55)
  have hx0 := (((Ext.refl (fun _ => False) w).alloc (.cells #[.int .i64 most, .int .i64 times] 53)).alloc (.cells #[.int .i64 s.y, .int .i64 s.t, .bool s.full] 55)).alloc (.cells #[.int .i64 0, .int .i64 0, .bool false] 55)
  have hvl := ht.2.1.lt
  have hbl := ht.lt
  have hb1 := hok.1
  have hb2 := hok.2.1
  have hg1 := hg.2.1
  have hg2 := hg.2.2
  go_wp2_with fail
  refine (twrong_ok _ most times (some ⟨w.heap.size + 1 + 1 + 1, 0, none⟩) 1 [s] (by have := Cells.st1 (((w.alloc (.cells #[.int .i64 most, .int .i64 times] 53)).alloc (.cells #[.int .i64 s.y, .int .i64 s.t, .bool s.full] 55)).alloc (.cells #[.int .i64 0, .int .i64 0, .bool false] 55)) s 55; simpa using this) hg (by intro x hx; simp at hx; subst hx; exact hok) (by simp)).mono ?_
  rintro e w1 ⟨rfl, hs0⟩
  have hs1 := (hx0.alloc _).same hs0
  have hP1 := (((Ext.refl (fun _ => False) _).alloc _).same hs0).obj hP (fun h => h)
  have hA1 := (((Ext.refl (fun _ => False) _).alloc _).same hs0).obj hA (fun h => h)
  have hC1 := (((Ext.refl (fun _ => False) _).alloc _).same hs0).obj hC (fun h => h)
  have ht1 := ht.same hs1
  have hsz := hs1.size
  have hs2 : Ext (· = b) w w1 := Same.ext hs1
  clear hP hA hC hx0 hs0 hs1 ht
  obtain ⟨b0, b1, _, _⟩ := cells2 hP1
  obtain ⟨a0, a1, a2, fA, _⟩ := cells3 hA1
  obtain ⟨c0, c1, c2, fC, hCl⟩ := cells3 hC1
  go_upto_region 7 with fail
  obtain ⟨N, hN⟩ : ∃ N, N = w1.heap.size := ⟨_, rfl⟩
  have hNw : w.heap.size + 1 + 1 < N := by rw [hN]; exact hCl
  have hNh : (w1.alloc (.cells #[.int .i64 s.y, .int .i64 s.t, .bool s.full] 55)).heap[N]? = some (.cells #[.int .i64 s.y, .int .i64 s.t, .bool s.full] 55 (0, 0)) := by rw [hN]; exact heap_alloc_new _ _
  rw [← hN]
  have hal := (Ext.refl (fun _ => False) w1).alloc (.cells #[.int .i64 s.y, .int .i64 s.t, .bool s.full] 55)
  have hP2 := hal.obj hP1 (fun h => h)
  have hA2 := hal.obj hA1 (fun h => h)
  have hC2 := hal.obj hC1 (fun h => h)
  have ht2 := ht1.same hal
  have hs3 := hs2.same hal
  clear hal hP1 hA1 hC1 ht1 hs2 hN a0 a1 a2 fA c0 c1 c2 fC b0 b1
  generalize w1.alloc (.cells #[.int .i64 s.y, .int .i64 s.t, .bool s.full] 55) = w2 at *
  go_cut [27, 28] (fun a z wx => (∃ m : Nat, a = .int .i64 m ∧ m ≤ 1048576 ∧ Hid (addM cs most times m s p = R)) ∧ z = .int .i64 (0 : Nat) ∧ w2 = wx)
  case first =>
    by_cases h0 : 0 ≤ n
    · obtain ⟨m, rfl⟩ := Int.eq_ofNat_of_zero_le h0
      go_wp2
      all_goals
        go_meet
        refine ⟨⟨m, ?_, by omega, HR.out⟩, rfl, rfl⟩
        first | rfl | (congr 1; omega)
    · go_wp2
      go_meet
      refine ⟨⟨0, rfl, by omega, ?_⟩, rfl, rfl⟩
      have := HR.out
      rwa [show n.toNat = 0 by omega] at this
  case rest =>
    obtain ⟨⟨m, rfl, hm, Hm⟩, rfl, rfl⟩ := hcut
    clear HR hn
    have hpl := ht2.2.2.2.1
    go_wp2_with fail
    go_loopw [28] (fun a wr => ∃ i q : Nat, ∃ s' : St, i ≤ m ∧ a = .int .i64 i ∧ s'.ok most times ∧ TapeAt wr b v cs q false ∧ wr.heap[w.heap.size]? = some (.cells #[.int .i64 most, .int .i64 times] 53 (0, 0)) ∧ wr.heap[w.heap.size + 1]? = some (.cells #[.int .i64 s.y, .int .i64 s.t, .bool s.full] 55 (0, 0)) ∧ wr.heap[w.heap.size + 1 + 1]? = some (.cells #[.int .i64 0, .int .i64 0, .bool false] 55 (0, 0)) ∧ wr.heap[N]? = some (.cells #[.int .i64 s'.y, .int .i64 s'.t, .bool s'.full] 55 (0, 0)) ∧ Hid (addM cs most times (m - i) s' q = R) ∧ Ext (· = b) w wr) (fun a _ => m - (intOf a).toNat)
    case atStart => exact ⟨0, p, s, Nat.zero_le _, rfl, hok, ht2, hP2, hA2, hC2, hNh, Hm.out, hs3⟩
    case round =>
      obtain ⟨i, q, s', hi, rfl, hok', ht, hP, hA, hC, hN, Hq, hs⟩ := hrel
      clear ht2 hP2 hA2 hC2 hNh Hm hs3
      obtain ⟨b0, b1, _, _⟩ := cells2 hP
      obtain ⟨a0, a1, a2, fA, _⟩ := cells3 hA
      obtain ⟨c0, c1, c2, fC, _⟩ := cells3 hC
      obtain ⟨n0, n1, n2, fN, hNl⟩ := cells3 hN
      have hql := ht.2.2.2.1
      by_cases him : i < m
      · have Hq' : Hid ((match oneM cs most times s' q with | some (s2, q') => addM cs most times (m - (i + 1)) s2 q' | none => none) = R) := by
          have := Hq.out
          rw [show m - i = (m - (i + 1)) + 1 by omega] at this
          exact this
        clear Hq
        go_wp2_with fail
        refine (one_any _ b v cs q most times s' ht hg1 hg2 (by have := hok'.1; omega) hok'.2.1).mono ?_
        intro e w3 hT
        rcases hB : oneM cs most times s' q with _ | ⟨s2, q'⟩
        · rw [hB] at hT Hq'
          have Hr := Hq'.out
          simp only at Hr
          subst Hr
          obtain ⟨x, _, rfl, ht3, hs3⟩ := hT
          have hA3 := hs3.obj hA (by omega)
          have hC3 := hs3.obj hC (by omega)
          have hs4 := hs.trans hs3 (fun k hk e => e)
          clear a0 a1 a2 fA c0 c1 c2 fC n0 n1 n2 fN b0 b1 hB hs hs3
          obtain ⟨a0, a1, a2, fA, _⟩ := cells3 hA3
          obtain ⟨c0, c1, c2, fC, _⟩ := cells3 hC3
          unfold encSt
          go_wp2
          obtain ⟨hC4, hx⟩ := set3 hC3 (.int .i64 s.y) (.int .i64 s.t) (.bool s.full)
          generalize ((w3.setCell ⟨w.heap.size + 1 + 1, 0, none⟩ (.int .i64 s.y)).setCell ⟨w.heap.size + 1 + 1, 1, none⟩ (.int .i64 s.t)).setCell ⟨w.heap.size + 1 + 1, 2, none⟩ (.bool s.full) = w5 at *
          have hal := (Ext.refl (fun _ => False) w5).alloc (.cells #[.int .i64 x.y, .int .i64 x.t, .bool x.full] 55)
          obtain ⟨d0, d1, d2, _, _⟩ := cells3 (hal.obj hC4 (fun h => h))
          exact bodyPost_ret (v := .tuple #[encSt s, .int .i64 8]) (by simp [results, Try.results27, go_sem, encSt, d0, d1, d2]) rfl ⟨s, rfl, rfl, (ht3.ext hx (by omega) (fun k hk => by have := hvl k hk; omega)).same hal, (hs4.trans hx (fun k hk e => by omega)).same hal⟩
        · rw [hB] at hT Hq'
          have hok2 := oneM_ok hB hql hok'
          obtain ⟨rfl, ht3, hs3⟩ := hT
          have hP3 := hs3.obj hP (by omega)
          have hA3 := hs3.obj hA (by omega)
          have hC3 := hs3.obj hC (by omega)
          have hN3 := hs3.obj hN (by omega)
          have hs4 := hs.trans hs3 (fun k hk e => e)
          have hok3 := Lib.hid hok2.1
          clear a0 a1 a2 fA c0 c1 c2 fC n0 n1 n2 fN b0 b1 hB hs hs3 hok2
          obtain ⟨n0, n1, n2, fN, hNl⟩ := cells3 hN3
          unfold encSt
          go_wp2
          obtain ⟨hN4, hx⟩ := set3 hN3 (.int .i64 s2.y) (.int .i64 s2.t) (.bool s2.full)
          generalize ((w3.setCell ⟨N, 0, none⟩ (.int .i64 s2.y)).setCell ⟨N, 1, none⟩ (.int .i64 s2.t)).setCell ⟨N, 2, none⟩ (.bool s2.full) = w5 at *
          have hal := (Ext.refl (fun _ => False) w5).alloc (.cells #[.int .i64 s2.y, .int .i64 s2.t, .bool s2.full] 55)
          go_roundw
          case rel => exact ⟨i + 1, q', s2, by omega, by go_num, hok3.out, (ht3.ext hx (by omega) (fun k hk => by have := hvl k hk; omega)).same hal, hal.obj (hx.obj hP3 (by omega)) (fun h => h), hal.obj (hx.obj hA3 (by omega)) (fun h => h), hal.obj (hx.obj hC3 (by omega)) (fun h => h), hal.obj hN4 (fun h => h), Hq'.out, (hs4.trans hx (fun k hk e => by omega)).same hal⟩
          case measure => simp [intOf]; omega
      · have : i = m := by omega
        subst this
        go_wp2
        have Hr := Hq.out
        rw [Nat.sub_self] at Hr
        subst Hr
        obtain ⟨hC4, hx⟩ := set3 hC (.int .i64 s'.y) (.int .i64 s'.t) (.bool s'.full)
        generalize ((wr.setCell ⟨w.heap.size + 1 + 1, 0, none⟩ (.int .i64 s'.y)).setCell ⟨w.heap.size + 1 + 1, 1, none⟩ (.int .i64 s'.t)).setCell ⟨w.heap.size + 1 + 1, 2, none⟩ (.bool s'.full) = w5 at *
        obtain ⟨d0, d1, d2, _, _⟩ := cells3 hC4
        exact bodyPost_ret (v := .tuple #[encSt s', .int .i64 0]) (by simp [results, Try.results27, go_sem, encSt, d0, d1, d2]) rfl ⟨rfl, ht.ext hx (by omega) (fun k hk => by have := hvl k hk; omega), hs.trans hx (fun k hk e => by omega)⟩

theorem inc_any (w : World) (b : Nat) (v : Value) (cs : List Bool) (p : Nat) (most times : Nat) (s : St) (ht : TapeAt w b v cs p false) (hg : goodThin most times) (hok : s.ok most times) :
    Calls Try.prog 37 #[.agg #[.int .i64 most, .int .i64 times], .pointer (some ⟨b, 0, none⟩), encSt s] w (TPost encSt (· = s) w b v cs (addM cs most times 1 s p)) := by
  obtain ⟨R, HR⟩ : ∃ R, Hid (addM cs most times 1 s p = R) := ⟨_, rfl⟩
  rw [HR.out]
  unfold encSt
  go_enter Try.func37, Try.ntmps37
  obtain ⟨hP, hA, hC⟩ := heap_alloc3 w (.cells #[.int .i64 most, .int .i64 times] 53) (.cells #[.int .i64 s.y, .int .i64 s.t, .bool s.full] 55) (.cells #[.int .i64 0, .int .i64 0, .bool false] 55)
  have hx0 := (((Ext.refl (fun _ => False) w).alloc (.cells #[.int .i64 most, .int .i64 times] 53)).alloc (.cells #[.int .i64 s.y, .int .i64 s.t, .bool s.full] 55)).alloc (.cells #[.int .i64 0, .int .i64 0, .bool false] 55)
  have hvl := ht.2.1.lt
  have hbl := ht.lt
  have ht1 := ht.same hx0
  clear ht
  go_wp2_with fail
  refine (add_any _ b v cs p most times s 1 ht1 hg hok (by decide)).mono ?_
  intro e w3 hT
  rw [show (1 : Int).toNat = 1 from rfl, HR.out] at hT
  rcases R with _ | ⟨s2, q2⟩
  · obtain ⟨x, rfl, rfl, ht4, hs5⟩ := hT
    have hC4 := hs5.obj hC (by omega)
    have hs6 : Ext (· = b) w w3 := (Same.ext hx0).trans hs5 (fun k hk e => e)
    clear hC hP hA hx0 hs5
    obtain ⟨c0, c1, c2, fC, _⟩ := cells3 hC4
    unfold encSt
    go_wp2
    obtain ⟨hC5, hx⟩ := set3 hC4 (.int .i64 x.y) (.int .i64 x.t) (.bool x.full)
    generalize ((w3.setCell ⟨w.heap.size + 1 + 1, 0, none⟩ (.int .i64 x.y)).setCell ⟨w.heap.size + 1 + 1, 1, none⟩ (.int .i64 x.t)).setCell ⟨w.heap.size + 1 + 1, 2, none⟩ (.bool x.full) = w5 at *
    obtain ⟨d0, d1, d2, _, _⟩ := cells3 hC5
    exact bodyPost_ret (v := .tuple #[encSt x, .int .i64 8]) (by simp [results, Try.results37, go_sem, encSt, d0, d1, d2]) rfl ⟨x, rfl, rfl, ht4.ext hx (by omega) (fun k hk => by have := hvl k hk; omega), hs6.trans hx (fun k hk e => by omega)⟩
  · obtain ⟨rfl, ht4, hs5⟩ := hT
    have hC4 := hs5.obj hC (by omega)
    have hs6 : Ext (· = b) w w3 := (Same.ext hx0).trans hs5 (fun k hk e => e)
    clear hC hP hA hx0 hs5
    obtain ⟨c0, c1, c2, fC, _⟩ := cells3 hC4
    unfold encSt
    go_wp2
    obtain ⟨hC5, hx⟩ := set3 hC4 (.int .i64 s2.y) (.int .i64 s2.t) (.bool s2.full)
    generalize ((w3.setCell ⟨w.heap.size + 1 + 1, 0, none⟩ (.int .i64 s2.y)).setCell ⟨w.heap.size + 1 + 1, 1, none⟩ (.int .i64 s2.t)).setCell ⟨w.heap.size + 1 + 1, 2, none⟩ (.bool s2.full) = w5 at *
    obtain ⟨d0, d1, d2, _, _⟩ := cells3 hC5
    exact bodyPost_ret (v := .tuple #[encSt s2, .int .i64 0]) (by simp [results, Try.results37, go_sem, encSt, d0, d1, d2]) rfl ⟨rfl, ht4.ext hx (by omega) (fun k hk => by have := hvl k hk; omega), hs6.trans hx (fun k hk e => by omega)⟩

end Go.Proofs.Ytfcamaiehepinaa
