/- package thin, walked: one, Add, Inc. -/
import Derived.Test.YtfcamaiehepinaaThinC
namespace Go.Proofs.Ytfcamaiehepinaa
open Go.RowKit

theorem one_any (w : World) (b : Nat) (v : Value) (cs : List Bool) (p : Nat) (most times : Nat) (s : St) (ht : TapeAt w b v cs p false) (hm : most ≤ 1023) (htm : times ≤ 20) (hy : s.y ≤ 1023) (hst : s.t ≤ times) :
    Calls Try.prog 40 #[.agg #[.int .i64 most, .int .i64 times], .pointer (some ⟨b, 0, none⟩), encSt s] w (TPost encSt (fun _ => True) w b v cs (oneM cs most times s p)) := by
  obtain ⟨R, HR⟩ : ∃ R, Hid (oneM cs most times s p = R) := ⟨_, rfl⟩
  rw [HR.out]
  unfold encSt
  go_enter Try.func40, Try.ntmps40
  obtain ⟨hP, hA, hC⟩ := heap_alloc3 w (.cells #[.int .i64 most, .int .i64 times] 53) (.cells #[.int .i64 s.y, .int .i64 s.t, .bool s.full] 55) (.cells #[.int .i64 0, .int .i64 0, .bool false] 55)
  have hx0 := (((Ext.refl (fun _ => False) w).alloc (.cells #[.int .i64 most, .int .i64 times] 53)).alloc (.cells #[.int .i64 s.y, .int .i64 s.t, .bool s.full] 55)).alloc (.cells #[.int .i64 0, .int .i64 0, .bool false] 55)
  have ht1 := ht.same hx0
  have hs1 : Ext (· = b) w _ := Same.ext hx0
  have hvl := ht.2.1.lt
  have hbl := ht.lt
  clear ht hx0
  go_wp2_with fail
  generalize ((w.alloc (.cells #[.int .i64 most, .int .i64 times] 53)).alloc (.cells #[.int .i64 s.y, .int .i64 s.t, .bool s.full] 55)).alloc (.cells #[.int .i64 0, .int .i64 0, .bool false] 55) = w1 at *
  refine (half_any _ b v cs p s.t ht1 (by omega)).mono ?_
  intro e w2 hT
  have hpl := ht1.2.2.2.1
  rcases hB : halfM cs (s.t : Int).toNat p with _ | ⟨is, q⟩
  · have Hr := HR.out
    unfold oneM at Hr
    rw [Int.toNat_natCast] at hB
    rw [hB] at Hr
    simp only at Hr
    rw [Int.toNat_natCast, hB] at hT
    subst Hr
    obtain ⟨x, rfl, rfl, ht2, hs2⟩ := hT
    have hA2 := hs2.obj hA (by omega)
    have hC2 := hs2.obj hC (by omega)
    have hs3 := hs1.trans hs2 (fun k hk e => e)
    clear hB hs2 hs1 HR
    obtain ⟨a0, a1, a2, fA, _⟩ := cells3 hA2
    obtain ⟨c0, c1, c2, fC, _⟩ := cells3 hC2
    go_wp2
    obtain ⟨hC3, hx⟩ := set3 hC2 (.int .i64 s.y) (.int .i64 s.t) (.bool s.full)
    generalize ((w2.setCell ⟨w.heap.size + 1 + 1, 0, none⟩ (.int .i64 s.y)).setCell ⟨w.heap.size + 1 + 1, 1, none⟩ (.int .i64 s.t)).setCell ⟨w.heap.size + 1 + 1, 2, none⟩ (.bool s.full) = w3 at *
    obtain ⟨d0, d1, d2, _, _⟩ := cells3 hC3
    exact bodyPost_ret (v := .tuple #[encSt s, .int .i64 8]) (by simp [results, Try.results40, go_sem, encSt, d0, d1, d2]) rfl ⟨s, trivial, rfl, ht2.ext hx (by omega) (fun k hk => by have := hvl k hk; omega), hs3.trans hx (fun k hk e => by omega)⟩
  · have Hr := HR.out
    unfold oneM at Hr
    rw [Int.toNat_natCast] at hB
    rw [hB] at Hr
    rw [Int.toNat_natCast, hB] at hT
    have hq := halfM_le hB hpl
    obtain ⟨rfl, ht2, hs2⟩ := hT
    have hP2 := hs2.obj hP (by omega)
    have hA2 := hs2.obj hA (by omega)
    have hC2 := hs2.obj hC (by omega)
    have hs3 := hs1.trans hs2 (fun k hk e => e)
    clear hB hs2 hs1 HR
    obtain ⟨b0, b1, _, _⟩ := cells2 hP2
    obtain ⟨a0, a1, a2, fA, _⟩ := cells3 hA2
    obtain ⟨c0, c1, c2, fC, _⟩ := cells3 hC2
    cases is with
    | false =>
      simp only at Hr
      subst Hr
      go_wp2
      obtain ⟨hC3, hx⟩ := set3 hC2 (.int .i64 s.y) (.int .i64 s.t) (.bool s.full)
      generalize ((w2.setCell ⟨w.heap.size + 1 + 1, 0, none⟩ (.int .i64 s.y)).setCell ⟨w.heap.size + 1 + 1, 1, none⟩ (.int .i64 s.t)).setCell ⟨w.heap.size + 1 + 1, 2, none⟩ (.bool s.full) = w3 at *
      obtain ⟨d0, d1, d2, _, _⟩ := cells3 hC3
      exact bodyPost_ret (v := .tuple #[encSt s, .int .i64 0]) (by simp [results, Try.results40, go_sem, encSt, d0, d1, d2]) rfl ⟨rfl, ht2.ext hx (by omega) (fun k hk => by have := hvl k hk; omega), hs3.trans hx (fun k hk e => by omega)⟩
    | true =>
      simp only at Hr
      replace Hr := Lib.hid Hr
      go_wp2_with fail
      obtain ⟨hA3, hx⟩ := set1c (i := 0) (u := .int .i64 (s.y + 1)) hA2
      generalize w2.setCell ⟨w.heap.size + 1, 0, none⟩ (.int .i64 (s.y + 1)) = w3 at *
      have ht3 := ht2.ext hx (by omega) (fun k hk => by have := hvl k hk; omega)
      have hC3 := hx.obj hC2 (by omega)
      have hs4 := hs3.trans hx (fun k hk e => by omega)
      have hd := down_any w3 b v cs q most times ⟨s.y + 1, s.t, s.full⟩ ht3 hm htm (by simp only; omega) hst
      unfold encSt at hd
      simp only at hd
      rw [Hr.out, show ((s.y + 1 : Nat) : Int) = (s.y : Int) + 1 by omega] at hd
      refine hd.mono ?_
      clear hd hx hs3 ht2 hC2 hA2 hP2 a0 a1 a2 fA c0 c1 c2 fC b0 b1
      intro e w4 hT
      rcases R with _ | ⟨s2, q2⟩
      · obtain ⟨x, _, rfl, ht4, hs5⟩ := hT
        have hC4 := hs5.obj hC3 (by omega)
        obtain ⟨c0, c1, c2, fC, _⟩ := cells3 hC4
        have hs6 := hs4.trans hs5 (fun k hk e => e)
        clear hs4 hs5 hC3 ht3
        go_wp2
        obtain ⟨hC5, hx⟩ := set3 hC4 (.int .i64 x.y) (.int .i64 x.t) (.bool x.full)
        generalize ((w4.setCell ⟨w.heap.size + 1 + 1, 0, none⟩ (.int .i64 x.y)).setCell ⟨w.heap.size + 1 + 1, 1, none⟩ (.int .i64 x.t)).setCell ⟨w.heap.size + 1 + 1, 2, none⟩ (.bool x.full) = w5 at *
        obtain ⟨d0, d1, d2, _, _⟩ := cells3 hC5
        exact bodyPost_ret (v := .tuple #[encSt x, .int .i64 8]) (by simp [results, Try.results40, go_sem, encSt, d0, d1, d2]) rfl ⟨x, trivial, rfl, ht4.ext hx (by omega) (fun k hk => by have := hvl k hk; omega), hs6.trans hx (fun k hk e => by omega)⟩
      · obtain ⟨rfl, ht4, hs5⟩ := hT
        have hC4 := hs5.obj hC3 (by omega)
        obtain ⟨c0, c1, c2, fC, _⟩ := cells3 hC4
        have hs6 := hs4.trans hs5 (fun k hk e => e)
        clear hs4 hs5 hC3 ht3
        go_wp2
        obtain ⟨hC5, hx⟩ := set3 hC4 (.int .i64 s2.y) (.int .i64 s2.t) (.bool s2.full)
        generalize ((w4.setCell ⟨w.heap.size + 1 + 1, 0, none⟩ (.int .i64 s2.y)).setCell ⟨w.heap.size + 1 + 1, 1, none⟩ (.int .i64 s2.t)).setCell ⟨w.heap.size + 1 + 1, 2, none⟩ (.bool s2.full) = w5 at *
        obtain ⟨d0, d1, d2, _, _⟩ := cells3 hC5
        exact bodyPost_ret (v := .tuple #[encSt s2, .int .i64 0]) (by simp [results, Try.results40, go_sem, encSt, d0, d1, d2]) rfl ⟨rfl, ht4.ext hx (by omega) (fun k hk => by have := hvl k hk; omega), hs6.trans hx (fun k hk e => by omega)⟩

end Go.Proofs.Ytfcamaiehepinaa
