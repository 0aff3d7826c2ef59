/- the reference of thin, walked: Inc. -/
import Derived.Test.YtfcamaiehepinaaThinS
namespace Go.Proofs.Ytfcamaiehepinaa
open Go.RowKit

set_option maxHeartbeats 1000000 in
theorem rinc_any (w : World) (pa : Option Addr) (ca : Nat) (cs : List Bool) (p most times : Nat) (s : St) (hb : Bools w (.slice pa cs.length ca) cs) (hl : cs.length ≤ 1000) (hp : p ≤ cs.length) (hm : most ≤ 1023) (htm : times ≤ 20) (hy : s.y ≤ 1023) (hst : s.t ≤ times) :
    Calls Try.prog 29 #[.agg #[.int .i64 most, .int .i64 times], .slice pa cs.length ca, .int .i64 p, encSt s] w (RPost encOut (fun _ => True) p cs.length w (oneM cs most times s p)) := by
  obtain ⟨R, HR⟩ : ∃ R, Hid (oneM cs most times s p = R) := ⟨_, rfl⟩
  rw [HR.out]
  unfold encSt
  go_enter Try.func29, Try.ntmps29
  obtain ⟨hP, hA, hC⟩ := heap_alloc3 w (.cells #[.int .i64 most, .int .i64 times] 48) (.cells #[.int .i64 s.y, .int .i64 s.t, .bool s.full] 50) (.cells #[.int .i64 0, .int .i64 0, .bool false, .int .i64 0, .int .i64 0] 60)
  have hs1 := (((Ext.refl (fun _ => False) w).alloc (.cells #[.int .i64 most, .int .i64 times] 48)).alloc (.cells #[.int .i64 s.y, .int .i64 s.t, .bool s.full] 50)).alloc (.cells #[.int .i64 0, .int .i64 0, .bool false, .int .i64 0, .int .i64 0] 60)
  go_wp2_with fail
  generalize ((w.alloc (.cells #[.int .i64 most, .int .i64 times] 48)).alloc (.cells #[.int .i64 s.y, .int .i64 s.t, .bool s.full] 50)).alloc (.cells #[.int .i64 0, .int .i64 0, .bool false, .int .i64 0, .int .i64 0] 60) = w1 at *
  have hb1 := hb.same hs1
  refine (rhalf_any _ pa ca cs p s.t hb1 hl hp (by omega)).mono ?_
  intro e w2 hT
  rcases hB : halfM cs s.t p with _ | ⟨is, q⟩
  · have Hr := HR.out
    unfold oneM at Hr
    rw [hB] at hT Hr
    simp only at Hr
    subst Hr
    obtain ⟨x, rfl, rfl, hs2⟩ := hT
    have hA2 := hs2.obj hA (fun h => h)
    have hC2 := hs2.obj hC (fun h => h)
    have hs3 := hs1.same hs2
    clear hB hs2 hs1 HR hb1
    obtain ⟨a0, a1, a2, fA, hAl⟩ := cells3 hA2
    obtain ⟨c0, c1, c2, c3, c4, fC, hCl⟩ := cells5 hC2
    go_wp2
    obtain ⟨hC5, hx5⟩ := set5 hC2 (.int .i64 s.y) (.int .i64 s.t) (.bool s.full) (.int .i64 ((cs.length : Int) - p)) (.int .i64 8)
    generalize ((((w2.setCell ⟨w.heap.size + 1 + 1, 0, none⟩ (.int .i64 s.y)).setCell ⟨w.heap.size + 1 + 1, 1, none⟩ (.int .i64 s.t)).setCell ⟨w.heap.size + 1 + 1, 2, none⟩ (.bool s.full)).setCell ⟨w.heap.size + 1 + 1, 3, none⟩ (.int .i64 ((cs.length : Int) - p))).setCell ⟨w.heap.size + 1 + 1, 4, none⟩ (.int .i64 8) = w5 at *
    have hal := (Ext.refl (fun _ => False) w5).alloc (.cells #[.bool false, .int .i64 ((cs.length : Int) - p), .int .i64 8] 82)
    obtain ⟨d0, d1, d2, d3, d4, _, _⟩ := cells5 (hal.obj hC5 (fun h => h))
    exact bodyPost_ret (v := encOut s ((cs.length : Int) - p) 8) (by simp [results, Try.results29, go_sem, encOut, d0, d1, d2, d3, d4]) rfl ⟨s, trivial, rfl, (hs3.trans hx5 (fun k hk e => by omega)).same hal⟩
  · have Hr := HR.out
    unfold oneM at Hr
    rw [hB] at hT Hr
    have hq := halfM_le hB hp
    obtain ⟨hq1, hq2⟩ := hq
    obtain ⟨rfl, hs2⟩ := hT
    have hP2 := hs2.obj hP (fun h => h)
    have hA2 := hs2.obj hA (fun h => h)
    have hC2 := hs2.obj hC (fun h => h)
    have hs3 := hs1.same hs2
    clear hB hs2 hs1 HR hb1
    obtain ⟨b0, b1, _, _⟩ := cells2 hP2
    obtain ⟨a0, a1, a2, fA, hAl⟩ := cells3 hA2
    obtain ⟨c0, c1, c2, c3, c4, fC, hCl⟩ := cells5 hC2
    cases is with
    | false =>
      simp only at Hr
      subst Hr
      go_wp2
      obtain ⟨hC5, hx5⟩ := set5 hC2 (.int .i64 s.y) (.int .i64 s.t) (.bool s.full) (.int .i64 ((q : Int) - p)) (.int .i64 0)
      generalize ((((w2.setCell ⟨w.heap.size + 1 + 1, 0, none⟩ (.int .i64 s.y)).setCell ⟨w.heap.size + 1 + 1, 1, none⟩ (.int .i64 s.t)).setCell ⟨w.heap.size + 1 + 1, 2, none⟩ (.bool s.full)).setCell ⟨w.heap.size + 1 + 1, 3, none⟩ (.int .i64 ((q : Int) - p))).setCell ⟨w.heap.size + 1 + 1, 4, none⟩ (.int .i64 0) = w5 at *
      have hal := (Ext.refl (fun _ => False) w5).alloc (.cells #[.bool false, .int .i64 ((q : Int) - p), .int .i64 0] 82)
      obtain ⟨d0, d1, d2, d3, d4, _, _⟩ := cells5 (hal.obj hC5 (fun h => h))
      exact bodyPost_ret (v := encOut s ((q : Int) - p) 0) (by simp [results, Try.results29, go_sem, encOut, d0, d1, d2, d3, d4]) rfl ⟨rfl, (hs3.trans hx5 (fun k hk e => by omega)).same hal⟩
    | true =>
      simp only at Hr
      replace Hr := Lib.hid Hr
      obtain ⟨O, hO⟩ : ∃ O, O = w2.heap.size := ⟨_, rfl⟩
      have hOl : w.heap.size + 1 + 1 < O := by omega
      go_upto_region 5 with fail
      rw [← hO]
      obtain ⟨hA3, hx⟩ := set1c (i := 0) (u := .int .i64 (s.y + 1)) hA2
      have hOs : O = (w2.setCell ⟨w.heap.size + 1, 0, none⟩ (.int .i64 (s.y + 1))).heap.size := by rw [hO]; simp
      generalize w2.setCell ⟨w.heap.size + 1, 0, none⟩ (.int .i64 (s.y + 1)) = w3 at *
      have hP3 := hx.obj hP2 (by omega)
      have hC3 := hx.obj hC2 (by omega)
      have hs4 := hs3.trans hx (fun k hk e => by omega)
      have hal := (Ext.refl (fun _ => False) w3).alloc (.cells #[.bool true, .int .i64 ((q : Int) - p), .int .i64 0] 82)
      have hO4 := heap_alloc_new w3 (.cells #[.bool true, .int .i64 ((q : Int) - p), .int .i64 0] 82)
      rw [← hOs] at hO4
      have hP4 := hal.obj hP3 (fun h => h)
      have hA4 := hal.obj hA3 (fun h => h)
      have hC4 := hal.obj hC3 (fun h => h)
      have hs5 := hs4.same hal
      clear hx hal hs3 hs4 hO hOs hP2 hP3 hA2 hA3 hC2 hC3 a0 a1 a2 fA c0 c1 c2 c3 c4 fC b0 b1 hAl hCl
      generalize w3.alloc (.cells #[.bool true, .int .i64 ((q : Int) - p), .int .i64 0] 82) = w4 at *
      have e0 := cell_of (i := 1) (v := .int .i64 ((q : Int) - p)) hO4 rfl
      have b0 := cell_of (i := 0) (v := .int .i64 most) hP4 rfl
      have b1 := cell_of (i := 1) (v := .int .i64 times) hP4 rfl
      have a0 := cell_of (i := 0) (v := .int .i64 (s.y + 1)) hA4 rfl
      have a1 := cell_of (i := 1) (v := .int .i64 s.t) hA4 rfl
      have a2 := cell_of (i := 2) (v := .bool s.full) hA4 rfl
      have hd := rdown_any w4 pa ca cs q most times ⟨s.y + 1, s.t, s.full⟩ (hb.same hs5) hl hq2 hm htm (by simp only; omega) hst
      unfold encSt at hd
      simp only at hd
      rw [Hr.out, show ((s.y + 1 : Nat) : Int) = (s.y : Int) + 1 by omega] at hd
      replace hd := Lib.hid hd
      go_wp2_with fail
      rw [show (p : Int) + ((q : Int) - p) = (q : Int) by omega]
      refine hd.out.mono ?_
      clear hd a0 a1 a2 e0 b0 b1
      intro e w5 hT
      rcases R with _ | ⟨s2, q2⟩
      · obtain ⟨x, _, rfl, hs6⟩ := hT
        have hC5 := hs6.obj hC4 (fun h => h)
        have hO5 := hs6.obj hO4 (fun h => h)
        have e0 := cell_of (i := 1) (v := .int .i64 ((q : Int) - p)) hO5 rfl
        obtain ⟨c0, c1, c2, c3, c4, fC, hCl⟩ := cells5 hC5
        have hOl5 := (Array.getElem?_eq_some_iff.1 hO5).1
        have hs7 := hs5.same hs6
        clear hs5 hs6 hC4 hO4
        unfold encOut
        go_wp2
        obtain ⟨hC7, hx7⟩ := set5 hC5 (.int .i64 x.y) (.int .i64 x.t) (.bool x.full) (.int .i64 ((cs.length : Int) - q + ((q : Int) - p))) (.int .i64 8)
        generalize ((((w5.setCell ⟨w.heap.size + 1 + 1, 0, none⟩ (.int .i64 x.y)).setCell ⟨w.heap.size + 1 + 1, 1, none⟩ (.int .i64 x.t)).setCell ⟨w.heap.size + 1 + 1, 2, none⟩ (.bool x.full)).setCell ⟨w.heap.size + 1 + 1, 3, none⟩ (.int .i64 ((cs.length : Int) - q + ((q : Int) - p)))).setCell ⟨w.heap.size + 1 + 1, 4, none⟩ (.int .i64 8) = w7 at *
        have hal := (Ext.refl (fun _ => False) w7).alloc (.cells #[.int .i64 x.y, .int .i64 x.t, .bool x.full, .int .i64 ((cs.length : Int) - q + ((q : Int) - p)), .int .i64 8] 60)
        obtain ⟨d0, d1, d2, d3, d4, _, _⟩ := cells5 (hal.obj hC7 (fun h => h))
        exact bodyPost_ret (v := encOut x ((cs.length : Int) - p) 8) (by simp [results, Try.results29, go_sem, encOut, d0, d1, d2, d3, d4]; omega) rfl ⟨x, trivial, rfl, (hs7.trans hx7 (fun k hk e => by omega)).same hal⟩
      · obtain ⟨rfl, hs6⟩ := hT
        have hq3 := (downM_le Hr.out hq2).1
        have hq4 := (downM_le Hr.out hq2).2.1
        have hC5 := hs6.obj hC4 (fun h => h)
        have hO5 := hs6.obj hO4 (fun h => h)
        have e0 := cell_of (i := 1) (v := .int .i64 ((q : Int) - p)) hO5 rfl
        obtain ⟨c0, c1, c2, c3, c4, fC, hCl⟩ := cells5 hC5
        have hOl5 := (Array.getElem?_eq_some_iff.1 hO5).1
        have hs7 := hs5.same hs6
        clear hs5 hs6 hC4 hO4
        unfold encOut
        go_wp2
        obtain ⟨hC7, hx7⟩ := set5 hC5 (.int .i64 s2.y) (.int .i64 s2.t) (.bool s2.full) (.int .i64 ((q2 : Int) - q + ((q : Int) - p))) (.int .i64 0)
        generalize ((((w5.setCell ⟨w.heap.size + 1 + 1, 0, none⟩ (.int .i64 s2.y)).setCell ⟨w.heap.size + 1 + 1, 1, none⟩ (.int .i64 s2.t)).setCell ⟨w.heap.size + 1 + 1, 2, none⟩ (.bool s2.full)).setCell ⟨w.heap.size + 1 + 1, 3, none⟩ (.int .i64 ((q2 : Int) - q + ((q : Int) - p)))).setCell ⟨w.heap.size + 1 + 1, 4, none⟩ (.int .i64 0) = w7 at *
        have hal := (Ext.refl (fun _ => False) w7).alloc (.cells #[.int .i64 s2.y, .int .i64 s2.t, .bool s2.full, .int .i64 ((q2 : Int) - q + ((q : Int) - p)), .int .i64 0] 60)
        obtain ⟨d0, d1, d2, d3, d4, _, _⟩ := cells5 (hal.obj hC7 (fun h => h))
        exact bodyPost_ret (v := encOut s2 ((q2 : Int) - p) 0) (by simp [results, Try.results29, go_sem, encOut, d0, d1, d2, d3, d4]; omega) rfl ⟨rfl, (hs7.trans hx7 (fun k hk e => by omega)).same hal⟩

end Go.Proofs.Ytfcamaiehepinaa
