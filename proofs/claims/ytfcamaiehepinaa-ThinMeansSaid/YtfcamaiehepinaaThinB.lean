/- package thin, walked: what is thinned, counted, merged. -/
import Derived.Test.YtfcamaiehepinaaThin
namespace Go.Proofs.Ytfcamaiehepinaa
open Go.RowKit

/-- thinned: so many times -/
theorem thinned_any (w : World) (b : Nat) (v : Value) (cs : List Bool) (p : Nat) (s : St) (m : Int) (ht : TapeAt w b v cs p false) (hy : s.y ≤ 100000) (hm : m ≤ 1000) (hst : s.t ≤ 1000) :
    Calls Try.prog 43 #[.pointer (some ⟨b, 0, none⟩), encSt s, .int .i64 m] w (TPost encSt (fun _ => True) w b v cs (thinM cs m.toNat s p)) := by
  obtain ⟨R, HR⟩ : ∃ R, Hid (thinM cs m.toNat s p = R) := ⟨_, rfl⟩
  rw [HR.out]
  unfold encSt
  go_enter Try.func43, Try.ntmps43
  go_upto_region 1 with fail
  go_cut [11, 12] (fun a z wx => (∃ n : Nat, a = .int .i64 n ∧ n ≤ 1000 ∧ Hid (thinM cs n s p = R)) ∧ z = .int .i64 (0 : Nat) ∧ ((w.alloc (.cells #[.int .i64 s.y, .int .i64 s.t, .bool s.full] 55)).alloc (.cells #[.int .i64 0, .int .i64 0, .bool false] 55)) = wx)
  case first =>
    by_cases h0 : 0 ≤ m
    · obtain ⟨n, rfl⟩ := Int.eq_ofNat_of_zero_le h0
      go_wp2
      all_goals
        go_meet
        refine ⟨⟨n, ?_, by omega, HR.out⟩, rfl, rfl⟩
        first | rfl | (congr 1; omega)
    · go_wp2
      go_meet
      refine ⟨⟨0, rfl, by omega, ?_⟩, rfl, rfl⟩
      have := HR.out
      rwa [show m.toNat = 0 by omega] at this
  case rest =>
    obtain ⟨⟨n, rfl, hn, Hn⟩, rfl, rfl⟩ := hcut
    clear HR hm
    obtain ⟨hA1, hC1⟩ := heap_alloc2 w (.cells #[.int .i64 s.y, .int .i64 s.t, .bool s.full] 55) (.cells #[.int .i64 0, .int .i64 0, .bool false] 55)
    have hs1 : Ext (· = b) w ((w.alloc (.cells #[.int .i64 s.y, .int .i64 s.t, .bool s.full] 55)).alloc (.cells #[.int .i64 0, .int .i64 0, .bool false] 55)) := ((Ext.refl _ _).alloc _).alloc _
    have ht1 := ht.same (((Ext.refl _ w).alloc (.cells #[.int .i64 s.y, .int .i64 s.t, .bool s.full] 55)).alloc (.cells #[.int .i64 0, .int .i64 0, .bool false] 55))
    have hvl := ht.2.1.lt
    have hbl := ht.lt
    clear ht
    go_wp2_with fail
    generalize ((w.alloc (.cells #[.int .i64 s.y, .int .i64 s.t, .bool s.full] 55)).alloc (.cells #[.int .i64 0, .int .i64 0, .bool false] 55)) = w1 at *
    go_loopw [12] (fun a wr => ∃ i q : Nat, ∃ s' : St, i ≤ n ∧ a = .int .i64 i ∧ s'.y ≤ 100000 ∧ s'.t ≤ s.t + i ∧ TapeAt wr b v cs q false ∧ wr.heap[w.heap.size]? = some (.cells #[.int .i64 s'.y, .int .i64 s'.t, .bool s'.full] 55 (0, 0)) ∧ (∃ y0 t0 f0, wr.heap[w.heap.size + 1]? = some (.cells #[y0, t0, f0] 55 (0, 0))) ∧ Hid (thinM cs (n - i) s' q = R) ∧ Ext (· = b) w wr) (fun a _ => n - (intOf a).toNat)
    case atStart => exact ⟨0, p, s, Nat.zero_le _, rfl, hy, by omega, ht1, hA1, ⟨_, _, _, hC1⟩, Hn.out, hs1⟩
    case round =>
      obtain ⟨i, q, s', hi, rfl, hy', hst', ht, hA, ⟨y0, t0, f0, hC⟩, Hq, hs⟩ := hrel
      clear ht1 hA1 hC1 hs1 Hn
      obtain ⟨a0, a1, a2, fA, _⟩ := cells3 hA
      obtain ⟨c0, c1, c2, fC, _⟩ := cells3 hC
      by_cases hin : i < n
      · have Hq' : Hid ((match binA cs s'.y 0 q with | some (y, p') => thinM cs (n - (i + 1)) ⟨y, s'.t + 1, s'.full⟩ p' | none => none) = R) := by
          have := Hq.out
          rw [show n - i = (n - (i + 1)) + 1 by omega] at this
          exact this
        clear Hq
        have hql := ht.2.2.2.1
        go_wp2_with fail
        refine (binomial_any _ b v cs q s'.y ht (by omega)).mono ?_
        intro e w2 hT
        rcases hB : binA cs s'.y 0 q with _ | ⟨y, q'⟩
        · rw [hB] at hT Hq'
          have Hr := Hq'.out
          simp only at Hr
          obtain ⟨x, rfl, rfl, ht2, hs2⟩ := hT
          have hA2 := hs2.obj hA (by omega)
          have hC2 := hs2.obj hC (by omega)
          have hs3 := hs.trans hs2 (fun k hk e => e)
          clear a0 a1 a2 fA c0 c1 c2 fC hB hs2 hs
          obtain ⟨a0, a1, a2, fA, _⟩ := cells3 hA2
          obtain ⟨c0, c1, c2, fC, _⟩ := cells3 hC2
          go_wp2
          subst Hr
          obtain ⟨hC3, hx⟩ := set3 hC2 (.int .i64 s'.y) (.int .i64 s'.t) (.bool s'.full)
          generalize ((w2.setCell ⟨w.heap.size + 1, 0, none⟩ (.int .i64 s'.y)).setCell ⟨w.heap.size + 1, 1, none⟩ (.int .i64 s'.t)).setCell ⟨w.heap.size + 1, 2, none⟩ (.bool s'.full) = w3 at *
          obtain ⟨d0, d1, d2, _, _⟩ := cells3 hC3
          exact bodyPost_ret (v := .tuple #[encSt s', .int .i64 8]) (by simp [results, Try.results43, go_sem, encSt, d0, d1, d2]) rfl ⟨s', trivial, rfl, ht2.ext hx (by omega) (fun k hk => by have := hvl k hk; omega), hs3.trans hx (fun k hk e => by omega)⟩
        · rw [hB] at hT Hq'
          obtain ⟨rfl, ht2, hs2⟩ := hT
          have hy2 := binA_le hB hql
          have hy3 : y ≤ s'.y := by omega
          have hA2 := hs2.obj hA (by omega)
          have hC2 := hs2.obj hC (by omega)
          have hs3 := hs.trans hs2 (fun k hk e => e)
          clear a0 a1 a2 fA c0 c1 c2 fC hB hs2 hs hy2
          obtain ⟨a0, a1, a2, fA, _⟩ := cells3 hA2
          obtain ⟨c0, c1, c2, fC, _⟩ := cells3 hC2
          go_wp2
          go_roundw
          case rel =>
            obtain ⟨hA3, hx⟩ := set1c (i := 0) (u := .int .i64 y) hA2
            obtain ⟨hA4, hx'⟩ := set1c (i := 1) (u := .int .i64 (s'.t + 1)) hA3
            have hx2 := hx.trans hx' (fun k hk e => e)
            exact ⟨i + 1, q', ⟨y, s'.t + 1, s'.full⟩, by omega, by go_num, by simp only; omega, by simp only; omega, ht2.ext hx2 (by omega) (fun k hk => by have := hvl k hk; omega), hA4, ⟨_, _, _, hx2.obj hC2 (by omega)⟩, Hq'.out, hs3.trans hx2 (fun k hk e => by omega)⟩
          case measure => simp [intOf]; omega
      · have : i = n := by omega
        subst this
        go_wp2
        have Hr := Hq.out
        rw [Nat.sub_self] at Hr
        subst Hr
        obtain ⟨hC3, hx⟩ := set3 hC (.int .i64 s'.y) (.int .i64 s'.t) (.bool s'.full)
        generalize ((wr.setCell ⟨w.heap.size + 1, 0, none⟩ (.int .i64 s'.y)).setCell ⟨w.heap.size + 1, 1, none⟩ (.int .i64 s'.t)).setCell ⟨w.heap.size + 1, 2, none⟩ (.bool s'.full) = w3 at *
        obtain ⟨d0, d1, d2, _, _⟩ := cells3 hC3
        exact bodyPost_ret (v := .tuple #[encSt s', .int .i64 0]) (by simp [results, Try.results43, go_sem, encSt, d0, d1, d2]) rfl ⟨rfl, ht.ext hx (by omega) (fun k hk => by have := hvl k hk; omega), hs.trans hx (fun k hk e => by omega)⟩

end Go.Proofs.Ytfcamaiehepinaa
