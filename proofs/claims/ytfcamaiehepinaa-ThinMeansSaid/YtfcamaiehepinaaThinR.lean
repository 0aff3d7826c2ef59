/- the reference of thin, walked. -/
import Derived.Test.YtfcamaiehepinaaThinE
namespace Go.Proofs.Ytfcamaiehepinaa
open Go.RowKit

def encOut (s : St) (t e : Int) : Value := .agg #[.int .i64 s.y, .int .i64 s.t, .bool s.full, .int .i64 t, .int .i64 e]

theorem set5 {w : World} {b : Nat} {x0 x1 x2 x3 x4 : Value} {T : TypeId} (h : w.heap[b]? = some (.cells #[x0, x1, x2, x3, x4] T (0, 0))) (y0 y1 y2 y3 y4 : Value) :
    (((((w.setCell ⟨b, 0, none⟩ y0).setCell ⟨b, 1, none⟩ y1).setCell ⟨b, 2, none⟩ y2).setCell ⟨b, 3, none⟩ y3).setCell ⟨b, 4, none⟩ y4).heap[b]? = some (.cells #[y0, y1, y2, y3, y4] T (0, 0)) ∧ Ext (· = b) w (((((w.setCell ⟨b, 0, none⟩ y0).setCell ⟨b, 1, none⟩ y1).setCell ⟨b, 2, none⟩ y2).setCell ⟨b, 3, none⟩ y3).setCell ⟨b, 4, none⟩ y4) := by
  refine ⟨?_, ?_⟩
  · rw [heap_setCell_same (heap_setCell_same (heap_setCell_same (heap_setCell_same (heap_setCell_same h))))]; rfl
  · exact Ext.setCell (S := (· = b)) (Ext.setCell (S := (· = b)) (Ext.setCell (S := (· = b)) (Ext.setCell (S := (· = b)) (Ext.setCell (S := (· = b)) (Ext.refl _ w) (fun _ => rfl) _) (fun _ => rfl) _) (fun _ => rfl) _) (fun _ => rfl) _) (fun _ => rfl) _

theorem rthin_any (w : World) (pa : Option Addr) (ca : Nat) (cs : List Bool) (p : Nat) (s : St) (m : Int) (hb : Bools w (.slice pa cs.length ca) cs) (hl : cs.length ≤ 1000) (hp : p ≤ cs.length) (hy : s.y ≤ 100000) (hst : s.t ≤ 1000) (hm : m ≤ 1000) :
    Calls Try.prog 45 #[.slice pa cs.length ca, .int .i64 p, encSt s, .int .i64 m] w (RPost encOut (fun _ => True) p cs.length w (thinM cs m.toNat s p)) := by
  obtain ⟨R, HR⟩ : ∃ R, Hid (thinM cs m.toNat s p = R) := ⟨_, rfl⟩
  rw [HR.out]
  unfold encSt
  go_enter Try.func45, Try.ntmps45
  obtain ⟨hA, hC⟩ := heap_alloc2 w (.cells #[.int .i64 s.y, .int .i64 s.t, .bool s.full] 50) (.cells #[.int .i64 0, .int .i64 0, .bool false, .int .i64 0, .int .i64 0] 60)
  have hs1 := ((Ext.refl (fun _ => False) w).alloc (.cells #[.int .i64 s.y, .int .i64 s.t, .bool s.full] 50)).alloc (.cells #[.int .i64 0, .int .i64 0, .bool false, .int .i64 0, .int .i64 0] 60)
  go_wp2_with fail
  generalize (w.alloc (.cells #[.int .i64 s.y, .int .i64 s.t, .bool s.full] 50)).alloc (.cells #[.int .i64 0, .int .i64 0, .bool false, .int .i64 0, .int .i64 0] 60) = w1 at *
  go_loopw [9, 10] (fun k a wr => ∃ i q : Nat, ∃ s' : St, (i : Int) ≤ max 0 m ∧ p ≤ q ∧ q ≤ cs.length ∧ k = .int .i64 ((q : Int) - p) ∧ a = .int .i64 i ∧ s'.y ≤ 100000 ∧ s'.t ≤ s.t + i ∧ wr.heap[w.heap.size]? = some (.cells #[.int .i64 s'.y, .int .i64 s'.t, .bool s'.full] 50 (0, 0)) ∧ wr.heap[w.heap.size + 1]? = some (.cells #[.int .i64 0, .int .i64 0, .bool false, .int .i64 0, .int .i64 0] 60 (0, 0)) ∧ Hid (thinM cs (m.toNat - i) s' q = R) ∧ Same w wr) (fun _ a _ => m.toNat - (intOf a).toNat)
  case atStart => exact ⟨0, p, s, by omega, Nat.le_refl _, hp, by simp, rfl, hy, by omega, hA, hC, HR.out, hs1⟩
  case round =>
    obtain ⟨i, q, s', hi, hpq, hql, rfl, rfl, hy', ht', hA, hC, Hq, hs⟩ := hrel
    clear HR hs1
    obtain ⟨a0, a1, a2, fA, hAl⟩ := cells3 hA
    obtain ⟨c0, c1, c2, c3, c4, fC, hCl⟩ := cells5 hC
    by_cases him : (i : Int) < m
    · have Hq' : Hid ((match binA cs s'.y 0 q with | some (y, p') => thinM cs (m.toNat - (i + 1)) ⟨y, s'.t + 1, s'.full⟩ p' | none => none) = R) := by
        have := Hq.out
        rw [show m.toNat - i = (m.toNat - (i + 1)) + 1 by omega] at this
        exact this
      clear Hq
      go_wp2_with fail
      rw [show (p : Int) + ((q : Int) - p) = (q : Int) by omega]
      refine (rbinomial_any _ pa ca cs q s'.y (hb.same hs) hl hql (by omega)).mono ?_
      intro e w2 hT
      rcases hB : binA cs s'.y 0 q with _ | ⟨y, q'⟩
      · rw [hB] at hT Hq'
        have Hr := Hq'.out
        simp only at Hr
        subst Hr
        obtain ⟨x, rfl, rfl, hs2⟩ := hT
        have hA2 := hs2.obj hA (fun h => h)
        have hC2 := hs2.obj hC (fun h => h)
        have hs3 := hs.same hs2
        clear a0 a1 a2 fA c0 c1 c2 c3 c4 fC hB hs hs2
        obtain ⟨a0, a1, a2, fA, hAl⟩ := cells3 hA2
        obtain ⟨c0, c1, c2, c3, c4, fC, hCl⟩ := cells5 hC2
        go_wp2
        obtain ⟨hC3, hx⟩ := set5 hC2 (.int .i64 s'.y) (.int .i64 s'.t) (.bool s'.full) (.int .i64 ((q : Int) - p + ((cs.length : Int) - q))) (.int .i64 8)
        generalize ((((w2.setCell ⟨w.heap.size + 1, 0, none⟩ (.int .i64 s'.y)).setCell ⟨w.heap.size + 1, 1, none⟩ (.int .i64 s'.t)).setCell ⟨w.heap.size + 1, 2, none⟩ (.bool s'.full)).setCell ⟨w.heap.size + 1, 3, none⟩ (.int .i64 ((q : Int) - p + ((cs.length : Int) - q)))).setCell ⟨w.heap.size + 1, 4, none⟩ (.int .i64 8) = w3 at *
        have hal := (Ext.refl (fun _ => False) w3).alloc (.cells #[.int .u64 0, .int .i64 ((cs.length : Int) - q), .int .i64 8] 98)
        obtain ⟨d0, d1, d2, d3, d4, _, _⟩ := cells5 (hal.obj hC3 (fun h => h))
        exact bodyPost_ret (v := encOut s' ((cs.length : Int) - p) 8) (by simp [results, Try.results45, go_sem, encOut, d0, d1, d2, d3, d4]; omega) rfl ⟨s', trivial, rfl, (hs3.trans hx (fun k hk e => by omega)).same hal⟩
      · rw [hB] at hT Hq'
        have hle := binA_le hB hql
        obtain ⟨rfl, hs2⟩ := hT
        have hA2 := hs2.obj hA (fun h => h)
        have hC2 := hs2.obj hC (fun h => h)
        have hs3 := hs.same hs2
        obtain ⟨l1, l2, l3, l4⟩ := hle
        clear a0 a1 a2 fA c0 c1 c2 c3 c4 fC hB hs hs2
        obtain ⟨a0, a1, a2, fA, hAl⟩ := cells3 hA2
        go_wp2
        obtain ⟨hA3, hx⟩ := set1c (i := 0) (u := .int .i64 y) hA2
        obtain ⟨hA4, hx'⟩ := set1c (i := 1) (u := .int .i64 (s'.t + 1)) hA3
        have hx2 := hx.trans hx' (fun k hk e => e)
        generalize (w2.setCell ⟨w.heap.size, 0, none⟩ (.int .i64 y)).setCell ⟨w.heap.size, 1, none⟩ (.int .i64 (s'.t + 1)) = w3 at *
        have hal := (Ext.refl (fun _ => False) w3).alloc (.cells #[.int .u64 y, .int .i64 ((q' : Int) - q), .int .i64 0] 98)
        exact ⟨⟨i + 1, q', ⟨y, s'.t + 1, s'.full⟩, by omega, by omega, l2, by congr 1; omega, by go_num, by simp only; omega, by simp only; omega, hal.obj hA4 (fun h => h), hal.obj (hx2.obj hC2 (by omega)) (fun h => h), Hq'.out, (hs3.trans hx2 (fun k hk e => by omega)).same hal⟩, by simp [intOf]; omega⟩
    · have hr2 := Hq.out
      rw [show m.toNat - i = 0 by omega] at hr2
      go_wp2
      subst hr2
      obtain ⟨hC3, hx⟩ := set5 hC (.int .i64 s'.y) (.int .i64 s'.t) (.bool s'.full) (.int .i64 ((q : Int) - p)) (.int .i64 0)
      generalize ((((wr.setCell ⟨w.heap.size + 1, 0, none⟩ (.int .i64 s'.y)).setCell ⟨w.heap.size + 1, 1, none⟩ (.int .i64 s'.t)).setCell ⟨w.heap.size + 1, 2, none⟩ (.bool s'.full)).setCell ⟨w.heap.size + 1, 3, none⟩ (.int .i64 ((q : Int) - p))).setCell ⟨w.heap.size + 1, 4, none⟩ (.int .i64 0) = w3 at *
      obtain ⟨d0, d1, d2, d3, d4, _, _⟩ := cells5 hC3
      exact bodyPost_ret (v := encOut s' ((q : Int) - p) 0) (by simp [results, Try.results45, go_sem, encOut, d0, d1, d2, d3, d4]) rfl ⟨rfl, hs.trans hx (fun k hk e => by omega)⟩

end Go.Proofs.Ytfcamaiehepinaa
