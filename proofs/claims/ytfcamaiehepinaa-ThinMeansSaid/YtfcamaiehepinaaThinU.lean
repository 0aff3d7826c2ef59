/- package thin, walked: Merge. -/
import Derived.Test.YtfcamaiehepinaaMem
import Derived.Test.YtfcamaiehepinaaThinT
namespace Go.Proofs.Ytfcamaiehepinaa
open Go.RowKit
set_option linter.unusedSimpArgs false
set_option linter.unusedVariables false

theorem Cells.st2 (w : World) (s o : St) (T : TypeId) : Cells (w.alloc (.cells #[.int .i64 s.y, .int .i64 s.t, .bool s.full, .int .i64 o.y, .int .i64 o.t, .bool o.full] T)) (.slice (some ⟨w.heap.size, 0, none⟩) 2 2) 3 [s, o].length ([s, o].map cellsSt).flatten := by
  refine ⟨rfl, _, 2, rfl, Nat.le_refl _, by unfold maxLen; omega, .inr ⟨_, _, rfl, by simp, fun i u' hi => ?_⟩⟩
  rw [Nat.zero_add, World.cell?_alloc_new]
  simpa [cellsSt] using hi

set_option maxRecDepth 100000 in
theorem merge_any (w : World) (b : Nat) (v : Value) (cs : List Bool) (p : Nat) (most times : Nat) (s o : St) (ht : TapeAt w b v cs p false) (hg : goodThin most times) (hok : s.ok most times) (hoo : o.ok most times) :
    Calls Try.prog 31 #[.agg #[.int .i64 most, .int .i64 times], .pointer (some ⟨b, 0, none⟩), encSt s, encSt o] w (TPost encSt (· = s) w b v cs (mergeM cs most times s o p)) := by
  obtain ⟨R, HR⟩ : ∃ R, Hid (mergeM cs most times s o p = R) := ⟨_, rfl⟩
  rw [HR.out]
  unfold encSt
  go_enter Try.func31, Try.ntmps31
  have hvl := ht.2.1.lt
  have hbl := ht.lt
  go_wp2_with fail
  refine (twrong_ok _ most times _ 2 [s, o] (by have := Cells.st2 ((((w.alloc (.cells #[.int .i64 most, .int .i64 times] 53)).alloc (.cells #[.int .i64 s.y, .int .i64 s.t, .bool s.full] 55)).alloc (.cells #[.int .i64 o.y, .int .i64 o.t, .bool o.full] 55)).alloc (.cells #[.int .i64 0, .int .i64 0, .bool false] 55)) s o 55; simpa using this) hg (by intro x hx; simp at hx; rcases hx with rfl | rfl <;> assumption) (by simp)).mono ?_
  rintro e w1 ⟨rfl, hs1⟩
  have m1 := hs1.read [(w.heap.size, 2), (w.heap.size + 1, 3), (w.heap.size + 1 + 1, 3), (w.heap.size + 1 + 1 + 1, 3)] (by simp; omega)
  simp [Reads, SameN, go_sem] at m1
  have hs : Ext (· = b) w w1 := Ext.same (by simp [ext_s]) hs1
  have ht1 := ht.same (Ext.same (by simp [ext_s]) hs1)
  clear hs1
  have hz := hs.size
  have hoy := hoo.1
  have hot := hoo.2.1
  have hsy := hok.1
  have hst := hok.2.1
  have hg1 := hg.2.1
  have hg2 := hg.2.2
  have HR0 := HR.out
  unfold mergeM at HR0
  clear HR
  go_wp2_with fail
  refine (thinned_any _ b v cs p s _ ht1 (by omega) (by omega) (by omega)).mono ?_
  rw [show ((o.t : Int) - s.t).toNat = o.t - s.t by omega]
  intro e w2 hT
  rcases hB : thinM cs (o.t - s.t) s p with _ | ⟨a, p1⟩ <;> rw [hB] at hT HR0
  · obtain ⟨x, -, rfl, ht2, hs2⟩ := hT
    have m2 := hs2.read [(w.heap.size, 2), (w.heap.size + 1, 3), (w.heap.size + 1 + 1, 3), (w.heap.size + 1 + 1 + 1, 3)] (by simp; omega)
    simp [Reads, SameN, go_sem, m1] at m2
    have hs := hs.trans hs2 (fun _ _ h => h)
    clear hs2 m1 hB
    unfold encSt
    go_wp2
    subst HR0
    exact bodyPost_ret (v := .tuple #[encSt s, .int .i64 8]) (by simp [results, Try.results31, go_sem, encSt, m2]) rfl ⟨s, rfl, rfl, ht2.on ht (by simp [ext_s]), (by simp [ext_s, hs, hs.size])⟩
  · obtain ⟨rfl, ht2, hs2⟩ := hT
    have m2 := hs2.read [(w.heap.size, 2), (w.heap.size + 1, 3), (w.heap.size + 1 + 1, 3), (w.heap.size + 1 + 1 + 1, 3)] (by simp; omega)
    simp [Reads, SameN, go_sem, m1] at m2
    have hs := hs.trans hs2 (fun _ _ h => h)
    obtain ⟨q1, q2, q3, q4, q5⟩ := thinM_le hB ht1.2.2.2.1
    replace q4 := Lib.hid q4
    clear hs2 m1 hB q5
    unfold encSt
    go_wp2_with fail
    refine (thinned_any _ b v cs p1 o _ (ht2.on ht (by simp [ext_s])) (by omega) (by omega) (by omega)).mono ?_
    rw [show ((s.t : Int) - o.t).toNat = s.t - o.t by omega]
    intro e w3 hT
    rcases hB : thinM cs (s.t - o.t) o p1 with _ | ⟨c, p2⟩ <;> rw [hB] at hT HR0
    · obtain ⟨x, -, rfl, ht3, hs3⟩ := hT
      have m3 := hs3.read [(w.heap.size, 2), (w.heap.size + 1, 3), (w.heap.size + 1 + 1, 3), (w.heap.size + 1 + 1 + 1, 3)] (by simp; omega)
      simp [Reads, SameN, go_sem, m2] at m3
      have hs : Ext (· = b) w w3 := (Ext.trans (by simp [ext_s, hs, hs.size]) hs3 (fun _ _ h => h))
      clear hs3 m2 hB
      unfold encSt
      go_wp2
      subst HR0
      exact bodyPost_ret (v := .tuple #[encSt s, .int .i64 8]) (by simp [results, Try.results31, go_sem, encSt, m3]) rfl ⟨s, rfl, rfl, ht3.on ht (by simp [ext_s]), (by simp [ext_s, hs, hs.size])⟩
    · obtain ⟨rfl, ht3, hs3⟩ := hT
      have m3 := hs3.read [(w.heap.size, 2), (w.heap.size + 1, 3), (w.heap.size + 1 + 1, 3), (w.heap.size + 1 + 1 + 1, 3), (w2.heap.size, 3)] (by simp; omega)
      simp [Reads, SameN, go_sem, m2] at m3
      have hs : Ext (· = b) w w3 := (Ext.trans (by simp [ext_s, hs, hs.size]) hs3 (fun _ _ h => h))
      obtain ⟨r1, r2, r3, r4, r5⟩ := thinM_le hB q2
      clear hs3 m2 hB r4 r5
      have q4' := q4.out
      have hd := down_any (w3.alloc (.cells #[.int .i64 c.y, .int .i64 c.t, .bool c.full] 55)) b v cs p2 most times ⟨a.y + c.y, a.t, s.full || o.full⟩ (ht3.on ht (by simp [ext_s])) hg1 hg2 (by simp only; omega) (by simp only; omega)
      unfold encSt at hd
      simp only [HR0, Int.natCast_add] at hd
      clear q4'
      replace hd := Lib.hid hd
      have hz2 := hs.size
      unfold encSt
      cases hf : s.full <;> (simp only [hf, Bool.true_or, Bool.false_or] at hd; go_wp2_with fail; refine hd.out.mono ?_)
      all_goals
        clear hd
        intro e w4 hT
        rcases R with _ | ⟨s4, p4⟩
        · obtain ⟨x, -, rfl, ht4, hs4⟩ := hT
          have m4 := hs4.read [(w.heap.size, 2), (w.heap.size + 1, 3), (w.heap.size + 1 + 1, 3), (w.heap.size + 1 + 1 + 1, 3)] (by simp; omega)
          simp [Reads, SameN, go_sem, m3] at m4
          have hs : Ext (· = b) w w4 := (Ext.trans (by simp [ext_s, hs, hs.size]) hs4 (fun _ _ h => h))
          clear hs4 m3
          go_wp2
          exact bodyPost_ret (v := .tuple #[encSt s, .int .i64 8]) (by simp [results, Try.results31, go_sem, encSt, m4, hf]) rfl ⟨s, rfl, rfl, ht4.on ht (by simp [ext_s, hs.size]), (by simp [ext_s, hs, hs.size])⟩
        · obtain ⟨rfl, ht4, hs4⟩ := hT
          have m4 := hs4.read [(w.heap.size, 2), (w.heap.size + 1, 3), (w.heap.size + 1 + 1, 3), (w.heap.size + 1 + 1 + 1, 3)] (by simp; omega)
          simp [Reads, SameN, go_sem, m3] at m4
          have hs : Ext (· = b) w w4 := (Ext.trans (by simp [ext_s, hs, hs.size]) hs4 (fun _ _ h => h))
          clear hs4 m3
          go_wp2
          exact bodyPost_ret (v := .tuple #[encSt s4, .int .i64 0]) (by simp [results, Try.results31, go_sem, encSt, m4]) rfl ⟨rfl, ht4.on ht (by simp [ext_s, hs.size]), (by simp [ext_s, hs, hs.size])⟩

end Go.Proofs.Ytfcamaiehepinaa
