/- The law ThinMerges: walked. -/
import Derived.Test.YtfcamaiehepinaaThinW
namespace Go.Proofs.Ytfcamaiehepinaa
open Go.RowKit
set_option linter.unusedSimpArgs false
set_option linter.unusedVariables false

theorem state_agg (w : World) (y t : Nat) (f : Bool) :
    Calls Try.prog 28 #[.agg #[.int .i64 y, .int .i64 t, .bool f]] w fun e w' => e = .returned (.agg #[.int .i64 y, .int .i64 t, .bool f]) ∧ Same w w' := state_ok w ⟨y, t, f⟩

/-- Merge, of which is known what it comes to: the state x, the error r, the place q, dead or not -/
theorem merge_agg {R : Option (St × Nat)} {cs : List Bool} {most times p : Nat} {s o : St} (hB : Hid (mergeM cs most times s o p = R)) (x : St) (r q : Nat) (d : Bool) (hR : (R = some (x, q) ∧ r = 0 ∧ d = false) ∨ (R = none ∧ x = s ∧ r = 8 ∧ q = cs.length ∧ d = true)) (w : World) (b : Nat) (v : Value) (ht : TapeAt w b v cs p false) (hg : goodThin most times) (hok : s.ok most times) (hoo : o.ok most times) :
    Calls Try.prog 31 #[.agg #[.int .i64 most, .int .i64 times], .pointer (some ⟨b, 0, none⟩), .agg #[.int .i64 s.y, .int .i64 s.t, .bool s.full], .agg #[.int .i64 o.y, .int .i64 o.t, .bool o.full]] w fun e w' => e = .returned (.tuple #[.agg #[.int .i64 x.y, .int .i64 x.t, .bool x.full], .int .i64 r]) ∧ TapeAt w' b v cs q d ∧ Ext (· = b) w w' := by
  have h := merge_any w b v cs p most times s o ht hg hok hoo
  rw [hB.out] at h
  rcases hR with ⟨rfl, rfl, rfl⟩ | ⟨rfl, rfl, rfl, rfl, rfl⟩
  · exact h
  · refine h.mono ?_
    rintro e w' ⟨_, rfl, h1, h2, h3⟩
    exact ⟨h1, h2, h3⟩

/-- the reference's Merge, of which is known what it comes to -/
theorem rmerge_agg {R : Option (St × Nat)} {cs : List Bool} {most times : Nat} {s o : St} (hB : Hid (mergeM cs most times s o 0 = R)) (x : St) (r q : Nat) (d : Bool) (hR : (R = some (x, q) ∧ r = 0 ∧ d = false) ∨ (R = none ∧ x = s ∧ r = 8 ∧ q = cs.length ∧ d = true)) (w : World) (pa : Option Addr) (ca : Nat) (hb : Bools w (.slice pa cs.length ca) cs) (hl : cs.length ≤ 1000) (hg : goodThin most times) (hok : s.ok most times) (hoo : o.ok most times) :
    Calls Try.prog 32 #[.agg #[.int .i64 most, .int .i64 times], .slice pa cs.length ca, .int .i64 0, .agg #[.int .i64 s.y, .int .i64 s.t, .bool s.full], .agg #[.int .i64 o.y, .int .i64 o.t, .bool o.full]] w fun e w' => ∃ z : St, (r = 0 → z = x) ∧ e = .returned (.agg #[.int .i64 z.y, .int .i64 z.t, .bool z.full, .int .i64 q, .int .i64 r]) ∧ Same w w' := by
  have h := rmerge_any w pa ca cs most times s o hb hl hg.2.1 hg.2.2 hok hoo
  rw [hB.out] at h
  rcases hR with ⟨rfl, rfl, rfl⟩ | ⟨rfl, rfl, rfl, rfl, rfl⟩
  · refine h.mono ?_
    rintro e w' ⟨rfl, h3⟩
    exact ⟨x, fun _ => rfl, by simp [encOut], h3⟩
  · refine h.mono ?_
    rintro e w' ⟨z, _, rfl, h3⟩
    exact ⟨z, by simp, by simp [encOut], h3⟩

set_option maxRecDepth 100000 in
set_option maxHeartbeats 8000000 in
theorem merges_walk {w : World} {va : Value} {xs : List Bool} {a b y0 t0 y1 t1 : Int} {f0 f1 : Bool} (ha : Bools w va xs) :
    Calls Try.prog 9 #[.agg #[.int .i64 a, .int .i64 b], .agg #[.int .i64 y0, .int .i64 t0, .bool f0, .int .i64 y1, .int .i64 t1, .bool f1], va] w fun e w' => e = .returned (.bool true) ∧ Same w w' := by
  go_enter Try.func9, Try.ntmps9
  go_wp2_with fail
  refine (awake16_any _).mono ?_
  rintro e w1 ⟨rfl, hs1⟩
  have m1 := hs1.read [(w.heap.size, 2), (w.heap.size + 1, 6)] (by simp; omega)
  simp [Reads, SameN, go_sem] at m1
  have hs : Same w w1 := hs1.to (by simp [ext_s])
  clear hs1
  have hz := hs.size
  go_wp2_with fail
  refine (little_ok _ a b y0 t0 f0).mono ?_
  rintro e w2 ⟨s, rfl, hp1, hp2, hp3, hok, hs2⟩
  have m2 := hs2.read [(w.heap.size, 2), (w.heap.size + 1, 6)] (by simp; omega)
  simp [Reads, SameN, go_sem, m1] at m2
  have hs : Same w w2 := hs2.to hs
  have hz := hs.size
  clear m1 hs2
  have hp2' : mostOf a ≤ 1023 := by omega
  have hp3' : timesOf b ≤ 20 := by omega
  unfold encSt
  go_wp2_with fail
  refine (little_ok _ a b y1 t1 f1).mono ?_
  rintro e w3 ⟨o, rfl, -, -, -, hoo, hs3⟩
  have m3 := hs3.read [(w.heap.size, 2), (w2.heap.size + 1, 3)] (by simp; omega)
  simp [Reads, SameN, go_sem, m2] at m3
  have hs : Same w w3 := hs3.to (by simp [ext_s, hs, hs.size, Nat.le_add_right_of_le])
  have hz := hs.size
  clear m2 hs3
  unfold encSt
  go_wp2_with fail
  refine (few_sh _ _ xs 200 (ha.same (by simp [ext_s, hs, hs.size, Nat.le_add_right_of_le])) (by omega)).mono ?_
  rintro e w4 ⟨pa, ca, cs, rfl, hb, hal, hao, Hx, rfl⟩
  go_wp2_with fail
  refine (own_ok _ _ _).mono ?_
  rintro e w5 ⟨rfl, hs5⟩
  have m5 := hs5.read [(w.heap.size, 2), (w2.heap.size + 1, 3), (w3.heap.size, 3)] (by simp; omega)
  simp [Reads, SameN, go_sem, m3] at m5
  have hb5 := hb.same hs5
  have hs : Same w w5 := hs5.to (by simp [ext_s, hs, hs.size, Nat.le_add_right_of_le])
  have hz := hs.size
  have hvl : ∀ k, (Value.slice pa cs.length ca).ownBlock = some k → k < w.heap.size := fun k hk => ha.lt k (hao k hk)
  clear m3 hs5 hb hao Hx ha
  go_wp2_with fail
  refine (new_few _ _ cs hb5 (by omega)).mono ?_
  rintro e w6 ⟨b6, v6, rfl, hbb, hv6, ht, hs6⟩
  have m6 := hs6.read [(w.heap.size, 2), (w2.heap.size + 1, 3), (w3.heap.size, 3)] (by simp; omega)
  simp [Reads, SameN, go_sem, m5] at m6
  have hb6 := hb5.same hs6
  have hs : Same w w6 := hs6.to (by simp [ext_s, hs, hs.size, Nat.le_add_right_of_le])
  have hz := hs.size
  have l5 : w.heap.size < w5.heap.size ∧ w2.heap.size + 1 < w5.heap.size ∧ w3.heap.size < w5.heap.size := by simp [m5]
  have hbl := ht.lt
  clear m5 hs6 hb5
  go_upto_region 7 with fail
  obtain ⟨A, hA⟩ : ∃ A, A = w2.heap.size + 1 := ⟨_, rfl⟩
  obtain ⟨B, hB⟩ : ∃ B, B = w3.heap.size := ⟨_, rfl⟩
  obtain ⟨P, hP⟩ : ∃ P, P = w6.heap.size := ⟨_, rfl⟩
  obtain ⟨Q, hQ⟩ : ∃ Q, Q = w.heap.size := ⟨_, rfl⟩
  rw [← hA, ← hB, ← hQ] at m6
  rw [← hA, ← hB, ← hP, ← hQ]
  obtain ⟨R, hR⟩ : ∃ R, Hid (mergeM cs (mostOf a) (timesOf b) s o 0 = R) := ⟨_, rfl⟩
  obtain ⟨x, r, q, d, hR'⟩ : ∃ x r q d, (R = some (x, q) ∧ r = 0 ∧ d = false) ∨ (R = none ∧ x = s ∧ r = 8 ∧ q = cs.length ∧ d = true) := by
    rcases R with _ | ⟨x, q⟩
    · exact ⟨s, 8, _, _, .inr ⟨rfl, rfl, rfl, rfl, rfl⟩⟩
    · exact ⟨x, 0, q, _, .inl ⟨rfl, rfl, rfl⟩⟩
  replace hR' := Lib.hid hR'
  refine over_wp (w0 := w) (fun _ => False) [(Q, 2), (A, 3), (B, 3), (P, 2)] (by simp [ext_s, hs, hs.size, Nat.le_add_right_of_le]) (by simp [m6]; omega) ?_
  intro w7 hs7 m7 k7
  simp [Reads, SameN, go_sem, m6, hP] at m7
  rw [← hP] at m7
  have ht7 : TapeAt w7 b6 v6 cs 0 false := (ht.same (by simp [ext_s])).same k7
  have hb7 : Bools w7 (.slice pa cs.length ca) cs := (hb6.same (by simp [ext_s])).same k7
  have hbl7 := ht7.lt
  have nb7' : ¬ w7.heap.size = b6 := Nat.ne_of_gt hbl7
  rw [← hP] at hbl
  rw [← hA, ← hB, ← hQ] at l5
  have nb : ¬ A = b6 ∧ ¬ B = b6 ∧ ¬ P = b6 ∧ ¬ Q = b6 ∧ w.heap.size ≤ b6 := by omega
  have hs7' : Same w w7 := hs7
  clear hs m6 hb6 k7 ht hs7 hA hB hP hQ
  go_cut [12, 13] (fun s12 s13 wx => ∃ G : Nat, s12 = .pointer (some ⟨G, 0, none⟩) ∧ s13 = .int .i64 r ∧ w7.heap.size ≤ G ∧ G < wx.heap.size ∧ wx.cell? ⟨G, 0, none⟩ = some (.int .i64 x.y) ∧ wx.cell? ⟨G, 1, none⟩ = some (.int .i64 x.t) ∧ wx.cell? ⟨G, 2, none⟩ = some (.bool x.full) ∧ Ext (· = b6) w7 wx ∧ TapeAt wx b6 v6 cs q d)
  case first =>
    clear hs7' hb7 hvl
    have all : ∀ w' : World, Ext (· = b6) w7 w' → (w'.cell? ⟨P, 0, none⟩ = some (.int .i64 (mostOf a)) ∧ w'.cell? ⟨P, 1, none⟩ = some (.int .i64 (timesOf b)) ∧ w'.cell? ⟨A, 0, none⟩ = some (.int .i64 s.y) ∧ w'.cell? ⟨A, 1, none⟩ = some (.int .i64 s.t) ∧ w'.cell? ⟨A, 2, none⟩ = some (.bool s.full) ∧ w'.cell? ⟨B, 0, none⟩ = some (.int .i64 o.y) ∧ w'.cell? ⟨B, 1, none⟩ = some (.int .i64 o.t) ∧ w'.cell? ⟨B, 2, none⟩ = some (.bool o.full)) ∧ Ext (· = b6) w7 w' := by
      intro w' h
      have m := h.read [(Q, 2), (A, 3), (B, 3), (P, 2)] (by simp [m7, nb])
      simp [Reads, SameN, go_sem, m7] at m
      simp [m, h]
    replace all := Lib.hid all
    have k7 : Same w7 w7.drew := (Ext.refl _ w7).drew
    clear m7
    go_region_held3 (fun w' => (w'.cell? ⟨P, 0, none⟩ = some (.int .i64 (mostOf a)) ∧ w'.cell? ⟨P, 1, none⟩ = some (.int .i64 (timesOf b)) ∧ w'.cell? ⟨A, 0, none⟩ = some (.int .i64 s.y) ∧ w'.cell? ⟨A, 1, none⟩ = some (.int .i64 s.t) ∧ w'.cell? ⟨A, 2, none⟩ = some (.bool s.full) ∧ w'.cell? ⟨B, 0, none⟩ = some (.int .i64 o.y) ∧ w'.cell? ⟨B, 1, none⟩ = some (.int .i64 o.t) ∧ w'.cell? ⟨B, 2, none⟩ = some (.bool o.full)) ∧ Ext (· = b6) w7 w')
      ((refine all.out _ ?_; first | exact k7.ext | exact k7.ext.alloc _ | exact k8.ext | exact k8.ext.alloc _ | exact k9.ext | exact k9.ext.alloc _ | exact k10 | exact k10.alloc _ | (simp [ext_s, k10, z10, z9, z8]; done)))
      (first
        | (go_at_call_of 28 (s.y); refine (state_agg _ s.y s.t s.full).mono ?_; rintro e w8 ⟨rfl, hs8⟩; (first | have k8 : Same w7 w8 := hs8.to k7 | have k8 : Same w7 w8 := hs8.to (k7.alloc _)); have z8 := k8.size; have n8 : ¬ w8.heap.size = b6 := Nat.ne_of_gt (Nat.lt_of_lt_of_le hbl7 z8); first | (have c8 := Ext.newN (w := w7.drew) hs8 (fun h => h) 3; simp [SameN, go_sem] at c8) | skip)
        | (go_at_call_of 28 (o.y); refine (state_agg _ o.y o.t o.full).mono ?_; rintro e w9 ⟨rfl, hs9⟩; (first | have k9 : Same w7 w9 := hs9.to k8 | have k9 : Same w7 w9 := hs9.to (k8.alloc _)); have z9 := k9.size; have n9 : ¬ w9.heap.size = b6 := Nat.ne_of_gt (Nat.lt_of_lt_of_le hbl7 z9); first | (have c9 := hs9.newN (fun h => h) 3; simp [SameN, go_sem] at c9) | (have c9 := hs9.sameN c8.1.1.1.1 (fun h => h) 3; simp [SameN, go_sem, c8] at c9) | skip)
        | (go_at_call 31; (first | refine (merge_agg hR x r q d hR'.out _ b6 v6 (ht7.same k9) ⟨hp1, hp2', hp3'⟩ hok hoo).mono ?_ | refine (merge_agg hR x r q d hR'.out _ b6 v6 (ht7.same (k9.alloc _)) ⟨hp1, hp2', hp3'⟩ hok hoo).mono ?_); rintro e w10 ⟨rfl, ht10, hs10⟩; (first | have k10 : Ext (· = b6) w7 w10 := k9.ext.trans hs10 (fun _ _ h => h) | have k10 : Ext (· = b6) w7 w10 := (k9.ext.alloc _).trans hs10 (fun _ _ h => h)); have z10 := k10.size; first | (have c10 := hs10.newN n9 3; simp [SameN, go_sem] at c10) | (have c10 := hs10.sameN c9.1.1.1.1 n8 3; simp [SameN, go_sem, c9] at c10) | (have c10 := hs10.sameN c9.1.1.1.1 nb7' 3; simp [SameN, go_sem, c9] at c10) | skip))
    all_goals go_wp2
    all_goals
      go_meet
      refine ⟨_, rfl, rfl, ?_, ?_, ?_, ?_, ?_, ?_, ?_⟩
    all_goals first
      | (simp [go_sem, z10, z9, z8]; done)
      | (simp [go_sem, c10]; done)
      | (simp [ext_s, k10, z10, z9, z8]; done)
      | (refine ht10.on ht7 ?_; simp [ext_s, z10, z9, z8]; done)
  case rest =>
    obtain ⟨G, rfl, rfl, hG0, hG, g0, g1, g2, he, ht⟩ := hcut
    have m := he.read [(Q, 2), (A, 3), (B, 3), (P, 2)] (by simp [m7, nb])
    simp [Reads, SameN, go_sem, m7] at m
    have hs : Same w _ := Ext.trans hs7' he (by intro k hk e; have : k = b6 := e; omega)
    have hb : Bools _ _ _ := hb7.ext he (by intro k hk e; have := hvl k hk; have : k = b6 := e; omega)
    clear m7 ht7 hb7 hs7' nb7'
    go_wp2_with fail
    refine (rmerge_agg hR x r q d hR'.out _ pa ca hb (by omega) ⟨hp1, hp2', hp3'⟩ hok hoo).mono ?_
    rintro e w8 ⟨z, hzx, rfl, hs8⟩
    have m8 := hs8.read [(A, 3), (P, 2), (G, 3)] (by simp [m, hG])
    simp [Reads, SameN, go_sem, m, g0, g1, g2] at m8
    replace ht := ht.same hs8
    replace hs := hs.same hs8
    clear hs8 m g0 g1 g2 hb he
    rcases hR'.out with ⟨hRx, rfl, rfl⟩ | ⟨-, rfl, rfl, rfl, rfl⟩
    · have hz := hzx rfl
      subst hz
      have hzo : z.ok (mostOf a) (timesOf b) := (mergeM_ok (hR.out.trans hRx) (Nat.zero_le _) hok hoo).1
      go_wp2_with fail
      obtain ⟨H, hH⟩ : ∃ H, H = w8.heap.size := ⟨_, rfl⟩
      rw [← hH]
      refine over_wp (w0 := w) (fun _ => False) [(P, 2), (G, 3), (H, 5)] (by simp [ext_s, hs, hs.size, Nat.le_add_right_of_le]) (by simp [m8, hH]; omega) ?_
      intro w9 hs9 m9 k9
      simp [Reads, SameN, go_sem, m8, hH] at m9
      rw [← hH] at m9
      replace ht : TapeAt w9 b6 v6 cs q false := (ht.same (by simp [ext_s])).same k9
      clear hs k9 m8 hH hR hR' hRx hzx
      have all : ∀ w' : World, Same w9 w' → (w'.cell? ⟨P, 0, none⟩ = some (.int .i64 (mostOf a)) ∧ w'.cell? ⟨P, 1, none⟩ = some (.int .i64 (timesOf b)) ∧ w'.cell? ⟨G, 0, none⟩ = some (.int .i64 z.y) ∧ w'.cell? ⟨G, 1, none⟩ = some (.int .i64 z.t) ∧ w'.cell? ⟨G, 2, none⟩ = some (.bool z.full) ∧ w'.cell? ⟨H, 0, none⟩ = some (.int .i64 z.y) ∧ w'.cell? ⟨H, 1, none⟩ = some (.int .i64 z.t) ∧ w'.cell? ⟨H, 2, none⟩ = some (.bool z.full) ∧ w'.cell? ⟨H, 3, none⟩ = some (.int .i64 q)) := by
        intro w' h
        have m := h.read [(P, 2), (G, 3), (H, 5)] (by simp [m9])
        simp [Reads, SameN, go_sem, m9] at m
        simp [m]
      replace all := Lib.hid all
      have k9 : Same w9 w9.drew := (Ext.refl _ w9).drew
      clear m9
      go_region_held3 (fun w' => w'.cell? ⟨P, 0, none⟩ = some (.int .i64 (mostOf a)) ∧ w'.cell? ⟨P, 1, none⟩ = some (.int .i64 (timesOf b)) ∧ w'.cell? ⟨G, 0, none⟩ = some (.int .i64 z.y) ∧ w'.cell? ⟨G, 1, none⟩ = some (.int .i64 z.t) ∧ w'.cell? ⟨G, 2, none⟩ = some (.bool z.full) ∧ w'.cell? ⟨H, 0, none⟩ = some (.int .i64 z.y) ∧ w'.cell? ⟨H, 1, none⟩ = some (.int .i64 z.t) ∧ w'.cell? ⟨H, 2, none⟩ = some (.bool z.full) ∧ w'.cell? ⟨H, 3, none⟩ = some (.int .i64 q))
        ((refine all.out _ ?_; first | exact k9 | exact k10 | exact k11))
        (first
          | (go_at_call 28; refine (state_agg _ z.y z.t z.full).mono ?_; rintro e w10 ⟨rfl, hs10⟩; have k10 : Same w9 w10 := hs10.to k9)
          | (go_at_call 16; refine (read_any _ b6 v6 cs q false (ht.same k10)).mono ?_; rintro e w10' ⟨rfl, rfl⟩)
          | (go_at_call 30; refine (twell_ok _ (mostOf a) (timesOf b) z ⟨hp1, hp2', hp3'⟩ hzo).mono ?_; rintro e w11 ⟨rfl, hs11⟩; have k11 : Same w9 w11 := hs11.to k10))
      all_goals go_wp2
      all_goals go_ret
      all_goals exact ⟨rfl, Ext.same hs9 k11⟩
    · go_wp2_with fail
      obtain ⟨H, hH⟩ : ∃ H, H = w8.heap.size := ⟨_, rfl⟩
      rw [← hH]
      refine over_wp (w0 := w) (fun _ => False) [(A, 3), (G, 3), (H, 5)] (by simp [ext_s, hs, hs.size, Nat.le_add_right_of_le]) (by simp [m8, hH]; omega) ?_
      intro w9 hs9 m9 k9
      simp [Reads, SameN, go_sem, m8, hH] at m9
      rw [← hH] at m9
      replace ht : TapeAt w9 b6 v6 cs cs.length true := (ht.same (by simp [ext_s])).same k9
      clear hs k9 m8 hH hR hR' hzx
      have all : ∀ w' : World, Same w9 w' → (w'.cell? ⟨A, 0, none⟩ = some (.int .i64 x.y) ∧ w'.cell? ⟨A, 1, none⟩ = some (.int .i64 x.t) ∧ w'.cell? ⟨A, 2, none⟩ = some (.bool x.full) ∧ w'.cell? ⟨G, 0, none⟩ = some (.int .i64 x.y) ∧ w'.cell? ⟨G, 1, none⟩ = some (.int .i64 x.t) ∧ w'.cell? ⟨G, 2, none⟩ = some (.bool x.full) ∧ w'.cell? ⟨H, 4, none⟩ = some (.int .i64 8)) := by
        intro w' h
        have m := h.read [(A, 3), (G, 3), (H, 5)] (by simp [m9])
        simp [Reads, SameN, go_sem, m9] at m
        simp [m]
      replace all := Lib.hid all
      have k9 : Same w9 w9.drew := (Ext.refl _ w9).drew
      clear m9
      go_region_held3 (fun w' => w'.cell? ⟨A, 0, none⟩ = some (.int .i64 x.y) ∧ w'.cell? ⟨A, 1, none⟩ = some (.int .i64 x.t) ∧ w'.cell? ⟨A, 2, none⟩ = some (.bool x.full) ∧ w'.cell? ⟨G, 0, none⟩ = some (.int .i64 x.y) ∧ w'.cell? ⟨G, 1, none⟩ = some (.int .i64 x.t) ∧ w'.cell? ⟨G, 2, none⟩ = some (.bool x.full) ∧ w'.cell? ⟨H, 4, none⟩ = some (.int .i64 8))
        ((refine all.out _ ?_; first | exact k9 | exact k10))
        (first
          | (go_at_call 28; refine (state_agg _ x.y x.t x.full).mono ?_; rintro e w10 ⟨rfl, hs10⟩; have k10 : Same w9 w10 := hs10.to k9)
          | (go_at_call 15; refine (dead_any _ b6 v6 cs _ true (ht.same k10)).mono ?_; rintro e w10' ⟨rfl, rfl⟩))
      all_goals go_wp2
      all_goals go_ret
      all_goals exact ⟨rfl, Ext.same hs9 k10⟩

end Go.Proofs.Ytfcamaiehepinaa
