/- The law ThinSplits: walked. -/
import Derived.Test.YtfcamaiehepinaaThinY
namespace Go.Proofs.Ytfcamaiehepinaa
open Go.RowKit
set_option linter.unusedSimpArgs false
set_option linter.unusedVariables false

theorem thinM_zero (t : Nat) (f : Bool) : ∀ (m k : Nat), thinM [] m ⟨0, k, f⟩ t = some (⟨0, k + m, f⟩, t) := by
  intro m
  induction m with
  | zero => intro k; rfl
  | succ m ih => intro k; unfold thinM; simp only [binA]; rw [ih]; congr 3; omega

theorem mergeM_nil {most times : Nat} {c : St} (hc : c.ok most times) : mergeM [] most times c ⟨0, 0, false⟩ 0 = some (c, 0) := by
  unfold mergeM
  simp only [Nat.zero_sub, Nat.sub_zero, thinM, thinM_zero, Nat.add_zero, Bool.or_false]
  rw [downM_small (by have := hc.1; simp; omega)]

theorem mul2 (n : Nat) (h : n < 9) : IntKind.i64.wrap (2 * (n : Int)) = ((n + n : Nat) : Int) := by rw [IntKind.wrap_i64]; omega

theorem Came.addM {cs : List Bool} {most times n p : Nat} {s x : St} {l r q : Nat} {d : Bool} {R : Option (St × Nat)} (h : Came R s l x r q d) (hR : addM cs most times n s p = R) (hp : p ≤ cs.length) (hs : s.ok most times) : x.ok most times := by
  rcases h with ⟨rfl, h1, h2⟩ | ⟨_, rfl, _⟩
  · exact (addM_ok hR hp hs).1
  · exact hs

set_option maxRecDepth 100000 in
set_option maxHeartbeats 8000000 in
theorem splits_walk {w : World} {va : Value} {xs : List Bool} {a b y0 t0 : Int} {f0 : Bool} (ha : Bools w va xs) :
    Calls Try.prog 8 #[.agg #[.int .i64 a, .int .i64 b], .agg #[.int .i64 y0, .int .i64 t0, .bool f0], va] w fun e w' => e = .returned (.bool true) ∧ Same w w' := by
  go_enter Try.func8, Try.ntmps8
  go_wp2_with fail
  refine (awake16_any _).mono ?_
  rintro e w1 ⟨rfl, hs1⟩
  have m1 := hs1.read [(w.heap.size, 2), (w.heap.size + 1, 3)] (by simp; omega)
  simp [Reads, SameN, go_sem] at m1
  have hs : Same w w1 := hs1.to (by simp [ext_s])
  clear hs1
  go_wp2_with fail
  refine (little_ok _ a b y0 t0 f0).mono ?_
  rintro e w2 ⟨s, rfl, hp1, hp2, hp3, hok, hs2⟩
  have m2 := hs2.read [(w.heap.size, 2), (w.heap.size + 1, 3)] (by simp [m1])
  simp [Reads, SameN, go_sem, m1] at m2
  replace hs : Same w w2 := hs2.to hs
  clear m1 hs2
  have hp2' : mostOf a ≤ 1023 := by omega
  have hp3' : timesOf b ≤ 20 := by omega
  unfold encSt
  go_wp2_with fail
  refine (few_sh _ _ xs 200 (ha.same (by simp [ext_s, hs, hs.size, Nat.le_add_right_of_le])) (by omega)).mono ?_
  rintro e w4 ⟨pa, ca, cs, rfl, hb, hal, hao, Hx, rfl⟩
  clear Hx hao ha
  go_wp2_with fail
  refine (own_ok _ _ _).mono ?_
  rintro e w5 ⟨rfl, hs5⟩
  have m5 := hs5.read [(w.heap.size, 2), (w.heap.size + 1, 3)] (by simp [m2])
  simp [Reads, SameN, go_sem, m2] at m5
  have hb5 := hb.same hs5
  replace hs : Same w w5 := hs5.to (by simp [ext_s, hs, hs.size])
  clear m2 hs5 hb
  obtain ⟨n, hn, hn9⟩ : ∃ n : Nat, (cs.length : Int) % 9 = n ∧ n < 9 := ⟨cs.length % 9, by omega, by omega⟩
  have hw2 := mul2 n hn9
  go_wp2_with fail
  refine (new_few _ _ cs (hb5.same (by simp [ext_s])) (by omega)).mono ?_
  rintro e w6 ⟨b6, v6, rfl, hbb, hv6, ht6, hs6⟩
  obtain ⟨P, hP⟩ : ∃ P, P = w5.heap.size := ⟨_, rfl⟩
  obtain ⟨A, hA⟩ : ∃ A, A = w.heap.size + 1 := ⟨_, rfl⟩
  rw [← hP]
  rw [← hA] at m5
  rw [← hA]
  have m6 := hs6.read [(A, 3), (P, 2)] (by simp [m5, hP]; omega)
  simp [Reads, SameN, go_sem, m5, hP] at m6
  rw [← hP] at m6
  have hb6 := (hb5.same (by simp [ext_s])).same hs6
  replace hs : Same w w6 := hs6.to (by simp [ext_s, hs, hs.size])
  have hbl := ht6.lt
  simp at hbb
  have nb : ¬ A = b6 ∧ ¬ P = b6 ∧ w.heap.size ≤ b6 := by omega
  have hv6l := ht6.2.1.lt
  clear m5 hs6 hb5 hbb hP hA hv6
  go_wp2_with fail
  refine (new_few _ _ cs hb6 (by omega)).mono ?_
  rintro e w7 ⟨b7, v7, rfl, hb7, hv7, ht7, hs7⟩
  have m7 := hs7.read [(A, 3), (P, 2)] (by simp [m6])
  simp [Reads, SameN, go_sem, m6] at m7
  have nb' : ¬ A = b7 ∧ ¬ P = b7 ∧ w.heap.size ≤ b7 ∧ ¬ b6 = b7 := by have := m6.1.1.1.1; have := m6.2.1.1.1; omega
  have nv6 : ∀ k, v6.ownBlock = some k → ¬ k = b7 := fun k hk => by have := hv6l k hk; omega
  have nv7 : ∀ k, v7.ownBlock = some k → ¬ k = b6 := fun k hk => by have := hv7 k hk; omega
  have ht6 := ht6.same hs7
  replace hs : Same w w7 := hs.same hs7
  have hbl7 := ht6.lt
  have hbl7' := ht7.lt
  clear m6 hs7 hb6 hv7 hv6l hbl hb7
  obtain ⟨R, hR⟩ : ∃ R, Hid (addM cs (mostOf a) (timesOf b) (n + n) s 0 = R) := ⟨_, rfl⟩
  obtain ⟨x, r, q, d, hR'⟩ := came R s cs.length
  replace hR' := Lib.hid hR'
  have nb6 : ¬ w7.heap.size = b6 := Nat.ne_of_gt hbl7
  go_upto_region 8 with fail
  go_cut [11, 12] (fun s10 s11 wx => ∃ G : Nat, s10 = .pointer (some ⟨G, 0, none⟩) ∧ s11 = .int .i64 r ∧ w7.heap.size ≤ G ∧ G < wx.heap.size ∧ wx.cell? ⟨G, 0, none⟩ = some (.int .i64 x.y) ∧ wx.cell? ⟨G, 1, none⟩ = some (.int .i64 x.t) ∧ wx.cell? ⟨G, 2, none⟩ = some (.bool x.full) ∧ Ext (· = b6) w7 wx ∧ TapeAt wx b6 v6 cs q d)
  case first =>
    clear hs ht7
    have all : ∀ w' : World, Ext (· = b6) w7 w' → (w'.cell? ⟨P, 0, none⟩ = some (.int .i64 (mostOf a)) ∧ w'.cell? ⟨P, 1, none⟩ = some (.int .i64 (timesOf b)) ∧ w'.cell? ⟨A, 0, none⟩ = some (.int .i64 s.y) ∧ w'.cell? ⟨A, 1, none⟩ = some (.int .i64 s.t) ∧ w'.cell? ⟨A, 2, none⟩ = some (.bool s.full)) := by
      intro w' h
      have mm := h.read [(P, 2), (A, 3)] (by simp [m7, nb])
      simp [Reads, SameN, go_sem, m7, nb] at mm
      simp [mm]
    replace all := Lib.hid all
    have k7 : Same w7 w7.drew := (Ext.refl _ w7).drew
    clear m7
    go_region_held3 (fun w' => w'.cell? ⟨P, 0, none⟩ = some (.int .i64 (mostOf a)) ∧ w'.cell? ⟨P, 1, none⟩ = some (.int .i64 (timesOf b)) ∧ w'.cell? ⟨A, 0, none⟩ = some (.int .i64 s.y) ∧ w'.cell? ⟨A, 1, none⟩ = some (.int .i64 s.t) ∧ w'.cell? ⟨A, 2, none⟩ = some (.bool s.full))
      ((refine all.out _ ?_; first | exact k7.ext | exact k7.ext.alloc _ | exact k8.ext | exact k8.ext.alloc _ | exact k9 | exact k9.alloc _ | (simp [ext_s, k9, z9, z8]; done)))
      (first
        | (go_at_call 28; refine (state_agg _ s.y s.t s.full).mono ?_; rintro e w8 ⟨rfl, hs8⟩; (first | have k8 : Same w7 w8 := hs8.to k7 | have k8 : Same w7 w8 := hs8.to (k7.alloc _)); have z8 := k8.size; have n8 : ¬ w8.heap.size = b6 := Nat.ne_of_gt (Nat.lt_of_lt_of_le hbl7 z8); first | (have c8 := Ext.newN (w := w7.drew) hs8 (fun h => h) 3; simp [SameN, go_sem] at c8) | skip)
        | (go_at_call 27; (first | refine (add_agg hR x r q d hR'.out _ b6 v6 (ht6.same k8) ⟨hp1, hp2', hp3'⟩ hok (by omega)).mono ?_ | refine (add_agg hR x r q d hR'.out _ b6 v6 (ht6.same (k8.alloc _)) ⟨hp1, hp2', hp3'⟩ hok (by omega)).mono ?_); rintro e w9 ⟨rfl, ht9, hs9⟩; (first | have k9 : Ext (· = b6) w7 w9 := k8.ext.trans hs9 (fun _ _ h => h) | have k9 : Ext (· = b6) w7 w9 := (k8.ext.alloc _).trans hs9 (fun _ _ h => h)); have z9 := k9.size; first | (have c9 := hs9.newN n8 3; simp [SameN, go_sem] at c9) | (have c9 := hs9.sameN c8.1.1.1.1 nb6 3; simp [SameN, go_sem, c8] at c9) | skip))
    all_goals go_wp2
    all_goals
      go_meet
      refine ⟨_, rfl, rfl, ?_, ?_, ?_, ?_, ?_, ?_, ?_⟩
    all_goals first
      | (simp [go_sem, z9, z8]; done)
      | (simp [go_sem, c9]; done)
      | (simp [ext_s, k9, z9, z8]; done)
      | (refine ht9.on ht6 ?_; simp [ext_s, z9, z8]; done)
  case rest =>
    obtain ⟨G, rfl, rfl, hG0, hG, g0, g1, g2, he, ht9⟩ := hcut
    have m := he.read [(A, 3), (P, 2)] (by simp [m7, nb])
    simp [Reads, SameN, go_sem, m7] at m
    replace hs : Same w _ := Ext.trans hs he (by intro k hk e; have : k = b6 := e; omega)
    have ht10 := ht7.ext he (fun e => nb'.2.2.2 e.symm) nv7
    have nG : ¬ G = b6 ∧ ¬ G = b7 := by omega
    have z7 := he.size
    clear m7 ht6 ht7 he nb6
    replace hbl7 : b7 < wc.heap.size := by omega
    have nb7 : ¬ wc.heap.size = b7 := Nat.ne_of_gt hbl7
    obtain ⟨R1, hR1⟩ : ∃ R, Hid (addM cs (mostOf a) (timesOf b) n s 0 = R) := ⟨_, rfl⟩
    obtain ⟨y, r1, q1, d1, hR1'⟩ := came R1 s cs.length
    have hyo : y.ok (mostOf a) (timesOf b) := hR1'.addM hR1.out (Nat.zero_le _) hok
    replace hR1' := Lib.hid hR1'
    obtain ⟨w8, rfl⟩ : ∃ w8, w8 = wc := ⟨_, rfl⟩
    go_upto_region 9 with fail
    go_cut [13, 14] (fun s10 s11 wx => ∃ H : Nat, s10 = .pointer (some ⟨H, 0, none⟩) ∧ s11 = .int .i64 r1 ∧ w8.heap.size ≤ H ∧ H < wx.heap.size ∧ wx.cell? ⟨H, 0, none⟩ = some (.int .i64 y.y) ∧ wx.cell? ⟨H, 1, none⟩ = some (.int .i64 y.t) ∧ wx.cell? ⟨H, 2, none⟩ = some (.bool y.full) ∧ Ext (· = b7) w8 wx ∧ TapeAt wx b7 v7 cs q1 d1)
    case first =>
      clear hs ht9
      have all : ∀ w' : World, Ext (· = b7) w8 w' → (w'.cell? ⟨P, 0, none⟩ = some (.int .i64 (mostOf a)) ∧ w'.cell? ⟨P, 1, none⟩ = some (.int .i64 (timesOf b)) ∧ w'.cell? ⟨A, 0, none⟩ = some (.int .i64 s.y) ∧ w'.cell? ⟨A, 1, none⟩ = some (.int .i64 s.t) ∧ w'.cell? ⟨A, 2, none⟩ = some (.bool s.full)) := by
        intro w' h
        have mm := h.read [(P, 2), (A, 3)] (by simp [m, nb'])
        simp [Reads, SameN, go_sem, m, nb'] at mm
        simp [mm]
      replace all := Lib.hid all
      have k7 : Same w8 w8.drew := (Ext.refl _ w8).drew
      clear m
      go_region_held3 (fun w' => w'.cell? ⟨P, 0, none⟩ = some (.int .i64 (mostOf a)) ∧ w'.cell? ⟨P, 1, none⟩ = some (.int .i64 (timesOf b)) ∧ w'.cell? ⟨A, 0, none⟩ = some (.int .i64 s.y) ∧ w'.cell? ⟨A, 1, none⟩ = some (.int .i64 s.t) ∧ w'.cell? ⟨A, 2, none⟩ = some (.bool s.full))
        ((refine all.out _ ?_; first | exact k7.ext | exact k7.ext.alloc _ | exact k8.ext | exact k8.ext.alloc _ | exact k9 | exact k9.alloc _ | (simp [ext_s, k9, z9, z8]; done)))
        (first
          | (go_at_call 28; refine (state_agg _ s.y s.t s.full).mono ?_; rintro e w9' ⟨rfl, hs8⟩; (first | have k8 : Same w8 w9' := hs8.to k7 | have k8 : Same w8 w9' := hs8.to (k7.alloc _)); have z8 := k8.size; have n8 : ¬ w9'.heap.size = b7 := Nat.ne_of_gt (Nat.lt_of_lt_of_le hbl7 z8); first | (have c8 := Ext.newN (w := w8.drew) hs8 (fun h => h) 3; simp [SameN, go_sem] at c8) | skip)
          | (go_at_call 27; (first | refine (add_agg hR1 y r1 q1 d1 hR1'.out _ b7 v7 (ht10.same k8) ⟨hp1, hp2', hp3'⟩ hok (by omega)).mono ?_ | refine (add_agg hR1 y r1 q1 d1 hR1'.out _ b7 v7 (ht10.same (k8.alloc _)) ⟨hp1, hp2', hp3'⟩ hok (by omega)).mono ?_); rintro e w9 ⟨rfl, ht9, hs9⟩; (first | have k9 : Ext (· = b7) w8 w9 := k8.ext.trans hs9 (fun _ _ h => h) | have k9 : Ext (· = b7) w8 w9 := (k8.ext.alloc _).trans hs9 (fun _ _ h => h)); have z9 := k9.size; first | (have c9 := hs9.newN n8 3; simp [SameN, go_sem] at c9) | (have c9 := hs9.sameN c8.1.1.1.1 nb7 3; simp [SameN, go_sem, c8] at c9) | skip))
      all_goals go_wp2
      all_goals
        go_meet
        refine ⟨_, rfl, rfl, ?_, ?_, ?_, ?_, ?_, ?_, ?_⟩
      all_goals first
        | (simp [go_sem, z9, z8]; done)
        | (simp [go_sem, c9]; done)
        | (simp [ext_s, k9, z9, z8]; done)
        | (refine ht9.on ht10 ?_; simp [ext_s, z9, z8]; done)
    case rest =>
      obtain ⟨H, rfl, rfl, hH0, hH, h0, h1, h2, he, ht11⟩ := hcut
      have m1 := he.read [(P, 2), (G, 3)] (by simp [m, nb', hG, nG])
      simp [Reads, SameN, go_sem, m, g0, g1, g2] at m1
      replace hs : Same w _ := Ext.trans hs he (by intro k hk e; have : k = b7 := e; omega)
      have nH : ¬ H = b6 ∧ ¬ H = b7 := by have := ht9.lt; omega
      replace ht9 := ht9.ext he nb'.2.2.2 nv6
      clear m ht10 he nb7 g0 g1 g2
      have hadd := addM_add cs (mostOf a) (timesOf b) n n s 0
      rw [hR.out, hR1.out] at hadd
      replace hadd := Lib.hid hadd
      rcases hR1'.out with ⟨rfl, rfl, rfl⟩ | ⟨rfl, rfl, rfl, rfl, rfl⟩
      · have hadd' : addM cs (mostOf a) (timesOf b) n y q1 = R := hadd.out.symm
        have hq1 := (addM_ok hR1.out (Nat.zero_le _) hok).2.2
        clear hadd hR hR1 hR1'
        go_wp2_with fail
        obtain ⟨c, r2, q2, d2, hR2⟩ := came R y cs.length
        have hco : c.ok (mostOf a) (timesOf b) := hR2.addM hadd' hq1 hyo
        refine (add_agg (Lib.hid hadd') c r2 q2 d2 hR2 _ b7 v7 ht11 ⟨hp1, hp2', hp3'⟩ hyo (by omega)).mono ?_
        rintro e w10 ⟨rfl, ht12, hs10⟩
        have m2 := hs10.read [(P, 2), (G, 3)] (by simp [m1, nb', nG])
        simp [Reads, SameN, go_sem, m1] at m2
        replace hs : Same w w10 := Ext.trans hs hs10 (by intro k hk e; have : k = b7 := e; omega)
        replace ht9 := ht9.ext hs10 nb'.2.2.2 nv6
        clear m1 hs10 ht11
        rcases hR2 with ⟨rfl, rfl, rfl⟩ | ⟨rfl, rfl, rfl, rfl, rfl⟩
        · obtain ⟨rfl, rfl, rfl, rfl⟩ := hR'.out.some
          clear hR'
          go_wp2_with fail
          obtain ⟨J, hJ⟩ : ∃ J, J = w10.heap.size := ⟨_, rfl⟩
          rw [← hJ]
          refine (new_few _ _ [] (Cells.nil _ _) (by decide)).mono ?_
          rintro e w12 ⟨b8, v8, rfl, hb8, -, ht8, hs12⟩
          have m4 := hs12.read [(P, 2), (G, 3), (J, 3)] (by simp [m2, hJ]; omega)
          simp [Reads, SameN, go_sem, m2, hJ] at m4
          rw [← hJ] at m4
          simp at hb8
          have n8 : ¬ P = b8 ∧ ¬ G = b8 ∧ ¬ J = b8 ∧ ¬ b6 = b8 ∧ ¬ b7 = b8 ∧ w.heap.size ≤ b8 := by have := m2.1.1.1.1; have := m2.2.1.1.1.1; have := ht9.lt; have := ht12.lt; have := hs.size; omega
          have nv8 : ∀ k, v6.ownBlock = some k → ¬ k = b8 := fun k hk => by have := ht9.2.1.lt k hk; omega
          have nv9 : ∀ k, v7.ownBlock = some k → ¬ k = b8 := fun k hk => by have := ht12.2.1.lt k hk; omega
          replace ht9 := (ht9.same (by simp [ext_s])).same hs12
          replace ht12 := (ht12.same (by simp [ext_s])).same hs12
          replace hs : Same w w12 := hs12.to (by simp [ext_s, hs, hs.size])
          clear m2 hs12 hb8 hJ
          go_wp2_with fail
          refine (merge_agg (Lib.hid (mergeM_nil hco)) x 0 0 false (.inl ⟨rfl, rfl, rfl⟩) _ b8 v8 ht8 ⟨hp1, hp2', hp3'⟩ hco ⟨by simp, by simp, by simp⟩).mono ?_
          rintro e w13 ⟨rfl, -, hs13⟩
          have m5 := hs13.read [(G, 3), (J, 3)] (by simp [m4, n8])
          simp [Reads, SameN, go_sem, m4] at m5
          replace hs : Same w w13 := Ext.trans hs hs13 (by intro k hk e; have : k = b8 := e; omega)
          replace ht9 := ht9.ext hs13 n8.2.2.2.1 nv8
          replace ht12 := ht12.ext hs13 n8.2.2.2.2.1 nv9
          clear m4 hs13
          go_wp2_with fail
          refine (read_any _ b6 v6 cs _ _ (ht9.same (by simp [ext_s]))).mono ?_
          rintro e w14 ⟨rfl, rfl⟩
          go_wp2_with fail
          refine (read_any _ b7 v7 cs _ _ (ht12.same (by simp [ext_s]))).mono ?_
          rintro e w15 ⟨rfl, rfl⟩
          go_wp2
          go_ret
          exact ⟨rfl, by simp [ext_s, hs, hs.size]⟩
        · obtain ⟨rfl, rfl, rfl, rfl⟩ := hR'.out.none rfl
          clear hR'
          go_wp2
          go_ret
          exact ⟨rfl, by simp [ext_s, hs, hs.size]⟩
      · have hadd' : R = none := hadd.out
        obtain ⟨rfl, rfl, rfl, rfl⟩ := hR'.out.none hadd'
        clear hadd hR hR1 hR1'
        go_wp2
        go_ret
        exact ⟨rfl, hs⟩

end Go.Proofs.Ytfcamaiehepinaa
