/- The law ThinAdds: walked. -/
import Derived.Test.YtfcamaiehepinaaThinX
namespace Go.Proofs.Ytfcamaiehepinaa
open Go.RowKit
set_option linter.unusedSimpArgs false
set_option linter.unusedVariables false

/-- what a procedure comes to: the state x, the error r, the place q, dead or not -/
def Came (R : Option (St × Nat)) (s : St) (l : Nat) (x : St) (r q : Nat) (d : Bool) : Prop := (R = some (x, q) ∧ r = 0 ∧ d = false) ∨ (R = none ∧ x = s ∧ r = 8 ∧ q = l ∧ d = true)

theorem came (R : Option (St × Nat)) (s : St) (l : Nat) : ∃ x r q d, Came R s l x r q d := by
  rcases R with _ | ⟨x, q⟩
  · exact ⟨s, 8, _, _, .inr ⟨rfl, rfl, rfl, rfl, rfl⟩⟩
  · exact ⟨x, 0, q, _, .inl ⟨rfl, rfl, rfl⟩⟩

theorem add_agg {R : Option (St × Nat)} {cs : List Bool} {most times n p : Nat} {s : St} (hB : Hid (addM cs most times n s p = R)) (x : St) (r q : Nat) (d : Bool) (hR : Came R s cs.length x r q d) (w : World) (b : Nat) (v : Value) (ht : TapeAt w b v cs p false) (hg : goodThin most times) (hok : s.ok most times) (hn : n ≤ 1000) :
    Calls Try.prog 27 #[.agg #[.int .i64 most, .int .i64 times], .pointer (some ⟨b, 0, none⟩), .agg #[.int .i64 s.y, .int .i64 s.t, .bool s.full], .int .i64 n] w fun e w' => e = .returned (.tuple #[.agg #[.int .i64 x.y, .int .i64 x.t, .bool x.full], .int .i64 r]) ∧ TapeAt w' b v cs q d ∧ Ext (· = b) w w' := by
  have h := add_any w b v cs p most times s (n : Int) ht hg hok (by omega)
  rw [Int.toNat_natCast, hB.out] at h
  rcases hR with ⟨rfl, rfl, rfl⟩ | ⟨rfl, rfl, rfl, rfl, rfl⟩
  · exact h
  · refine h.mono ?_
    rintro e w' ⟨_, rfl, h1, h2, h3⟩
    exact ⟨h1, h2, h3⟩

theorem Came.none {R : Option (St × Nat)} {s x : St} {l r q : Nat} {d : Bool} (h : Came R s l x r q d) (hR : R = .none) : x = s ∧ r = 8 ∧ q = l ∧ d = true := by
  subst hR
  rcases h with ⟨h, _⟩ | ⟨_, h⟩
  · cases h
  · exact h
theorem Came.some {s x y : St} {l r q p : Nat} {d : Bool} (h : Came (.some (y, p)) s l x r q d) : x = y ∧ r = 0 ∧ q = p ∧ d = false := by
  rcases h with ⟨h, h1, h2⟩ | ⟨h, _⟩
  · cases h; exact ⟨rfl, h1, rfl, h2⟩
  · cases h

/-- what comes behind one more -/
def nextM (cs : List Bool) (most times k : Nat) : Option (St × Nat) → Option (St × Nat)
  | some (s, q) => addM cs most times k s q
  | none => none
theorem addM_next (cs : List Bool) (most times k : Nat) (s : St) (p : Nat) : addM cs most times (k + 1) s p = nextM cs most times k (oneM cs most times s p) := by
  unfold nextM
  rw [addM]
  split <;> simp_all

/-- the reference's Inc -/
theorem rinc_agg {T : Option (St × Nat)} (w : World) (pa : Option Addr) (ca : Nat) (cs : List Bool) (p most times : Nat) (s : St) (hT : Hid (oneM cs most times s p = T)) (hb : Bools w (.slice pa cs.length ca) cs) (hl : cs.length ≤ 1000) (hp : p ≤ cs.length) (hg : goodThin most times) (hok : s.ok most times) :
    Calls Try.prog 29 #[.agg #[.int .i64 most, .int .i64 times], .slice pa cs.length ca, .int .i64 p, .agg #[.int .i64 s.y, .int .i64 s.t, .bool s.full]] w fun e w' => ∃ z : St, ∃ k f : Nat, p + k ≤ cs.length ∧ (T = none ∧ p + k = cs.length ∧ f = 8 ∨ T = some (z, p + k) ∧ f = 0 ∧ z.ok most times) ∧ e = .returned (.agg #[.int .i64 z.y, .int .i64 z.t, .bool z.full, .int .i64 k, .int .i64 f]) ∧ Same w w' := by
  have h := rinc_any w pa ca cs p most times s hb hl hp hg.2.1 hg.2.2 (Nat.le_trans hok.1 hg.2.1) hok.2.1
  rcases hB : oneM cs most times s p with _ | ⟨z, p'⟩
  · rw [hB] at h
    have hT' := hB.symm.trans hT.out
    subst hT'
    refine h.mono ?_
    rintro e w' ⟨z, _, rfl, h3⟩
    exact ⟨z, cs.length - p, 8, by omega, .inl ⟨rfl, by omega, rfl⟩, by simp [encOut]; omega, h3⟩
  · rw [hB] at h
    have hle := oneM_ok hB hp hok
    have hT' := hB.symm.trans hT.out
    subst hT'
    refine h.mono ?_
    rintro e w' ⟨rfl, h3⟩
    exact ⟨z, p' - p, 0, by omega, .inr ⟨by congr 2; omega, rfl, hle.1⟩, by simp [encOut]; omega, h3⟩

set_option maxRecDepth 100000 in
set_option maxHeartbeats 8000000 in
theorem adds_walk {w : World} {va : Value} {xs : List Bool} {a b y0 t0 : Int} {f0 : Bool} (ha : Bools w va xs) :
    Calls Try.prog 7 #[.agg #[.int .i64 a, .int .i64 b], .agg #[.int .i64 y0, .int .i64 t0, .bool f0], va] w fun e w' => e = .returned (.bool true) ∧ Same w w' := by
  go_enter Try.func7, Try.ntmps7
  go_wp2_with fail
  refine (awake16_any _).mono ?_
  rintro e w1 ⟨rfl, hs1⟩
  have m1 := hs1.read [(w.heap.size, 2), (w.heap.size + 1, 3)] (by simp; omega)
  simp [Reads, SameN, go_sem] at m1
  have hs : Same w w1 := hs1.to (by simp [ext_s])
  clear hs1
  go_wp2_with fail
  refine (little_ok _ a b y0 t0 f0).mono ?_
  rintro e w2 ⟨s, rfl, hp1, hp2, hp3, hok, hs2⟩
  have m2 := hs2.read [(w.heap.size, 2), (w.heap.size + 1, 3)] (by simp [m1])
  simp [Reads, SameN, go_sem, m1] at m2
  replace hs : Same w w2 := hs2.to hs
  clear m1 hs2
  have hp2' : mostOf a ≤ 1023 := by omega
  have hp3' : timesOf b ≤ 20 := by omega
  unfold encSt
  go_wp2_with fail
  refine (few_sh _ _ xs 200 (ha.same (by simp [ext_s, hs, hs.size, Nat.le_add_right_of_le])) (by omega)).mono ?_
  rintro e w4 ⟨pa, ca, cs, rfl, hb, hal, hao, Hx, rfl⟩
  clear Hx
  go_wp2_with fail
  refine (own_ok _ _ _).mono ?_
  rintro e w5 ⟨rfl, hs5⟩
  have m5 := hs5.read [(w.heap.size, 2), (w.heap.size + 1, 3)] (by simp [m2])
  simp [Reads, SameN, go_sem, m2] at m5
  have hb5 := hb.same hs5
  replace hs : Same w w5 := hs5.to (by simp [ext_s, hs, hs.size])
  have hvl : ∀ k, (Value.slice pa cs.length ca).ownBlock = some k → k < w.heap.size := fun k hk => ha.lt k (hao k hk)
  clear m2 hs5 hb hao ha
  go_wp2_with fail
  refine (new_few _ _ cs (hb5.same (by simp [ext_s])) (by omega)).mono ?_
  rintro e w6 ⟨b6, v6, rfl, hbb, hv6, ht, hs6⟩
  obtain ⟨P, hP⟩ : ∃ P, P = w5.heap.size := ⟨_, rfl⟩
  obtain ⟨Q, hQ⟩ : ∃ Q, Q = w.heap.size := ⟨_, rfl⟩
  obtain ⟨A, hA⟩ : ∃ A, A = w.heap.size + 1 := ⟨_, rfl⟩
  rw [← hP]
  rw [← hA, ← hQ] at m5
  rw [← hA, ← hQ]
  have m6 := hs6.read [(Q, 2), (A, 3), (P, 2)] (by simp [m5, hP]; omega)
  simp [Reads, SameN, go_sem, m5, hP] at m6
  rw [← hP] at m6
  have hb6 := (hb5.same (by simp [ext_s])).same hs6
  replace hs : Same w w6 := hs6.to (by simp [ext_s, hs, hs.size])
  have hbl := ht.lt
  simp at hbb
  have nb : ¬ A = b6 ∧ ¬ P = b6 ∧ ¬ Q = b6 ∧ w.heap.size ≤ b6 := by omega
  clear m5 hs6 hb5 hbb hP hQ hA hv6
  obtain ⟨n, hn, hn20⟩ : ∃ n : Nat, (cs.length : Int) % 20 = n ∧ n < 20 := ⟨cs.length % 20, by omega, by omega⟩
  obtain ⟨R, hR⟩ : ∃ R, Hid (addM cs (mostOf a) (timesOf b) n s 0 = R) := ⟨_, rfl⟩
  obtain ⟨x, r, q, d, hR'⟩ := came R s cs.length
  replace hR' := Lib.hid hR'
  have nb6 : ¬ w6.heap.size = b6 := Nat.ne_of_gt hbl
  go_upto_region 8 with fail
  go_cut [10, 11] (fun s10 s11 wx => ∃ G : Nat, s10 = .pointer (some ⟨G, 0, none⟩) ∧ s11 = .int .i64 r ∧ w6.heap.size ≤ G ∧ G < wx.heap.size ∧ wx.cell? ⟨G, 0, none⟩ = some (.int .i64 x.y) ∧ wx.cell? ⟨G, 1, none⟩ = some (.int .i64 x.t) ∧ wx.cell? ⟨G, 2, none⟩ = some (.bool x.full) ∧ Ext (· = b6) w6 wx ∧ TapeAt wx b6 v6 cs q d)
  case first =>
    clear hs hb6 hvl
    have all : ∀ w' : World, Ext (· = b6) w6 w' → (w'.cell? ⟨P, 0, none⟩ = some (.int .i64 (mostOf a)) ∧ w'.cell? ⟨P, 1, none⟩ = some (.int .i64 (timesOf b)) ∧ w'.cell? ⟨A, 0, none⟩ = some (.int .i64 s.y) ∧ w'.cell? ⟨A, 1, none⟩ = some (.int .i64 s.t) ∧ w'.cell? ⟨A, 2, none⟩ = some (.bool s.full)) := by
      intro w' h
      have mm := h.read [(P, 2), (A, 3)] (by simp [m6, nb])
      simp [Reads, SameN, go_sem, m6, nb] at mm
      simp [mm]
    replace all := Lib.hid all
    have k7 : Same w6 w6.drew := (Ext.refl _ w6).drew
    clear m6
    go_region_held3 (fun w' => w'.cell? ⟨P, 0, none⟩ = some (.int .i64 (mostOf a)) ∧ w'.cell? ⟨P, 1, none⟩ = some (.int .i64 (timesOf b)) ∧ w'.cell? ⟨A, 0, none⟩ = some (.int .i64 s.y) ∧ w'.cell? ⟨A, 1, none⟩ = some (.int .i64 s.t) ∧ w'.cell? ⟨A, 2, none⟩ = some (.bool s.full))
      ((refine all.out _ ?_; first | exact k7.ext | exact k7.ext.alloc _ | exact k8.ext | exact k8.ext.alloc _ | exact k9 | exact k9.alloc _ | (simp [ext_s, k9, z9, z8]; done)))
      (first
        | (go_at_call 28; refine (state_agg _ s.y s.t s.full).mono ?_; rintro e w8 ⟨rfl, hs8⟩; (first | have k8 : Same w6 w8 := hs8.to k7 | have k8 : Same w6 w8 := hs8.to (k7.alloc _)); have z8 := k8.size; have n8 : ¬ w8.heap.size = b6 := Nat.ne_of_gt (Nat.lt_of_lt_of_le hbl z8); first | (have c8 := Ext.newN (w := w6.drew) hs8 (fun h => h) 3; simp [SameN, go_sem] at c8) | skip)
        | (go_at_call 27; (first | refine (add_agg hR x r q d hR'.out _ b6 v6 (ht.same k8) ⟨hp1, hp2', hp3'⟩ hok (by omega)).mono ?_ | refine (add_agg hR x r q d hR'.out _ b6 v6 (ht.same (k8.alloc _)) ⟨hp1, hp2', hp3'⟩ hok (by omega)).mono ?_); rintro e w9 ⟨rfl, ht9, hs9⟩; (first | have k9 : Ext (· = b6) w6 w9 := k8.ext.trans hs9 (fun _ _ h => h) | have k9 : Ext (· = b6) w6 w9 := (k8.ext.alloc _).trans hs9 (fun _ _ h => h)); have z9 := k9.size; first | (have c9 := hs9.newN n8 3; simp [SameN, go_sem] at c9) | (have c9 := hs9.sameN c8.1.1.1.1 nb6 3; simp [SameN, go_sem, c8] at c9) | skip))
    all_goals go_wp2
    all_goals
      go_meet
      refine ⟨_, rfl, rfl, ?_, ?_, ?_, ?_, ?_, ?_, ?_⟩
    all_goals first
      | (simp [go_sem, z9, z8]; done)
      | (simp [go_sem, c9]; done)
      | (simp [ext_s, k9, z9, z8]; done)
      | (refine ht9.on ht ?_; simp [ext_s, z9, z8]; done)
  case rest =>
    obtain ⟨G, rfl, rfl, hG0, hG, g0, g1, g2, he, ht9⟩ := hcut
    have m := he.read [(Q, 2), (A, 3), (P, 2)] (by simp [m6, nb])
    simp [Reads, SameN, go_sem, m6] at m
    replace hs : Same w _ := Ext.trans hs he (by intro k hk e; have : k = b6 := e; omega)
    have hb : Bools _ _ _ := hb6.ext he (by intro k hk e; have := hvl k hk; have : k = b6 := e; omega)
    have hGb : ¬ G = b6 := by omega
    clear m6 ht hb6 he nb6 hn
    go_wp2_with fail
    obtain ⟨N, hN⟩ : ∃ N, N = wc.heap.size := ⟨_, rfl⟩
    rw [← hN]
    have hbc := ht9.lt
    have hvl' : ∀ k, v6.ownBlock = some k → k < N := fun k hk => by rw [hN]; exact ht9.2.1.lt k hk
    refine over_wp (w0 := w) (fun _ => False) [(Q, 2), (A, 3), (P, 2), (G, 3), (N, 3)] (by simp [ext_s, hs, hs.size, Nat.le_add_right_of_le]) (by simp [m, hN]; omega) ?_
    intro w10 hs10 m10 k10
    simp [Reads, SameN, go_sem, m, g0, g1, g2, hN, hG] at m10
    rw [← hN] at m10
    have ht10 : TapeAt w10 b6 v6 cs q d := (ht9.same (by simp [ext_s])).same k10
    have hb10 : Bools w10 (.slice pa cs.length ca) cs := (hb.same (by simp [ext_s])).same k10
    have nn : ¬ Q = N ∧ ¬ A = N ∧ ¬ P = N ∧ ¬ G = N ∧ ¬ b6 = N ∧ w.heap.size ≤ N := by have := hs.size; omega
    clear hs m g0 g1 g2 ht9 hb k10 hN hG
    go_loopw [13, 14, 15] (fun t f i wr => ∃ i' q' f' : Nat, ∃ now : St, i = .int .i64 i' ∧ i' ≤ n ∧ t = .int .i64 q' ∧ q' ≤ cs.length ∧ f = .int .i64 f' ∧ now.ok (mostOf a) (timesOf b) ∧ Ext (· = N) w10 wr ∧ (∀ j, wr.frozen? ⟨N, j, none⟩ = false) ∧ wr.cell? ⟨N, 0, none⟩ = some (.int .i64 now.y) ∧ wr.cell? ⟨N, 1, none⟩ = some (.int .i64 now.t) ∧ wr.cell? ⟨N, 2, none⟩ = some (.bool now.full) ∧ (f' = 0 ∧ Hid (addM cs (mostOf a) (timesOf b) (n - i') now q' = R) ∨ f' = 8 ∧ R = none)) (fun _ _ i _ => n - (intOf i).toNat)
    case atStart => exact ⟨0, 0, 0, s, rfl, Nat.zero_le _, rfl, Nat.zero_le _, rfl, hok, Ext.refl _ _, by simp [m10], by simp [m10], by simp [m10], by simp [m10], .inl ⟨rfl, hR⟩⟩
    case round =>
      obtain ⟨i, q', f', now, rfl, hi, rfl, hq', rfl, hnow, he, nf, n0, n1, n2, hf⟩ := hrel
      have m := he.read [(Q, 2), (A, 3), (P, 2), (G, 3)] (by simp [m10, nn])
      have mN : N < wr.heap.size := Nat.lt_of_lt_of_le (by simp [m10]) he.size
      simp [Reads, SameN, go_sem, m10] at m
      rcases hf with ⟨rfl, hf⟩ | ⟨rfl, hf⟩
      · by_cases hin : i < n
        · obtain ⟨T, hT⟩ : ∃ T, Hid (oneM cs (mostOf a) (timesOf b) now q' = T) := ⟨_, rfl⟩
          have hf' : Hid (nextM cs (mostOf a) (timesOf b) (n - (i + 1)) T = R) := by
            have := hf.out
            rw [show n - i = (n - (i + 1)) + 1 by omega, addM_next, hT.out] at this
            exact this
          clear hf
          go_wp2_with fail
          refine (rinc_agg _ pa ca cs q' (mostOf a) (timesOf b) now hT (hb10.ext he (by intro k hk e; have := hvl k hk; have : k = N := e; omega)) (by omega) hq' ⟨hp1, hp2', hp3'⟩ hnow).mono ?_
          rintro e w11 ⟨z, k, f, hkl, hzk, rfl, hs11⟩
          have m11 := hs11.read [(N, 3)] (by simp [mN])
          simp [Reads, SameN, go_sem, nf, n0, n1, n2] at m11
          replace he : Ext (· = N) w10 w11 := hs11.to he
          have z11 := he.size
          clear hs11 nf n0 n1 n2 m
          go_wp2_with fail
          obtain ⟨O, hO⟩ : ∃ O, O = w11.heap.size := ⟨_, rfl⟩
          rw [← hO]
          refine over_wp (w0 := w10) (· = N) [(N, 3), (O, 5)] (by simp [ext_s, he, z11]) (by simp [m11, hO]; omega) ?_
          intro w12 hs12 m12 _
          simp [Reads, SameN, go_sem, m11, hO] at m12
          rw [← hO] at m12
          clear he m11 hO
          have hw : IntKind.i64.wrap ((q' : Int) + k) = (q' + k : Nat) := by rw [IntKind.wrap_i64]; omega
          go_cut [13, 14] (fun t f' wx => t = .int .i64 ((q' + k : Nat) : Int) ∧ f' = .int .i64 f ∧ Same w12 wx)
          case first =>
            have all : ∀ w' : World, Same w12 w' → (w'.cell? ⟨O, 0, none⟩ = some (.int .i64 z.y) ∧ w'.cell? ⟨O, 1, none⟩ = some (.int .i64 z.t) ∧ w'.cell? ⟨O, 2, none⟩ = some (.bool z.full) ∧ w'.cell? ⟨O, 3, none⟩ = some (.int .i64 k) ∧ w'.cell? ⟨O, 4, none⟩ = some (.int .i64 f)) := by
              intro w' h
              have mm := h.read [(O, 5)] (by simp [m12])
              simp [Reads, SameN, go_sem, m12] at mm
              simp [mm]
            replace all := Lib.hid all
            have k12 : Same w12 w12.drew := (Ext.refl _ w12).drew
            go_region_held3 (fun w' => w'.cell? ⟨O, 0, none⟩ = some (.int .i64 z.y) ∧ w'.cell? ⟨O, 1, none⟩ = some (.int .i64 z.t) ∧ w'.cell? ⟨O, 2, none⟩ = some (.bool z.full) ∧ w'.cell? ⟨O, 3, none⟩ = some (.int .i64 k) ∧ w'.cell? ⟨O, 4, none⟩ = some (.int .i64 f))
              ((refine all.out _ ?_; first | exact k12))
              (fail)
            go_wp2
            go_meet
            exact ⟨rfl, rfl, k12⟩
          case rest =>
            obtain ⟨rfl, rfl, k12⟩ := hcut
            have m13 := k12.read [(N, 3), (O, 5)] (by simp [m12])
            simp [Reads, SameN, go_sem, m12] at m13
            replace hs12 : Ext (· = N) w10 _ := k12.to hs12
            have z12 := hs12.size
            clear m12 k12
            rcases hzk with ⟨rfl, hqk, rfl⟩ | ⟨rfl, rfl, hz⟩
            · go_wp2
              go_roundw
              case rel => exact ⟨i + 1, q' + k, 8, now, by simp, by omega, rfl, hkl, rfl, hnow, hs12, by simp [m13], by simp [m13], by simp [m13], by simp [m13], .inr ⟨rfl, hf'.out.symm⟩⟩
              case measure => simp [intOf]; omega
            · go_wp2
              go_roundw
              case rel => exact ⟨i + 1, q' + k, 0, z, by simp, by omega, rfl, hkl, rfl, hz, by simp [ext_s, hs12, z12], by simp [go_sem, m13], by simp [go_sem, m13], by simp [go_sem, m13], by simp [go_sem, m13], .inl ⟨rfl, hf'⟩⟩
              case measure => simp [intOf]; omega
        · have hq : R = some (now, q') := by
            have := hf.out
            rw [show n - i = 0 by omega] at this
            exact this.symm
          subst hq
          obtain ⟨rfl, rfl, rfl, rfl⟩ := hR'.out.some
          clear hf hR hR'
          go_wp2_with fail
          have ht := ht10.ext he nn.2.2.2.2.1 (fun k hk e => by have := hvl' k hk; have : k = N := e; omega)
          replace hs : Same w wr := hs10.trans he (by intro k hk e; have : k = N := e; omega)
          clear m10 hs10 ht10 hb10 nn
          have all : ∀ w' : World, Same wr w' → (w'.cell? ⟨P, 0, none⟩ = some (.int .i64 (mostOf a)) ∧ w'.cell? ⟨P, 1, none⟩ = some (.int .i64 (timesOf b)) ∧ w'.cell? ⟨G, 0, none⟩ = some (.int .i64 x.y) ∧ w'.cell? ⟨G, 1, none⟩ = some (.int .i64 x.t) ∧ w'.cell? ⟨G, 2, none⟩ = some (.bool x.full) ∧ w'.cell? ⟨N, 0, none⟩ = some (.int .i64 x.y) ∧ w'.cell? ⟨N, 1, none⟩ = some (.int .i64 x.t) ∧ w'.cell? ⟨N, 2, none⟩ = some (.bool x.full)) := by
            intro w' h
            have mm := h.read [(P, 2), (G, 3), (N, 3)] (by simp [m, n0, n1, n2, nf, mN])
            simp [Reads, SameN, go_sem, m, n0, n1, n2, nf, mN] at mm
            simp [mm]
          replace all := Lib.hid all
          have k9 : Same wr wr.drew := (Ext.refl _ wr).drew
          go_region_held3 (fun w' => w'.cell? ⟨P, 0, none⟩ = some (.int .i64 (mostOf a)) ∧ w'.cell? ⟨P, 1, none⟩ = some (.int .i64 (timesOf b)) ∧ w'.cell? ⟨G, 0, none⟩ = some (.int .i64 x.y) ∧ w'.cell? ⟨G, 1, none⟩ = some (.int .i64 x.t) ∧ w'.cell? ⟨G, 2, none⟩ = some (.bool x.full) ∧ w'.cell? ⟨N, 0, none⟩ = some (.int .i64 x.y) ∧ w'.cell? ⟨N, 1, none⟩ = some (.int .i64 x.t) ∧ w'.cell? ⟨N, 2, none⟩ = some (.bool x.full))
            ((refine all.out _ ?_; first | exact k9 | exact k10 | exact k11))
            (first
              | (go_at_call 28; refine (state_agg _ x.y x.t x.full).mono ?_; rintro e w10' ⟨rfl, hs10⟩; have k10 : Same wr w10' := hs10.to k9)
              | (go_at_call 16; refine (read_any _ b6 v6 cs q false (ht.same k10)).mono ?_; rintro e w10'' ⟨rfl, rfl⟩)
              | (go_at_call 30; refine (twell_ok _ (mostOf a) (timesOf b) x ⟨hp1, hp2', hp3'⟩ hnow).mono ?_; rintro e w11 ⟨rfl, hs11⟩; have k11 : Same wr w11 := hs11.to k10))
          all_goals go_wp2
          all_goals go_ret
          all_goals exact ⟨rfl, Ext.same hs k11⟩
      · obtain ⟨rfl, rfl, rfl, rfl⟩ := hR'.out.none hf
        clear hf hR hR'
        go_wp2_with fail
        all_goals
          have ht := ht10.ext he nn.2.2.2.2.1 (fun k hk e => by have := hvl' k hk; have : k = N := e; omega)
          replace hs : Same w wr := hs10.trans he (by intro k hk e; have : k = N := e; omega)
          clear m10 hs10 ht10 hb10 nn
          have all : ∀ w' : World, Same wr w' → (w'.cell? ⟨A, 0, none⟩ = some (.int .i64 x.y) ∧ w'.cell? ⟨A, 1, none⟩ = some (.int .i64 x.t) ∧ w'.cell? ⟨A, 2, none⟩ = some (.bool x.full) ∧ w'.cell? ⟨G, 0, none⟩ = some (.int .i64 x.y) ∧ w'.cell? ⟨G, 1, none⟩ = some (.int .i64 x.t) ∧ w'.cell? ⟨G, 2, none⟩ = some (.bool x.full)) := by
            intro w' h
            have mm := h.read [(A, 3), (G, 3)] (by simp [m])
            simp [Reads, SameN, go_sem, m] at mm
            simp [mm]
          replace all := Lib.hid all
          have k9 : Same wr wr.drew := (Ext.refl _ wr).drew
          go_region_held3 (fun w' => w'.cell? ⟨A, 0, none⟩ = some (.int .i64 x.y) ∧ w'.cell? ⟨A, 1, none⟩ = some (.int .i64 x.t) ∧ w'.cell? ⟨A, 2, none⟩ = some (.bool x.full) ∧ w'.cell? ⟨G, 0, none⟩ = some (.int .i64 x.y) ∧ w'.cell? ⟨G, 1, none⟩ = some (.int .i64 x.t) ∧ w'.cell? ⟨G, 2, none⟩ = some (.bool x.full))
            ((refine all.out _ ?_; first | exact k9 | exact k10))
            (first
              | (go_at_call 28; refine (state_agg _ x.y x.t x.full).mono ?_; rintro e w10' ⟨rfl, hs10⟩; have k10 : Same wr w10' := hs10.to k9)
              | (go_at_call 15; refine (dead_any _ b6 v6 cs _ true (ht.same k10)).mono ?_; rintro e w10'' ⟨rfl, rfl⟩))
        all_goals go_wp2
        all_goals go_ret
        all_goals exact ⟨rfl, Ext.same hs k10⟩

end Go.Proofs.Ytfcamaiehepinaa
