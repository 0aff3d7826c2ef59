import Derived.Test.YtakjegcjeffmgaaYuW
namespace Go.Proofs.Ytakjegcjeffmgaa.Am
open Go.RowKit
set_option maxRecDepth 100000
set_option linter.unusedSimpArgs false
set_option linter.unusedVariables false

theorem plC_len (p : Pl) : (plC p).length = 4 := rfl
theorem plD_eq (p : Pl) : plD p = .agg (plC p) := rfl
theorem lowl_plC (n : Nat) (p : Pl) : V.lowl n ((plC p).map V.d) = true := rfl
theorem getD_of_rep {m : Mem} {a : Act} {T : List V} {H : List (Option Ob)} (sat : Sat m a T H) {s : Nat} {x : V} (h : T.getD s .junk = x) : x.rep m (a.tmps.getD s undef) := h ▸ sat.slots s
theorem nloop (r : Loop) : ∀ c t f, Obj.loop r ≠ .cells c t f := by intro c t f h; cases h

theorem reps_data {m m' : Mem} (hI : m'.I = m.I) (hw : m'.w = m.w) {ds : List D} {vs : List Value} (h : V.reps m (ds.map V.d) vs) : V.reps m' (ds.map V.d) vs := by
  rw [V.reps_map_d] at h ⊢
  rw [hI, hw]; exact h
theorem wpIn_eval {m : Mem} {a : Act} {T : List V} {H : List (Option Ob)} (sat : Sat m a T H) {c : Operand} {s : Nat} (hc : X.of c = .t s) {b : Bool} (h : T.getD s .junk = .d (.bool b)) : a.eval c = .bool b :=
  V.rep_bool.1 (X.rep' (T := T) (fun s _ => sat.slots s) (by rw [hc]; exact h))
def zD : List D := [.int .i64 0, .int .i64 0, .nilsl, .nilsl]
def SS : Nat → Bool := fun n => n == 0 || n == 2

set_option maxHeartbeats 4000000 in
theorem walk1_ok {asg bd : Code} (hasg : resolveC Try.prog asg = cAsg) (hbd : resolveC Try.prog bd = cBd) (ca : Code.calm asg = true) (cb : Code.calm bd = true) {fn df : Nat} {tmps : Array Value} {rec : LoopState → Option Code → Loop}
    (hrec : rec = fun st pe => { state := st, pending := pe, fn, tmps, params := #[24, 25], assign := asg, body := bd, defers := df }) (s K : Nat) (s1 : 1 ≤ s) (s5 : s ≤ 5) (hK : K ≤ 1023) {m : Mem} {l : Nat} {sv : Value}
    (sat : ∀ a : Act, a.tmps = #[.func (.yield l) #[] #[], sv] ++ Array.replicate 21 undef → a.defers = [] → Sat m a ([fnY l, .p 3 0] ++ List.replicate 21 .junk) [some (kO K), none, some (plO (zD.map V.d)), some (sO s)])
    (t3 : (V.p 0 0).rep m (tmps.getD 3 undef)) (t6 : (V.p 2 0).rep m (tmps.getD 6 undef)) (hsz : tmps.size = 31) (hlo : m.loose l) (hl : m.w.heap[l]? = some (.loop (rec .ready none))) :
    Calls Try.prog n_yu_walk_1 #[.func (.yield l) #[] #[], sv] m.w fun e w' => (∃ v, e = .returned v) ∧ ∃ m' : Mem, m'.w = w' ∧ m'.base ∧ m'.obj 2 (plO ((plC (placeY s K)).map .d)) ∧ (m.at (m.w.putObj l (.loop (rec .done (some (.exit 1)))))).le m' (· < 4) := by
  obtain ⟨f67, r0, r1, g, r5, r6, -, id, ops, o0, o1, o2, o3, o4, cy, hf, hb, hops, e0, e1, eg, eos, ecall, eo4, ecy, er5, er6, ecalm, eres, ent⟩ := walkS_spec walk_s
  simp only at hb e0 e1 eg eos ecall eo4 ecy er5 er6 ecalm eres ent
  obtain ⟨cc, ho3, hg3, hc3, ha3, hd3⟩ := callS_spec ecall
  rw [Bool.and_eq_true] at ecalm
  refine calls_of_wp hf hb ((wpIn_wide (n := 0)).1 ?_)
  have sat0 := sat { tmps := #[.func (.yield l) #[] #[], sv] ++ Array.replicate (f67.ntmps - #[Value.func (.yield l) #[] #[], sv].size) undef, defers := [] } (by rw [ent]; rfl) rfl
  have htop : ∀ n, 4 ≤ n → m.ρ n = none := sat0.top
  refine AW.then (L := 4) e0 (w_r0 l K s s1 s5 (zD.map V.d) rfl) sat0 (Mem.le.refl _ _) htop (by simp) fun T1 H1 m1 a1 hq st1 le1 L1 => ?_
  obtain ⟨m1', hw1, st1', le1', L1'⟩ := Sat.weaken (T1 := Tw0 l) (H1 := Hw K s 0 (zD.map V.d)) (Weak.of hq.1 hq.2) st1 le1 htop (by simp [Hw])
  rw [← hw1]
  refine AW.then (L := 4) e1 (w_r1 l K s (zD.map V.d) rfl) st1' le1' htop (by simp [Hw]) fun T2 H2 m2 a2 hq st2 le2 L2 => ?_
  obtain ⟨m2', hw2, st2', le2', L2'⟩ := Sat.weaken (T1 := Tw l 0) (H1 := Hw K s 0 (zD.map V.d)) (Weak.of hq.1 hq.2) st2 le2 htop (by simp [Hw])
  rw [← hw2]
  clear hw1 hw2 st1 st2 sat0 sat le1 le2 L1 L2 st1' le1' L1' hq
  refine wpIn_block (wpIn_wide.2 (wp_loop_ex (fun k a w => ∃ (i : Nat) (c : List D) (m' : Mem), m'.w = w ∧ k = 1024 - i ∧ i ≤ K ∧ c.length = 4 ∧ Sat m' a (Tw l i) (Hw K s i (c.map V.d)) ∧ m.le m' (· < 4)) ?_ 1024 a2 m2'.w ⟨0, _, m2', rfl, rfl, Nat.zero_le _, rfl, st2', le2'⟩))
  clear st2' le2' L2' hq m2 m2' a2 T2 H2 m1 m1' a1 T1 H1
  rintro k a w ⟨i, c, mw, rfl, rfl, hi, hc, st, le⟩
  have hlc : V.lowl 6 (c.map V.d) = true := V.lowl_mono (by omega) _ (plainL_d c).1
  refine (wpIn_wide (n := 0)).1 ?_
  refine AW.then (L := 4) eg (w_g l K s i (by omega) (c.map V.d) hlc) st le htop (by simp [Hw]) fun T1 H1 m1 a1 hq st1 le1 L1 => ?_
  obtain ⟨m1', hw1, st1', le1', L1'⟩ := Sat.weaken (T1 := Tw l i) (H1 := Hw K s i (c.map V.d)) (Weak.of hq.1 hq.2) st1 le1 htop (by simp [Hw])
  rw [← hw1]
  clear hw1 st1 le1 L1 hq st le m1 T1 H1 a mw
  refine wpIn_seq (wpIn_block (wpIn_seq (wpIn_seq (wpIn_regops ?_))))
  rw [hops, show [o0, o1, o2, o3, o4] = [o0, o1, o2] ++ [o3, o4] from rfl]
  refine vops_listIn (l := none) (L := 4) (K := fun T H => T = ((((Tw l i).set 15 (fnY l)).set 16 (.d (.int .i64 i))).set 17 (.d (.agg (plC (placeY s i))))) ∧ H = Hw K s i (c.map V.d)) [o3, o4] ecalm.1 (by rw [eos]; exact w_os l K s i (c.map V.d) ops ⟨rfl, rfl⟩) st1' le1' htop (by simp [Hw]) fun T2 H2 a2 m2 hq st2 le2 L2 => ?_
  obtain ⟨rfl, rfl⟩ := hq
  clear st1' le1' L1' m1' a1
  -- the call of yield
  have g15 : a2.eval (.tmp 15) = .func (.yield l) #[] #[] := by
    have := getD_of_rep st2 (s := 15) (x := fnY l) (by simp [Tw])
    unfold V.rep at this
    obtain ⟨vs, h1, h2⟩ := this
    simp at h2
    subst h2
    exact h1
  have g16 : a2.eval (.tmp 16) = .int .i64 i := V.rep_int.1 (getD_of_rep st2 (s := 16) (by simp [Tw]))
  have g17 : (V.d (.agg (plC (placeY s i)))).rep m2 (a2.eval (.tmp 17)) := getD_of_rep st2 (s := 17) (by simp [Tw])
  obtain ⟨lo2, hl2⟩ := hlo.keep le2
  have hl2' := hl2.trans hl
  have hcut : ∀ n, n = 0 ∨ n = 2 → (m2.cut SS).ρ n = m2.ρ n := fun n h => by rcases h with rfl | rfl <;> simp [SS]
  have hobj : ∀ (n : Nat) (ty : TypeId) (ds : List D), n = 0 ∨ n = 2 → m2.obj n ⟨ty, ds.map V.d⟩ → (m2.cut SS).obj n ⟨ty, ds.map V.d⟩ := by
    rintro n ty ds hn ⟨b, vs, more, h1, h2, h3, h4, h5⟩
    exact ⟨b, vs, more, by rw [hcut n hn]; exact h1, h2, h3, reps_data (m := m2) (m' := m2.cut SS) rfl rfl (show V.reps m2 (ds.map V.d) vs from h4), h5⟩
  have hun : ∀ (n : Nat) (ty : TypeId) (ds : List D) (mr : Mem), n = 0 ∨ n = 2 → (∀ b, m2.ρ n = some b → mr.ρ n = some b) → mr.obj n ⟨ty, ds.map V.d⟩ → (⟨m2.ρ, mr.I, mr.w⟩ : Mem).obj n ⟨ty, ds.map V.d⟩ := by
    rintro n ty ds mr hn hρ ⟨b, vs, more, h1, h2, h3, h4, h5⟩
    obtain ⟨b', hb'⟩ : ∃ b', m2.ρ n = some b' := by
      rcases hn with rfl | rfl
      · exact obj_rho (st2.obj 0 _ rfl)
      · exact obj_rho (st2.obj 2 _ rfl)
    have := hρ b' hb'
    rw [h1] at this
    cases this
    exact ⟨b, vs, more, hb', h2, h3, reps_data (m := mr) (m' := ⟨m2.ρ, mr.I, mr.w⟩) rfl rfl (show V.reps mr (ds.map V.d) vs from h4), h5⟩
  have r3 : (V.p 0 0).rep (m2.cut SS) (tmps.getD 3 undef) := by
    unfold V.rep at t3 ⊢
    obtain ⟨b, h1, h2⟩ := t3
    exact ⟨b, by rw [hcut 0 (.inl rfl)]; exact le2.ρ 0 b h1, h2⟩
  have r6' : (V.p 2 0).rep (m2.cut SS) (tmps.getD 6 undef) := by
    unfold V.rep at t6 ⊢
    obtain ⟨b, h1, h2⟩ := t6
    exact ⟨b, by rw [hcut 2 (.inr rfl)]; exact le2.ρ 2 b h1, h2⟩
  have rv : (V.d (.agg (plC (placeY s i)))).rep (m2.cut SS) (a2.eval (.tmp 17)) := V.rep_d.2 (V.rep_d.1 g17)
  have loc : (m2.cut SS).loose l := by
    refine ⟨lo2.lt, fun n h => ?_, lo2.I⟩
    simp only at h
    split at h
    · exact lo2.ρ n h
    · cases h
  have hround := round_ok hasg hbd ca cb hrec (0 - 1) K i (plC (placeY s i)) rfl (m := m2.cut SS) (l := l) (c := c.map V.d) (Mem.cut_base st2.base SS) (hobj 0 _ [.int .i64 K] (.inl rfl) (st2.obj 0 _ rfl)) (hobj 2 _ c (.inr rfl) (st2.obj 2 _ rfl)) (by simpa using hc)
    (fun b h0 h2 => by
      rw [hcut 0 (.inl rfl)] at h0; rw [hcut 2 (.inr rfl)] at h2
      have := st2.inj 0 2 b rfl rfl h0 h2
      omega)
    (fun n h0 h2 => by simp [SS, h0, h2]) r3 r6' hsz loc hl2' rv
  obtain ⟨fn', tmps', asg', bd', hy, hR⟩ := hround
  rw [← g16] at hy
  refine wpListIn_plain hg3 (fun Kk hKk => ⟨fun _ _ => trivial, ?_⟩)
  rw [show (FR none).round = none from rfl, Oper.semAt_none, yield_exec ho3 hc3 ha3 g15, hy, Oper.uponIn_round]
  refine ⟨fun h => by simp [FR, Fence.wide] at h, hR.mono ?_⟩
  rintro e w' ⟨mr, rfl, mrb, mr0, mr2, hcase⟩
  -- both ways: a memory that fits
  have key : ∀ (o : Obj), (∀ c t f, o ≠ .cells c t f) → ((m2.cut SS).at (m2.w.putObj l o)).le mr (· < 3) → ∀ b : Bool,
      Sat ⟨m2.ρ, mr.I, mr.w⟩ (a2.put (some 18) (.bool b)) (((((Tw l i).set 15 (fnY l)).set 16 (.d (.int .i64 i))).set 17 (.d (.agg (plC (placeY s i))))).set 18 (.d (.bool b))) (Hw K s i ((plC (placeY s i)).map V.d)) ∧ (m2.at (m2.w.putObj l o)).le ⟨m2.ρ, mr.I, mr.w⟩ (fun n => SS n = true) := by
    intro o ho hle b
    have hu := Mem.uncut (m := m2.at (m2.w.putObj l o)) (S := SS) hle (fun n h => by simp [SS] at h; omega)
    have hρ : ∀ n b, m2.ρ n = some b → n = 0 ∨ n = 2 → mr.ρ n = some b := fun n b h hn => hle.ρ n b (by show (if SS n = true then m2.ρ n else none) = some b; rw [if_pos (by rcases hn with rfl | rfl <;> rfl)]; exact h)
    refine ⟨Sat.put (Sat.uncut (H' := Hw K s i ((plC (placeY s i)).map V.d)) (lo2.sat o st2) mrb hu (fun n h => ?_) rfl fun n ob h => ?_) 18 (V.rep_bool.2 rfl), hu⟩
    · simp [SS] at h
      rcases h with rfl | rfl <;> rfl
    · rcases n with _ | _ | _ | _ | _ | _ | n
      · left; simp [Hw] at h; subst h
        exact ⟨rfl, hun 0 _ [.int .i64 K] mr (.inl rfl) (fun b h => hρ 0 b h (.inl rfl)) mr0⟩
      · simp [Hw] at h
      · left; simp [Hw] at h; subst h
        exact ⟨rfl, hun 2 _ (plC (placeY s i)) mr (.inr rfl) (fun b h => hρ 2 b h (.inr rfl)) mr2⟩
      · right; simp [Hw] at h; subst h; exact ⟨rfl, rfl⟩
      · simp [Hw] at h
      · right; simp [Hw] at h; subst h; exact ⟨rfl, by simp [Hw]⟩
      · simp [Hw] at h
  have hres : ∀ (a : Act) (w : World), (results f67 a.tmps).run Try.prog w = .ok (.tuple #[]) w := fun a w => by
    have : f67.results = #[] := Array.eq_empty_of_size_eq_zero eres
    simp [results, this]
  have hmap : [o4].map (resolveO Try.prog ops) = [((cWb.r.l.b.l.l.os).drop 4).headD ⟨none, .bad, none, []⟩] := by rw [← eo4]; rfl
  by_cases hik : i = K
  · rw [if_pos hik] at hcase
    obtain ⟨rfl, hle⟩ := hcase
    obtain ⟨sat5, le5⟩ := key _ (nloop _) hle false
    refine hKk _ _ ?_
    rw [hd3]
    have lem := (hlo.le le2 (o := .loop (rec .done (some (.exit 1)))) (o' := .loop (rec .done (some (.exit 1)))) hl (nloop _) (nloop _) (nloop _) rfl).trans le5 (fun n b _ h => by simp [SS] at h; omega)
    refine vops_listIn (l := none) (L := 4) (m0 := m.at (m.w.putObj l (.loop (rec .done (some (.exit 1)))))) (m := ⟨m2.ρ, mr.I, mr.w⟩) (K := fun T H => T = (((((Tw l i).set 15 (fnY l)).set 16 (.d (.int .i64 i))).set 17 (.d (.agg (plC (placeY s i))))).set 18 (.d (.bool false))).set 19 (.d (.bool true)) ∧ H = Hw K s i ((plC (placeY s i)).map V.d)) [] ecalm.2 (by rw [hmap]; exact w_o4 l K s i _ false _ ⟨rfl, rfl⟩) sat5 lem htop (by simp [Hw]) fun T6 H6 a6 m6 hq st6 le6 _ => ?_
    obtain ⟨rfl, rfl⟩ := hq
    refine wpListIn_nil ?_
    refine wpIn_cond_split (wpIn_eval st6 ecy (b := true) (by simp [Tw])) (fun _ => wpIn_ret ?_) (fun h => by cases h)
    refine ⟨st6.defers, _, hres _ _, ⟨_, rfl⟩, m6, rfl, st6.base, ?_, le6⟩
    rw [← hik]
    exact st6.obj 2 _ rfl
  · rw [if_neg hik] at hcase
    obtain ⟨rfl, hle⟩ := hcase
    obtain ⟨sat5, le5⟩ := key (.loop (rec .ready none)) (nloop _) (by rw [putObj_same hl2']; exact hle) true
    rw [putObj_same hl2'] at le5
    refine hKk _ _ ?_
    rw [hd3]
    refine vops_listIn (l := none) (L := 4) (m0 := m) (m := ⟨m2.ρ, mr.I, mr.w⟩) (K := fun T H => T = (((((Tw l i).set 15 (fnY l)).set 16 (.d (.int .i64 i))).set 17 (.d (.agg (plC (placeY s i))))).set 18 (.d (.bool true))).set 19 (.d (.bool false)) ∧ H = Hw K s i ((plC (placeY s i)).map V.d)) [] ecalm.2 (by rw [hmap]; exact w_o4 l K s i _ true _ ⟨rfl, rfl⟩) sat5 (le2.trans le5 (fun n b _ h => by simp [SS] at h; omega)) htop (by simp [Hw]) fun T6 H6 a6 m6 hq st6 le6 _ => ?_
    obtain ⟨rfl, rfl⟩ := hq
    refine wpListIn_nil ?_
    refine wpIn_cond_split (wpIn_eval st6 ecy (b := false) (by simp [Tw])) (fun h => by cases h) (fun _ => wpIn_skip ?_)
    have hlp := lowl_plC 6 (placeY s i)
    obtain ⟨m7, hw7, st7, le7, _⟩ := Sat.weaken (T1 := Tw l i) (H1 := Hw K s i ((plC (placeY s i)).map V.d)) (Weak.of (by simp [Tw, Hw, V.low, V.lowl]) (by simp [Hw, hlp, V.lowl, V.low])) st6 le6 htop (by simp [Hw])
    rw [← hw7]
    refine wpIn_mono (wpIn_wide.2 (w_r5 l K s i s1 s5 (by omega) _ hlp r5 er5 m m7 a6 st7 le7 htop (by simp [Hw]))) ?_
    rintro e a8 w8 ⟨T8, H8, m8, rfl, hq, st8, le8, _⟩
    cases e with
    | normal =>
      obtain ⟨m9, hw9, st9, le9, _⟩ := Sat.weaken (T1 := Tw l i) (H1 := Hw K s (i + 1) ((plC (placeY s i)).map V.d)) (Weak.of hq.1 hq.2) st8 le8 htop (by simp [Hw])
      rw [← hw9]
      refine wpIn_mono (wpIn_wide.2 (w_r6 l K s i (by omega) _ hlp r6 er6 m m9 a8 st9 le9 htop (by simp [Hw]))) ?_
      rintro e a10 w10 ⟨T10, H10, m10, rfl, hq, st10, le10, _⟩
      cases e with
      | normal =>
        obtain ⟨m11, hw11, st11, le11, _⟩ := Sat.weaken (T1 := Tw l (i + 1)) (H1 := Hw K s (i + 1) ((plC (placeY s i)).map V.d)) (Weak.of hq.1 hq.2) st10 le10 htop (by simp [Hw])
        exact ⟨1024 - (i + 1), by omega, i + 1, plC (placeY s i), m11, hw11, rfl, by omega, rfl, st11, le11⟩
      | _ => exact hq.elim
    | _ => exact hq.elim
end Go.Proofs.Ytakjegcjeffmgaa.Am
