/- Parts of the proof: YuAt, YuAt2, Yu2, Float2, Yu3, Chain2, Chain3, Chain4, Chain5, Chain6, ChainP, Chain7, Chain8, ChainA, ChainM, ChainB, ChainC, ChainD, ChainE, Float3, Rise1, Val1, MorM, Mor1, Chain9, ChainF, ThinM, Thin1, Thin2, Thin3, Reg1, BitsM, Bits1, Bits2, Bits3, Reg2, Reg3, Reg4, Reg5, ChainG, ChainH, AmLaw, Reg6, AmTT, TabL, PmfM, PmfN, Pmf1, Pmf4, Pmf2, Pmf3, Pmf5, Pmf6, Pmf7, Pmf8, PmfG, Pmf9, PmfA, PmfB, PmfK, PmfC, PmfI, PmfJ, PmfO, PmfP, PmfQ, PmfU, PmfR. -/
import Derived.Test.YtmpjlkclkhnpfaaGreatDoorPd
set_option linter.unusedVariables false
set_option linter.unusedSimpArgs false
set_option maxRecDepth 100000
namespace Go.Proofs.YtmpjlkclkhnpfaaGreatDoor.Am
section
open Go.RowKit
theorem o_o2 (n : Nat) (p : Pl) : V.lowl n ((plC p).map V.d) = true := rfl
theorem o_o3 {m : Mem} {a : Act} {T : List V} {H : List (Option Ob)} (sat : Sat m a T H) {s : Nat} {x : V} (h : T.getD s .junk = x) : x.rep m (a.tmps.getD s undef) := h ▸ sat.slots s
theorem nloop (r : Loop) : ∀ c t f, Obj.loop r ≠ .cells c t f := by intro c t f h; cases h

theorem o_o4 {m m' : Mem} (hI : m'.I = m.I) (hw : m'.w = m.w) {ds : List D} {vs : List Value} (h : V.reps m (ds.map V.d) vs) : V.reps m' (ds.map V.d) vs := by
 rw [V.reps_map_d] at h ⊢
 rw [hI, hw]; exact h
theorem o_o5 {m : Mem} {a : Act} {T : List V} {H : List (Option Ob)} (sat : Sat m a T H) {c : Operand} {s : Nat} (hc : X.of c = .t s) {b : Bool} (h : T.getD s .junk = .d (.bool b)) : a.eval c = .bool b :=
 V.rep_bool.1 (X.rep' (T := T) (fun s _ => sat.slots s) (by rw [hc]; exact h))
def zD : List D := [.int .i64 0, .int .i64 0, .nilsl, .nilsl]
def SS : Nat → Bool := fun n => n == 0 || n == 2

set_option maxHeartbeats 4000000 in
theorem o_o6 {asg bd : Code} (hasg : resolveC Tryz.prog asg = cAsg) (hbd : resolveC Tryz.prog bd = cBd) (ca : Code.calm asg = true) (cb : Code.calm bd = true) {fn df : Nat} {tmps : Array Value} {rec : LoopState → Option Code → Loop}
  (hrec : rec = fun st pe => { state := st, pending := pe, fn, tmps, params := #[24, 25], assign := asg, body := bd, defers := df }) (s K : Nat) (s1 : 1 ≤ s) (s5 : s ≤ 5) (hK : K ≤ 1023) {m : Mem} {l : Nat} {sv : Value}
  (sat : ∀ a : Act, a.tmps = #[.func (.yield l) #[] #[], sv] ++ Array.replicate 21 undef → a.defers = [] → Sat m a ([fnY l, .p 3 0] ++ List.replicate 21 .junk) [some (kO K), none, some (plO (zD.map V.d)), some (sO s)])
  (t3 : (V.p 0 0).rep m (tmps.getD 3 undef)) (t6 : (V.p 2 0).rep m (tmps.getD 6 undef)) (hsz : tmps.size = 31) (hlo : m.loose l) (hl : m.w.heap[l]? = some (.loop (rec .ready none))) :
  Calls Tryz.prog o_gd #[.func (.yield l) #[] #[], sv] m.w fun e w' => (∃ v, e = .returned v) ∧ ∃ m' : Mem, m'.w = w' ∧ m'.base ∧ m'.obj 2 (plO ((plC (placeY s K)).map .d)) ∧ (m.at (m.w.putObj l (.loop (rec .done (some (.exit 1)))))).le m' (· < 4) := by
 obtain ⟨f67, r0, r1, g, r5, r6, -, id, ops, o0, o1, o2, o3, o4, cy, hf, hb, hops, e0, e1, eg, eos, ecall, eo4, ecy, er5, er6, ecalm, eres, ent⟩ := o_nt o_nw
 simp only at hb e0 e1 eg eos ecall eo4 ecy er5 er6 ecalm eres ent
 obtain ⟨cc, ho3, hg3, hc3, ha3, hd3⟩ := o_nu ecall
 rw [Bool.and_eq_true] at ecalm
 refine calls_of_wp hf hb ((wpIn_wide (n := 0)).1 ?_)
 have sat0 := sat { tmps := #[.func (.yield l) #[] #[], sv] ++ Array.replicate (f67.ntmps - #[Value.func (.yield l) #[] #[], sv].size) undef, defers := [] } (by rw [ent]; rfl) rfl
 have htop : ∀ n, 4 ≤ n → m.ρ n = none := sat0.top
 refine AW.then (L := 4) e0 (w_r0 l K s s1 s5 (zD.map V.d) rfl) sat0 (Mem.le.refl _ _) htop (by simp) fun T1 H1 m1 a1 hq st1 le1 L1 => ?_
 obtain ⟨m1', hw1, st1', le1', L1'⟩ := Sat.weaken (T1 := Tw0 l) (H1 := Hw K s 0 (zD.map V.d)) (Weak.of hq.1 hq.2) st1 le1 htop (by simp [Hw])
 rw [← hw1]
 refine AW.then (L := 4) e1 (w_r1 l K s (zD.map V.d) rfl) st1' le1' htop (by simp [Hw]) fun T2 H2 m2 a2 hq st2 le2 L2 => ?_
 obtain ⟨m2', hw2, st2', le2', L2'⟩ := Sat.weaken (T1 := Tw l 0) (H1 := Hw K s 0 (zD.map V.d)) (Weak.of hq.1 hq.2) st2 le2 htop (by simp [Hw])
 rw [← hw2]
 clear hw1 hw2 st1 st2 sat0 sat le1 le2 L1 L2 st1' le1' L1' hq
 refine wpIn_block (wpIn_wide.2 (o_52 (fun k a w => ∃ (i : Nat) (c : List D) (m' : Mem), m'.w = w ∧ k = 1024 - i ∧ i ≤ K ∧ c.length = 4 ∧ Sat m' a (Tw l i) (Hw K s i (c.map V.d)) ∧ m.le m' (· < 4)) ?_ 1024 a2 m2'.w ⟨0, _, m2', rfl, rfl, Nat.zero_le _, rfl, st2', le2'⟩))
 clear st2' le2' L2' hq m2 m2' a2 T2 H2 m1 m1' a1 T1 H1
 rintro k a w ⟨i, c, mw, rfl, rfl, hi, hc, st, le⟩
 have hlc : V.lowl 6 (c.map V.d) = true := V.lowl_mono (by omega) _ (o_5g c).1
 refine (wpIn_wide (n := 0)).1 ?_
 refine AW.then (L := 4) eg (w_g l K s i (by omega) (c.map V.d) hlc) st le htop (by simp [Hw]) fun T1 H1 m1 a1 hq st1 le1 L1 => ?_
 obtain ⟨m1', hw1, st1', le1', L1'⟩ := Sat.weaken (T1 := Tw l i) (H1 := Hw K s i (c.map V.d)) (Weak.of hq.1 hq.2) st1 le1 htop (by simp [Hw])
 rw [← hw1]
 clear hw1 st1 le1 L1 hq st le m1 T1 H1 a mw
 refine wpIn_seq (wpIn_block (wpIn_seq (wpIn_seq (o_6c ?_))))
 rw [hops, show [o0, o1, o2, o3, o4] = [o0, o1, o2] ++ [o3, o4] from rfl]
 refine o_63 (l := none) (L := 4) (K := fun T H => T = ((((Tw l i).set 15 (fnY l)).set 16 (.d (.int .i64 i))).set 17 (.d (.agg (plC (placeY s i))))) ∧ H = Hw K s i (c.map V.d)) [o3, o4] ecalm.1 (by rw [eos]; exact w_os l K s i (c.map V.d) ops ⟨rfl, rfl⟩) st1' le1' htop (by simp [Hw]) fun T2 H2 a2 m2 hq st2 le2 L2 => ?_
 obtain ⟨rfl, rfl⟩ := hq
 clear st1' le1' L1' m1' a1
 -- the call of yield
 have g15 : a2.eval (.tmp 15) = .func (.yield l) #[] #[] := by
  have := o_o3 st2 (s := 15) (x := fnY l) (by simp [Tw])
  unfold V.rep at this
  obtain ⟨vs, h1, h2⟩ := this
  simp at h2
  subst h2
  exact h1
 have g16 : a2.eval (.tmp 16) = .int .i64 i := V.rep_int.1 (o_o3 st2 (s := 16) (by simp [Tw]))
 have g17 : (V.d (.agg (plC (placeY s i)))).rep m2 (a2.eval (.tmp 17)) := o_o3 st2 (s := 17) (by simp [Tw])
 obtain ⟨lo2, hl2⟩ := hlo.keep le2
 have hl2' := hl2.trans hl
 have hcut : ∀ n, n = 0 ∨ n = 2 → (m2.cut SS).ρ n = m2.ρ n := fun n h => by rcases h with rfl | rfl <;> simp [SS]
 have hobj : ∀ (n : Nat) (ty : TypeId) (ds : List D), n = 0 ∨ n = 2 → m2.obj n ⟨ty, ds.map V.d⟩ → (m2.cut SS).obj n ⟨ty, ds.map V.d⟩ := by
  rintro n ty ds hn ⟨b, vs, more, h1, h2, h3, h4, h5⟩
  exact ⟨b, vs, more, by rw [hcut n hn]; exact h1, h2, h3, o_o4 (m := m2) (m' := m2.cut SS) rfl rfl (show V.reps m2 (ds.map V.d) vs from h4), h5⟩
 have hun : ∀ (n : Nat) (ty : TypeId) (ds : List D) (mr : Mem), n = 0 ∨ n = 2 → (∀ b, m2.ρ n = some b → mr.ρ n = some b) → mr.obj n ⟨ty, ds.map V.d⟩ → (⟨m2.ρ, mr.I, mr.w⟩ : Mem).obj n ⟨ty, ds.map V.d⟩ := by
  rintro n ty ds mr hn hρ ⟨b, vs, more, h1, h2, h3, h4, h5⟩
  obtain ⟨b', hb'⟩ : ∃ b', m2.ρ n = some b' := by
   rcases hn with rfl | rfl
   ·exact o_nz (st2.obj 0 _ rfl)
   ·exact o_nz (st2.obj 2 _ rfl)
  have := hρ b' hb'
  rw [h1] at this
  cases this
  exact ⟨b, vs, more, hb', h2, h3, o_o4 (m := mr) (m' := ⟨m2.ρ, mr.I, mr.w⟩) rfl rfl (show V.reps mr (ds.map V.d) vs from h4), h5⟩
 have r3 : (V.p 0 0).rep (m2.cut SS) (tmps.getD 3 undef) := by
  unfold V.rep at t3 ⊢
  obtain ⟨b, h1, h2⟩ := t3
  exact ⟨b, by rw [hcut 0 (.inl rfl)]; exact le2.ρ 0 b h1, h2⟩
 have r6' : (V.p 2 0).rep (m2.cut SS) (tmps.getD 6 undef) := by
  unfold V.rep at t6 ⊢
  obtain ⟨b, h1, h2⟩ := t6
  exact ⟨b, by rw [hcut 2 (.inr rfl)]; exact le2.ρ 2 b h1, h2⟩
 have rv : (V.d (.agg (plC (placeY s i)))).rep (m2.cut SS) (a2.eval (.tmp 17)) := V.rep_d.2 (V.rep_d.1 g17)
 have loc : (m2.cut SS).loose l := by
  refine ⟨lo2.lt, fun n h => ?_, lo2.I⟩
  simp only at h
  split at h
  ·exact lo2.ρ n h
  ·cases h
 have hround := o_o0 hasg hbd ca cb hrec (0 - 1) K i (plC (placeY s i)) rfl (m := m2.cut SS) (l := l) (c := c.map V.d) (Mem.cut_base st2.base SS) (hobj 0 _ [.int .i64 K] (.inl rfl) (st2.obj 0 _ rfl)) (hobj 2 _ c (.inr rfl) (st2.obj 2 _ rfl)) (by simpa using hc)
  (fun b h0 h2 => by
   rw [hcut 0 (.inl rfl)] at h0; rw [hcut 2 (.inr rfl)] at h2
   have := st2.inj 0 2 b rfl rfl h0 h2
   omega)
  (fun n h0 h2 => by simp [SS, h0, h2]) r3 r6' hsz loc hl2' rv
 obtain ⟨fn', tmps', asg', bd', hy, hR⟩ := hround
 rw [← g16] at hy
 refine wpListIn_plain hg3 (fun Kk hKk => ⟨fun _ _ => trivial, ?_⟩)
 rw [show (FR none).round = none from rfl, Oper.semAt_none, o_68 ho3 hc3 ha3 g15, hy, Oper.uponIn_round]
 refine ⟨fun h => by simp [FR, Fence.wide] at h, hR.mono ?_⟩
 rintro e w' ⟨mr, rfl, mrb, mr0, mr2, hcase⟩
 -- both ways: a memory that fits
 have key : ∀ (o : Obj), (∀ c t f, o ≠ .cells c t f) → ((m2.cut SS).at (m2.w.putObj l o)).le mr (· < 3) → ∀ b : Bool,
   Sat ⟨m2.ρ, mr.I, mr.w⟩ (a2.put (some 18) (.bool b)) (((((Tw l i).set 15 (fnY l)).set 16 (.d (.int .i64 i))).set 17 (.d (.agg (plC (placeY s i))))).set 18 (.d (.bool b))) (Hw K s i ((plC (placeY s i)).map V.d)) ∧ (m2.at (m2.w.putObj l o)).le ⟨m2.ρ, mr.I, mr.w⟩ (fun n => SS n = true) := by
  intro o ho hle b
  have hu := Mem.uncut (m := m2.at (m2.w.putObj l o)) (S := SS) hle (fun n h => by simp [SS] at h; omega)
  have hρ : ∀ n b, m2.ρ n = some b → n = 0 ∨ n = 2 → mr.ρ n = some b := fun n b h hn => hle.ρ n b (by show (if SS n = true then m2.ρ n else none) = some b; rw [if_pos (by rcases hn with rfl | rfl <;> rfl)]; exact h)
  refine ⟨Sat.put (Sat.uncut (H' := Hw K s i ((plC (placeY s i)).map V.d)) (lo2.sat o st2) mrb hu (fun n h => ?_) rfl fun n ob h => ?_) 18 (V.rep_bool.2 rfl), hu⟩
  ·simp [SS] at h
   rcases h with rfl | rfl <;> rfl
  ·rcases n with _ | _ | _ | _ | _ | _ | n
   ·left; simp [Hw] at h; subst h
    exact ⟨rfl, hun 0 _ [.int .i64 K] mr (.inl rfl) (fun b h => hρ 0 b h (.inl rfl)) mr0⟩
   ·simp [Hw] at h
   ·left; simp [Hw] at h; subst h
    exact ⟨rfl, hun 2 _ (plC (placeY s i)) mr (.inr rfl) (fun b h => hρ 2 b h (.inr rfl)) mr2⟩
   ·right; simp [Hw] at h; subst h; exact ⟨rfl, rfl⟩
   ·simp [Hw] at h
   ·right; simp [Hw] at h; subst h; exact ⟨rfl, by simp [Hw]⟩
   ·simp [Hw] at h
 have hres : ∀ (a : Act) (w : World), (results f67 a.tmps).run Tryz.prog w = .ok (.tuple #[]) w := fun a w => by
  have : f67.results = #[] := Array.eq_empty_of_size_eq_zero eres
  simp [results, this]
 have hmap : [o4].map (resolveO Tryz.prog ops) = [((cWb.r.l.b.l.l.os).drop 4).headD ⟨none, .bad, none, []⟩] := by rw [← eo4]; rfl
 by_cases hik : i = K
 ·rw [if_pos hik] at hcase
  obtain ⟨rfl, hle⟩ := hcase
  obtain ⟨sat5, le5⟩ := key _ (nloop _) hle false
  refine hKk _ _ ?_
  rw [hd3]
  have lem := (hlo.le le2 (o := .loop (rec .done (some (.exit 1)))) (o' := .loop (rec .done (some (.exit 1)))) hl (nloop _) (nloop _) (nloop _) rfl).trans le5 (fun n b _ h => by simp [SS] at h; omega)
  refine o_63 (l := none) (L := 4) (m0 := m.at (m.w.putObj l (.loop (rec .done (some (.exit 1)))))) (m := ⟨m2.ρ, mr.I, mr.w⟩) (K := fun T H => T = (((((Tw l i).set 15 (fnY l)).set 16 (.d (.int .i64 i))).set 17 (.d (.agg (plC (placeY s i))))).set 18 (.d (.bool false))).set 19 (.d (.bool true)) ∧ H = Hw K s i ((plC (placeY s i)).map V.d)) [] ecalm.2 (by rw [hmap]; exact w_o4 l K s i _ false _ ⟨rfl, rfl⟩) sat5 lem htop (by simp [Hw]) fun T6 H6 a6 m6 hq st6 le6 _ => ?_
  obtain ⟨rfl, rfl⟩ := hq
  refine wpListIn_nil ?_
  refine wpIn_cond_split (o_o5 st6 ecy (b := true) (by simp [Tw])) (fun _ => wpIn_ret ?_) (fun h => by cases h)
  refine ⟨st6.defers, _, hres _ _, ⟨_, rfl⟩, m6, rfl, st6.base, ?_, le6⟩
  rw [← hik]
  exact st6.obj 2 _ rfl
 ·rw [if_neg hik] at hcase
  obtain ⟨rfl, hle⟩ := hcase
  obtain ⟨sat5, le5⟩ := key (.loop (rec .ready none)) (nloop _) (by rw [o_6a hl2']; exact hle) true
  rw [o_6a hl2'] at le5
  refine hKk _ _ ?_
  rw [hd3]
  refine o_63 (l := none) (L := 4) (m0 := m) (m := ⟨m2.ρ, mr.I, mr.w⟩) (K := fun T H => T = (((((Tw l i).set 15 (fnY l)).set 16 (.d (.int .i64 i))).set 17 (.d (.agg (plC (placeY s i))))).set 18 (.d (.bool true))).set 19 (.d (.bool false)) ∧ H = Hw K s i ((plC (placeY s i)).map V.d)) [] ecalm.2 (by rw [hmap]; exact w_o4 l K s i _ true _ ⟨rfl, rfl⟩) sat5 (le2.trans le5 (fun n b _ h => by simp [SS] at h; omega)) htop (by simp [Hw]) fun T6 H6 a6 m6 hq st6 le6 _ => ?_
  obtain ⟨rfl, rfl⟩ := hq
  refine wpListIn_nil ?_
  refine wpIn_cond_split (o_o5 st6 ecy (b := false) (by simp [Tw])) (fun h => by cases h) (fun _ => wpIn_skip ?_)
  have hlp := o_o2 6 (placeY s i)
  obtain ⟨m7, hw7, st7, le7, _⟩ := Sat.weaken (T1 := Tw l i) (H1 := Hw K s i ((plC (placeY s i)).map V.d)) (Weak.of (by simp [Tw, Hw, V.low, V.lowl]) (by simp [Hw, hlp, V.lowl, V.low])) st6 le6 htop (by simp [Hw])
  rw [← hw7]
  refine wpIn_mono (wpIn_wide.2 (w_r5 l K s i s1 s5 (by omega) _ hlp r5 er5 m m7 a6 st7 le7 htop (by simp [Hw]))) ?_
  rintro e a8 w8 ⟨T8, H8, m8, rfl, hq, st8, le8, _⟩
  cases e with
  | normal =>
   obtain ⟨m9, hw9, st9, le9, _⟩ := Sat.weaken (T1 := Tw l i) (H1 := Hw K s (i + 1) ((plC (placeY s i)).map V.d)) (Weak.of hq.1 hq.2) st8 le8 htop (by simp [Hw])
   rw [← hw9]
   refine wpIn_mono (wpIn_wide.2 (w_r6 l K s i (by omega) _ hlp r6 er6 m m9 a8 st9 le9 htop (by simp [Hw]))) ?_
   rintro e a10 w10 ⟨T10, H10, m10, rfl, hq, st10, le10, _⟩
   cases e with
   | normal =>
    obtain ⟨m11, hw11, st11, le11, _⟩ := Sat.weaken (T1 := Tw l (i + 1)) (H1 := Hw K s (i + 1) ((plC (placeY s i)).map V.d)) (Weak.of hq.1 hq.2) st10 le10 htop (by simp [Hw])
    exact ⟨1024 - (i + 1), by omega, i + 1, plC (placeY s i), m11, hw11, rfl, by omega, rfl, st11, le11⟩
   | _ => exact hq.elim
  | _ => exact hq.elim
end
end Go.Proofs.YtmpjlkclkhnpfaaGreatDoor.Am
namespace Go.Proofs.YtmpjlkclkhnpfaaGreatDoor.Am
section
open Go.RowKit
def atE (s k : Int) : Int := if 1 ≤ s ∧ s ≤ 5 then (if 0 ≤ k ∧ k ≤ 1023 then 0 else 2) else 10
def atP (s k : Int) : Pl := if atE s k = 0 then placeY s.toNat k.toNat else ⟨0, 0, 0, 0⟩

def Ta (s k : Nat) (x23 : V) : List V := [.d (.int .i64 s), .d (.int .i64 k), .junk, .p 0 0, .p 1 0, .d (.int .i64 0), .p 2 0] ++ List.replicate 16 .junk ++ [x23] ++ List.replicate 7 .junk
def Ta0 (s k : Nat) : List V := [.d (.int .i64 s), .d (.int .i64 k), .junk, .p 0 0, .p 1 0, .d (.int .i64 0)] ++ List.replicate 25 .junk
abbrev zO : Ob := plO (zD.map V.d)

theorem a_1 (s k : Nat) : AW Tryz.prog 0 o_gb.l (thenQ (fun T H => wk 2 T (Ta0 s k) ∧ wkH 2 H [some (kO k), some zO]) noQ) ([.d (.int .i64 s), .d (.int .i64 k)] ++ List.replicate 29 .junk) [] := by
 simp only [o_gb, C.l, Ta0]
 refine G0 ?_; try with_reducible exact tt
 exact ⟨Subs.refl _, rfl⟩
theorem a_2 (s k : Nat) (s1 : 1 ≤ s) (s5 : s ≤ 5) (hk : k ≤ 1023) : AW Tryz.prog 0 o_gb.r.l (thenQ (fun T H => wk 2 T (Ta0 s k) ∧ wkH 2 H [some (kO k), some zO]) noQ) (Ta0 s k) [some (kO k), some zO] := by
 simp only [o_gb, C.l, C.r, Ta0, zD]
 refine G0 ?_; try with_reducible exact tt
 refine CallS.pu (o_nj s) (R0 ?_); try with_reducible exact tt
 have h1 : (1 : Int) ≤ s ∧ (s : Int) ≤ 5 := by omega
 refine AW.cond rfl (fun h => ?_) (fun h => ?_)
 ·simp [h1] at h
 have h2 : ¬ (1023 : Int) < k := by omega
 refine G1 h2 ?_; try with_reducible exact tt
 refine AW.cond rfl (fun h => ?_) (fun h => ?_)
 ·simp at h
 refine G0 ?_; try with_reducible exact tt
 rfl
theorem a_3 (s k : Nat) : AW Tryz.prog 0 o_gb.r.r.l (thenQ (fun T H => wk 3 T (Ta s k .junk) ∧ wkH 3 H [some (kO k), some zO, some zO]) noQ) (Ta0 s k) [some (kO k), some zO] := by
 simp only [o_gb, C.l, C.r, Ta0, Ta]
 refine G0 ?_; try with_reducible exact tt
 exact ⟨Subs.refl _, rfl⟩
theorem a_4 (s k : Nat) : AW Tryz.prog 0 o_gb.r.r.r.l.l (thenQ (fun T H => wk 4 T (Ta s k (.fn (.func o_gd) [.p 3 0])) ∧ wkH 4 H [some (kO k), some zO, some zO, some (sO s)]) noQ) (Ta s k .junk) [some (kO k), some zO, some zO] := by
 simp only [o_gb, C.l, C.r, Ta]
 refine G0 ?_; try with_reducible exact tt
 refine CallS.newX (o_ns s) ⟨rfl, fun _ => rfl⟩ rfl (fun _ => rfl) (Subs.refl _) ?_
 simp [nameOf, V.ren, V.rens]
 rfl
theorem a_5 (s k : Nat) (x : V) (p : Pl) {K' : List V → List (Option Ob) → Prop} (h : ∀ T, T.getD 4 .junk = .p 1 0 → T.getD 5 .junk = .d (.int .i64 0) → K' T [none, some (plO ((plC p).map V.d)), some (plO ((plC p).map V.d)), none]) :
  vops Tryz.prog false K' o_gb.r.r.r.r.l.os [] (Ta s k x) [none, some zO, some (plO ((plC p).map V.d)), none] := by
 simp only [o_gb, C.l, C.r, C.os, Ta, zD]
 simp only [plC, List.map_cons, List.map_nil] at h ⊢
 simp
 exact need.of (by decide) (h _ rfl rfl)

theorem o_o7 (l : List V) (n i : Nat) (h : l.length ≤ i) : (l ++ List.replicate n V.junk).getD i .junk = .junk := by
 rw [List.getD_eq_getElem?_getD, List.getElem?_append_right h, List.getElem?_replicate]; split <;> rfl
theorem o_o8 {m : Mem} {H : List (Option Ob)} {a : Act} {l : Nat} {sv : Value} (hb : m.base) (hobj : ∀ n ob, H.getD n none = some ob → m.obj n ob) (hinj : ∀ n k b, live H n → live H k → m.ρ n = some b → m.ρ k = some b → n = k) (htop : ∀ n, H.length ≤ n → m.ρ n = none)
  (hv : (V.p 3 0).rep m sv) (ht : a.tmps = #[.func (.yield l) #[] #[], sv] ++ Array.replicate 21 undef) (hd : a.defers = []) : Sat m a ([fnY l, .p 3 0] ++ List.replicate 21 .junk) H := by
 refine ⟨hb, fun s => ?_, hobj, hinj, htop, by rw [ht]; simp, hd⟩
 rcases s with _ | _ | s
 ·rw [ht]
  show V.rep m (fnY l) _
  unfold V.rep
  exact ⟨[], by simp, by simp⟩
 ·rw [ht]
  show V.rep m (.p 3 0) _
  simpa using hv
 ·have : ([fnY l, .p 3 0] ++ List.replicate 21 V.junk).getD (s + 2) .junk = .junk := o_o7 _ _ _ (by simp)
  rw [this]
  unfold V.rep
  trivial
def SC : Nat → Bool := fun n => n == 0 || n == 2 || n == 3

set_option maxHeartbeats 4000000 in
theorem o_o9 (s k : Nat) (s1 : 1 ≤ s) (s5 : s ≤ 5) (hk : k ≤ 1023) : Eqn Tryz.prog o_ga [.d (.int .i64 s), .d (.int .i64 k)] [] (.tup [.d (plD (placeY s k)), .d (.int .i64 0)]) [] := by
 refine ⟨Nat.le_refl _, by simp, rfl, by simp, fun m vs mb hargs _ _ htop => .inr ⟨o_6d o_gc _ _, ?_⟩⟩
 obtain ⟨v0, _, rfl, hv0, hargs⟩ := V.reps_cons'.1 hargs
 obtain ⟨v1, _, rfl, hv1, hargs⟩ := V.reps_cons'.1 hargs
 simp at hargs; subst hargs
 have htop : ∀ n, 0 ≤ n → m.ρ n = none := fun n _ => htop n (Nat.zero_le _)
 obtain ⟨f10, a1, a2, a3, a4, asg, bd, g, ps, id, ops, hf, hb, e1, e2, e3, e4, eg, eps, easg, ebd, e5, ecalm, ers, ent⟩ := o_nv at_s
 simp only at hb e1 e2 e3 e4 eg eps easg ebd e5 ecalm ers ent
 rw [Bool.and_eq_true, Bool.and_eq_true] at ecalm
 obtain ⟨calA, calB, calO⟩ := ecalm
 have eps : ps = #[24, 25] := by rw [← Array.toArray_toList (xs := ps), eps]
 subst eps
 refine (callsIn_wide (n := 1)).1 (callsIn_of_wp_marks hf hb trivial ?_ rfl)
 have hsize : f10.ntmps - 2 = 29 := by rw [ent]
 have sat0 : Sat m { tmps := #[v0, v1] ++ Array.replicate (f10.ntmps - #[v0, v1].size) undef, defers := [] } ([.d (.int .i64 s), .d (.int .i64 k)] ++ List.replicate 29 .junk) [] := by
  refine ⟨mb, fun i => ?_, by simp, fun n k b ln => by simp [live] at ln, fun n _ => htop n (Nat.zero_le _), by simp [ent], rfl⟩
  rcases i with _ | _ | i
  ·show V.rep m (.d (.int .i64 s)) _
   rw [Array.getD_eq_getD_getElem?, Array.getElem?_append_left (by simp)]
   exact hv0
  ·show V.rep m (.d (.int .i64 k)) _
   rw [Array.getD_eq_getD_getElem?, Array.getElem?_append_left (by simp)]
   exact hv1
  ·have : ([V.d (.int .i64 s), V.d (.int .i64 k)] ++ List.replicate 29 V.junk).getD (i + 2) .junk = .junk := o_o7 _ _ _ (by simp)
   rw [this]
   unfold V.rep
   trivial
 refine AW.then (L := 0) e1 (a_1 s k) sat0 (Mem.le.refl _ _) htop (by simp) fun T1 H1 m1 w1 hq st1 le1 _ => ?_
 obtain ⟨m1', hw1, st1', le1', _⟩ := Sat.weaken (T1 := Ta0 s k) (H1 := [some (kO k), some zO]) (Weak.of hq.1 hq.2) st1 le1 htop (by simp)
 rw [← hw1]
 refine AW.then (L := 0) e2 (a_2 s k s1 s5 hk) st1' le1' htop (by simp) fun T2 H2 m2 w2 hq st2 le2 _ => ?_
 obtain ⟨m2', hw2, st2', le2', _⟩ := Sat.weaken (T1 := Ta0 s k) (H1 := [some (kO k), some zO]) (Weak.of hq.1 hq.2) st2 le2 htop (by simp)
 rw [← hw2]
 refine AW.then (L := 0) e3 (a_3 s k) st2' le2' htop (by simp) fun T3 H3 m3 w3 hq st3 le3 _ => ?_
 obtain ⟨m3', hw3, st3', le3', _⟩ := Sat.weaken (T1 := Ta s k .junk) (H1 := [some (kO k), some zO, some zO]) (Weak.of hq.1 hq.2) st3 le3 htop (by simp)
 rw [← hw3]
 refine wpIn_seq ?_
 refine AW.then (L := 0) e4 (a_4 s k) st3' le3' htop (by simp) fun T4 H4 m4' w4 hq st4 le4 _ => ?_
 obtain ⟨m4, hw4, st4', le4', _⟩ := Sat.weaken (T1 := Ta s k (.fn (.func o_gd) [.p 3 0])) (H1 := [some (kO k), some zO, some zO, some (sO s)]) (Weak.of hq.1 hq.2) st4 le4 htop (by simp)
 rw [← hw4]
 clear hw1 hw2 hw3 hw4 st1 st2 st3 st4 st1' st2' st3' le1 le2 le3 le4 le1' le2' le3' hq sat0
 refine wpIn_block (wpIn_rangeFunc fun fn' _ => ?_)
 -- the function that is ranged over
 have gt3 : (V.p 0 0).rep m4 (w4.tmps.getD 3 undef) := o_o3 st4' (s := 3) rfl
 have gt6 : (V.p 2 0).rep m4 (w4.tmps.getD 6 undef) := o_o3 st4' (s := 6) rfl
 have gt23 : (V.fn (.func o_gd) [.p 3 0]).rep m4 (w4.tmps.getD 23 undef) := o_o3 st4' (s := 23) rfl
 unfold V.rep at gt23
 obtain ⟨cvs, hg23, hcv⟩ := gt23
 obtain ⟨sv, _, rfl, hsv, hcv⟩ := V.reps_cons'.1 hcv
 simp at hcv; subst hcv
 have hgt : g = .tmp 23 := by
  cases g <;> simp [X.of] at eg
  ·rw [eg]
  ·rename_i v; cases h : D.of1 v <;> simp [h] at eg
 have hgev : w4.eval g = .func (.func o_gd) #[] #[sv] := by rw [hgt]; exact hg23
 obtain ⟨rec, hrec⟩ : ∃ rec : LoopState → Option Code → Loop, rec = fun st pe => { state := st, pending := pe, fn := fn', tmps := w4.tmps, params := #[24, 25], assign := asg, body := bd, defers := m4.w.heap.size } := ⟨_, rfl⟩
 obtain ⟨W1, hW1⟩ : ∃ W1, W1 = (m4.w.alloc (.deferred (some []))).alloc (.loop (rec .ready none)) := ⟨_, rfl⟩
 have hl1 : W1.heap[m4.w.heap.size + 1]? = some (.loop (rec .ready none)) := by
  rw [hW1]; have := World.alloc_heap_new (m4.w.alloc (.deferred (some []))) (.loop (rec .ready none)); rwa [World.size_alloc] at this
 have hd1 : W1.heap[m4.w.heap.size]? = some (.deferred (some [])) := by
  rw [hW1]; exact (Below.heap_alloc _ _ _ (by simp)).trans (World.alloc_heap_new m4.w _)
 have satw : Sat (m4.at W1) w4 (Ta s k (.fn (.func o_gd) [.p 3 0])) [some (kO k), some zO, some zO, some (sO s)] := by
  rw [hW1]; exact (st4'.grow _).grow _
 have lew : m.le (m4.at W1) (· < 0) := by
  rw [hW1]; exact (le4'.grow st4'.base _).grow (st4'.grow _).base _
 have loD : (m4.at W1).loose m4.w.heap.size := by
  rw [hW1]; exact (o_6b st4'.base _).grow _
 have loL : (m4.at W1).loose (m4.w.heap.size + 1) := by
  rw [hW1]
  have := o_6b (st4'.grow (.deferred (some []))).base (.loop (rec .ready none))
  simpa using this
 have hb4 : m.w.heap.size ≤ m4.w.heap.size := le4'.size
 have hrep1 : ∀ x v, V.rep m4 x v → V.rep (m4.at W1) x v := fun x v h => by
  rw [hW1]
  exact V.rep_off (m := m4) (m' := m4.at ((m4.w.alloc (.deferred (some []))).alloc (.loop (rec .ready none)))) ⟨rfl, rfl, fun b hb => (Below.heap_alloc _ _ _ (by simp; have := st4'.base.imm b hb; omega)).trans (Below.heap_alloc _ _ _ (st4'.base.imm b hb)), fun n b hb => (Below.heap_alloc _ _ _ (by simp; have := st4'.base.dom n b hb; omega)).trans (Below.heap_alloc _ _ _ (st4'.base.dom n b hb))⟩ x v h
 generalize hLn : m4.w.heap.size + 1 = l at *
 generalize hDn : m4.w.heap.size = dd at *
 refine ⟨l, [{ target := .collected dd, args := #[] }], W1, { target := .fn (.func o_gd) #[sv], args := #[.func (.yield l) #[] #[]] }, W1, o_gd, #[.func (.yield l) #[] #[], sv], W1, ?_, ?_, fun _ _ => trivial, ?_, fun h => by simp [Fence.wide] at h, ?_⟩
 ·have := run_enterLoop_outer (P := Tryz.prog) (w := m4.w) fn' w4.tmps #[24, 25] asg bd
  rw [hW1, hrec, ← hLn, ← hDn]
  exact this
 ·simp only [Go.resolve, hgev]
  simp [go_sem, Deferred.ofValue]
 ·simp [invoke, go_sem]
 refine callsIn_wide.2 ?_
 -- the memory that the walk sees
 have cutr : ∀ n, SC n = true → ((m4.at W1).cut SC).ρ n = m4.ρ n := fun n h => by simp [h]
 have cobj : ∀ (n : Nat) (ty : TypeId) (ds : List D), SC n = true → (m4.at W1).obj n ⟨ty, ds.map V.d⟩ → ((m4.at W1).cut SC).obj n ⟨ty, ds.map V.d⟩ := by
  rintro n ty ds hn ⟨b, vs, more, h1, h2, h3, h4, h5⟩
  exact ⟨b, vs, more, by rw [cutr n hn]; exact h1, h2, h3, o_o4 (m := m4.at W1) (m' := (m4.at W1).cut SC) rfl rfl (show V.reps (m4.at W1) (ds.map V.d) vs from h4), h5⟩
 have prep : ∀ n o v, SC n = true → (V.p n o).rep (m4.at W1) v → (V.p n o).rep ((m4.at W1).cut SC) v := by
  intro n o v hn h
  unfold V.rep at h ⊢
  obtain ⟨b, h1, h2⟩ := h
  exact ⟨b, by rw [cutr n hn]; exact h1, h2⟩
 have loC : ((m4.at W1).cut SC).loose l := by
  refine ⟨loL.lt, fun n h => ?_, loL.I⟩
  simp only at h
  split at h
  ·exact loL.ρ n h
  ·cases h
 have lv : ∀ n, live [some (kO k), none, some zO, some (sO s)] n → SC n = true := fun n h => by
  rcases n with _ | _ | _ | _ | n <;> first | rfl | (simp [live] at h)
 have hwalk := o_o6 (m := (m4.at W1).cut SC) (l := l) (sv := sv) easg ebd calA calB hrec s k s1 s5 hk
  (fun a ha hd => o_o8 (H := [some (kO k), none, some zO, some (sO s)]) (Mem.cut_base satw.base SC) (fun n ob h => by
   rcases n with _ | _ | _ | _ | n
   ·simp at h; subst h; exact cobj 0 _ [.int .i64 k] rfl (satw.obj 0 _ rfl)
   ·simp at h
   ·simp at h; subst h; exact cobj 2 _ zD rfl (satw.obj 2 _ rfl)
   ·simp at h; subst h; exact cobj 3 _ [.int .i64 s] rfl (satw.obj 3 _ rfl)
   ·simp at h) (fun n k' b h1 h2 h3 h4 => by
    have l1 := lv n h1
    have l2 := lv k' h2
    rw [cutr n l1] at h3; rw [cutr k' l2] at h4
    refine satw.inj n k' b ?_ ?_ h3 h4
    ·rcases n with _ | _ | _ | _ | n <;> first | rfl | (simp [live] at h1)
    ·rcases k' with _ | _ | _ | _ | k' <;> first | rfl | (simp [live] at h2)) (fun n h => by
    have h4 : ¬ SC n = true := by simp [SC]; simp at h; omega
    simp [h4]) (prep 3 0 sv rfl (hrep1 _ _ hsv)) ha hd)
  (prep 0 0 _ rfl (hrep1 _ _ gt3)) (prep 2 0 _ rfl (hrep1 _ _ gt6)) (by rw [satw.size]; rfl) loC hl1
 refine hwalk.mono ?_
 rintro e w5 ⟨⟨v, rfl⟩, m5, rfl, b5, o5, le5⟩
 obtain ⟨loC5, hl5⟩ := (loC.put (.loop (rec .done (some (.exit 1))))).keep le5
 have hl5' := hl5.trans (World.putObj_heap_same loC.lt)
 have hrd : ∀ st pe, (rec st pe).state = st ∧ (rec st pe).pending = pe := fun st pe => by rw [hrec]; exact ⟨rfl, rfl⟩
 have hend := run_endLoop (P := Tryz.prog) hl5' (by rw [(hrd _ _).1]; simp)
 rw [(hrd _ _).2] at hend
 obtain ⟨o6, hend⟩ : ∃ o6, (Instr.endLoop l).run Tryz.prog m5.w = .ok (some (.exit 1)) (m5.w.putObj l o6) := ⟨_, hend⟩
 refine ⟨_, _, hend, wpIn_exit ?_⟩
 -- back in the asker
 have hu := Mem.uncut (m := (m4.at W1).at (W1.putObj l (.loop (rec .done (some (.exit 1)))))) (S := SC) le5 (fun n h => by simp [SC] at h; omega)
 have lo5 : (⟨m4.ρ, m5.I, m5.w⟩ : Mem).loose l := ((loL.put (.loop (rec .done (some (.exit 1))))).keep hu).1
 have loD5 := (Mem.loose.keep (m := (m4.at W1).at (W1.putObj l (.loop (rec .done (some (.exit 1)))))) (l := dd) ⟨by simpa using loD.lt, loD.ρ, loD.I⟩ hu)
 have hne : dd ≠ l := by omega
 have hd5 : m5.w.heap[dd]? = some (.deferred (some [])) := loD5.2.trans ((World.putObj_heap_other hne).trans hd1)
 have obj2 : (⟨m4.ρ, m5.I, m5.w⟩ : Mem).obj 2 (plO ((plC (placeY s k)).map V.d)) := by
  obtain ⟨b, vs, more, h1, h2, h3, h4, h5⟩ := o5
  obtain ⟨b', hb'⟩ := o_nz (satw.obj 2 _ rfl)
  have := le5.ρ 2 b' (by show (if SC 2 = true then m4.ρ 2 else none) = some b'; rw [if_pos (show SC 2 = true from rfl)]; exact hb')
  rw [h1] at this
  cases this
  exact ⟨b, vs, more, hb', h2, h3, o_o4 (m := m5) (m' := ⟨m4.ρ, m5.I, m5.w⟩) rfl rfl (show V.reps m5 ((plC (placeY s k)).map V.d) vs from h4), h5⟩
 have sat5 : Sat ⟨m4.ρ, m5.I, m5.w⟩ w4 (Ta s k (.fn (.func o_gd) [.p 3 0])) [none, some zO, some (plO ((plC (placeY s k)).map V.d)), none] := by
  refine Sat.uncut (m := (m4.at W1).at (W1.putObj l (.loop (rec .done (some (.exit 1)))))) (loL.sat (.loop (rec .done (some (.exit 1)))) satw) b5 hu (fun n h => ?_) rfl fun n ob h => ?_
  ·simp [SC] at h
   rcases h with (rfl | rfl) | rfl <;> rfl
  ·rcases n with _ | _ | _ | _ | n
   ·simp at h
   ·right; simp at h; subst h; exact ⟨rfl, rfl⟩
   ·left; simp at h; subst h; exact ⟨rfl, obj2⟩
   ·simp at h
   ·simp at h
 have le5' : m.le ⟨m4.ρ, m5.I, m5.w⟩ (· < 0) := by
  refine Mem.le.trans (lew.far mb (l := l) (by omega) (.loop (rec .done (some (.exit 1))))) hu fun n b h _ => ?_
  rw [htop n (Nat.zero_le _)] at h; cases h
 have sat6 := lo5.sat o6 sat5
 have le6 := le5'.far mb (l := l) (by omega) o6
 have hd6 : (m5.w.putObj l o6).heap[dd]? = some (.deferred (some [])) := (World.putObj_heap_other hne).trans hd5
 have loD6 : ((⟨m4.ρ, m5.I, m5.w⟩ : Mem).at (m5.w.putObj l o6)).loose dd := ⟨by simpa using loD5.1.lt, loD5.1.ρ, loD5.1.I⟩
 show (Code.seq (.region id ops false) .ret).wpIn Fence.wide 1 _ _ _ _
 refine wpIn_seq (o_6c ?_)
 have hops : ops.toList = ops.toList ++ [] := (List.append_nil _).symm
 rw [hops]
 refine o_67 (D := [{ target := .collected dd, args := #[] }]) (Q := fun e a w => e = .normal ∧ ∃ T' H' m', m'.w = w ∧ Sat m' a T' H' ∧ T'.getD 4 .junk = .p 1 0 ∧ T'.getD 5 .junk = .d (.int .i64 0) ∧ H' = [none, some (plO ((plC (placeY s k)).map V.d)), some (plO ((plC (placeY s k)).map V.d)), none] ∧ m.le m' (· < 0) ∧ ((⟨m4.ρ, m5.I, m5.w⟩ : Mem).at (m5.w.putObj l o6)).le m' (· < 4)) ?_ _ w4 _ _ ⟨rfl, by rw [st4'.defers]; rfl⟩ ?_
 ·rintro e a a' w hbes ⟨rfl, T7, H7, m7, rfl, st7, h4, h5, rfl, le0, le7⟩
  refine wpIn_ret ?_
  have hdf : a'.defers = [{ target := .collected dd, args := #[] }] := by rw [hbes.defers, st7.defers]; rfl
  show LeavesInM _ _ _ _ _ _ a'.defers _ _
  rw [hdf, ← hbes.tmps]
  obtain ⟨lo7, hl7⟩ := loD6.keep le7
  have hd7 := hl7.trans hd6
  refine ⟨by simp, .inl ⟨dd, _, rfl, run_takeDeferred hd7, ?_⟩⟩
  have sat8 := lo7.sat (.deferred none) st7
  obtain ⟨v, hv1, hv2⟩ := o_57 (P := Tryz.prog) sat8 f10 (.tup [.d (plD (placeY s k)), .d (.int .i64 0)]) (by
   rw [ers]
   simp only [outV, outs, RV.out, h4, h5]
   rfl)
  refine ⟨v, hv1, v, ⟨fun _ => none, m7.I, m7.w.putObj dd (.deferred none)⟩, rfl, rfl, ?_⟩
  have lem := le0.far mb (l := dd) (by omega) (.deferred none)
  refine ⟨⟨sat8.base.imm, fun n b h => (by cases h), sat8.base.tabs.mono (fun _ h => h) (fun _ _ => rfl)⟩, ⟨fun n b h => (by rw [htop n (Nat.zero_le _)] at h; cases h), lem.I, lem.os, lem.tape, lem.output, lem.drawn, lem.size, lem.block, lem.shape, lem.imm, lem.newI, fun n b h => (by cases h)⟩, ?_, by simp, by simp, fun _ _ => rfl, fun n b _ h => (by cases h)⟩
  unfold V.rep at hv2 ⊢
  obtain ⟨us, h1, h2⟩ := hv2
  exact ⟨us, h1, o_o4 (ds := [plD (placeY s k), .int .i64 0]) (m := m7.at (m7.w.putObj dd (.deferred none))) rfl rfl h2⟩
 ·refine o_63 (l := none) (L := 4) (m0 := (⟨m4.ρ, m5.I, m5.w⟩ : Mem).at (m5.w.putObj l o6)) (m := (⟨m4.ρ, m5.I, m5.w⟩ : Mem).at (m5.w.putObj l o6)) (K := fun T H => T.getD 4 .junk = .p 1 0 ∧ T.getD 5 .junk = .d (.int .i64 0) ∧ H = [none, some (plO ((plC (placeY s k)).map V.d)), some (plO ((plC (placeY s k)).map V.d)), none]) [] calO (by rw [e5]; exact a_5 s k _ _ fun T h1 h2 => ⟨h1, h2, rfl⟩) sat6 (Mem.le.refl _ _) sat6.top (by simp) fun T7 H7 a7 m7 hq st7 le7 _ => ?_
  refine wpListIn_nil ⟨rfl, T7, H7, m7, rfl, st7, hq.1, hq.2.1, hq.2.2, ?_, le7⟩
  refine Mem.le.trans le6 le7 fun n b h _ => ?_
  rw [htop n (Nat.zero_le _)] at h; cases h
end
end Go.Proofs.YtmpjlkclkhnpfaaGreatDoor.Am
namespace Go.Proofs.YtmpjlkclkhnpfaaGreatDoor.Am
section
open Go.RowKit
end
end Go.Proofs.YtmpjlkclkhnpfaaGreatDoor.Am
namespace Go.Proofs.YtmpjlkclkhnpfaaGreatDoor.Am
section
open Go.RowKit
theorem o_oa {d k : Nat} (hd : d ≤ 8) (hk : k ≤ 1023) : wrongZ d [(k : Int)] = 0 := by
 rw [wrongZ, if_pos (by omega), if_pos]
 simp [okK]; omega

theorem o_ob (d k : Nat) (hd : d ≤ 8) (hk : k ≤ 1023) (hu : k / 2 ^ d < 64) :
  Eqn Tryz.prog o_fm [.d (.int .i64 d), .d (.int .i64 k)] [] (.tup [.d (.agg [natW 1, .bool false, natW (2 ^ (k / 2 ^ d) - 1)]), .d (.int .i64 0)]) [] := by
 refine Eqn.pure o_fo (o_ie _ _) ?_
 simp only [o_fn]
 refine G0 ?_; try with_reducible exact tt
 refine CallS.pf 1 1 ⟨3, _⟩ [.int .i64 k] (o_n2 d k) (by first | rfl | (simp; done)) (R0 ?_); try with_reducible exact tt
 have hw := o_oa hd hk
 refine AW.cond rfl (fun h => ?_) (fun h => ?_)
 ·simp [hw] at h
 have hp := o_n1 d k (by omega) (by omega)
 generalize k / 2 ^ d = u at hp hu ⊢
 refine G0 ?_; try with_reducible exact tt
 refine CallS.pu (hp) (R0 ?_); try with_reducible exact tt
 refine CallS.pu (o_kg u hu) (R0 ?_); try with_reducible exact tt

def p2 (n : Nat) : Nat := 2 ^ n
def halfO (cs : List Bool) : Nat → Nat → Bool × Nat × Int
 | 0, i => (true, i, 0)
 | r + 1, i => if i < cs.length then (if cs.getD i false then halfO cs r (i + 1) else (false, i + 1, 0)) else (false, i, 8)
end
end Go.Proofs.YtmpjlkclkhnpfaaGreatDoor.Am
namespace Go.Proofs.YtmpjlkclkhnpfaaGreatDoor.Am
section
open Go.RowKit
def stepY (cs : List Bool) (s k : Int) : Bool × Int × Nat × Bool := if atE s k = 0 then halfR cs (atP s k).shift 0 false else (false, atE s k, 0, false)
def againE (s k j : Int) : Int := if atE s k = 0 then atE s j else atE s k
def againY (cs : List Bool) (s k j : Int) : Bool × Int × Nat × Bool := if againE s k j = 0 then halfR cs ((atP s k).shift - (atP s j).shift) 0 false else (false, againE s k j, 0, false)
end
end Go.Proofs.YtmpjlkclkhnpfaaGreatDoor.Am
namespace Go.Proofs.YtmpjlkclkhnpfaaGreatDoor.Am
section
open Go.RowKit
theorem o_oc (x : Nat) (hx : x < 18446744073709551616) : Eqn Tryz.prog o_c7 [.d (.int .u64 x)] [] (.d (.int .i64 (bitsN x))) [] := by
 refine Eqn.pure o_c9 (o_58 _) ?_
 simp only [o_c8]
 refine G0 ?_; try with_reducible exact tt
 refine AW.cond rfl (fun h => ?_) (fun h => ?_)
 ·simp at h
 refine G0 ?_; try with_reducible exact tt
 refine CallS.pu (o_jj x hx) (R0 ?_); try with_reducible exact tt

theorem o_od (a w : Nat) (h1 : 1 ≤ a) (h2 : a ≤ 4096) (w1 : 1 ≤ w) (w2 : w ≤ 10) (hm : bitsN (a + 1) * (2 ^ w - 1) ≤ 8192) : Eqn Tryz.prog o_97 [.d (.agg [.int .i64 1, .int .i64 a, .int .i64 w])] [] (.d (.int .i64 0)) [] := by
 refine Eqn.pure o_99 (o_58 _) ?_
 simp only [o_98]
 have hk := o_ni 1 a w
 rw [kindD, if_pos rfl] at hk
 have hg := o_ng a
 rw [show decide (1 ≤ (a : Int) ∧ (a : Int) ≤ 4096) = true by simp; omega] at hg
 have g1 : ¬ (w : Int) < 1 := by omega
 have g2 : ¬ (10 : Int) < w := by omega
 refine G0 ?_; try with_reducible exact tt
 refine CallS.pu (hk) (R1 (fs g1 g2) ?_); try with_reducible exact tt
 refine ⟨_, o_nd, ?_⟩
 refine CallS.pu (hg) (R1 (fs g1 g2) ?_); try with_reducible exact tt
 refine AW.cond rfl (fun h => ?_) (fun h => ?_)
 ·simp [g1, g2] at h
 clear h
 have e1 : IntKind.i64.wrap ((a : Int) + 1) = ((a + 1 : Nat) : Int) := w64 (by omega) (by omega)
 have e2 : IntKind.u64.wrap ((a + 1 : Nat) : Int) = ((a + 1 : Nat) : Int) := wu64 (by omega) (by omega)
 have hb := o_oc (a + 1) (by omega)
 have hbl : bitsN (a + 1) ≤ 8192 := by
  refine Nat.le_trans (Nat.le_mul_of_pos_right _ ?_) hm
  have := Nat.pow_le_pow_right (n := 2) (by omega) w1
  omega
 have h2' : 0 < 2 ^ w := Nat.two_pow_pos w
 have h2 : 2 ^ w ≤ 1024 := Nat.pow_le_pow_right (n := 2) (by omega) w2
 have e0 : (2 : Int) ^ w = (2 ^ w : Nat) := by rw [Int.natCast_pow]; rfl
 generalize 2 ^ w = S at *
 generalize bitsN (a + 1) = B at *
 generalize a + 1 = a1 at *
 have e3 : IntKind.i64.wrap (S : Int) = S := w64 (by omega) (by omega)
 have e4 : IntKind.i64.wrap ((S : Int) - 1) = ((S - 1 : Nat) : Int) := by rw [w64 (by omega) (by omega)]; omega
 have e5 : IntKind.i64.wrap ((B : Int) * ((S - 1 : Nat) : Int)) = ((B * (S - 1) : Nat) : Int) := by
  rw [← Int.natCast_mul]
  generalize B * (S - 1) = x at *
  exact w64 (by omega) (by omega)
 have g3 : ¬ (8192 : Int) < ((B * (S - 1) : Nat) : Int) := by omega
 generalize hS1 : S - 1 = S1 at *
 obtain ⟨x, hx⟩ : ∃ x, x = B * S1 := ⟨_, rfl⟩
 rw [← hx] at e5 g3
 refine G1 (fs e1 e2) ?_; try with_reducible exact tt
 refine CallS.pu (hb) (R1 (fs e0 (fs e3 (fs e4 (fs e5 g3)))) ?_); try with_reducible exact tt
 refine AW.cond rfl (fun h => ?_) (fun h => ?_)
 ·simp [g3] at h
 refine G0 ?_; try with_reducible exact tt

theorem o_oe (a : Int) : Eqn Tryz.prog o_g1 [.d (.int .i64 a)] [] (.d (.bool (decide (1 ≤ a ∧ a ≤ 5)))) [] := by
 refine Eqn.pure o_g3 (o_58 _) ?_
 simp only [o_g2]
 refine G0 ?_; try with_reducible exact tt
 refine CallS.pu (o_nj a) (R0 ?_); try with_reducible exact tt

theorem o_of (a w : Nat) (h2 : a ≤ 8) (w1 : 1 ≤ w) (w2 : w ≤ 10) : Eqn Tryz.prog o_97 [.d (.agg [.int .i64 2, .int .i64 a, .int .i64 w])] [] (.d (.int .i64 0)) [] := by
 refine Eqn.pure o_99 (o_58 _) ?_
 simp only [o_98]
 have hk := o_ni 2 a w
 rw [kindD, if_neg (by omega), if_pos rfl] at hk
 have hg := o_nh a
 rw [show decide (0 ≤ (a : Int) ∧ (a : Int) ≤ 8) = true by simp; omega] at hg
 have g1 : ¬ (w : Int) < 1 := by omega
 have g2 : ¬ (10 : Int) < w := by omega
 refine G0 ?_; try with_reducible exact tt
 refine CallS.pu (hk) (R1 (fs g1 g2) ?_); try with_reducible exact tt
 refine ⟨_, o_ne, ?_⟩
 refine CallS.pu (hg) (R1 (fs g1 g2) ?_); try with_reducible exact tt
 refine AW.cond rfl (fun h => ?_) (fun h => ?_)
 ·simp [g1, g2] at h
 clear h
 refine G0 ?_; try with_reducible exact tt
 refine AW.cond rfl (fun h => ?_) (fun h => ?_)
 ·simp at h
 refine G0 ?_; try with_reducible exact tt
theorem o_og (a w : Nat) (h1 : 1 ≤ a) (h2 : a ≤ 5) (w1 : 1 ≤ w) (w2 : w ≤ 10) : Eqn Tryz.prog o_97 [.d (.agg [.int .i64 3, .int .i64 a, .int .i64 w])] [] (.d (.int .i64 0)) [] := by
 refine Eqn.pure o_99 (o_58 _) ?_
 simp only [o_98]
 have hk := o_ni 3 a w
 rw [kindD, if_neg (by omega), if_neg (by omega), if_pos rfl] at hk
 have hg := o_oe a
 rw [show decide (1 ≤ (a : Int) ∧ (a : Int) ≤ 5) = true by simp; omega] at hg
 have g1 : ¬ (w : Int) < 1 := by omega
 have g2 : ¬ (10 : Int) < w := by omega
 refine G0 ?_; try with_reducible exact tt
 refine CallS.pu (hk) (R1 (fs g1 g2) ?_); try with_reducible exact tt
 refine ⟨_, o_nf, ?_⟩
 refine CallS.pu (hg) (R1 (fs g1 g2) ?_); try with_reducible exact tt
 refine AW.cond rfl (fun h => ?_) (fun h => ?_)
 ·simp [g1, g2] at h
 clear h
 refine G0 ?_; try with_reducible exact tt
 refine AW.cond rfl (fun h => ?_) (fun h => ?_)
 ·simp at h
 refine G0 ?_; try with_reducible exact tt
end
end Go.Proofs.YtmpjlkclkhnpfaaGreatDoor.Am
namespace Go.Proofs.YtmpjlkclkhnpfaaGreatDoor.Am
section
open Go.RowKit
def parD (k a w : Int) : D := .agg [.int .i64 k, .int .i64 a, .int .i64 w]
theorem o_oh (k a : Int) (w : Nat) (w2 : w ≤ 10) (hc : Eqn Tryz.prog o_97 [.d (parD k a w)] [] (.d (.int .i64 0)) []) : Eqn Tryz.prog o_9a [.d (parD k a w)] [] (.d (.int .i64 (2 ^ w - 1 : Nat))) [] := by
 refine Eqn.pure o_9c (o_58 _) ?_
 simp only [o_9b, parD] at hc ⊢
 have h2' : 0 < 2 ^ w := Nat.two_pow_pos w
 have h2 : 2 ^ w ≤ 1024 := Nat.pow_le_pow_right (n := 2) (by omega) w2
 have e0 : (2 : Int) ^ w = (2 ^ w : Nat) := by rw [Int.natCast_pow]; rfl
 generalize 2 ^ w = S at *
 have e3 : IntKind.i64.wrap (S : Int) = S := w64 (by omega) (by omega)
 have e4 : IntKind.i64.wrap ((S : Int) - 1) = ((S - 1 : Nat) : Int) := by rw [w64 (by omega) (by omega)]; omega
 generalize S - 1 = S1 at *
 refine G0 ?_; try with_reducible exact tt
 refine CallS.pu (hc) (R0 ?_); try with_reducible exact tt
 refine AW.cond rfl (fun h => ?_) (fun h => ?_)
 ·simp at h
 refine G1 (fs e0 (fs e3 e4)) ?_; try with_reducible exact tt

theorem o_oi (k a : Int) (w : Nat) (w2 : w ≤ 10) (x : Int) (h0 : 0 ≤ x) (h1 : x ≤ (2 ^ w - 1 : Nat)) (hc : Eqn Tryz.prog o_97 [.d (parD k a w)] [] (.d (.int .i64 0)) []) : Eqn Tryz.prog o_9d [.d (parD k a w), .d (.sl 1 [.int .i64 x])] [] (.d (.int .i64 0)) [] := by
 refine Eqn.pure o_9f (o_58 _) ?_
 have ht := o_oh k a w w2 hc
 simp only [o_9e, parD] at hc ht ⊢
 generalize 2 ^ w - 1 = S at *
 refine G0 ?_; try with_reducible exact tt
 refine CallS.pu (hc) (R0 ?_); try with_reducible exact tt
 refine AW.cond rfl (fun h => ?_) (fun h => ?_)
 ·simp at h
 refine G0 ?_; try with_reducible exact tt
 refine AW.loopT (α := Nat) 1 (fun i => [(15, .d (.int .i64 (i : Int)))]) (fun i => []) (fun i => i ≤ 1) (fun i => 1 - i) 0 ?_ ?_ (Nat.zero_le _) ?_ ?_ ?_
 ·simp
 ·simp
 ·simp
 ·simp
 rintro i hi
 simp
 have g1 : ¬ x < 0 := by omega
 have g2 : ¬ (S : Int) < x := by omega
 by_cases h : i = 1
 ·subst h
  refine G0 ?_; try with_reducible exact tt
  refine AW.cond rfl (fun h => ?_) (fun h => ?_)
  ·simp at h
  refine AW.exit ?_
  (try (simp -implicitDefEqProofs; try simp (disch := omega) only [w64, wu64]))
  refine G0 ?_; try with_reducible exact tt
 ·obtain rfl : i = 0 := by omega
  refine G0 ?_; try with_reducible exact tt
  refine AW.cond rfl (fun h => ?_) (fun h => ?_)
  ·refine G1 (fs g1 g2) ?_; try with_reducible exact tt
   refine CallS.pu (ht) (R1 (fs g1 g2) ?_); try with_reducible exact tt
   refine AW.cond rfl (fun h => ?_) (fun h => ?_)
   ·simp [g1, g2] at h
   have ew : IntKind.i64.wrap 1 = 1 := w64 (by omega) (by omega)
   refine G1 ew ?_; try with_reducible exact tt
   exact ⟨1, by omega, by omega, by simp⟩
  ·simp at h
end
end Go.Proofs.YtmpjlkclkhnpfaaGreatDoor.Am
namespace Go.Proofs.YtmpjlkclkhnpfaaGreatDoor.Am
section
open Go.RowKit
end
end Go.Proofs.YtmpjlkclkhnpfaaGreatDoor.Am
namespace Go.Proofs.YtmpjlkclkhnpfaaGreatDoor.Am
section
open Go.RowKit
end
end Go.Proofs.YtmpjlkclkhnpfaaGreatDoor.Am
namespace Go.Proofs.YtmpjlkclkhnpfaaGreatDoor.Am
section
open Go.RowKit
def stepG (cs : List Bool) (d k : Int) (p : Nat) (dd : Bool) : Bool × Int × Nat × Bool := if wrongZ d [k] = 0 then halfR cs (k.toNat / 2 ^ d.toNat) p dd else (false, wrongZ d [k], p, dd)

def stepYG (cs : List Bool) (s k : Int) (q : Nat) (dd : Bool) : Bool × Int × Nat × Bool := if atE s k = 0 then halfR cs (atP s k).shift q dd else (false, atE s k, q, dd)
end
end Go.Proofs.YtmpjlkclkhnpfaaGreatDoor.Am
namespace Go.Proofs.YtmpjlkclkhnpfaaGreatDoor.Am
section
abbrev StepT := Nat → Nat → Bool → Bool × Int × Nat × Bool
def addL (st : StepT) (top : Nat) : Nat → Nat → Bool → Nat → Bool → Int × Nat × Bool × Nat × Bool
 | 0, x, f, p, d => (0, x, f, p, d)
 | n + 1, x, f, p, d =>
  if x = top then (0, x, true, p, d)
  else if (st x p d).2.1 = 0 then
   if f = true ∧ (if (st x p d).1 then x + 1 else x) = top then (0, top, f, (st x p d).2.2.1, (st x p d).2.2.2)
   else addL st top n (if (st x p d).1 then x + 1 else x) f (st x p d).2.2.1 (st x p d).2.2.2
  else ((st x p d).2.1, x, f, (st x p d).2.2.1, (st x p d).2.2.2)
end
end Go.Proofs.YtmpjlkclkhnpfaaGreatDoor.Am
namespace Go.Proofs.YtmpjlkclkhnpfaaGreatDoor.Am
section
open Go.RowKit
structure StepOf (cs : List Bool) (ti : TypeId) (d : D) (g : FuncId) (st : StepT) : Prop where
 meth : MethOK Tryz.prog ti "tallymark/chain.step" g
 run : ∀ (x p : Nat) (dd : Bool), p ≤ cs.length → Eqn Tryz.prog g [.d d, .p 0 0, .d (.int .i64 x)] [tapeO cs p dd] (.tup [.d (.bool (st x p dd).1), .d (.int .i64 (st x p dd).2.1)]) [tapeO cs (st x p dd).2.2.1 (st x p dd).2.2.2]
 le : ∀ (x p : Nat) (dd : Bool), p ≤ cs.length → (st x p dd).2.2.1 ≤ cs.length
end
end Go.Proofs.YtmpjlkclkhnpfaaGreatDoor.Am
namespace Go.Proofs.YtmpjlkclkhnpfaaGreatDoor.Am
section
open Go.RowKit
def stOf (cs : List Bool) (k a : Int) : StepT := fun x p dd => if k = 1 then stepM cs a x p dd else if k = 2 then stepG cs a x p dd else stepYG cs a x p dd
def GoodS (k a w : Nat) : Prop := (k = 1 ∧ 1 ≤ a ∧ a ≤ 4 ∨ k = 2 ∧ a ≤ 1 ∨ k = 3 ∧ 1 ≤ a ∧ a ≤ 2) ∧ 1 ≤ w ∧ w ≤ 4

theorem o_oj {k a w : Nat} (h : GoodS k a w) : Eqn Tryz.prog o_97 [.d (parD k a w)] [] (.d (.int .i64 0)) [] := by
 obtain ⟨h, h1, h2⟩ := h
 rcases h with ⟨rfl, h3, h4⟩ | ⟨rfl, h3⟩ | ⟨rfl, h3, h4⟩
 ·refine o_od a w (by omega) (by omega) h1 (by omega) ?_
  have ha : a = 1 ∨ a = 2 ∨ a = 3 ∨ a = 4 := by omega
  have hw : w = 1 ∨ w = 2 ∨ w = 3 ∨ w = 4 := by omega
  rcases ha with rfl | rfl | rfl | rfl <;> rcases hw with rfl | rfl | rfl | rfl <;> decide
 ·exact o_of a w (by omega) h1 (by omega)
 ·exact o_og a w (by omega) (by omega) h1 (by omega)

theorem o_ok (k m : Int) (hm : 0 < m) : -m < k.tmod m ∧ k.tmod m < m := by
 refine ⟨?_, Int.tmod_lt_of_pos _ hm⟩
 rcases (by omega : k < 0 ∨ 0 ≤ k) with h | h
 ·have := Int.tmod_lt_of_pos (-k) hm
  rw [Int.neg_tmod] at this
  omega
 ·have := Int.tmod_nonneg m h
  omega
theorem o_ol (k m : Int) (hm : 0 < m) (hm2 : m ≤ 4611686018427387904) : IntKind.i64.wrap (k.tmod m + m) = k.tmod m + m ∧ ∃ r : Nat, (k.tmod m + m).tmod m = r ∧ r < m ∧ IntKind.i64.wrap (1 + (r : Int)) = ((1 + r : Nat) : Int) := by
 have h := o_ok k m hm
 have h0 : 0 ≤ k.tmod m + m := by omega
 refine ⟨w64 (by omega) (by omega), ?_⟩
 have h1 := Int.tmod_nonneg m h0
 have h2 := Int.tmod_lt_of_pos (k.tmod m + m) hm
 obtain ⟨r, hr⟩ : ∃ r : Nat, (k.tmod m + m).tmod m = r := ⟨((k.tmod m + m).tmod m).toNat, by omega⟩
 exact ⟨r, hr, by omega, by rw [w64 (by omega) (by omega)]; omega⟩
theorem o_om (k : Int) (m : Nat) (hm : m ≤ 4611686018427387904) : ∃ n : Nat, bits BinOp.and IntKind.i64 k (m : Int) = n ∧ n ≤ m ∧ IntKind.i64.wrap (1 + (n : Int)) = ((1 + n : Nat) : Int) := by
 refine ⟨(BitVec.ofInt 64 k).toNat &&& m, ?_, Nat.and_le_right, ?_⟩
 ·have hm' : m % 2 ^ 64 = m := Nat.mod_eq_of_lt (by omega)
  have hle : (BitVec.ofInt 64 k).toNat &&& m ≤ m := Nat.and_le_right
  show IntKind.i64.wrap (((BitVec.ofInt 64 k) &&& (BitVec.ofInt 64 (m : Int))).toNat : Int) = _
  rw [BitVec.toNat_and, BitVec.ofInt_natCast, BitVec.toNat_ofNat, hm']
  generalize (BitVec.ofInt 64 k).toNat &&& m = n at *
  exact w64 (by omega) (by omega)
 ·have hle : (BitVec.ofInt 64 k).toNat &&& m ≤ m := Nat.and_le_right
  generalize (BitVec.ofInt 64 k).toNat &&& m = n at *
  rw [w64 (by omega) (by omega)]; omega
end
end Go.Proofs.YtmpjlkclkhnpfaaGreatDoor.Am
namespace Go.Proofs.YtmpjlkclkhnpfaaGreatDoor.Am
section
open Go.RowKit
abbrev AgT := Nat → Nat → Nat → Bool → Bool × Int × Nat × Bool
def agOf (cs : List Bool) (k a : Nat) : AgT := fun x r p dd => if k = 1 then powerR cs a (a + 1) (x - r) p dd else if k = 2 then halfR cs (x / 2 ^ a - r / 2 ^ a) p dd else halfR cs ((placeY a x).shift - (placeY a r).shift) p dd

structure AgainOf (cs : List Bool) (ti : TypeId) (d : D) (g : FuncId) (ag : AgT) : Prop where
 meth : MethOK Tryz.prog ti "tallymark/chain.again" g
 run : ∀ (x r p : Nat) (dd : Bool), x ≤ 1023 → r ≤ 1023 → p ≤ cs.length → Eqn Tryz.prog g [.d d, .p 0 0, .d (.int .i64 x), .d (.int .i64 r)] [tapeO cs p dd] (.tup [.d (.bool (ag x r p dd).1), .d (.int .i64 (ag x r p dd).2.1)]) [tapeO cs (ag x r p dd).2.2.1 (ag x r p dd).2.2.2]
 le : ∀ (x r p : Nat) (dd : Bool), p ≤ cs.length → (ag x r p dd).2.2.1 ≤ cs.length
end
end Go.Proofs.YtmpjlkclkhnpfaaGreatDoor.Am
namespace Go.Proofs.YtmpjlkclkhnpfaaGreatDoor.Am
section
open Go.RowKit
def mergeL (ag : AgT) (top : Nat) : Nat → Nat → Nat → Bool → Nat → Bool → Int × Nat × Bool × Nat × Bool
 | 0, _, x, f, p, d => (0, x, f, p, d)
 | n + 1, r, x, f, p, d =>
  if x = top then mergeL ag top n (r + 1) x true p d
  else if (ag x r p d).2.1 = 0 then mergeL ag top n (r + 1) (if (ag x r p d).1 then x + 1 else x) f (ag x r p d).2.2.1 (ag x r p d).2.2.2
  else ((ag x r p d).2.1, x, f, (ag x r p d).2.2.1, (ag x r p d).2.2.2)
end
end Go.Proofs.YtmpjlkclkhnpfaaGreatDoor.Am
namespace Go.Proofs.YtmpjlkclkhnpfaaGreatDoor.Am
section
open Go.RowKit
def outD (p : Nat) (R : Bool × Int × Nat × Bool) : D := .agg [.bool R.1, .int .i64 (R.2.2.1 - p : Nat), .int .i64 R.2.1]
end
end Go.Proofs.YtmpjlkclkhnpfaaGreatDoor.Am
namespace Go.Proofs.YtmpjlkclkhnpfaaGreatDoor.Am
section
open Go.RowKit
end
end Go.Proofs.YtmpjlkclkhnpfaaGreatDoor.Am
namespace Go.Proofs.YtmpjlkclkhnpfaaGreatDoor.Am
section
open Go.RowKit
structure Live (p : Nat) (R : Bool × Int × Nat × Bool) : Prop where
 err : R.2.1 = 0 ∨ R.2.1 = 8
 dead : R.2.2.2 = true ↔ R.2.1 ≠ 0
 no : R.2.1 ≠ 0 → R.1 = false
 le : p ≤ R.2.2.1

theorem Live.mono {p q : Nat} {R : Bool × Int × Nat × Bool} (h : Live q R) (hq : p ≤ q) : Live p R := ⟨h.err, h.dead, h.no, Nat.le_trans hq h.le⟩
theorem Live.ok {p : Nat} {R : Bool × Int × Nat × Bool} (h : Live p R) (h1 : R.2.1 = 0) : R.2.2.2 = false := by
 cases hd : R.2.2.2 with
 | false => rfl
 | true => exact absurd h1 (h.dead.1 hd)
end
end Go.Proofs.YtmpjlkclkhnpfaaGreatDoor.Am
namespace Go.Proofs.YtmpjlkclkhnpfaaGreatDoor.Am
section
open Go.RowKit
theorem o_on : MethOK Tryz.prog 224 "tallymark/chain.chance" o_fg := fun v w => by kernel_rfl
theorem o_oo : MethOK Tryz.prog 225 "tallymark/chain.chance" o_fy := fun v w => by kernel_rfl

def halfD (e : Nat) : D := .agg [natW 1, .bool false, natW (2 ^ e - 1)]
def expOf (k a x : Nat) : Nat := if k = 2 then x / 2 ^ a else (placeY a x).shift

theorem o_op (d k : Nat) (hd : d ≤ 8) (hk : k ≤ 1023) (hu : k / 2 ^ d < 64) : Eqn Tryz.prog o_fg [.d (.int .i64 d), .d (.int .i64 k)] [] (.tup [.d (halfD (k / 2 ^ d)), .d (.int .i64 0)]) [] := by
 refine Eqn.pure o_fi (o_ie _ _) ?_
 have h := o_ob d k hd hk hu
 simp only [o_fh, halfD]
 generalize natW (2 ^ (k / 2 ^ d) - 1) = Z at *
 refine G0 ?_; try with_reducible exact tt
 refine CallS.pu (h) (R0 ?_); try with_reducible exact tt

theorem o_oq : ∀ a, a < 3 → ∀ x, x < 16 → (placeY a x).shift < 64 := by decide

theorem o_or (s k : Nat) (h1 : 1 ≤ s) (h2 : s ≤ 5) (hk : k ≤ 1023) (hu : (placeY s k).shift < 64) : Eqn Tryz.prog o_g4 [.d (.int .i64 s), .d (.int .i64 k)] [] (.tup [.d (halfD (placeY s k).shift), .d (.int .i64 0)]) [] := by
 refine Eqn.pure o_g6 (o_ie _ _) ?_
 have ha := o_o9 s k h1 h2 hk
 generalize placeY s k = P at *
 obtain ⟨px, ps, pv, pr⟩ := P
 simp only at hu
 have hh := o_kg ps hu
 simp only [o_g5, halfD, plD] at ha ⊢
 generalize natW (2 ^ ps - 1) = Z at *
 refine G0 ?_; try with_reducible exact tt
 refine CallS.pu (ha) (R0 ?_); try with_reducible exact tt
 refine AW.cond rfl (fun h => ?_) (fun h => ?_)
 ·simp at h
 refine G0 ?_; try with_reducible exact tt
 refine CallS.pu (hh) (R0 ?_); try with_reducible exact tt

theorem o_os (s k : Nat) (h1 : 1 ≤ s) (h2 : s ≤ 5) (hk : k ≤ 1023) (hu : (placeY s k).shift < 64) : Eqn Tryz.prog o_fy [.d (.int .i64 s), .d (.int .i64 k)] [] (.tup [.d (halfD (placeY s k).shift), .d (.int .i64 0)]) [] := by
 refine Eqn.pure o_g0 (o_ie _ _) ?_
 have h := o_or s k h1 h2 hk hu
 simp only [o_fz, halfD] at h ⊢
 generalize natW (2 ^ (placeY s k).shift - 1) = Z at *
 refine G0 ?_; try with_reducible exact tt
 refine CallS.pu (h) (R0 ?_); try with_reducible exact tt

theorem o_ot {k a w x : Nat} (h : GoodS k a w) (hk : k ≠ 1) (hx : x ≤ 15) : expOf k a x < 64 := by
 unfold expOf
 split
 ·have : x / 2 ^ a ≤ x := Nat.div_le_self _ _
  omega
 ·exact o_oq a (by have := h.1; omega) x (by omega)

theorem o_ou {k a w x : Nat} (h : GoodS k a w) (hk : k ≠ 1) (hx : x ≤ 15) : ∃ ti d g, MethOK Tryz.prog ti "tallymark/chain.chance" g ∧ kindD k a = .ifc ti d ∧ Eqn Tryz.prog g [.d d, .d (.int .i64 x)] [] (.tup [.d (halfD (expOf k a x)), .d (.int .i64 0)]) [] := by
 have hs := o_ot h hk hx
 obtain ⟨h, -⟩ := h
 rcases h with ⟨rfl, -⟩ | ⟨rfl, h1⟩ | ⟨rfl, h1, h2⟩
 ·exact absurd rfl hk
 ·exact ⟨_, _, _, o_on, rfl, o_op a x (by omega) (by omega) hs⟩
 ·exact ⟨_, _, _, o_oo, rfl, o_os a x h1 (by omega) (by omega) hs⟩

theorem o_ov {e : Nat} (h : e < 64) : size (2 ^ e) ≤ 1 := o_k8 (by have := Nat.pow_lt_pow_right (a := 2) (by omega) h; omega)
end
end Go.Proofs.YtmpjlkclkhnpfaaGreatDoor.Am
namespace Go.Proofs.YtmpjlkclkhnpfaaGreatDoor.Am
section
open Go.RowKit
end
end Go.Proofs.YtmpjlkclkhnpfaaGreatDoor.Am
namespace Go.Proofs.YtmpjlkclkhnpfaaGreatDoor.Am
section
open Go.RowKit
end
end Go.Proofs.YtmpjlkclkhnpfaaGreatDoor.Am
namespace Go.Proofs.YtmpjlkclkhnpfaaGreatDoor.Am
section
open Go.RowKit
def valM (a k : Nat) : Rat := (a : Rat) * ((mkRat ((a + 1 : Nat) : Int) a) ^ k - ((1 : Nat) : Rat))

theorem o_ow {x n : Nat} (h : bitsN x * n ≤ 8192) : size (x ^ n) ≤ 129 := by
 refine o_kh (n := bitsN x * n + 1) ?_ (by omega)
 rw [Nat.pow_succ]
 have h3 : x ^ n ≤ (2 ^ bitsN x) ^ n := Nat.pow_le_pow_left (Nat.le_of_lt (o_j0 x)) n
 rw [← Nat.pow_mul] at h3
 have := Nat.two_pow_pos (bitsN x * n)
 omega
end
end Go.Proofs.YtmpjlkclkhnpfaaGreatDoor.Am
namespace Go.Proofs.YtmpjlkclkhnpfaaGreatDoor.Am
section
open Go.RowKit
def chM (a k : Nat) : Rat := mkRat (a : Int) (a + 1) ^ k
theorem o_ox {a : Nat} : (mkRat (a : Int) (a + 1)).num = (a : Int) ∧ (mkRat (a : Int) (a + 1)).den = a + 1 := by
 obtain ⟨p1, p2, p3⟩ := o_lw (a : Int) (a + 1) (by omega)
 rw [Int.natAbs_natCast] at p1 p2
 have hg : Nat.gcd a (a + 1) = 1 := by
  rcases Nat.eq_zero_or_pos a with rfl | h
  ·rfl
  ·rw [Nat.gcd_rec, show (a + 1) % a = 1 % a by rw [Nat.add_mod_left], ← Nat.gcd_rec, Nat.gcd_one_right]
 rw [hg, Nat.div_one] at p1 p2
 refine ⟨?_, p2⟩
 have : ¬ (mkRat (a : Int) (a + 1)).num < 0 := fun h => by have := p3.1 h; omega
 omega
end
end Go.Proofs.YtmpjlkclkhnpfaaGreatDoor.Am

namespace Go.Proofs.YtmpjlkclkhnpfaaGreatDoor.Am
section
open Go.RowKit
theorem o_oy (a k : Nat) (h1 : 1 ≤ a) (h2 : a ≤ 4096) (hk : k ≤ 1023) (hb : bitsN (a + 1) * k ≤ 8192) : Eqn Tryz.prog o_6m [.d (.int .i64 a), .d (.int .i64 k)] [] (.tup [.d (rD (chM a k)), .d (.int .i64 0)]) [] ∧ RS (chM a k) 300 := by
 obtain ⟨q1, q2⟩ := o_ox (a := a)
 have hmk := o_n9 a (a + 1) (by omega) (by omega) (by omega)
 obtain ⟨x, hx⟩ : ∃ x, x = mkRat (a : Int) (a + 1) := ⟨_, rfl⟩
 have hv : chM a k = x ^ k := by rw [hx]; rfl
 rw [← hx] at q1 q2 hmk
 have hba : bitsN a ≤ bitsN (a + 1) := o_j1 (Nat.lt_trans (Nat.lt_succ_self a) (o_j0 _))
 have hb2 : bitsN a * k ≤ 8192 := Nat.le_trans (Nat.mul_le_mul_right _ hba) hb
 have le8 : ∀ q : Nat, q * k ≤ 8192 → q ≤ 1 ∨ k ≤ 8192 / q := fun q h => by
  by_cases h1 : q ≤ 1
  ·exact .inl h1
  ·right; rw [Nat.le_div_iff_mul_le (by omega), Nat.mul_comm]; exact h
 have hxs : RS x 129 := ⟨by rw [q1, Int.natAbs_natCast]; exact Nat.le_trans (o_k8 (by omega)) (by omega), by rw [q2]; exact Nat.le_trans (o_k8 (by omega)) (by omega)⟩
 have hpow := o_n7 x k (by omega) (by omega) (by rw [q1, Int.natAbs_natCast]; exact le8 _ hb2) (by rw [q2]; exact le8 _ hb) hxs (by rw [q1, Int.natAbs_natCast]; exact Nat.le_trans (o_ow hb2) (by omega)) (by rw [q2]; exact Nat.le_trans (o_ow hb) (by omega))
 have hps : RS (x ^ k) 129 := ⟨by rw [Rat.num_pow, Int.natAbs_pow, q1, Int.natAbs_natCast]; exact o_ow hb2, by rw [Rat.den_pow, q2]; exact o_ow hb⟩
 refine ⟨?_, by rw [hv]; exact hps.le (by omega)⟩
 have hw := o_n5 a k
 rw [show wrongM (a : Int) [(k : Int)] = 0 by unfold wrongM; rw [if_pos (by omega), if_pos (by simp [okK]; omega)]] at hw
 have e1 : IntKind.i64.wrap ((a : Int) + 1) = ((a + 1 : Nat) : Int) := by rw [w64 (by omega) (by omega)]; omega
 refine Eqn.pure o_6o Plain.ok ?_
 rw [hv]
 clear hv hxs hps q1 q2 hx
 generalize x ^ k = xk at *
 generalize ha1 : a + 1 = a' at *
 simp only [o_6n, rD] at hmk hpow ⊢
 refine G0 ?_; try with_reducible exact tt
 refine CallS.pf 1 1 ⟨3, _⟩ [.int .i64 k] (hw) (by first | rfl | (simp [e1]; done)) (R1 e1 ?_); try with_reducible exact tt
 refine AW.cond rfl (fun h => ?_) (fun h => ?_)
 ·simp at h
 refine G1 e1 ?_; try with_reducible exact tt
 refine CallS.pu (hmk) (R0 ?_); try with_reducible exact tt
 refine CallS.pu (hpow) (R0 ?_); try with_reducible exact tt
end
end Go.Proofs.YtmpjlkclkhnpfaaGreatDoor.Am
namespace Go.Proofs.YtmpjlkclkhnpfaaGreatDoor.Am
section
open Go.RowKit
end
end Go.Proofs.YtmpjlkclkhnpfaaGreatDoor.Am
namespace Go.Proofs.YtmpjlkclkhnpfaaGreatDoor.Am
section
open Go.RowKit
end
end Go.Proofs.YtmpjlkclkhnpfaaGreatDoor.Am
namespace Go.Proofs.YtmpjlkclkhnpfaaGreatDoor.Am
section
structure TR where
 e : Int
 y : Nat
 t : Nat
 f : Bool
 p : Nat
 d : Bool
end
end Go.Proofs.YtmpjlkclkhnpfaaGreatDoor.Am
namespace Go.Proofs.YtmpjlkclkhnpfaaGreatDoor.Am
section
open Go.RowKit
def binM (cs : List Bool) : Nat → Nat → Nat → Bool → Int × Nat × Nat × Bool
 | 0, c, p, d => (0, c, p, d)
 | n + 1, c, p, d => if flipE cs p d = 0 then binM cs n (if flipB cs p d then c + 1 else c) (flipP cs p d) (flipD cs p d) else (flipE cs p d, 0, flipP cs p d, flipD cs p d)
def thinM (cs : List Bool) (f : Bool) : Nat → Nat → Nat → Nat → Bool → TR
 | 0, y, t, p, d => ⟨0, y, t, f, p, d⟩
 | n + 1, y, t, p, d => if (binM cs y 0 p d).1 = 0 then thinM cs f n (binM cs y 0 p d).2.1 (t + 1) (binM cs y 0 p d).2.2.1 (binM cs y 0 p d).2.2.2 else ⟨(binM cs y 0 p d).1, y, t, f, (binM cs y 0 p d).2.2.1, (binM cs y 0 p d).2.2.2⟩
def downM (cs : List Bool) (most times : Nat) : Nat → Nat → Nat → Bool → Nat → Bool → TR
 | 0, y, t, f, p, d => ⟨0, y, t, f, p, d⟩
 | k + 1, y, t, f, p, d =>
  if most < y then
   if t = times then ⟨0, most, t, true, p, d⟩
   else if (thinM cs f 1 y t p d).e = 0 then downM cs most times k (thinM cs f 1 y t p d).y (thinM cs f 1 y t p d).t f (thinM cs f 1 y t p d).p (thinM cs f 1 y t p d).d
   else ⟨(thinM cs f 1 y t p d).e, y, t, f, (thinM cs f 1 y t p d).p, (thinM cs f 1 y t p d).d⟩
  else ⟨0, y, t, f, p, d⟩
def oneM (cs : List Bool) (most times y t : Nat) (f : Bool) (p : Nat) (d : Bool) : TR :=
 if (halfR cs t p d).1 then downM cs most times (times - t + 1) (y + 1) t f (halfR cs t p d).2.2.1 (halfR cs t p d).2.2.2
 else ⟨(halfR cs t p d).2.1, y, t, f, (halfR cs t p d).2.2.1, (halfR cs t p d).2.2.2⟩
def addTM (cs : List Bool) (most times : Nat) : Nat → Nat → Nat → Bool → Nat → Bool → TR
 | 0, y, t, f, p, d => ⟨0, y, t, f, p, d⟩
 | n + 1, y, t, f, p, d => if (oneM cs most times y t f p d).e = 0 then addTM cs most times n (oneM cs most times y t f p d).y (oneM cs most times y t f p d).t (oneM cs most times y t f p d).f (oneM cs most times y t f p d).p (oneM cs most times y t f p d).d else oneM cs most times y t f p d
def mergeTM (cs : List Bool) (most times y t : Nat) (f : Bool) (z u : Nat) (g : Bool) (p : Nat) (d : Bool) : TR :=
 let A := thinM cs f (u - t) y t p d
 if A.e = 0 then
  let B := thinM cs g (t - u) z u A.p A.d
  if B.e = 0 then downM cs most times (times - A.t + 1) (A.y + B.y) A.t (f || g) B.p B.d else B
 else A

def tsD (y t : Nat) (f : Bool) : D := .agg [.int .i64 y, .int .i64 t, .bool f]
end
end Go.Proofs.YtmpjlkclkhnpfaaGreatDoor.Am
namespace Go.Proofs.YtmpjlkclkhnpfaaGreatDoor.Am
section
open Go.RowKit
def tpD (a b : Int) : D := .agg [.int .i64 a, .int .i64 b]

def GoodT (a b : Nat) : Prop := 1 ≤ a ∧ a ≤ 1023 ∧ b ≤ 20
def WellT (a b y t : Nat) (f : Bool) : Prop := y ≤ a ∧ t ≤ b ∧ (f = true → t = b)

theorem o_oz {a b : Nat} (h : GoodT a b) : Eqn Tryz.prog o_ds [.d (tpD a b)] [] (.d (.int .i64 0)) [] := by
 refine Eqn.pure o_du Plain.ok ?_
 obtain ⟨h1, h2, h3⟩ := h
 have g1 : ¬ (a : Int) < 1 := by omega
 have g2 : ¬ (1023 : Int) < a := by omega
 have g3 : ¬ (b : Int) < 0 := by omega
 have g4 : ¬ (20 : Int) < b := by omega
 simp only [o_dt, tpD]
 refine G1 (fs g1 (fs g2 (fs g3 g4))) ?_; try with_reducible exact tt
 refine AW.cond rfl (fun h => ?_) (fun h => ?_)
 ·simp at h
 ·refine G0 ?_; try with_reducible exact tt
end
end Go.Proofs.YtmpjlkclkhnpfaaGreatDoor.Am
namespace Go.Proofs.YtmpjlkclkhnpfaaGreatDoor.Am
section
open Go.RowKit
end
end Go.Proofs.YtmpjlkclkhnpfaaGreatDoor.Am
namespace Go.Proofs.YtmpjlkclkhnpfaaGreatDoor.Am
section
open Go.RowKit
def GoodC (k a w : Nat) : Prop := (k = 1 ∧ 1 ≤ a ∧ a ≤ 4096 ∧ bitsN (a + 1) * (2 ^ w - 1) ≤ 8192 ∨ k = 2 ∧ a ≤ 8 ∨ k = 3 ∧ 1 ≤ a ∧ a ≤ 5) ∧ 1 ≤ w ∧ w ≤ 10
theorem o_p0 {k a w : Nat} (h : GoodS k a w) : GoodC k a w := by
 obtain ⟨h, h1, h2⟩ := h
 refine ⟨?_, h1, by omega⟩
 rcases h with ⟨rfl, h3, h4⟩ | ⟨rfl, h3⟩ | ⟨rfl, h3, h4⟩
 ·refine .inl ⟨rfl, h3, by omega, ?_⟩
  have ha : a = 1 ∨ a = 2 ∨ a = 3 ∨ a = 4 := by omega
  have hw : w = 1 ∨ w = 2 ∨ w = 3 ∨ w = 4 := by omega
  rcases ha with rfl | rfl | rfl | rfl <;> rcases hw with rfl | rfl | rfl | rfl <;> decide
 ·exact .inr (.inl ⟨rfl, by omega⟩)
 ·exact .inr (.inr ⟨rfl, h3, by omega⟩)
theorem o_p1 {k a w : Nat} (h : GoodC k a w) : Eqn Tryz.prog o_97 [.d (parD k a w)] [] (.d (.int .i64 0)) [] := by
 obtain ⟨h, h1, h2⟩ := h
 rcases h with ⟨rfl, h3, h4, h5⟩ | ⟨rfl, h3⟩ | ⟨rfl, h3, h4⟩
 ·exact o_od a w h3 h4 h1 h2 h5
 ·exact o_of a w h3 h1 h2
 ·exact o_og a w h3 h4 h1 h2
def GoodR (k a b : Nat) : Prop := k = 4 ∧ GoodT a b ∨ k ≠ 4 ∧ GoodC k a b
def WellR (k a b y t : Nat) (f : Bool) : Prop := k = 4 ∧ WellT a b y t f ∨ k ≠ 4 ∧ t = 0 ∧ y ≤ 2 ^ b - 1 ∧ (f = true → y = 2 ^ b - 1)
def addRM (cs : List Bool) (k a b n y t : Nat) (f : Bool) (p : Nat) (d : Bool) : TR :=
 if k = 4 then addTM cs a b n y t f p d
 else ⟨(addL (stOf cs k a) (2 ^ b - 1) n y f p d).1, (addL (stOf cs k a) (2 ^ b - 1) n y f p d).2.1, 0, (addL (stOf cs k a) (2 ^ b - 1) n y f p d).2.2.1, (addL (stOf cs k a) (2 ^ b - 1) n y f p d).2.2.2.1, (addL (stOf cs k a) (2 ^ b - 1) n y f p d).2.2.2.2⟩
def mergeRM (cs : List Bool) (k a b y t : Nat) (f : Bool) (z u : Nat) (g : Bool) (p : Nat) (d : Bool) : TR :=
 if k = 4 then mergeTM cs a b y t f z u g p d
 else ⟨(mergeL (agOf cs k a) (2 ^ b - 1) z 0 y f p d).1, (mergeL (agOf cs k a) (2 ^ b - 1) z 0 y f p d).2.1, 0, (mergeL (agOf cs k a) (2 ^ b - 1) z 0 y f p d).2.2.1 || g, (mergeL (agOf cs k a) (2 ^ b - 1) z 0 y f p d).2.2.2.1, (mergeL (agOf cs k a) (2 ^ b - 1) z 0 y f p d).2.2.2.2⟩
end
end Go.Proofs.YtmpjlkclkhnpfaaGreatDoor.Am
namespace Go.Proofs.YtmpjlkclkhnpfaaGreatDoor.Am
section
def b2n (b : Bool) : Nat := if b then 1 else 0
@[simp] theorem o_p2 (b : Bool) : b2n b ≤ 1 := by cases b <;> decide
def numB : List Bool → Nat → Nat
 | [], n => n
 | b :: l, n => numB l (2 * n + b2n b)
def bitsW (n w : Nat) : List Bool := (List.range w).map fun i => decide (n / 2 ^ (w - 1 - i) % 2 = 1)
@[simp] theorem o_p3 (n w : Nat) : (bitsW n w).length = w := by simp [bitsW]
theorem o_p4 (n w : Nat) : bitsW n (w + 1) = bitsW (n / 2) w ++ [decide (n % 2 = 1)] := by
 simp only [bitsW, List.range_succ, List.map_append, List.map_cons, List.map_nil]
 congr 1
 ·apply List.map_congr_left
  intro i hi
  have := List.mem_range.1 hi
  rw [Nat.div_div_eq_div_mul, ← Nat.pow_succ', show w + 1 - 1 - i = (w - 1 - i).succ by omega]
 ·simp
def bit (bs : List Bool) (i : Nat) : Nat := b2n (bs.getD i false)
def byteAt (bs : List Bool) (i : Nat) : Nat := bit bs (8 * i) * 128 + bit bs (8 * i + 1) * 64 + bit bs (8 * i + 2) * 32 + bit bs (8 * i + 3) * 16 + bit bs (8 * i + 4) * 8 + bit bs (8 * i + 5) * 4 + bit bs (8 * i + 6) * 2 + bit bs (8 * i + 7)
def bytesOf (bs : List Bool) : List Nat := (List.range ((bs.length + 7) / 8)).map (byteAt bs)
@[simp] theorem o_p5 (bs : List Bool) : (bytesOf bs).length = (bs.length + 7) / 8 := by simp [bytesOf]
theorem o_p6 {bs : List Bool} {i : Nat} (h : bs.length ≤ i) : bit bs i = 0 := by
 unfold bit; rw [List.getD_eq_getElem?_getD, List.getElem?_eq_none h]; rfl
def bitsOf1 (x : Nat) : List Bool := bitsW x 8
def bitsOf : List Nat → List Bool
 | [] => []
 | x :: l => bitsOf1 x ++ bitsOf l
@[simp] theorem o_p7 : ∀ l : List Nat, (bitsOf l).length = 8 * l.length
 | [] => rfl
 | x :: l => by simp [bitsOf, bitsOf1, o_p7 l]; omega
theorem o_p8 : ∀ l k : List Nat, bitsOf (l ++ k) = bitsOf l ++ bitsOf k
 | [], k => rfl
 | x :: l, k => by simp [bitsOf, o_p8 l k]
end
end Go.Proofs.YtmpjlkclkhnpfaaGreatDoor.Am
namespace Go.Proofs.YtmpjlkclkhnpfaaGreatDoor.Am
section
open Go.RowKit
def u8s (ws : List Nat) : List V := ws.map fun x : Nat => V.d (.int .u8 x)
def BY (ws : List Nat) : D := .sl ws.length (ws.map fun x : Nat => .int .u8 x)
@[simp] theorem o_p9 (n : Nat) (ws : List Nat) : V.lowl n (u8s ws) = true := by induction ws <;> simp_all [u8s]
@[simp] theorem o_pa (θ : Nat → Nat) (ws : List Nat) : V.rens θ (u8s ws) = u8s ws := by induction ws <;> simp_all [u8s]
def wrB (bs : List Bool) : Ob := ⟨5, u8s (bytesOf bs)⟩
end
end Go.Proofs.YtmpjlkclkhnpfaaGreatDoor.Am
namespace Go.Proofs.YtmpjlkclkhnpfaaGreatDoor.Am
section
open Go.RowKit
def smallB (ws : List Nat) : Prop := ∀ x ∈ ws, x < 256
end
end Go.Proofs.YtmpjlkclkhnpfaaGreatDoor.Am
namespace Go.Proofs.YtmpjlkclkhnpfaaGreatDoor.Am
section
open Go.RowKit
def numAt (ws : List Nat) (a w : Nat) : Nat := numB (((bitsOf ws).drop a).take w) 0
end
end Go.Proofs.YtmpjlkclkhnpfaaGreatDoor.Am
namespace Go.Proofs.YtmpjlkclkhnpfaaGreatDoor.Am
section
open Go.RowKit
def wellTB (a b y t : Nat) (f : Bool) : Bool := decide (y ≤ a) && (decide (t ≤ b) && (!f || t == b))
theorem o_pb {a b : Nat} (h : GoodT a b) (y t : Nat) (f : Bool) : Eqn Tryz.prog o_d1 [.d (tpD a b), .d (tsD y t f)] [] (.d (.bool (wellTB a b y t f))) [] := by
 refine Eqn.pure o_d3 Plain.ok ?_
 have hc := o_oz h
 have g3 : (0 : Int) ≤ y := by omega
 have g4 : (0 : Int) ≤ t := by omega
 simp only [o_d2, tpD, tsD, wellTB] at hc ⊢
 by_cases h1 : y ≤ a
 ·have h1' : (y : Int) ≤ a := by omega
  by_cases h2 : t ≤ b
  ·have h2' : (t : Int) ≤ b := by omega
   cases f with
   | true =>
    by_cases h3 : t = b
    ·subst h3
     refine G1 (fs g3 (fs g4 (fs h1 (fs h1' (fs h2 h2'))))) ?_; try with_reducible exact tt
     refine CallS.pu (hc) (R1 (fs g3 (fs g4 (fs h1 (fs h1' (fs h2 h2'))))) ?_); try with_reducible exact tt
    ·have h3' : ¬ (t : Int) = b := by omega
     refine G1 (fs g3 (fs g4 (fs h1 (fs h1' (fs h2 (fs h2' (fs h3 h3'))))))) ?_; try with_reducible exact tt
     refine CallS.pu (hc) (R1 (fs g3 (fs g4 (fs h1 (fs h1' (fs h2 (fs h2' (fs h3 h3'))))))) ?_); try with_reducible exact tt
     exact Sub1.bool (by rw [Bool.eq_iff_iff]; simp; omega)
   | false =>
    refine G1 (fs g3 (fs g4 (fs h1 (fs h1' (fs h2 h2'))))) ?_; try with_reducible exact tt
    refine CallS.pu (hc) (R1 (fs g3 (fs g4 (fs h1 (fs h1' (fs h2 h2'))))) ?_); try with_reducible exact tt
  ·have h2' : ¬ (t : Int) ≤ b := by omega
   refine G1 (fs g3 (fs g4 (fs h1 (fs h1' (fs h2 h2'))))) ?_; try with_reducible exact tt
   refine CallS.pu (hc) (R1 (fs g3 (fs g4 (fs h1 (fs h1' (fs h2 h2'))))) ?_); try with_reducible exact tt
 ·have h1' : ¬ (y : Int) ≤ a := by omega
  refine G1 (fs g3 (fs g4 (fs h1 h1'))) ?_; try with_reducible exact tt
  refine CallS.pu (hc) (R1 (fs g3 (fs g4 (fs h1 h1'))) ?_); try with_reducible exact tt

theorem o_pc (k a b : Int) : Eqn Tryz.prog o_ap [.d (parD k a b)] [] (.d (tpD a b)) [] := by
 refine Eqn.pure o_ar Plain.ok ?_
 simp only [o_aq, parD, tpD]
 refine G0 ?_; try with_reducible exact tt
theorem o_pd (k a b : Int) : Eqn Tryz.prog o_av [.d (parD k a b)] [] (.d (parD k a b)) [] := by
 refine Eqn.pure o_ax Plain.ok ?_
 simp only [o_aw, parD]
 refine G0 ?_; try with_reducible exact tt
theorem o_pe (y t : Int) (f : Bool) : Eqn Tryz.prog o_as [.d (.agg [.int .i64 y, .int .i64 t, .bool f])] [] (.d (.agg [.int .i64 y, .int .i64 t, .bool f])) [] := by
 refine Eqn.pure o_au Plain.ok ?_
 simp only [o_at]
 refine G0 ?_; try with_reducible exact tt
theorem o_pf {k a b : Nat} (h : GoodR k a b) : Eqn Tryz.prog o_ca [.d (parD k a b)] [] (.d (.int .i64 0)) [] := by
 refine Eqn.pure o_cc Plain.ok ?_
 rcases h with ⟨rfl, h⟩ | ⟨hk, h⟩
 ·have h1 := o_pc 4 a b
  have h2 := o_oz h
  simp only [o_cb, parD, tpD] at h1 h2 ⊢
  refine G0 ?_; try with_reducible exact tt
  refine AW.cond rfl (fun h => ?_) (fun h => ?_)
  ·refine G0 ?_; try with_reducible exact tt
   refine CallS.pu (h1) (R0 ?_); try with_reducible exact tt
   refine CallS.pu (h2) (R0 ?_); try with_reducible exact tt
  ·simp at h
 ·have h1 := o_pd k a b
  have h2 := o_p1 h
  have hk' : ¬ (k : Int) = 4 := by omega
  simp only [o_cb, parD] at h1 h2 ⊢
  refine G1 (fs hk hk') ?_; try with_reducible exact tt
  refine AW.cond rfl (fun h => ?_) (fun h => ?_)
  ·simp [hk'] at h
  ·refine G0 ?_; try with_reducible exact tt
   refine CallS.pu (h1) (R0 ?_); try with_reducible exact tt
   refine CallS.pu (h2) (R0 ?_); try with_reducible exact tt

def wellRB (k a b y t : Nat) (f : Bool) : Bool := if k = 4 then wellTB a b y t f else (t == 0) && (decide (y ≤ 2 ^ b - 1) && (!f || y == 2 ^ b - 1))
theorem o_pg {k a b y t : Nat} {f : Bool} : wellRB k a b y t f = true ↔ WellR k a b y t f := by
 unfold wellRB WellR wellTB WellT
 by_cases hk : k = 4
 ·subst hk
  simp
  intro _ _
  cases f <;> simp
 ·simp [hk]
  intro _ _
  cases f <;> simp

theorem o_ph {k a b : Nat} (h : GoodR k a b) (y t : Nat) (f : Bool) : Eqn Tryz.prog o_a7 [.d (parD k a b), .d (tsD y t f)] [] (.d (.bool (wellRB k a b y t f))) [] := by
 refine Eqn.pure o_a9 Plain.ok ?_
 have hc := o_pf h
 rcases h with ⟨rfl, h⟩ | ⟨hk, h⟩
 ·have h1 := o_pc 4 a b
  have h2 := o_pb h y t f
  have h3 := o_pe y t f
  simp only [o_a8, parD, tpD, tsD, wellRB, if_true] at hc h1 h2 h3 ⊢
  generalize wellTB a b y t f = w at *
  refine G0 ?_; try with_reducible exact tt
  refine CallS.pu (hc) (R0 ?_); try with_reducible exact tt
  refine AW.cond rfl (fun h => ?_) (fun h => ?_)
  ·simp at h
  refine G0 ?_; try with_reducible exact tt
  refine AW.cond rfl (fun h => ?_) (fun h => ?_)
  ·refine G0 ?_; try with_reducible exact tt
   refine CallS.pu (h1) (R0 ?_); try with_reducible exact tt
   refine CallS.pu (h3) (R0 ?_); try with_reducible exact tt
   refine CallS.pu (h2) (R0 ?_); try with_reducible exact tt
  ·simp at h
 ·have h1 := o_pd k a b
  have h2 := o_oh k a b h.2.2 (o_p1 h)
  have hk' : ¬ (k : Int) = 4 := by omega
  have g : (0 : Int) ≤ y := by omega
  simp only [o_a8, parD, tsD, wellRB, if_neg hk] at hc h1 h2 ⊢
  generalize 2 ^ b - 1 = S at *
  by_cases ht : t = 0
  ·subst ht
   by_cases hy : y ≤ S
   ·have hy' : (y : Int) ≤ S := by omega
    cases f with
    | true =>
     by_cases hs : y = S
     ·subst hs
      refine G1 (fs g (fs hk hk')) ?_; try with_reducible exact tt
      refine CallS.pu (hc) (R1 (fs g (fs hk hk')) ?_); try with_reducible exact tt
      refine AW.cond rfl (fun h => ?_) (fun h => ?_)
      ·simp at h
      refine G1 (fs g (fs hk hk')) ?_; try with_reducible exact tt
      refine AW.cond rfl (fun h => ?_) (fun h => ?_)
      ·simp [hk'] at h
      refine G1 g ?_; try with_reducible exact tt
      refine CallS.pu (h1) (R1 g ?_); try with_reducible exact tt
      refine CallS.pu (h2) (R1 g ?_); try with_reducible exact tt
     ·have hs' : ¬ (y : Int) = S := by omega
      refine G1 (fs g (fs hk (fs hk' (fs hy (fs hy' (fs hs hs')))))) ?_; try with_reducible exact tt
      refine CallS.pu (hc) (R1 (fs g (fs hk (fs hk' (fs hy (fs hy' (fs hs hs')))))) ?_); try with_reducible exact tt
      refine AW.cond rfl (fun h => ?_) (fun h => ?_)
      ·simp at h
      refine G1 (fs g (fs hk (fs hk' (fs hy (fs hy' (fs hs hs')))))) ?_; try with_reducible exact tt
      refine AW.cond rfl (fun h => ?_) (fun h => ?_)
      ·simp [hk'] at h
      refine G1 g ?_; try with_reducible exact tt
      refine CallS.pu (h1) (R1 g ?_); try with_reducible exact tt
      refine CallS.pu (h2) (R1 (fs g (fs hy (fs hy' (fs hs hs')))) ?_); try with_reducible exact tt
      exact Sub1.bool (by rw [Bool.eq_iff_iff]; simp; omega)
    | false =>
     refine G1 (fs g (fs hk (fs hk' (fs hy hy')))) ?_; try with_reducible exact tt
     refine CallS.pu (hc) (R1 (fs g (fs hk (fs hk' (fs hy hy')))) ?_); try with_reducible exact tt
     refine AW.cond rfl (fun h => ?_) (fun h => ?_)
     ·simp at h
     refine G1 (fs g (fs hk (fs hk' (fs hy hy')))) ?_; try with_reducible exact tt
     refine AW.cond rfl (fun h => ?_) (fun h => ?_)
     ·simp [hk'] at h
     refine G1 g ?_; try with_reducible exact tt
     refine CallS.pu (h1) (R1 g ?_); try with_reducible exact tt
     refine CallS.pu (h2) (R1 (fs g (fs hy hy')) ?_); try with_reducible exact tt
   ·have hy' : ¬ (y : Int) ≤ S := by omega
    refine G1 (fs g (fs hk (fs hk' (fs hy hy')))) ?_; try with_reducible exact tt
    refine CallS.pu (hc) (R1 (fs g (fs hk (fs hk' (fs hy hy')))) ?_); try with_reducible exact tt
    refine AW.cond rfl (fun h => ?_) (fun h => ?_)
    ·simp at h
    refine G1 (fs g (fs hk (fs hk' (fs hy hy')))) ?_; try with_reducible exact tt
    refine AW.cond rfl (fun h => ?_) (fun h => ?_)
    ·simp [hk'] at h
    refine G1 g ?_; try with_reducible exact tt
    refine CallS.pu (h1) (R1 g ?_); try with_reducible exact tt
    refine CallS.pu (h2) (R1 (fs g (fs hy hy')) ?_); try with_reducible exact tt
  ·have ht' : ¬ (t : Int) = 0 := by omega
   refine G1 (fs g (fs hk (fs hk' (fs ht ht')))) ?_; try with_reducible exact tt
   refine CallS.pu (hc) (R1 (fs g (fs hk (fs hk' (fs ht ht')))) ?_); try with_reducible exact tt
   refine AW.cond rfl (fun h => ?_) (fun h => ?_)
   ·simp at h
   refine G1 (fs g (fs hk (fs hk' (fs ht ht')))) ?_; try with_reducible exact tt
   refine AW.cond rfl (fun h => ?_) (fun h => ?_)
   ·simp [hk'] at h
   refine G1 g ?_; try with_reducible exact tt
   refine CallS.pu (h1) (R1 g ?_); try with_reducible exact tt
   refine CallS.pu (h2) (R1 (fs g (fs ht ht')) ?_); try with_reducible exact tt
   exact Sub1.bool (by simp [ht])
end
end Go.Proofs.YtmpjlkclkhnpfaaGreatDoor.Am
namespace Go.Proofs.YtmpjlkclkhnpfaaGreatDoor.Am
section
open Go.RowKit
def stR (R : TR) (y t : Nat) (f : Bool) : D := if R.e = 0 then tsD R.y R.t R.f else tsD y t f
end
end Go.Proofs.YtmpjlkclkhnpfaaGreatDoor.Am
namespace Go.Proofs.YtmpjlkclkhnpfaaGreatDoor.Am
section
open Go.RowKit
def kwR (k a b : Nat) : Nat := if k = 4 then bitsN a else b
def twR (k b : Nat) : Nat := if k = 4 then bitsN b else 0
def encR (k a b y t : Nat) (f : Bool) : List Bool := bitsW y (kwR k a b) ++ bitsW t (twR k b) ++ [f]
def readR (ws : List Nat) (k a b at_ : Nat) : (Nat × Nat × Bool) × Int × Nat :=
 if 8 * ws.length - at_ < kwR k a b + twR k b + 1 then ((0, 0, false), 5, at_)
 else if wellRB k a b (numAt ws at_ (kwR k a b)) (numAt ws (at_ + kwR k a b) (twR k b)) ((bitsOf ws).getD (at_ + kwR k a b + twR k b) false) then ((numAt ws at_ (kwR k a b), numAt ws (at_ + kwR k a b) (twR k b), (bitsOf ws).getD (at_ + kwR k a b + twR k b) false), 0, at_ + kwR k a b + twR k b + 1)
 else ((0, 0, false), 4, at_ + kwR k a b + twR k b + 1)
end
end Go.Proofs.YtmpjlkclkhnpfaaGreatDoor.Am
namespace Go.Proofs.YtmpjlkclkhnpfaaGreatDoor.Am
section
open Go.RowKit
def SmallR (k a b : Nat) : Prop := k = 4 ∧ 1 ≤ a ∧ a ≤ 8 ∧ b ≤ 3 ∨ k ≠ 4 ∧ GoodS k a b
theorem o_pi (k a b : Int) : Eqn Tryz.prog o_7g [.d (parD k a b)] [] (.d (parD k a b)) [] := by
 refine Eqn.pure o_7i Plain.ok ?_
 simp only [o_7h, parD]
 refine G0 ?_; try with_reducible exact tt
theorem o_pj (y : Int) (m n : Nat) (hm : m ≤ 1000000) (hn : n ≤ 1000000) : ∃ (N Y : Nat), bits BinOp.and IntKind.i64 y (m : Int) = N ∧ IntKind.i64.wrap ((n : Int) + 1) = (n : Int) + 1 ∧ (N : Int).tmod ((n : Int) + 1) = Y ∧ Y ≤ n := by
 obtain ⟨N, h1, h2, h3⟩ := o_om y m (by omega)
 have hY : N % (n + 1) ≤ n := by have := Nat.mod_lt N (show 0 < n + 1 by omega); omega
 refine ⟨N, N % (n + 1), h1, w64 (by omega) (by omega), ?_, hY⟩
 rw [Int.tmod_eq_emod_of_nonneg (by omega)]; norm_cast

theorem o_pk {k a b : Nat} (h : SmallR k a b) (y t : Int) (f : Bool) : ∃ (Y T : Nat) (F : Bool), WellR k a b Y T F ∧ Eqn Tryz.prog o_9j [.d (parD k a b), .d (.agg [.int .i64 y, .int .i64 t, .bool f])] [] (.d (tsD Y T F)) [] := by
 rcases h with ⟨rfl, h1, h2, h3⟩ | ⟨hk, h⟩
 ·obtain ⟨N1, Y, a1, a2, a3, a4⟩ := o_pj y 7 a (by omega) (by omega)
  obtain ⟨N2, T, b1, b2, b3, b4⟩ := o_pj t 3 b (by omega) (by omega)
  replace a1 : bits BinOp.and IntKind.i64 y 7 = N1 := a1
  replace b1 : bits BinOp.and IntKind.i64 t 3 = N2 := b1
  refine ⟨Y, T, f && (T == b), .inl ⟨rfl, a4, b4, by simp⟩, ?_⟩
  refine Eqn.pure o_9l Plain.ok ?_
  have hF : ((T : Int) == (b : Int)) = (T == b) := by rw [Bool.eq_iff_iff]; simp; omega
  simp only [o_9k, parD, tsD]
  generalize (T == b) = F at *
  cases f with
  | true =>
   refine G0B ?_; try with_reducible exact tt
   refine AW.cond rfl (fun h => ?_) (fun h => ?_)
   ·refine G1B (fs a1 (fs a2 (fs a3 (fs b1 (fs b2 (fs b3 hF)))))) ?_; try with_reducible exact tt
   ·simp at h
  | false =>
   refine G0B ?_; try with_reducible exact tt
   refine AW.cond rfl (fun h => ?_) (fun h => ?_)
   ·refine G1B (fs a1 (fs a2 (fs a3 (fs b1 (fs b2 (fs b3 hF)))))) ?_; try with_reducible exact tt
   ·simp at h
 ·have hW : 2 ^ b - 1 ≤ 15 := by have := Nat.pow_le_pow_right (n := 2) (by omega) h.2.2; omega
  have hb2 : 0 < 2 ^ b := Nat.two_pow_pos b
  obtain ⟨N1, Y, a1, a2, a3, a4⟩ := o_pj y 15 (2 ^ b - 1) (by omega) (by omega)
  replace a1 : bits BinOp.and IntKind.i64 y 15 = N1 := a1
  refine ⟨Y, 0, f && (Y == 2 ^ b - 1), .inr ⟨hk, rfl, a4, by simp⟩, ?_⟩
  refine Eqn.pure o_9l Plain.ok ?_
  have hF : ((Y : Int) == ((2 ^ b - 1 : Nat) : Int)) = (Y == 2 ^ b - 1) := by rw [Bool.eq_iff_iff]; simp only [beq_iff_eq]; omega
  have e0 : (2 : Int) ^ b = (2 ^ b : Nat) := by rw [Int.natCast_pow]; rfl
  have hk' : ¬ (k : Int) = 4 := by omega
  have hb64 : b ≤ 64 := by have := h.2.2; omega
  simp only [o_9k, parD, tsD]
  generalize (Y == 2 ^ b - 1) = F at *
  generalize 2 ^ b = S at *
  have e3 : IntKind.i64.wrap (S : Int) = S := w64 (by omega) (by omega)
  have e4 : IntKind.i64.wrap ((S : Int) - 1) = ((S - 1 : Nat) : Int) := by rw [w64 (by omega) (by omega)]; omega
  generalize S - 1 = S1 at *
  cases f with
  | true =>
   refine G1B (fs hk hk') ?_; try with_reducible exact tt
   refine AW.cond rfl (fun h => ?_) (fun h => ?_)
   ·simp [hk'] at h
   ·refine G1B (fs a1 (fs a2 (fs a3 (fs e0 (fs e3 (fs e4 (fs hF hb64))))))) ?_; try with_reducible exact tt
  | false =>
   refine G1B (fs hk hk') ?_; try with_reducible exact tt
   refine AW.cond rfl (fun h => ?_) (fun h => ?_)
   ·simp [hk'] at h
   ·refine G1B (fs a1 (fs a2 (fs a3 (fs e0 (fs e3 (fs e4 (fs hF hb64))))))) ?_; try with_reducible exact tt

theorem o_pl (k a b : Int) : ∃ K A B : Nat, SmallR K A B ∧ ∀ (y t : Int) (f : Bool), ∃ (Y T : Nat) (F : Bool), WellR K A B Y T F ∧ Eqn Tryz.prog o_7d [.d (parD k a b), .d (.agg [.int .i64 y, .int .i64 t, .bool f])] [] (.tup [.d (parD K A B), .d (tsD Y T F)]) [] := by
 obtain ⟨e1, K, e2, hK, e3⟩ := o_ol k 4 (by omega) (by omega)
 obtain ⟨B1, B2, b1, b2, b3, b4⟩ := o_pj b 255 3 (by omega) (by omega)
 replace b1 : bits BinOp.and IntKind.i64 b 255 = B1 := b1
 replace b3 : (B1 : Int).tmod 4 = B2 := b3
 obtain ⟨B3, d1, d2, d3⟩ := o_om b 3 (by omega)
 obtain ⟨A1, a1, a2, a3⟩ := o_om a 3 (by omega)
 obtain ⟨A2, a4, a5, a6⟩ := o_om a 1 (by omega)
 obtain ⟨A3, a7, a8, a9⟩ := o_om a 7 (by omega)
 replace a1 : bits BinOp.and IntKind.i64 a 3 = A1 := a1
 replace a4 : bits BinOp.and IntKind.i64 a 1 = A2 := a4
 replace a7 : bits BinOp.and IntKind.i64 a 7 = A3 := a7
 replace d1 : bits BinOp.and IntKind.i64 b 3 = B3 := d1
 have e4 : IntKind.i64.wrap (1 + (B2 : Int)) = ((1 + B2 : Nat) : Int) := by rw [w64 (by omega) (by omega)]; omega
 have hK' : K = 0 ∨ K = 1 ∨ K = 2 ∨ K = 3 := by omega
 rcases hK' with rfl | rfl | rfl | rfl
 ·refine ⟨1, 1 + A1, 1 + B2, .inr ⟨by omega, by omega, by omega, by omega⟩, fun y t f => ?_⟩
  obtain ⟨Y, T, F, hw, hE⟩ := o_pk (k := 1) (a := 1 + A1) (b := 1 + B2) (.inr ⟨by omega, by omega, by omega, by omega⟩) y t f
  refine ⟨Y, T, F, hw, ?_⟩
  refine Eqn.pure o_7f Plain.ok ?_
  simp only [o_7e, parD, tsD] at hE ⊢
  generalize 1 + A1 = XA at *
  generalize 1 + B2 = XB at *
  refine G1B (fs e1 (fs e2 e3)) ?_; try with_reducible exact tt
  refine AW.cond rfl (fun h => ?_) (fun h => ?_)
  ·refine G1B (fs b1 (fs b3 (fs e4 (fs a1 a3)))) ?_; try with_reducible exact tt
   simp at hE
   refine CallS.pu (hE) (R0B ?_); try with_reducible exact tt
  ·simp at h
 ·refine ⟨2, A2, 1 + B2, .inr ⟨by omega, by omega, by omega, by omega⟩, fun y t f => ?_⟩
  obtain ⟨Y, T, F, hw, hE⟩ := o_pk (k := 2) (a := A2) (b := 1 + B2) (.inr ⟨by omega, by omega, by omega, by omega⟩) y t f
  refine ⟨Y, T, F, hw, ?_⟩
  refine Eqn.pure o_7f Plain.ok ?_
  simp only [o_7e, parD, tsD] at hE ⊢
  generalize 1 + B2 = XB at *
  refine G1B (fs e1 (fs e2 e3)) ?_; try with_reducible exact tt
  refine AW.cond rfl (fun h => ?_) (fun h => ?_)
  ·simp at h
  refine G0B ?_; try with_reducible exact tt
  refine AW.cond rfl (fun h => ?_) (fun h => ?_)
  ·refine G1B (fs b1 (fs b3 (fs e4 a4))) ?_; try with_reducible exact tt
   simp at hE
   refine CallS.pu (hE) (R0B ?_); try with_reducible exact tt
  ·simp at h
 ·refine ⟨3, 1 + A2, 1 + B2, .inr ⟨by omega, by omega, by omega, by omega⟩, fun y t f => ?_⟩
  obtain ⟨Y, T, F, hw, hE⟩ := o_pk (k := 3) (a := 1 + A2) (b := 1 + B2) (.inr ⟨by omega, by omega, by omega, by omega⟩) y t f
  refine ⟨Y, T, F, hw, ?_⟩
  refine Eqn.pure o_7f Plain.ok ?_
  simp only [o_7e, parD, tsD] at hE ⊢
  generalize 1 + A2 = XA at *
  generalize 1 + B2 = XB at *
  refine G1B (fs e1 (fs e2 e3)) ?_; try with_reducible exact tt
  refine AW.cond rfl (fun h => ?_) (fun h => ?_)
  ·simp at h
  refine G0B ?_; try with_reducible exact tt
  refine AW.cond rfl (fun h => ?_) (fun h => ?_)
  ·simp at h
  refine G0B ?_; try with_reducible exact tt
  refine AW.cond rfl (fun h => ?_) (fun h => ?_)
  ·refine G1B (fs b1 (fs b3 (fs e4 (fs a4 a6)))) ?_; try with_reducible exact tt
   simp at hE
   refine CallS.pu (hE) (R0B ?_); try with_reducible exact tt
  ·simp at h
 ·refine ⟨4, 1 + A3, B3, .inl ⟨rfl, by omega, by omega, by omega⟩, fun y t f => ?_⟩
  obtain ⟨Y, T, F, hw, hE⟩ := o_pk (k := 4) (a := 1 + A3) (b := B3) (.inl ⟨rfl, by omega, by omega, by omega⟩) y t f
  refine ⟨Y, T, F, hw, ?_⟩
  refine Eqn.pure o_7f Plain.ok ?_
  simp only [o_7e, parD, tsD] at hE ⊢
  generalize 1 + A3 = XA at *
  refine G1B (fs e1 (fs e2 e3)) ?_; try with_reducible exact tt
  refine AW.cond rfl (fun h => ?_) (fun h => ?_)
  ·simp at h
  refine G0B ?_; try with_reducible exact tt
  refine AW.cond rfl (fun h => ?_) (fun h => ?_)
  ·simp at h
  refine G0B ?_; try with_reducible exact tt
  refine AW.cond rfl (fun h => ?_) (fun h => ?_)
  ·simp at h
  ·refine G1B (fs d1 (fs a7 a9)) ?_; try with_reducible exact tt
   simp at hE
   refine CallS.pu (hE) (R0B ?_); try with_reducible exact tt
end
end Go.Proofs.YtmpjlkclkhnpfaaGreatDoor.Am
namespace Go.Proofs.YtmpjlkclkhnpfaaGreatDoor.Am
section
open Go.RowKit
end
end Go.Proofs.YtmpjlkclkhnpfaaGreatDoor.Am
namespace Go.Proofs.YtmpjlkclkhnpfaaGreatDoor.Am
section
open Go.RowKit
end
end Go.Proofs.YtmpjlkclkhnpfaaGreatDoor.Am
namespace Go.Proofs.YtmpjlkclkhnpfaaGreatDoor.Am
section
open Go.RowKit

theorem o_pm {P : Program} {f : FuncId} {c : C} {rs : List RV} {nt : Nat} (hf : fnOf P f = some (c, rs, nt, false)) (vs : Array Value) (w : World) : (callFunc f vs).run P w = .ok (.enter f vs) w := by
 unfold fnOf at hf
 split at hf
 ·rename_i fn hfn
  split at hf
  ·rename_i b hb
   simp only [Option.some.injEq, Prod.mk.injEq] at hf
   obtain ⟨h1, h2, h3, h4⟩ := hf
   have h1 : ¬ fn.name = "runtime.NumGoroutine" := by simpa using h4
   simp [callFunc, hfn, h1, hb]
  ·cases hf
 ·cases hf

abbrev memW (W : World) : Mem := ⟨fun _ => none, fun b => b < W.heap.size, W⟩

theorem o_pn {P : Program} {f : FuncId} {args : List V} {c : C} {rs : List RV} {nt : Nat} (hf : fnOf P f = some (c, rs, nt, false)) (E : Eqn P f args [] (.d (.bool true)) []) {W : World} {vs : List Value} (h : V.reps (memW W) args vs) (ht : Tabs (memW W)) :
  Calls P f vs.toArray W (fun e W' => e = .returned (.bool true) ∧ Same W W') := by
 rcases E.run (memW W) vs ⟨fun b h => h, fun n b h => (by cases h), ht⟩ h (by simp) (fun n i b h => by simp at h) (fun _ _ => rfl) with ⟨v, h1, _⟩ | ⟨_, h2⟩
 ·rw [o_pm hf] at h1; cases h1
 ·refine h2.mono ?_
  rintro e w' ⟨v, m', rfl, rfl, hE⟩
  have hv := hE.rep
  rw [V.rep_d] at hv
  unfold D.rep at hv
  subst hv
  exact ⟨rfl, hE.le.os, hE.le.tape, hE.le.output, hE.le.size, fun k hk _ => hE.le.imm k hk⟩

theorem reps_of {I : Nat → Prop} {w : World} {α : Type} (f : α → D) (g : α → Value) (h : ∀ a, D.rep I w (f a) (g a)) : ∀ l : List α, D.reps I w (l.map f) (l.map g)
 | [] => by simp
 | a :: l => by
  rw [List.map_cons, List.map_cons, D.reps_cons]
  exact ⟨h a, reps_of f g h l⟩

theorem o_po {W : World} {l : List D} {vs : List Value} (h1 : ∀ u ∈ vs, u.oneCell' = true) (h : D.reps (fun b => b < W.heap.size) W l vs) : V.rep (memW W) (.d (.agg l)) (.agg vs.toArray) := by
 rw [V.rep_d]
 unfold D.rep
 exact ⟨vs, rfl, h1, h⟩
end
end Go.Proofs.YtmpjlkclkhnpfaaGreatDoor.Am
namespace Go.Proofs.YtmpjlkclkhnpfaaGreatDoor.Am
section
open Go.RowKit
def actM (cs : List Bool) (k a b y t : Nat) (f : Bool) (z u : Nat) (g : Bool) (n : Nat) (m : Bool) (p : Nat) (d : Bool) : TR := if m then mergeRM cs k a b y t f z u g p d else addRM cs k a b n y t f p d
end
end Go.Proofs.YtmpjlkclkhnpfaaGreatDoor.Am
namespace Go.Proofs.YtmpjlkclkhnpfaaGreatDoor.Am
section
open Go.RowKit
theorem o_pp {W : World} {g0 : Nat} {zs : List Int} (ht : ∀ g l, tab g = some l → g = g0 ∧ l = zs.map fun z : Int => D.int .u64 z) (hlt : g0 < W.heap.size) (hc : ∀ (i : Nat) u, (zs.map (Value.int .u64))[i]? = some u → W.cell? ⟨g0, i, none⟩ = some u) : Tabs (memW W) := by
 intro g l hg
 obtain ⟨rfl, rfl⟩ := ht g l hg
 unfold D.rep
 refine ⟨g, 0, rfl, hlt, zs.map (Value.int .u64), fun u hu => ?_, reps_of (fun z : Int => D.int .u64 z) (Value.int .u64) (fun _ => by unfold D.rep; rfl) zs, fun i u hu => ?_⟩
 ·obtain ⟨z, -, rfl⟩ := List.mem_map.1 hu
  rfl
 ·rw [Nat.zero_add]; exact hc i u hu
end
end Go.Proofs.YtmpjlkclkhnpfaaGreatDoor.Am
namespace Go.Proofs.YtmpjlkclkhnpfaaGreatDoor.Am
section
open Go.RowKit

theorem tabsIn {W : World} {g0 : Nat} {zs : List Int} (ht : ∀ g l, tab g = some l → g = g0 ∧ l = zs.map fun z : Int => D.int .u64 z) (hlt : g0 < W.heap.size) (hc : ∀ (i : Nat) u, (zs.map (Value.int .u64))[i]? = some u → W.cell? ⟨g0, i, none⟩ = some u) : Tabs (memW W) := o_pp ht hlt hc
theorem tabAll : ∀ g l, tab g = some l → g = 2 ∧ l = ([1, 10, 100, 1000, 10000, 100000, 1000000, 10000000, 100000000, 1000000000, 10000000000, 100000000000, 1000000000000, 10000000000000, 100000000000000, 1000000000000000, 10000000000000000, 100000000000000000, 1000000000000000000, 10000000000000000000] : List Int).map fun z : Int => D.int .u64 z := by
 intro g l h
 unfold tab at h
 split at h
 ·cases h
  exact ⟨‹_›, rfl⟩
 ·cases h
end
end Go.Proofs.YtmpjlkclkhnpfaaGreatDoor.Am
namespace Go.Proofs.YtmpjlkclkhnpfaaGreatDoor.Am
section
open Go.RowKit
@[simp] theorem o_pq (l : List D) : V.toDs (l.map .d) = some l := by induction l <;> simp_all [V.toDs]
abbrev St := Nat × Nat × Bool
def stD (s : St) : List D := [.int .i64 s.1, .int .i64 s.2.1, .bool s.2.2]
@[simp] theorem o_pr (s : St) : (stD s).length = 3 := rfl
theorem o_ps (s t : St) : eqKs [0, 0, 1] (stD s) (stD t) = some (decide (s = t)) := by
 obtain ⟨a, b, c⟩ := s
 obtain ⟨a', b', c'⟩ := t
 unfold stD eqKs
 simp only [eqK, if_true, eqKs]
 simp only [Option.some.injEq, Bool.and_true]
 rw [Bool.eq_iff_iff]
 simp only [Bool.and_eq_true, beq_iff_eq, decide_eq_true_eq, Prod.mk.injEq]
 constructor
 ·rintro ⟨h1, h2, h3⟩; exact ⟨by omega, by omega, h3⟩
 ·rintro ⟨h1, h2, h3⟩; exact ⟨by omega, by omega, h3⟩

abbrev Sp := List (St × Rat)
section
variable (rc : Rat → List D) (hrc : ∀ q, (rc q).length = 3)
def spD (l : Sp) : List D := l.flatMap fun p => stD p.1 ++ rc p.2
theorem o_pt (rc : Rat → List D) (hrc : ∀ q, (rc q).length = 3) (l : Sp) : (spD rc l).length = l.length * 6 := by
 induction l with
 | nil => rfl
 | cons p l ih => rw [spD, List.flatMap_cons, List.length_append, ← spD, ih]; simp [hrc]; omega
def idxQ (s : St) : Sp → Option Nat
 | [] => none
 | p :: l => if s = p.1 then some 0 else (idxQ s l).map (· + 1)
theorem o_pu (rc : Rat → List D) (hrc : ∀ q, (rc q).length = 3) (s : St) : ∀ l : Sp, mfind [0, 0, 1] 3 (stD s) l.length (spD rc l) = some (idxQ s l)
 | [] => rfl
 | p :: l => by
  have e1 : (spD rc (p :: l)).take 3 = stD p.1 := by
   rw [spD, List.flatMap_cons, List.append_assoc, List.take_append_of_le_length (by simp), List.take_of_length_le (by simp)]
  have e2 : (spD rc (p :: l)).drop 6 = spD rc l := by
   rw [spD, List.flatMap_cons, List.drop_append, List.drop_eq_nil_of_le (by simp [hrc]), List.nil_append]
   simp [hrc, spD]
  simp only [List.length_cons, mfind, List.length_nil]
  rw [e1, o_ps, e2]
  by_cases h : s = p.1
  ·simp [h, idxQ]
  ·simp only [h, decide_false]
   rw [o_pu rc hrc s l]
   simp [idxQ, h]
def getQ (l : Sp) (s : St) : Rat := match l with
 | [] => 0
 | p :: r => if s = p.1 then p.2 else getQ r s
def setQ (l : Sp) (s : St) (q : Rat) : Sp := match l with
 | [] => [(s, q)]
 | p :: r => if s = p.1 then (s, q) :: r else p :: setQ r s q
theorem o_pv (s t : St) (q : Rat) : ∀ l : Sp, getQ (setQ l s q) t = if t = s then q else getQ l t
 | [] => by simp [setQ, getQ]
 | p :: r => by
  unfold setQ
  split
  ·rename_i e
   unfold getQ
   by_cases h : t = s
   ·simp [h]
   ·simp [h, show ¬ t = p.1 from fun h' => h (h'.trans e.symm)]
  ·rename_i e
   unfold getQ
   rw [o_pv s t q r]
   by_cases h : t = s
   ·subst h; simp [e]
   ·simp [h]
theorem o_pw (s : St) (q : Rat) : ∀ l : Sp, (setQ l s q).map (·.1) = if s ∈ l.map (·.1) then l.map (·.1) else l.map (·.1) ++ [s]
 | [] => by simp [setQ]
 | p :: r => by
  unfold setQ
  split
  ·rename_i e; simp [e]
  ·rename_i e
   simp only [List.map_cons, o_pw s q r, List.mem_cons]
   by_cases h : s ∈ r.map (·.1)
   ·simp [h]
   ·simp [h, e]
theorem o_px {s : St} {q : Rat} {l : Sp} (h : (l.map (·.1)).Nodup) : ((setQ l s q).map (·.1)).Nodup := by
 rw [o_pw]
 split
 ·exact h
 ·rename_i hs
  rw [List.nodup_append]
  refine ⟨h, by simp, fun a ha b hb => ?_⟩
  simp at hb; subst hb
  exact fun e => hs (e ▸ ha)
def lookD (z : List D) (s : St) : Sp → D
 | [] => .agg z
 | p :: r => if s = p.1 then .agg (rc p.2) else lookD z s r
theorem o_py (rc : Rat → List D) (hrc : ∀ q, (rc q).length = 3) (s : St) (l : Sp) (z : List D) : mlook [0, 0, 1] 3 true z (stD s) (spD rc l) = some (lookD rc z s l) := by
 unfold mlook
 have hn : (spD rc l).length / ([0, 0, 1].length + 3) = l.length := by rw [o_pt rc hrc]; simp
 rw [hn, o_pu rc hrc]
 simp only [Option.map_some, Option.some.injEq]
 have key : ∀ l : Sp, (match idxQ s l with
   | some i => glD true (((spD rc l).drop (i * ([0, 0, 1].length + 3) + [0, 0, 1].length)).take 3)
   | none => glD true z) = lookD rc z s l := by
  intro l
  induction l with
  | nil => simp [idxQ, glD, lookD]
  | cons p l ih =>
   by_cases h : s = p.1
   ·have e1 : ((spD rc (p :: l)).drop 3).take 3 = rc p.2 := by
     rw [spD, List.flatMap_cons, List.append_assoc, List.drop_append, List.drop_eq_nil_of_le (by simp), List.nil_append]
     simp [hrc]
    simp [idxQ, h, lookD, glD, e1]
   ·have e2 : (spD rc (p :: l)).drop 6 = spD rc l := by
     rw [spD, List.flatMap_cons, List.drop_append, List.drop_eq_nil_of_le (by simp [hrc]), List.nil_append]
     simp [hrc, spD]
    rw [lookD, if_neg h, ← ih]
    simp only [idxQ, if_neg h]
    cases hi : idxQ s l with
    | none => rfl
    | some i =>
     simp only [Option.map_some]
     have : (i + 1) * ([0, 0, 1].length + 3) + [0, 0, 1].length = 6 + (i * ([0, 0, 1].length + 3) + [0, 0, 1].length) := by simp; omega
     rw [this, ← List.drop_drop, e2]
 exact key l
theorem o_pz (rc : Rat → List D) (hrc : ∀ q, (rc q).length = 3) (s : St) (l : Sp) (q : Rat) : mset [0, 0, 1] 3 (stD s) (rc q) (spD rc l) = some (spD rc (setQ l s q)) := by
 unfold mset
 have hn : (spD rc l).length / ([0, 0, 1].length + 3) = l.length := by rw [o_pt rc hrc]; simp
 rw [hn, o_pu rc hrc]
 simp only [Option.map_some, Option.some.injEq]
 have key : ∀ l : Sp, (match idxQ s l with
   | some i => (spD rc l).take (i * ([0, 0, 1].length + 3)) ++ (stD s ++ rc q) ++ (spD rc l).drop ((i + 1) * ([0, 0, 1].length + 3))
   | none => spD rc l ++ (stD s ++ rc q)) = spD rc (setQ l s q) := by
  intro l
  induction l with
  | nil => simp [idxQ, setQ, spD]
  | cons p l ih =>
   have e2 : (spD rc (p :: l)).drop 6 = spD rc l := by
    rw [spD, List.flatMap_cons, List.drop_append, List.drop_eq_nil_of_le (by simp [hrc]), List.nil_append]
    simp [hrc, spD]
   have e3 : spD rc (p :: l) = (stD p.1 ++ rc p.2) ++ spD rc l := by rw [spD, List.flatMap_cons]; rfl
   by_cases h : s = p.1
   ·simp only [idxQ, if_pos h, setQ]
    simp only [Nat.zero_mul, List.take_zero, Nat.zero_add, Nat.one_mul, List.nil_append]
    rw [show [0, 0, 1].length + 3 = 6 from rfl, e2]
    rw [show spD rc ((s, q) :: l) = (stD s ++ rc q) ++ spD rc l by rw [spD, List.flatMap_cons]; rfl]
   ·simp only [idxQ, if_neg h, setQ]
    rw [show spD rc (p :: setQ l s q) = (stD p.1 ++ rc p.2) ++ spD rc (setQ l s q) by rw [spD, List.flatMap_cons]; rfl, ← ih]
    have hl6 : (stD p.1 ++ rc p.2).length = 6 := by simp [hrc]
    cases hi : idxQ s l with
    | none => simp only [Option.map_none]; rw [e3]; simp
    | some i =>
     simp only [Option.map_some]
     rw [show [0, 0, 1].length + 3 = 6 from rfl]
     have t1 : (spD rc (p :: l)).take ((i + 1) * 6) = (stD p.1 ++ rc p.2) ++ (spD rc l).take (i * 6) := by
      rw [e3, List.take_append, List.take_of_length_le (by omega), hl6, show (i + 1) * 6 - 6 = i * 6 by omega]
     have t2 : (spD rc (p :: l)).drop ((i + 1 + 1) * 6) = (spD rc l).drop ((i + 1) * 6) := by
      rw [show (i + 1 + 1) * 6 = 6 + (i + 1) * 6 by omega, ← List.drop_drop, e2]
     rw [t1, t2]
     simp
 exact key l
end
end
end Go.Proofs.YtmpjlkclkhnpfaaGreatDoor.Am
namespace Go.Proofs.YtmpjlkclkhnpfaaGreatDoor.Am
section
open Go.RowKit
def addQ (l : Sp) (s : St) (x : Rat) : Sp := setQ l s (getQ l s + x)
def exQ (g : St → Rat) : Sp → Rat
 | [] => 0
 | p :: l => p.2 * g p.1 + exQ g l
def Uq (l : Sp) : Prop := (l.map (·.1)).Nodup
theorem o_q0 (g : St → Rat) (s : St) (q : Rat) : ∀ l : Sp, Uq l → exQ g (setQ l s q) = exQ g l - getQ l s * g s + q * g s
 | [], _ => by simp only [setQ, exQ, getQ]; grind
 | p :: r, h => by
  have h' : Uq r := by unfold Uq at h ⊢; simp at h; exact h.2
  unfold setQ getQ
  split
  ·rename_i e
   simp only [exQ]
   rw [e]; grind
  ·simp only [exQ]
   rw [o_q0 g s q r h']; grind
theorem o_q1 {s : St} {q : Rat} {l : Sp} (h : Uq l) : Uq (addQ l s q) := o_px h
theorem o_q2 (g : St → Rat) (s : St) (q : Rat) (l : Sp) (h : Uq l) : exQ g (addQ l s q) = exQ g l + q * g s := by
 unfold addQ; rw [o_q0 g s _ l h]; grind
theorem o_q3 (g : St → Rat) {l k : Sp} (h : l.Perm k) : exQ g l = exQ g k := by
 induction h with
 | nil => rfl
 | cons x _ ih => simp only [exQ, ih]
 | swap x y l => simp only [exQ]; grind
 | trans _ _ h1 h2 => rw [h1, h2]
theorem o_q4 (g : St → Rat) (l : Sp) : exQ g (l.filter fun p => decide (p.2 ≠ 0)) = exQ g l := by
 induction l with
 | nil => rfl
 | cons p l ih =>
  rw [List.filter_cons]
  split
  ·simp only [exQ, ih]
  ·rename_i h
   have : p.2 = 0 := by simpa using h
   simp only [exQ, ih, this]; grind
def ltS (s t : St) : Bool := decide (s.1 < t.1) || (decide (s.1 = t.1) && (decide (s.2.1 < t.2.1) || (decide (s.2.1 = t.2.1) && (!s.2.2 && t.2.2))))
theorem o_q5 (s : St) : ltS s s = false := by unfold ltS; simp
theorem o_q6 {s t u : St} (h1 : ltS s t = true) (h2 : ltS t u = true) : ltS s u = true := by
 obtain ⟨a, b, c⟩ := s; obtain ⟨a', b', c'⟩ := t; obtain ⟨a2, b2, c2⟩ := u
 unfold ltS at *
 simp only [Bool.or_eq_true, Bool.and_eq_true, decide_eq_true_eq, Bool.not_eq_true'] at *
 rcases h1 with h1 | ⟨h1, h1' | ⟨h1', h3, h4⟩⟩ <;> rcases h2 with h2 | ⟨h2, h2' | ⟨h2', h5, h6⟩⟩ <;> first | (left; omega) | (right; refine ⟨by omega, ?_⟩; first | (left; omega) | (right; exact ⟨by omega, by assumption, by assumption⟩))
theorem o_q7 (s t : St) : ltS s t = true ∨ s = t ∨ ltS t s = true := by
 obtain ⟨a, b, c⟩ := s; obtain ⟨a', b', c'⟩ := t
 unfold ltS
 simp only [Bool.or_eq_true, Bool.and_eq_true, decide_eq_true_eq, Bool.not_eq_true', Prod.mk.injEq]
 rcases Nat.lt_trichotomy a a' with h | h | h
 ·left; left; exact h
 ·rcases Nat.lt_trichotomy b b' with h2 | h2 | h2
  ·left; right; exact ⟨h, .inl h2⟩
  ·cases c <;> cases c' <;> simp [h, h2]
  ·right; right; right; exact ⟨h.symm, .inl h2⟩
 ·right; right; left; exact h
def leP (p q : St × Rat) : Bool := !(ltS q.1 p.1)
theorem o_q8 (a b c : St × Rat) (h1 : leP a b = true) (h2 : leP b c = true) : leP a c = true := by
 unfold leP at *
 simp only [Bool.not_eq_true'] at *
 cases h : ltS c.1 a.1 with
 | false => rfl
 | true =>
  rcases o_q7 b.1 c.1 with h3 | h3 | h3
  ·rw [o_q6 h3 h] at h1; cases h1
  ·rw [h3, h] at h1; cases h1
  ·rw [h3] at h2; cases h2
theorem o_q9 (a b : St × Rat) : leP a b || leP b a := by
 unfold leP
 rcases o_q7 a.1 b.1 with h | h | h
 ·have : ltS b.1 a.1 = false := by
   cases h2 : ltS b.1 a.1 with
   | false => rfl
   | true => have := o_q6 h h2; rw [o_q5] at this; cases this
  simp [this]
 ·simp [h, o_q5]
 ·have : ltS a.1 b.1 = false := by
   cases h2 : ltS a.1 b.1 with
   | false => rfl
   | true => have := o_q6 h h2; rw [o_q5] at this; cases this
  simp [this]
def nzQ (l : Sp) : Sp := l.filter fun p => decide (p.2 ≠ 0)
def atQ (l : Sp) : Sp := (nzQ l).mergeSort leP
theorem o_qa (l : Sp) : (atQ l).Perm (nzQ l) := List.mergeSort_perm _ _
theorem o_qb (g : St → Rat) (l : Sp) : exQ g (atQ l) = exQ g l := by rw [o_q3 g (o_qa l)]; exact o_q4 g l
theorem o_qc {l : Sp} (h : Uq l) : Uq (nzQ l) := by
 unfold Uq nzQ at *
 exact List.Sublist.nodup ((List.filter_sublist (l := l)).map _) h
theorem o_qd {l : Sp} (h : Uq l) : Uq (atQ l) := by
 unfold Uq
 exact ((o_qa l).map _).nodup_iff.2 (o_qc h)
theorem o_qe {a b : St × Rat} : ∀ {l : Sp}, Uq l → a ∈ l → b ∈ l → a.1 = b.1 → a = b
 | [], _, h, _, _ => by cases h
 | p :: l, hu, ha, hb, e => by
  unfold Uq at hu
  rw [List.map_cons, List.nodup_cons] at hu
  rcases List.mem_cons.1 ha with h1 | h1 <;> rcases List.mem_cons.1 hb with h2 | h2
  ·rw [h1, h2]
  ·exact absurd (show p.1 ∈ l.map (·.1) from List.mem_map.2 ⟨b, h2, by rw [← e, h1]⟩) hu.1
  ·exact absurd (show p.1 ∈ l.map (·.1) from List.mem_map.2 ⟨a, h1, by rw [e, h2]⟩) hu.1
  ·exact o_qe hu.2 h1 h2 e
theorem o_qf {l k : Sp} (hu : Uq l) (hp : k.Perm (nzQ l)) (hs : k.Pairwise fun a b => ltS a.1 b.1 = true) : k = atQ l := by
 have h2 : (atQ l).Pairwise fun a b => leP a b = true := List.pairwise_mergeSort o_q8 o_q9 _
 refine List.Perm.eq_of_pairwise (le := fun a b => leP a b = true) ?_ (hs.imp ?_) h2 (hp.trans (o_qa l).symm)
 ·intro a b ha hb h3 h4
  have ha' : a ∈ nzQ l := hp.mem_iff.1 ha
  have hb' : b ∈ nzQ l := (o_qa l).mem_iff.1 hb
  have : a.1 = b.1 := by
   unfold leP at h3 h4
   rcases o_q7 a.1 b.1 with h | h | h
   ·rw [h] at h4; simp at h4
   ·exact h
   ·rw [h] at h3; simp at h3
  exact o_qe (o_qc hu) ha' hb' this
 ·intro a b h
  unfold leP
  cases h2 : ltS b.1 a.1 with
  | false => rfl
  | true => have := o_q6 h h2; rw [o_q5] at this; cases this
theorem o_qg (s : St) : ∀ l : Sp, Uq l → getQ l s = exQ (fun t => if t = s then 1 else 0) l
 | [], _ => rfl
 | p :: r, h => by
  have h' : Uq r := by unfold Uq at h ⊢; simp at h; exact h.2
  unfold getQ exQ
  split
  ·rename_i e
   have hz : exQ (fun t => if t = s then (1 : Rat) else 0) r = 0 := by
    rw [← o_qg s r h']
    have hn : s ∉ r.map (·.1) := by unfold Uq at h; rw [List.map_cons, List.nodup_cons] at h; rw [e]; exact h.1
    clear h h'
    induction r with
    | nil => rfl
    | cons q r ih =>
     simp only [List.map_cons, List.mem_cons, not_or] at hn
     unfold getQ
     rw [if_neg hn.1]
     exact ih hn.2
   rw [hz, if_pos e.symm]; grind
  ·rename_i e
   rw [o_qg s r h', if_neg fun e' => e e'.symm]; grind
theorem o_qh (s : St) {l : Sp} (h : Uq l) : getQ (atQ l) s = getQ l s := by
 rw [o_qg s _ (o_qd h), o_qg s _ h, o_qb]

def innQ (q : Rat) (out l : Sp) : Sp := l.foldl (fun o b => addQ o b.1 (q * b.2)) out
def timesQ (next : St → Sp) (l : Sp) : Sp := (atQ l).foldl (fun out a => innQ a.2 out (atQ (next a.1))) []
def eitQ (x : Rat) (s o : St) : Sp := addQ (addQ [] s x) o (1 - x)
def stepQ (top : Nat) (c : Nat → Rat) (s : St) : Sp := if s.1 = top then [((s.1, s.2.1, true), 1)] else eitQ (c s.1) (s.1 + 1, s.2) s
def ofQ (next : St → Sp) (s : St) : Nat → Sp
 | 0 => [(s, 1)]
 | n + 1 => timesQ next (ofQ next s n)
theorem o_qi (g : St → Rat) (q : Rat) : ∀ (l out : Sp), Uq out → Uq (innQ q out l) ∧ exQ g (innQ q out l) = exQ g out + q * exQ g l
 | [], out, h => ⟨h, by simp only [innQ, List.foldl_nil, exQ]; grind⟩
 | b :: l, out, h => by
  obtain ⟨h1, h2⟩ := o_qi g q l (addQ out b.1 (q * b.2)) (o_q1 h)
  refine ⟨h1, ?_⟩
  show exQ g (innQ q (addQ out b.1 (q * b.2)) l) = _
  rw [h2, o_q2 g _ _ _ h]
  simp only [exQ]; grind
theorem o_qj (g : St → Rat) (next : St → Sp) : ∀ (l out : Sp), Uq out → Uq (l.foldl (fun out a => innQ a.2 out (atQ (next a.1))) out) ∧ exQ g (l.foldl (fun out a => innQ a.2 out (atQ (next a.1))) out) = exQ g out + exQ (fun s => exQ g (next s)) l
 | [], out, h => ⟨h, by simp only [List.foldl_nil, exQ]; grind⟩
 | a :: l, out, h => by
  obtain ⟨h0, h3⟩ := o_qi g a.2 (atQ (next a.1)) out h
  obtain ⟨h1, h2⟩ := o_qj g next l (innQ a.2 out (atQ (next a.1))) h0
  refine ⟨h1, ?_⟩
  show exQ g (l.foldl (fun out a => innQ a.2 out (atQ (next a.1))) (innQ a.2 out (atQ (next a.1)))) = _
  rw [h2, h3, o_qb]
  simp only [exQ]; grind
theorem o_qk (next : St → Sp) (l : Sp) : Uq (timesQ next l) := (o_qj (fun _ => 0) next (atQ l) [] (by simp [Uq])).1
theorem o_ql (g : St → Rat) (next : St → Sp) (l : Sp) : exQ g (timesQ next l) = exQ (fun s => exQ g (next s)) l := by
 have h := (o_qj g next (atQ l) [] (by simp [Uq])).2
 rw [o_qb] at h
 have e : exQ g [] = 0 := rfl
 rw [e] at h
 unfold timesQ
 rw [h]; grind
theorem o_qm (next : St → Sp) (s : St) : ∀ n, Uq (ofQ next s n)
 | 0 => by simp [ofQ, Uq]
 | n + 1 => o_qk _ _
theorem o_qn (g : St → Rat) (x : Rat) (s o : St) : Uq (eitQ x s o) ∧ exQ g (eitQ x s o) = x * g s + (1 - x) * g o := by
 have h0 : Uq ([] : Sp) := by simp [Uq]
 refine ⟨o_q1 (o_q1 h0), ?_⟩
 unfold eitQ
 rw [o_q2 g _ _ _ (o_q1 h0), o_q2 g _ _ _ h0]
 simp only [exQ]; grind
theorem o_qo (g : St → Rat) (top : Nat) (c : Nat → Rat) (s : St) : Uq (stepQ top c s) ∧ exQ g (stepQ top c s) = if s.1 = top then g (s.1, s.2.1, true) else c s.1 * g (s.1 + 1, s.2) + (1 - c s.1) * g s := by
 unfold stepQ
 split
 ·refine ⟨by simp [Uq], ?_⟩
  simp only [exQ]; grind
 ·exact o_qn g _ _ _
def okQ (top : Nat) (s : St) : Prop := s.1 ≤ top ∧ s.2.1 = 0 ∧ (s.2.2 = true → s.1 = top)
def oklQ (top : Nat) (l : Sp) : Prop := ∀ p ∈ l, okQ top p.1 ∧ 0 ≤ p.2
theorem o_qp {l : Sp} {s : St} {q : Rat} {p : St × Rat} (h : p ∈ setQ l s q) : p ∈ l ∨ p = (s, q) := by
 induction l with
 | nil => simp [setQ] at h; exact .inr h
 | cons r l ih =>
  unfold setQ at h
  split at h
  ·rcases List.mem_cons.1 h with h | h
   ·exact .inr h
   ·exact .inl (by simp [h])
  ·rcases List.mem_cons.1 h with h | h
   ·exact .inl (by simp [h])
   ·exact (ih h).imp (fun h => by simp [h]) id
theorem o_qq {top : Nat} {l : Sp} (h : oklQ top l) (s : St) : 0 ≤ getQ l s := by
 induction l with
 | nil => exact Rat.le_refl
 | cons p l ih =>
  unfold getQ
  split
  ·exact (h p (by simp)).2
  ·exact ih fun q hq => h q (by simp [hq])
theorem o_qr {top : Nat} {l : Sp} (h : oklQ top l) {s : St} {q : Rat} (hs : okQ top s) (hq : 0 ≤ q) : oklQ top (addQ l s q) := by
 intro p hp
 rcases o_qp hp with hp | rfl
 ·exact h p hp
 ·refine ⟨hs, ?_⟩
  have := o_qq h s
  show 0 ≤ getQ l s + q
  grind
theorem o_qs {top : Nat} {l : Sp} (h : oklQ top l) : oklQ top (atQ l) := fun p hp => h p (List.mem_filter.1 ((o_qa l).mem_iff.1 hp)).1
theorem o_qt {top : Nat} {q : Rat} (hq : 0 ≤ q) : ∀ {l out : Sp}, oklQ top out → oklQ top l → oklQ top (innQ q out l)
 | [], out, h, _ => h
 | b :: l, out, h, hl => by
  obtain ⟨h1, h2⟩ := hl b (by simp)
  exact o_qt (out := addQ out b.1 (q * b.2)) (l := l) hq (o_qr h h1 (Rat.mul_nonneg hq h2)) fun p hp => hl p (by simp [hp])
theorem o_qu {top : Nat} {next : St → Sp} (hn : ∀ s, okQ top s → oklQ top (next s)) {l : Sp} (h : oklQ top l) : oklQ top (timesQ next l) := by
 have key : ∀ (k out : Sp), oklQ top out → oklQ top k → oklQ top (k.foldl (fun out a => innQ a.2 out (atQ (next a.1))) out) := by
  intro k
  induction k with
  | nil => intro out h _; exact h
  | cons a k ih =>
   intro out ho hk
   obtain ⟨h1, h2⟩ := hk a (by simp)
   exact ih _ (o_qt h2 ho (o_qs (hn _ h1))) fun p hp => hk p (by simp [hp])
 exact key _ _ (fun p hp => by cases hp) (o_qs h)
theorem o_qv {top : Nat} {c : Nat → Rat} (h0 : ∀ k, k < top → 0 ≤ c k) (h1 : ∀ k, k < top → c k ≤ 1) {s : St} (hs : okQ top s) : oklQ top (stepQ top c s) := by
 obtain ⟨a, b, f⟩ := s
 obtain ⟨s1, s2, s3⟩ := hs
 simp only at s1 s2 s3
 unfold stepQ
 split
 ·rename_i e
  intro p hp
  simp at hp; subst hp
  refine ⟨⟨s1, s2, fun _ => e⟩, ?_⟩
  exact (by decide : (0 : Rat) ≤ 1)
 ·rename_i e
  have hlt : a < top := by simp only at e; omega
  have e0 := h0 a hlt
  have e1 := h1 a hlt
  have hf : f = false := by
   cases f with
   | false => rfl
   | true => exact absurd (s3 rfl) (by omega)
  subst hf
  refine o_qr (o_qr (fun p hp => by cases hp) ⟨by simp only; omega, s2, fun h => by simp at h⟩ e0) ⟨s1, s2, s3⟩ ?_
  show (0 : Rat) ≤ 1 - c a
  grind
theorem o_qw {top : Nat} {c : Nat → Rat} (h0 : ∀ k, k < top → 0 ≤ c k) (h1 : ∀ k, k < top → c k ≤ 1) {s : St} (hs : okQ top s) : ∀ n, oklQ top (ofQ (stepQ top c) s n)
 | 0 => fun p hp => by
  simp [ofQ] at hp; subst hp
  exact ⟨hs, (by decide : (0 : Rat) ≤ 1)⟩
 | n + 1 => o_qu (fun s hs => o_qv h0 h1 hs) (o_qw h0 h1 hs n)
theorem o_qx {top : Nat} {c : Nat → Rat} (s : St) : ∀ n, exQ (fun _ => 1) (ofQ (stepQ top c) s n) = 1
 | 0 => by simp only [ofQ, exQ]; grind
 | n + 1 => by
  show exQ (fun _ => 1) (timesQ (stepQ top c) (ofQ (stepQ top c) s n)) = 1
  rw [o_ql]
  have : (fun t => exQ (fun _ => (1 : Rat)) (stepQ top c t)) = fun _ => 1 := by
   funext t
   rw [(o_qo (fun _ => 1) top c t).2]
   split
   ·rfl
   ·grind
  rw [this, o_qx s n]
end
end Go.Proofs.YtmpjlkclkhnpfaaGreatDoor.Am
namespace Go.Proofs.YtmpjlkclkhnpfaaGreatDoor.Am
section
open Go.RowKit
@[simp] theorem o_qy (θ : Nat → Nat) (l : List D) : V.rens θ (l.map V.d) = l.map V.d := o_5v θ l
@[simp] theorem o_qz (n : Nat) (l : List D) : V.lowl n (l.map V.d) = true := o_5w n l
def rcD (q : Rat) : List D := [natW q.num.natAbs, .bool (decide (q.num < 0)), natW (q.den - 1)]
theorem o_r0 (q : Rat) : rD q = .agg (rcD q) := rfl
def zR : List D := [.nilsl, .bool false, .nilsl]
theorem Sub1.agg2 {l r : List D} (h : Subs (l.map V.d) (r.map V.d)) : Sub1 (.d (.agg l)) (.d (.agg r)) := fun m v k => by
 rw [V.rep_d] at k ⊢
 unfold D.rep at k ⊢
 obtain ⟨vs, h1, h2, h3⟩ := k
 exact ⟨vs, h1, h2, V.reps_map_d.1 (h m vs (V.reps_map_d.2 h3))⟩
theorem o_r1 : Sub1 (.d (.agg zR)) (.d (rD 0)) := Sub1.agg2 (Subs.cons Sub1.nil (Subs.cons (Sub1.refl _) (Subs.cons Sub1.nil (Subs.refl _))))
theorem o_r2 (s : St) : ∀ l : Sp, Sub1 (.d (lookD rcD zR s l)) (.d (rD (getQ l s)))
 | [] => o_r1
 | p :: r => by
  unfold lookD getQ
  split
  ·exact Sub1.refl _
  ·exact o_r2 s r
def spO (l : Sp) : Ob := ⟨1000391, (spD rcD l).map .d⟩
theorem o_r3 (l : Sp) (s : St) (x : Rat) (h1 : RS (getQ l s) 100000) (h2 : RS x 100000) : Eqn Tryz.prog o_aj [.mp 0, .d (.agg (stD s)), .d (rD x)] [spO l] (.tup []) [spO (addQ l s x)] := by
 refine Eqn.gen [0] o_al (by simp) (by simp) (by rfl) (by decide) (by simp) (by simp [spO, o_5w]) ?_
 have ha : Eqn Tryz.prog o_74 [.d (lookD rcD zR s l), .d (rD x)] [] (.d (rD (getQ l s + x))) [] := (o_mf _ _ h1 h2).sub (Subs.cons (o_r2 s l) (Subs.refl _))
 have hl := o_py rcD (fun _ => rfl) s l zR
 have hm := o_pz rcD (fun _ => rfl) s l (getQ l s + x)
 have hn := o_pt rcD (fun _ => rfl) l
 simp only [o_ak, spO, o_r0, stD, zR, addQ, rcD] at ha hl hm hn ⊢
 generalize spD (fun q => _) l = L at *
 generalize spD (fun q => _) (setQ l s (getQ l s + x)) = L2 at *
 refine A10 (fs hl (fs hm hn)) ?_; try with_reducible exact tt
 refine CallS.pu (ha) (R1 (fs hl (fs hm hn)) ?_); try with_reducible exact tt
end
end Go.Proofs.YtmpjlkclkhnpfaaGreatDoor.Am
namespace Go.Proofs.YtmpjlkclkhnpfaaGreatDoor.Am
section
open Go.RowKit
theorem o_r4 : RS (1 : Rat) 1 := by
 have := RS.mk' (z := 1) (d := 1) (N := 1) (by decide) (by decide) (by decide)
 exact this
theorem rof1 : Eqn Tryz.prog o_6y [.d (.int .i64 1)] [] (.d (rD 1)) [] := by
 have := o_n8 1 (by omega)
 simpa using this
theorem rof0 : Eqn Tryz.prog o_6y [.d (.int .i64 0)] [] (.d (rD 0)) [] := by
 have := o_n8 0 (by omega)
 simpa using this
theorem o_r5 (x : Rat) (s o : St) (hx : RS x 1000) (hso : s ≠ o) : Eqn Tryz.prog o_cj [.d (rD x), .d (.agg (stD s)), .d (.agg (stD o))] [] (.mp 0) [spO (eitQ x s o)] := by
 refine Eqn.gen [3] o_cl (by simp) (by simp) (by rfl) (by decide) (by simp) (by simp [spO]) ?_
 have h1 : RS (1 - x) 2000 := (o_r4.sub hx).le (by omega)
 have a1 := o_r3 [] s x (by simp only [getQ]; exact ⟨by decide, by decide⟩) (hx.le (by omega))
 have a2 := o_r3 (addQ [] s x) o (1 - x) (by rw [addQ, o_pv, if_neg (fun h => hso h.symm)]; show RS (0 : Rat) 100000; exact ⟨by decide, by decide⟩) (h1.le (by omega))
 have hs := o_mg 1 x (o_r4.le (by omega)) (hx.le (by omega))
 have ho := rof1
 simp only [o_ck, spO, o_r0, stD, eitQ, spD, List.flatMap_nil, List.map_nil] at a1 a2 hs ho ⊢
 generalize (addQ [] s x).flatMap _ = L1 at *
 generalize (addQ (addQ [] s x) o (1 - x)).flatMap _ = L2 at *
 generalize rcD (1 - x) = R1 at *
 simp only [rcD] at a1 hs ho ⊢
 refine A00 ?_; try with_reducible exact tt
 refine CallS.g [3] (a1) (R0 ?_); try with_reducible exact tt
 refine CallS.pu (ho) (R0 ?_); try with_reducible exact tt
 refine CallS.pu (hs) (R0 ?_); try with_reducible exact tt
 refine CallS.g [3] (a2) (R0 ?_); try with_reducible exact tt
 done
@[simp] theorem o_r6 (ks : List Nat) (vw : Nat) (kl dv : List D) : mset ks vw kl dv [] = some (kl ++ dv) := by simp [mset, mfind]
theorem o_r7 (s : St) : Eqn Tryz.prog o_9s [.d (.agg (stD s))] [] (.mp 0) [spO [(s, 1)]] := by
 refine Eqn.gen [1] o_9u (by simp) (by simp) (by rfl) (by decide) (by simp) (by simp [spO]) ?_
 have ho := rof1
 simp only [o_9t, spO, o_r0, stD, rcD, spD, List.flatMap_cons, List.flatMap_nil] at ho ⊢
 simp
 refine A00 ?_; try with_reducible exact tt
 refine CallS.pu (ho) (R0 ?_); try with_reducible exact tt

def chP (k a x : Nat) : Rat := if k = 1 then chM a x else mkRat 1 (2 ^ expOf k a x)
theorem o_r8 (e : Nat) : halfD e = rD (mkRat 1 (2 ^ e)) := by
 obtain ⟨h1, h2, h3⟩ := o_lw 1 (2 ^ e) (Nat.two_pow_pos e)
 have hg : Nat.gcd (1 : Int).natAbs (2 ^ e) = 1 := by simp
 rw [hg] at h1 h2
 unfold halfD rD
 rw [h1, h2, show decide ((mkRat 1 (2 ^ e)).num < 0) = false by rw [decide_eq_false_iff_not, h3]; decide]
 simp
theorem o_r9 : MethOK Tryz.prog 223 "tallymark/chain.chance" o_fa := fun v w => by kernel_rfl
theorem o_ra (a k : Nat) (h1 : 1 ≤ a) (h2 : a ≤ 4096) (hk : k ≤ 1023) (hb : bitsN (a + 1) * k ≤ 8192) : Eqn Tryz.prog o_fa [.d (.int .i64 a), .d (.int .i64 k)] [] (.tup [.d (rD (chM a k)), .d (.int .i64 0)]) [] := by
 refine Eqn.pure o_fc (o_ie _ _) ?_
 have h := (o_oy a k h1 h2 hk hb).1
 rw [o_r0] at h ⊢
 simp only [o_fb, rcD] at h ⊢
 refine G0 ?_; try with_reducible exact tt
 refine CallS.pu (h) (R0 ?_); try with_reducible exact tt
theorem o_rb {k a w x : Nat} (h : GoodS k a w) (hx : x ≤ 15) : ∃ ti d g, MethOK Tryz.prog ti "tallymark/chain.chance" g ∧ kindD k a = .ifc ti d ∧ Eqn Tryz.prog g [.d d, .d (.int .i64 x)] [] (.tup [.d (rD (chP k a x)), .d (.int .i64 0)]) [] := by
 by_cases hk : k = 1
 ·subst hk
  have ha : 1 ≤ a ∧ a ≤ 4 := by
   rcases h.1 with ⟨-, h1, h2⟩ | ⟨h1, -⟩ | ⟨h1, -⟩
   ·exact ⟨h1, h2⟩
   ·omega
   ·omega
  refine ⟨_, _, _, o_r9, rfl, ?_⟩
  rw [chP, if_pos rfl]
  have hb : bitsN (a + 1) ≤ 3 := o_j1 (by omega)
  exact o_ra a x ha.1 (by omega) (by omega) (Nat.le_trans (Nat.mul_le_mul hb hx) (by omega))
 ·obtain ⟨ti, d, g, h1, h2, h3⟩ := o_ou h hk hx
  rw [o_r8] at h3
  exact ⟨ti, d, g, h1, h2, by rw [chP, if_neg hk]; exact h3⟩
theorem o_rc {k a w x : Nat} (h : GoodS k a w) (hx : x < 2 ^ w - 1) : Eqn Tryz.prog o_cp [.d (parD k a w), .d (.int .i64 x)] [] (.tup [.d (rD (chP k a x)), .d (.int .i64 0)]) [] := by
 refine Eqn.pure o_cr (o_ie _ _) ?_
 have h2 : 2 ^ w - 1 ≤ 15 := by have := Nat.pow_le_pow_right (n := 2) (by omega) h.2.2; omega
 have w2 : w ≤ 10 := by have := h.2.2; omega
 have hc := o_oj h
 have hat := o_oi k a w w2 x (by omega) (by omega) hc
 have ht := o_oh k a w w2 hc
 have hkd := o_ni k a w
 obtain ⟨ti, d, g, hm, hd, hg⟩ := o_rb (x := x) h (by omega)
 rw [hd] at hkd
 rw [o_r0] at hg ⊢
 simp only [o_cq, parD, rcD] at hat ht hg ⊢
 generalize 2 ^ w - 1 = W at *
 have g1 : ¬ x = W := by omega
 have g2 : ¬ (x : Int) = W := by omega
 refine G1 (fs g1 g2) ?_; try with_reducible exact tt
 refine CallS.pf 2 1 ⟨3, _⟩ [.int .i64 x] (hat) (by first | rfl | (simp [g1, g2]; done)) (R1 (fs g1 g2) ?_); try with_reducible exact tt
 refine CallS.pu (ht) (R1 (fs g1 g2) ?_); try with_reducible exact tt
 refine AW.cond rfl (fun h => ?_) (fun h => ?_)
 ·simp [g2] at h
 refine G0 ?_; try with_reducible exact tt
 refine CallS.pu (hkd) (R0 ?_); try with_reducible exact tt
 refine ⟨_, hm, ?_⟩
 refine CallS.pu (hg) (R0 ?_); try with_reducible exact tt
theorem o_rd {k a w : Nat} (h : GoodS k a w) : Eqn Tryz.prog o_cp [.d (parD k a w), .d (.int .i64 (2 ^ w - 1 : Nat))] [] (.tup [.d (.agg zR), .d (.int .i64 0)]) [] := by
 refine Eqn.pure o_cr (o_ie _ _) ?_
 have h2 : 2 ^ w - 1 ≤ 15 := by have := Nat.pow_le_pow_right (n := 2) (by omega) h.2.2; omega
 have w2 : w ≤ 10 := by have := h.2.2; omega
 have hc := o_oj h
 have hat := o_oi k a w w2 ((2 ^ w - 1 : Nat) : Int) (by omega) (Int.le_refl _) hc
 have ht := o_oh k a w w2 hc
 simp only [o_cq, parD, zR] at hat ht ⊢
 generalize 2 ^ w - 1 = W at *
 refine G0 ?_; try with_reducible exact tt
 refine CallS.pf 2 1 ⟨3, _⟩ [.int .i64 W] (hat) (by first | rfl | (simp; done)) (R0 ?_); try with_reducible exact tt
 refine CallS.pu (ht) (R0 ?_); try with_reducible exact tt
 refine A00 ?_; try with_reducible exact tt
theorem o_re (k a b : Int) : Eqn Tryz.prog o_cm [.d (parD k a b)] [] (.d (parD k a b)) [] := by
 refine Eqn.pure o_co Plain.ok ?_
 simp only [o_cn, parD]
 refine A00 ?_; try with_reducible exact tt
end
end Go.Proofs.YtmpjlkclkhnpfaaGreatDoor.Am
namespace Go.Proofs.YtmpjlkclkhnpfaaGreatDoor.Am
section
open Go.RowKit
theorem o_rf (x : Int) : Eqn Tryz.prog o_f4 [.d (.int .i64 x)] [] (.d (.bool false)) [] := by
 refine Eqn.pure o_f6 Plain.ok ?_
 simp only [o_f5]
 refine A00 ?_; try with_reducible exact tt
def cmpG (x y : Int) : Int := if x < y then -1 else if y < x then 1 else 0
theorem o_rg (x y : Int) : Eqn Tryz.prog o_e7 [.d (.int .i64 x), .d (.int .i64 y)] [] (.d (.int .i64 (cmpG x y))) [] := by
 refine Eqn.pure o_e9 Plain.ok ?_
 simp only [o_e8]
 have h1 := o_rf x
 have h2 := o_rf y
 unfold cmpG
 by_cases g1 : x < y
 ·rw [if_pos g1]
  refine A12 g1 h1 h2 ?_; try with_reducible exact tt
 ·rw [if_neg g1]
  by_cases g2 : y < x
  ·rw [if_pos g2]
   refine A12 (fs g1 g2) h1 h2 ?_; try with_reducible exact tt
  ·rw [if_neg g2]
   refine A12 (fs g1 g2) h1 h2 ?_; try with_reducible exact tt
theorem o_rh (f : Bool) : Eqn Tryz.prog o_ea [.d (.bool f)] [] (.d (.int .i64 ((if f then 1 else 0)))) [] := by
 refine Eqn.pure o_ec Plain.ok ?_
 simp only [o_eb]
 cases f
 ·refine A00 ?_; try with_reducible exact tt
 ·refine A00 ?_; try with_reducible exact tt
def orG (a b c : Int) : Int := if a ≠ 0 then a else if b ≠ 0 then b else c
theorem o_ri (a b c : Int) : Eqn Tryz.prog o_e4 [.d (.sl 3 [.int .i64 a, .int .i64 b, .int .i64 c])] [] (.d (.int .i64 (orG a b c))) [] := by
 refine Eqn.pure o_e6 Plain.ok ?_
 simp only [o_e5]
 unfold orG
 by_cases ha : a = 0
 ·subst ha
  by_cases hb : b = 0
  ·subst hb
   by_cases hc : c = 0
   ·subst hc
    refine A00 ?_; try with_reducible exact tt
    refine AW.rounds 4 ?_
    refine A00 ?_; try with_reducible exact tt
   ·refine A00 ?_; try with_reducible exact tt
    refine AW.rounds 4 ?_
    refine A10 hc ?_; try with_reducible exact tt
  ·refine A00 ?_; try with_reducible exact tt
   refine AW.rounds 4 ?_
   refine A10 hb ?_; try with_reducible exact tt
 ·refine A00 ?_; try with_reducible exact tt
  refine AW.rounds 4 ?_
  refine A10 ha ?_; try with_reducible exact tt
end
end Go.Proofs.YtmpjlkclkhnpfaaGreatDoor.Am
namespace Go.Proofs.YtmpjlkclkhnpfaaGreatDoor.Am
section
open Go.RowKit
def ordI (p q : St × Rat) : Int := orG (cmpG p.1.1 q.1.1) (cmpG p.1.2.1 q.1.2.1) (cmpG (if p.1.2.2 then 1 else 0) (if q.1.2.2 then 1 else 0))
theorem o_rj (p q : St × Rat) : ordI p q < 0 ↔ ltS p.1 q.1 = true := by
 obtain ⟨⟨a, b, c⟩, x⟩ := p; obtain ⟨⟨a', b', c'⟩, x'⟩ := q
 unfold ordI orG cmpG ltS
 simp only [Bool.or_eq_true, Bool.and_eq_true, decide_eq_true_eq, Bool.not_eq_true']
 cases c <;> cases c' <;> simp <;> (repeat' split) <;> omega
theorem o_rk (p q : St × Rat) (x y z x' y' z' : D) : Eqn Tryz.prog o_cy [.d (.agg [.int .i64 p.1.1, .int .i64 p.1.2.1, .bool p.1.2.2, x, y, z]), .d (.agg [.int .i64 q.1.1, .int .i64 q.1.2.1, .bool q.1.2.2, x', y', z'])] [] (.d (.int .i64 (ordI p q))) [] := by
 refine Eqn.pure o_d0 Plain.ok ?_
 simp only [o_cz]
 have t1 := o_rh p.1.2.2
 have t2 := o_rh q.1.2.2
 have c1 := o_rg p.1.1 q.1.1
 have c2 := o_rg p.1.2.1 q.1.2.1
 have c3 := o_rg (if p.1.2.2 then 1 else 0) (if q.1.2.2 then 1 else 0)
 have ho := o_ri (cmpG p.1.1 q.1.1) (cmpG p.1.2.1 q.1.2.1) (cmpG (if p.1.2.2 then 1 else 0) (if q.1.2.2 then 1 else 0))
 unfold ordI
 generalize cmpG (if p.1.2.2 then 1 else 0) (if q.1.2.2 then 1 else 0) = C3 at *
 generalize cmpG p.1.1 q.1.1 = C1 at *
 generalize cmpG p.1.2.1 q.1.2.1 = C2 at *
 generalize (if p.1.2.2 then (1 : Int) else 0) = T1 at *
 generalize (if q.1.2.2 then (1 : Int) else 0) = T2 at *
 generalize p.1.2.2 = F1 at *
 generalize q.1.2.2 = F2 at *
 refine A06B c1 c2 t1 t2 c3 c3 ?_; try with_reducible exact tt
 refine CallS.pf 4 1 ⟨3, [.d (.int .i64 C1), .d (.int .i64 C2), .d (.int .i64 C3)]⟩ [.int .i64 C1, .int .i64 C2, .int .i64 C3] (ho) (by first | rfl | (simp [-Bool.exists_bool]; done)) (R0B ?_); try with_reducible exact tt

section
variable {aC : St × Rat → List D}
def rowA (aC : St × Rat → List D) (l : Sp) : List V := (l.flatMap aC).map .d
theorem o_rl (h6 : ∀ p, (aC p).length = 6) (l : Sp) : (rowA aC l).length = l.length * 6 := by
 rw [rowA, List.length_map, o_na h6]
@[simp] theorem o_rm (n : Nat) (l : Sp) : V.lowl n (rowA aC l) = true := o_5w _ _
@[simp] theorem o_rn (θ : Nat → Nat) (l : Sp) : V.rens θ (rowA aC l) = rowA aC l := o_5v _ _
theorem o_ro (h6 : ∀ p, (aC p).length = 6) (l : Sp) (i : Nat) (h : i < l.length) : ((rowA aC l).drop (i * 6)).take 6 = (aC l[i]).map .d := by
 rw [rowA, ← List.map_drop, ← List.map_take, o_nc h6 l i h]
theorem o_rp (l k : Sp) : rowA aC (l ++ k) = rowA aC l ++ rowA aC k := by simp [rowA]
theorem o_rq (h6 : ∀ p, (aC p).length = 6) (l k : Sp) (p q : St × Rat) : setMany (rowA aC (l ++ p :: k)) (l.length * 6) ((aC q).map .d) = rowA aC (l ++ q :: k) := by
 have h1 := o_rl h6 (l ++ p :: k)
 rw [o_l _ _ _ (by rw [h1]; simp [h6]; omega)]
 have e1 : rowA aC (l ++ p :: k) = rowA aC l ++ ((aC p).map .d ++ rowA aC k) := by simp [rowA]
 have e2 : rowA aC (l ++ q :: k) = rowA aC l ++ ((aC q).map .d ++ rowA aC k) := by simp [rowA]
 have hl := o_rl h6 l
 rw [e1, e2, ← hl, List.take_left]
 have e3 : (rowA aC l).length + ((aC q).map V.d).length = (rowA aC l ++ (aC p).map V.d).length := by simp [h6]
 rw [e3, ← List.append_assoc, List.drop_left]
 simp
theorem o_rr (h6 : ∀ p, (aC p).length = 6) (l k : Sp) (p : St × Rat) : ((rowA aC (l ++ p :: k)).drop (l.length * 6)).take 6 = (aC p).map .d := by
 have := o_ro h6 (l ++ p :: k) l.length (by simp)
 simpa using this

def SortTo (L K : Sp) : Prop := ∀ K' : Sp, K'.Perm L → K'.Pairwise (fun a b => ltS a.1 b.1 = true) → K' = K
set_option maxHeartbeats 2000000 in
theorem o_rs (h6 : ∀ p, (aC p).length = 6) (hord : ∀ p q, Eqn Tryz.prog o_cy [.d (.agg (aC p)), .d (.agg (aC q))] [] (.d (.int .i64 (ordI p q))) []) (L K : Sp) (hu : Uq L) (h0 : 1 ≤ L.length) (hn : L.length ≤ 1000000) (hK : SortTo L K) :
  Eqn Tryz.prog o_f1 [.own 0 6 L.length, .d (.int .i64 0), .d (.int .i64 L.length), .fn (.func o_cy) []] [⟨91, rowA aC L⟩] (.tup []) [⟨91, rowA aC K⟩] := by
 refine Eqn.gen [0] o_f3 (by simp) (by simp) (by rfl) (by decide) (by simp) (by simp [rowA, o_5w]) ?_
 simp only [o_f2]
 have ew0 : IntKind.i64.wrap 1 = 1 := w64 (by omega) (by omega)
 refine A10 ew0 ?_; try with_reducible exact tt
 refine AW.loopT (α := Nat × Sp) 1 (fun z => [(8, .d (.int .i64 (z.1 : Nat)))]) (fun z => [(0, ⟨91, rowA aC (z.2 ++ L.drop z.1)⟩)]) (fun z => 1 ≤ z.1 ∧ z.1 ≤ L.length ∧ z.2.Perm (L.take z.1) ∧ z.2.Pairwise (fun a b => ltS a.1 b.1 = true)) (fun z => L.length - z.1) (1, L.take 1) ?_ ?_ ⟨Nat.le_refl _, h0, List.Perm.refl _, ?_⟩ ?_ ?_ ?_
 ·simp
 ·simp
 ·match L, h0 with
  | a :: L, _ => simp
 ·simp
 ·simp only [List.take_append_drop]
  simp
 rintro ⟨i, P⟩ ⟨i1, i2, hP, hs⟩
 simp only at i1 i2 hP hs
 simp
 have hPl : P.length = i := by rw [hP.length_eq, List.length_take]; omega
 by_cases hi : i < L.length
 ·have hi' : (i : Int) < L.length := by omega
  obtain ⟨x, C, hC⟩ : ∃ x C, L.drop i = x :: C := ⟨L[i], L.drop (i + 1), List.drop_eq_getElem_cons hi⟩
  have hC2 : L.drop (i + 1) = C := by
   rw [List.drop_eq_getElem_cons hi] at hC
   exact (List.cons.inj hC).2
  have hx : L.take (i + 1) = L.take i ++ [x] := by
   rw [List.drop_eq_getElem_cons hi] at hC
   rw [List.take_add_one, List.getElem?_eq_getElem hi, (List.cons.inj hC).1]; rfl
  have hCl : i + 1 + C.length = L.length := by rw [← hC2, List.length_drop]; omega
  rw [hC]
  have hxP : ∀ y ∈ P, y.1 ≠ x.1 := by
   intro y hy e
   have h1 : y ∈ L.take i := hP.mem_iff.1 hy
   have h2 : Uq (L.take (i + 1)) := by
    unfold Uq at hu ⊢
    exact List.Sublist.nodup ((List.take_sublist _ _).map _) hu
   rw [hx] at h2
   unfold Uq at h2
   rw [List.map_append, List.nodup_append] at h2
   exact h2.2.2 y.1 (List.mem_map.2 ⟨y, h1, rfl⟩) x.1 (by simp) e
  have ewi : IntKind.i64.wrap ((i : Int) + 1) = ((i + 1 : Nat) : Int) := by rw [w64 (by omega) (by omega)]; omega
  refine A10 (fs hi hi') ?_; try with_reducible exact tt
  refine AW.loopT (α := Sp × Sp) 1 (fun z => [(9, .d (.int .i64 (z.1.length : Nat)))]) (fun z => [(0, ⟨91, rowA aC (z.1 ++ x :: (z.2 ++ C))⟩)]) (fun z => z.1 ++ z.2 = P ∧ ∀ y ∈ z.2, ltS x.1 y.1 = true) (fun z => z.1.length) (P, []) ?_ ?_ ⟨by simp, by simp⟩ ?_ ?_ ?_
  ·simp
  ·simp
  ·simp [hPl]
  ·simp
  rintro ⟨A, B⟩ ⟨hAB, hB⟩
  simp only at hAB hB
  simp
  have fin : (A = [] ∨ ∃ A' y, A = A' ++ [y] ∧ ¬ ltS x.1 y.1 = true) → (A ++ x :: B).Perm (L.take (i + 1)) ∧ (A ++ x :: B).Pairwise (fun a b => ltS a.1 b.1 = true) := by
   intro hA
   refine ⟨?_, ?_⟩
   ·rw [hx]
    have h1 : (A ++ x :: B).Perm (x :: (A ++ B)) := List.perm_middle
    rw [hAB] at h1
    refine h1.trans ?_
    exact (List.Perm.cons x hP).trans (List.perm_append_singleton x _).symm
   ·rw [← hAB, List.pairwise_append] at hs
    obtain ⟨s1, s2, s3⟩ := hs
    rw [List.pairwise_append]
    have hAx : ∀ a ∈ A, ltS a.1 x.1 = true := by
     rcases hA with rfl | ⟨A', y, rfl, hy⟩
     ·intro a ha; cases ha
     ·intro a ha
      have hyx : ltS y.1 x.1 = true := by
       rcases o_q7 y.1 x.1 with h | h | h
       ·exact h
       ·exact absurd h (hxP y (by rw [← hAB]; simp))
       ·exact absurd h hy
      rcases List.mem_append.1 ha with ha | ha
      ·rw [List.pairwise_append] at s1
       exact o_q6 (s1.2.2 a ha y (by simp)) hyx
      ·simp at ha; subst ha; exact hyx
    refine ⟨s1, List.pairwise_cons.2 ⟨hB, s2⟩, fun a ha b hb => ?_⟩
    rcases List.mem_cons.1 hb with rfl | hb
    ·exact hAx a ha
    ·exact s3 a ha b hb
  rcases List.eq_nil_or_concat A with rfl | ⟨A', y, hA⟩
  ·refine A00 ?_; try with_reducible exact tt
   refine A10 ewi ?_; try with_reducible exact tt
   have hf := fin (.inl rfl)
   refine ⟨i + 1, [] ++ x :: B, ⟨by omega, by omega, hf.1, hf.2⟩, by omega, ?_, ?_⟩
   ·simp
   ·simp [hC2]
  ·rw [List.concat_eq_append] at hA
   subst hA
   have e1 : A' ++ [y] ++ x :: (B ++ C) = A' ++ y :: (x :: (B ++ C)) := by simp
   have hg1 := o_rr h6 (A' ++ [y]) (B ++ C) x
   have hg2 := o_rr h6 A' (x :: (B ++ C)) y
   have hs1 := o_rq h6 (A' ++ [y]) (B ++ C) x y
   have hs2 := o_rq h6 A' (y :: (B ++ C)) y x
   have e2 : A' ++ [y] ++ y :: (B ++ C) = A' ++ y :: (y :: (B ++ C)) := by simp
   have hRl := o_rl h6 (A' ++ y :: (x :: (B ++ C)))
   have hRl2 := o_rl h6 (A' ++ y :: (y :: (B ++ C)))
   have hln : (A' ++ y :: (x :: (B ++ C))).length = L.length := by
    have := congrArg List.length hAB
    simp at this ⊢
    omega
   have hln2 : (A' ++ y :: (y :: (B ++ C))).length = L.length := by rw [← hln]; simp
   rw [hln] at hRl
   rw [hln2] at hRl2
   rw [e1] at hg1 hs1
   rw [e2] at hs1
   obtain ⟨m, hm⟩ : ∃ m, m = (A' ++ [y]).length := ⟨_, rfl⟩
   rw [← hm] at hg1 hs1
   have hm1 : m = A'.length + 1 := by rw [hm]; simp
   obtain ⟨m1, hm1'⟩ : ∃ m1, m1 = A'.length := ⟨_, rfl⟩
   rw [← hm1'] at hg2 hs2 hm1
   have hmn : m < L.length := by rw [← hln]; simp; omega
   have ewm : IntKind.i64.wrap ((m : Int) - 1) = (m1 : Int) := by rw [w64 (by omega) (by omega)]; omega
   have q1 : (0 : Int) < (m : Int) := by omega
   have q2 : (m : Int) < L.length := by omega
   have q3 : (m1 : Int) < L.length := by omega
   have q4 : 0 < m := by omega
   have b1 : m * 6 + 6 ≤ L.length * 6 := by omega
   have b2 : m1 * 6 + 6 ≤ L.length * 6 := by omega
   have hoo := hord x y
   have hc1 : ((aC x).map V.d).length = 6 := by simp [h6]
   have hc2 : ((aC y).map V.d).length = 6 := by simp [h6]
   have hgl : A'.length + 1 = m := by omega
   have hgl' : ((A'.length : Int) + 1) = (m : Int) := by omega
   simp only [List.append_assoc, List.singleton_append, List.cons_append, List.nil_append, List.length_append, List.length_cons, List.length_nil, Nat.zero_add, hgl, hgl'] at *
   by_cases hlt : ltS x.1 y.1 = true
   ·have ho1 : ordI x y < 0 := (o_rj x y).2 hlt
    generalize rowA aC (A' ++ y :: x :: (B ++ C)) = R at *
    generalize rowA aC (A' ++ y :: y :: (B ++ C)) = R1 at *
    refine A11 (fs q1 (fs q2 (fs q3 (fs q4 (fs ewm (fs hg1 (fs hg2 (fs hRl (fs hRl2 (fs b1 (fs b2 (fs ho1 (fs hc1 (fs hc2 (fs hs1 (fs hs2 h6)))))))))))))))) hoo ?_; try with_reducible exact tt
    refine ⟨A', y :: B, ⟨hAB, ?_⟩, by omega, ?_, ?_⟩
    ·have hB' : ∀ z ∈ y :: B, ltS x.1 z.1 = true := by
      intro z hz
      rcases List.mem_cons.1 hz with hz | hz
      ·rw [hz]; exact hlt
      ·exact hB z hz
     first
      | exact hB'
      | exact fun z hz => ⟨fun b hb => hB' _ hb, fun b hb => hB' _ hb⟩
    ·simp [hm1']
    ·simp
   ·have ho1 : ¬ ordI x y < 0 := fun h => hlt ((o_rj x y).1 h)
    have hf := fin (.inr ⟨A', y, rfl, hlt⟩)
    have hcc : A' ++ y :: x :: (B ++ C) = (A' ++ y :: (x :: B)) ++ C := by simp
    generalize hR : rowA aC (A' ++ y :: x :: (B ++ C)) = R at *
    refine A11 (fs q1 (fs q2 (fs q3 (fs q4 (fs ewm (fs hg1 (fs hg2 (fs hRl (fs hRl2 (fs b1 (fs b2 ho1))))))))))) hoo ?_; try with_reducible exact tt
    refine A10 ewi ?_; try with_reducible exact tt
    refine ⟨i + 1, A' ++ y :: (x :: B), ⟨by omega, by omega, ?_, ?_⟩, by omega, ?_, ?_⟩
    ·simpa using hf.1
    ·simpa using hf.2
    ·simp
    ·simp [hC2, ← hR]
 ·have h2 : i = L.length := by omega
  subst h2
  have : P = K := hK P (by rw [List.take_length] at hP; exact hP) hs
  subst this
  rw [List.drop_length, List.append_nil]
  refine A00 ?_; try with_reducible exact tt
end
end
end Go.Proofs.YtmpjlkclkhnpfaaGreatDoor.Am
namespace Go.Proofs.YtmpjlkclkhnpfaaGreatDoor.Am
section
open Go.RowKit
def ChOk (k a w : Nat) : Prop := GoodS k a w
def topC (w : Nat) : Nat := 2 ^ w - 1
def onQ (w : Nat) (s : St) (x : Rat) : Sp := if s.1 = topC w then [((s.1, s.2.1, true), 1)] else eitQ x (s.1 + 1, s.2) s
theorem o_rt {k a w : Nat} (h : GoodS k a w) (s : St) (hs : s.1 ≤ topC w) (x : Rat) (hx : RS x 1000) (X : D) (hX : Sub1 (.d X) (.d (rD x))) (hX2 : ∃ x0 x1 x2, X = .agg [x0, x1, x2]) :
  Eqn Tryz.prog o_cs [.d (parD k a w), .d (.agg (stD s)), .d X] [] (.mp 0) [spO (onQ w s x)] := by
 have h15 : topC w ≤ 15 := by have := Nat.pow_le_pow_right (n := 2) (by omega) h.2.2; unfold topC; omega
 have w2 : w ≤ 10 := by have := h.2.2; omega
 have hc := o_oj h
 have ht := o_oh k a w w2 hc
 have hl := o_re k a w
 rw [show 2 ^ w - 1 = topC w from rfl] at ht
 obtain ⟨x0, x1, x2, rfl⟩ := hX2
 obtain ⟨s1, s2, s3⟩ := s
 simp only at hs
 unfold onQ
 generalize topC w = W at *
 by_cases e : s1 = W
 ·subst e
  rw [if_pos rfl]
  refine Eqn.gen [3] o_cu (by simp) (by simp) (by rfl) (by decide) (by simp) (by simp [spO]) ?_
  have hsu := o_r7 (s1, s2, true)
  simp only [o_ct, spO, stD, parD] at ht hl hsu ⊢
  generalize spD rcD [((s1, s2, true), 1)] = L at *
  refine A00 ?_; try with_reducible exact tt
  refine CallS.pu (hl) (R0 ?_); try with_reducible exact tt
  refine CallS.pu (ht) (R0 ?_); try with_reducible exact tt
  refine A00 ?_; try with_reducible exact tt
  refine CallS.nX (hsu) (R0 ?_); try with_reducible exact tt
 ·rw [if_neg e]
  have hei := o_r5 x (s1 + 1, s2, s3) (s1, s2, s3) hx (by simp)
  replace hei := hei.sub (Subs.cons hX (Subs.refl _))
  have e1 : ¬ (s1 : Int) = (W : Int) := by omega
  have ew : IntKind.i64.wrap ((s1 : Int) + 1) = ((s1 + 1 : Nat) : Int) := by rw [w64 (by omega) (by omega)]; omega
  refine Eqn.gen [4] o_cu (by simp) (by simp) (by rfl) (by decide) (by simp) (by simp [spO]) ?_
  simp only [o_ct, spO, stD, parD] at ht hl hei ⊢
  generalize spD rcD _ = L at *
  refine A00 ?_; try with_reducible exact tt
  refine CallS.pu (hl) (R0 ?_); try with_reducible exact tt
  refine CallS.pu (ht) (R1 (fs e e1) ?_); try with_reducible exact tt
  refine A10 (fs e (fs e1 ew)) ?_; try with_reducible exact tt
  refine CallS.nX (hei) (R1 ew ?_); try with_reducible exact tt
end
end Go.Proofs.YtmpjlkclkhnpfaaGreatDoor.Am
namespace Go.Proofs.YtmpjlkclkhnpfaaGreatDoor.Am
section
open Go.RowKit
theorem o_ru {k a w x : Nat} (h : GoodS k a w) (hx : x ≤ 15) : RS (chP k a x) 1000 := by
 unfold chP
 by_cases hk : k = 1
 ·subst hk
  rw [if_pos rfl]
  have ha : 1 ≤ a ∧ a ≤ 4 := by
   rcases h.1 with ⟨-, h1, h2⟩ | ⟨h1, -⟩ | ⟨h1, -⟩
   ·exact ⟨h1, h2⟩
   ·omega
   ·omega
  have hb : bitsN (a + 1) ≤ 3 := o_j1 (by omega)
  exact (o_oy a x ha.1 (by omega) (by omega) (Nat.le_trans (Nat.mul_le_mul hb hx) (by omega))).2.le (by omega)
 ·rw [if_neg hk]
  have he := o_ot h hk hx
  exact RS.mk' (Nat.two_pow_pos _) (by show size 1 ≤ 1000; exact Nat.le_trans (by decide : size 1 ≤ 1) (by omega)) (Nat.le_trans (o_ov he) (by omega))
theorem o_rv {k a w : Nat} (h : GoodS k a w) (s : St) (hs : s.1 ≤ topC w) : Eqn Tryz.prog o_a1 [.d (parD k a w), .d (.agg (stD s))] [] (.mp 0) [spO (stepQ (topC w) (chP k a) s)] := by
 have h15 : topC w ≤ 15 := by have := Nat.pow_le_pow_right (n := 2) (by omega) h.2.2; unfold topC; omega
 have hk4 : ¬ (k : Int) = 4 := by have := h.1; omega
 have hk4' : ¬ k = 4 := by have := h.1; omega
 have hl := o_re k a w
 have hrs := o_ru h (x := s.1) (by omega)
 have hst : stepQ (topC w) (chP k a) s = onQ w s (chP k a s.1) := rfl
 rw [hst]
 have key : ∃ x0 x1 x2 : D, Sub1 (.d (.agg [x0, x1, x2])) (.d (rD (if s.1 = topC w then 0 else chP k a s.1))) ∧ Eqn Tryz.prog o_cp [.d (parD k a w), .d (.int .i64 s.1)] [] (.tup [.d (.agg [x0, x1, x2]), .d (.int .i64 0)]) [] := by
  by_cases e : s.1 = topC w
  ·refine ⟨_, _, _, by rw [if_pos e]; exact o_r1, ?_⟩
   have := o_rd h
   rw [show 2 ^ w - 1 = s.1 from e.symm] at this
   exact this
  ·refine ⟨_, _, _, by rw [if_neg e]; exact Sub1.refl _, o_rc h (by unfold topC at *; omega)⟩
 obtain ⟨x0, x1, x2, hX, hch⟩ := key
 have hon : Eqn Tryz.prog o_cs [.d (parD k a w), .d (.agg (stD s)), .d (.agg [x0, x1, x2])] [] (.mp 0) [spO (onQ w s (chP k a s.1))] := by
  by_cases e : s.1 = topC w
  ·rw [if_pos e] at hX
   have := o_rt h s hs 0 (show RS (0 : Rat) 1000 from ⟨by decide, by decide⟩) _ hX ⟨_, _, _, rfl⟩
   have e2 : onQ w s 0 = onQ w s (chP k a s.1) := by unfold onQ; rw [if_pos e, if_pos e]
   rw [e2] at this
   exact this
  ·rw [if_neg e] at hX
   exact o_rt h s hs _ hrs _ hX ⟨_, _, _, rfl⟩
 refine Eqn.gen [3] o_a3 (by simp) (by simp) (by rfl) (by decide) (by simp) (by simp [spO]) ?_
 simp only [o_a2, spO, stD, parD] at hl hch hon ⊢
 generalize spD rcD _ = L at *
 refine A10 (fs hk4 hk4') ?_; try with_reducible exact tt
 refine CallS.pu (hl) (R0 ?_); try with_reducible exact tt
 refine CallS.pu (hch) (R0 ?_); try with_reducible exact tt
 refine A00 ?_; try with_reducible exact tt
 refine CallS.nX (hon) (R0 ?_); try with_reducible exact tt
theorem o_rw {k a w : Nat} (h : GoodS k a w) (s : St) (hs : s.1 ≤ topC w) : Eqn Tryz.prog o_9y [.d (.agg (stD s)), .p 0 0] [⟨73, [.d (.int .i64 k), .d (.int .i64 a), .d (.int .i64 w)]⟩] (.mp 1) [⟨73, [.d (.int .i64 k), .d (.int .i64 a), .d (.int .i64 w)]⟩, spO (stepQ (topC w) (chP k a) s)] := by
 refine Eqn.gen [0, 2] o_a0 (by simp) (by simp) (by rfl) (by decide) (by simp) (by simp [spO]) ?_
 have hst := o_rv h s hs
 simp only [o_9z, spO, stD, parD] at hst ⊢
 generalize spD rcD _ = L at *
 refine A00 ?_; try with_reducible exact tt
 refine CallS.nX (hst) (R0 ?_); try with_reducible exact tt
end
end Go.Proofs.YtmpjlkclkhnpfaaGreatDoor.Am
namespace Go.Proofs.YtmpjlkclkhnpfaaGreatDoor.Am
section
open Go.RowKit
def atomC (p : St × Rat) : List D := stD p.1 ++ rcD p.2
theorem o_rx (p : St × Rat) : (atomC p).length = 6 := rfl
theorem o_ry (l : Sp) : spD rcD l = l.flatMap atomC := rfl
theorem o_rz (p q : St × Rat) : Eqn Tryz.prog o_cy [.d (.agg (atomC p)), .d (.agg (atomC q))] [] (.d (.int .i64 (ordI p q))) [] := o_rk p q _ _ _ _ _ _
theorem o_s0 (L : Sp) (hu : Uq L) (h0 : 1 ≤ L.length) (h12 : L.length ≤ 12) (K : Sp) (hK : SortTo L K) :
  Eqn Tryz.prog o_cv [.own 0 6 L.length, .fn (.func o_cy) []] [⟨91, rowA atomC L⟩] (.tup []) [⟨91, rowA atomC K⟩] := by
 have hi := o_rs o_rx o_rz L K hu h0 (by omega) hK
 have hp : ∀ t3 : Int, Eqn Tryz.prog o_e1 [.own 0 6 L.length, .d (.int .i64 0), .d (.int .i64 L.length), .d (.int .i64 t3), .fn (.func o_cy) []] [⟨91, rowA atomC L⟩] (.tup []) [⟨91, rowA atomC K⟩] := by
  intro t3
  refine Eqn.gen [0] o_e3 (by simp) (by simp) (by rfl) (by decide) (by simp) (by simp) ?_
  simp only [o_e2]
  have e1 : IntKind.i64.wrap ((L.length : Int) - 0) = L.length := w64 (by omega) (by omega)
  have e1' : IntKind.i64.wrap (L.length : Int) = L.length := w64 (by omega) (by omega)
  have e2 : (L.length : Int) ≤ 12 := by omega
  refine A00 ?_; try with_reducible exact tt
  refine AW.rounds 1 ?_
  refine A10 (fs e1 (fs e1' (fs e2 h12))) ?_; try with_reducible exact tt
  refine CallS.g [0] (hi) (R0 ?_); try with_reducible exact tt
 refine Eqn.gen [0] o_cx (by simp) (by simp) (by rfl) (by decide) (by simp) (by simp) ?_
 simp only [o_cw]
 have hb := o_oc L.length (by omega)
 have e1 : IntKind.u64.wrap (L.length : Int) = L.length := wu64 (by omega) (by omega)
 refine A10 e1 ?_; try with_reducible exact tt
 refine CallS.pu (hb) (R1 e1 ?_); try with_reducible exact tt
 refine CallS.g [0] (hp _) (R0 ?_); try with_reducible exact tt

def seenV (σ : List Nat) : List V := σ.map fun i : Nat => V.d (.int .i64 (i : Int))
@[simp] theorem o_s1 : ∀ σ : List Nat, seenOf (seenV σ) = some σ
 | [] => rfl
 | i :: σ => by
  have := o_s1 σ
  unfold seenV at *
  rw [List.map_cons, seenOf, if_pos (by omega), this]
  simp
@[simp] theorem o_s2 (σ : List Nat) (i : Nat) : seenV σ ++ [V.d (.int .i64 (i : Int))] = seenV (σ ++ [i]) := by simp [seenV]
@[simp] theorem o_s3 (n : Nat) (σ : List Nat) : V.lowl n (seenV σ) = true := by
 induction σ with
 | nil => rfl
 | cons i σ ih => unfold seenV at *; simp [V.lowl, V.low, ih]
@[simp] theorem o_s4 (θ : Nat → Nat) (σ : List Nat) : V.rens θ (seenV σ) = seenV σ := by
 induction σ with
 | nil => rfl
 | cons i σ ih => unfold seenV at *; simp [V.rens, V.ren, ih]
theorem o_s5 : seenV [] = [] := rfl
def metQ (l : Sp) (σ : List Nat) : Sp := σ.flatMap fun i => match l[i]? with
 | some p => if p.2 = 0 then [] else [p]
 | none => []
theorem o_s6 (l : Sp) (σ : List Nat) (i : Nat) (h : i < l.length) : metQ l (σ ++ [i]) = metQ l σ ++ if l[i].2 = 0 then [] else [l[i]] := by
 simp [metQ, List.flatMap_append, List.getElem?_eq_getElem h]
theorem o_s7 (l : Sp) (σ : List Nat) (hp : σ.Perm (List.range l.length)) : (metQ l σ).Perm (nzQ l) := by
 have h1 : (metQ l σ).Perm (metQ l (List.range l.length)) := List.Perm.flatMap_right _ hp
 refine h1.trans (List.Perm.of_eq ?_)
 have key : ∀ n, n ≤ l.length → metQ l (List.range n) = nzQ (l.take n) := by
  intro n
  induction n with
  | zero => intro _; rfl
  | succ n ih =>
   intro hn
   rw [List.range_succ, o_s6 l _ n (by omega), ih (by omega), List.take_add_one, List.getElem?_eq_getElem (by omega)]
   unfold nzQ
   rw [List.filter_append]
   congr 1
   simp only [Option.toList, List.filter_cons, List.filter_nil]
   by_cases h : l[n].2 = 0 <;> simp [h]
 rw [key l.length (Nat.le_refl _), List.take_length]
theorem o_s8 (l L : Sp) (hu : Uq l) (hp : L.Perm (nzQ l)) : SortTo L (atQ l) := fun K' h1 h2 => o_qf hu (h1.trans hp) h2
end
end Go.Proofs.YtmpjlkclkhnpfaaGreatDoor.Am
namespace Go.Proofs.YtmpjlkclkhnpfaaGreatDoor.Am
section
open Go.RowKit
@[simp] theorem o_s9 (n s : Nat) (ds l : List D) : V.frzs n s ds (l.map V.d) = l.map V.d := by
 rw [o_53, List.map_map]
 apply List.map_congr_left
 intro x _
 simp
def slM (l : Sp) (σ : List Nat) : List V := setS (List.replicate 26 .junk) [(0, .mp 0), (3, if (metQ l σ).length = 0 then .d .nilsl else .own 2 6 (metQ l σ).length), (7, .p 1 0)]
def hpM (l : Sp) (σ : List Nat) : List (Option Ob) := [some (spO l), some ⟨1000000, .mp 0 :: .d (.int .i64 (l.length : Nat)) :: seenV σ⟩] ++ if (metQ l σ).length = 0 then [] else [some ⟨91, rowA atomC (metQ l σ)⟩]
theorem o_sa (q : Rat) : (cmpQ q 0 ≠ 0) ↔ q ≠ 0 := by
 unfold cmpQ
 by_cases h1 : q < 0
 ·rw [if_pos h1]; constructor
  ·intro _ h; subst h; exact absurd h1 (by decide)
  ·intro _ h; cases h
 ·rw [if_neg h1]
  by_cases h2 : 0 < q
  ·rw [if_pos h2]; constructor
   ·intro _ h; subst h; exact absurd h2 (by decide)
   ·intro _ h; cases h
  ·rw [if_neg h2]; constructor
   ·intro h; exact absurd rfl h
   ·intro h; exact absurd (Rat.le_antisymm (Rat.not_lt.1 h2) (Rat.not_lt.1 h1)) h
set_option maxHeartbeats 4000000 in
theorem o_sb (l : Sp) (hu : Uq l) (h0 : nzQ l ≠ []) (h12 : (nzQ l).length ≤ 12) (hl : l.length ≤ 1000000) (hr : ∀ p ∈ l, RS p.2 100000) : Eqn Tryz.prog o_a4 [.mp 0] [spO l] (.d (.sl (atQ l).length (spD rcD (atQ l)))) [spO l] := by
 refine Eqn.gen [0] o_a6 (by simp) (by simp) (by rfl) (by decide) (by simp) (by simp [spO]) ?_
 have hn := o_pt rcD (fun _ => rfl) l
 simp only [o_a5, spO]
 refine A10 hn ?_; try with_reducible exact tt
 refine AW.loopG (α := List Nat) (fun σ => slM l σ) (fun σ => hpM l σ) (fun σ => σ.Nodup ∧ ∀ i ∈ σ, i < l.length) (fun σ => l.length - σ.length) [] ?_ ⟨by simp, by simp⟩ ?_ ?_ ?_
 ·intro σ _; unfold hpM; split <;> simp [spO]
 ·simp [slM, hpM, metQ]
 ·simp [hpM, metQ, spO, hn, o_s5]
 rintro σ ⟨hnd, hlt⟩
 have hbnd : σ.length ≤ l.length := by
  have h2 : σ.length ≤ (List.range l.length).length := hnd.length_le_of_subset fun i hi => List.mem_range.2 (hlt i hi)
  simpa using h2
 have ent : ∀ i (hi : i < l.length), ∃ (s1 s2 : Nat) (s3 : Bool) (q : Rat) (N1 N2 N3 : D), l[i] = ((s1, s2, s3), q) ∧ rcD q = [N1, N2, N3] ∧ RS q 100000 ∧ ((spD rcD l).drop (i * 6)).take 3 = [.int .i64 s1, .int .i64 s2, .bool s3] ∧ ((spD rcD l).drop (i * 6 + 3)).take 3 = [N1, N2, N3] := by
  intro i hi
  obtain ⟨⟨⟨s1, s2, s3⟩, q⟩, hp⟩ : ∃ p, l[i] = p := ⟨_, rfl⟩
  have h6 := o_nc (n := 6) (f := atomC) o_rx l i hi
  rw [hp, ← o_ry] at h6
  have h1 : ((spD rcD l).drop (i * 6)).take 3 = (((spD rcD l).drop (i * 6)).take 6).take 3 := by rw [List.take_take]; rfl
  have h2 : ((spD rcD l).drop (i * 6 + 3)).take 3 = (((spD rcD l).drop (i * 6)).take 6).drop 3 := by rw [← List.drop_drop]; simp [List.drop_take]
  refine ⟨s1, s2, s3, q, _, _, _, hp, rfl, hr ((s1, s2, s3), q) (by have := List.getElem_mem hi; rw [hp] at this; exact this), ?_, ?_⟩
  ·rw [h1, h6]; rfl
  ·rw [h2, h6]; rfl
 have allp : (∀ i, i < l.length → i ∈ σ) → σ.Perm (List.range l.length) := fun hall => (List.perm_ext_iff_of_nodup hnd List.nodup_range).2 fun i => ⟨fun h => List.mem_range.2 (hlt i h), fun h => hall i (List.mem_range.1 h)⟩
 have ho := rof0
 by_cases m0 : (metQ l σ).length = 0
 ·have mz : metQ l σ = [] := List.eq_nil_of_length_eq_zero m0
  rw [slM, hpM, if_pos m0, if_pos m0]
  simp [spO]
  refine A10 hn ?_; try with_reducible exact tt
  refine ⟨fun i hi hin => ?_, fun hall => ?_⟩
  ·obtain ⟨s1, s2, s3, q, N1, N2, N3, hp, hN, hq, hK, hV⟩ := ent i hi
   have hc := o_mh q 0 hq (show RS (0 : Rat) 100000 from ⟨by decide, by decide⟩)
   have hms := o_s6 l σ i hi
   rw [hp] at hms
   have hR : (σ ++ [i]).Nodup ∧ ∀ j ∈ σ ++ [i], j < l.length := by
    refine ⟨by rw [List.nodup_append]; exact ⟨hnd, by simp, fun a ha b hb e => by simp at hb; subst hb; exact hin (e ▸ ha)⟩, fun j hj => ?_⟩
    rcases List.mem_append.1 hj with hj | hj
    ·exact hlt j hj
    ·simp at hj; subst hj; exact hi
   have hl1 : (σ ++ [i]).length ≤ l.length := by
    have h2 : (σ ++ [i]).length ≤ (List.range l.length).length := hR.1.length_le_of_subset fun j hj => List.mem_range.2 (hR.2 j hj)
    simpa using h2
   rw [List.length_append, List.length_singleton] at hl1
   have hz0 : rcD 0 = [natW 0, .bool false, natW 0] := rfl
   rw [o_r0, o_r0, hN] at hc
   rw [o_r0] at ho
   rw [hz0] at hc ho
   refine A10 (fs hi (fs hn (fs hK hV))) ?_; try with_reducible exact tt
   refine CallS.pu (ho) (R1 (fs hi (fs hn (fs hK hV))) ?_); try with_reducible exact tt
   refine CallS.pu (hc) (R0 ?_); try with_reducible exact tt
   by_cases hq0 : q = 0
   ·have hc0 : cmpQ q 0 = 0 := Classical.byContradiction fun h => (o_sa q).1 h hq0
    refine A10 hc0 ?_; try with_reducible exact tt
    have e' : metQ l (σ ++ [i]) = [] := by rw [hms, mz]; simp [hq0]
    refine ⟨σ ++ [i], 1, 1, ⟨by omega, by omega, by omega, by omega⟩, hR, by simp; omega, ?_, ?_⟩
    ·simp [slM, hpM, e', spO, swT, swH, sw, Ob.sw, V.ren, V.rens]
    ·simp [slM, hpM, e', spO, swT, swH, sw, Ob.sw, V.ren, V.rens]
   ·have hc0 : ¬ cmpQ q 0 = 0 := (o_sa q).2 hq0
    refine A10 hc0 ?_; try with_reducible exact tt
    have e' : metQ l (σ ++ [i]) = [((s1, s2, s3), q)] := by rw [hms, mz]; simp [hq0]
    refine ⟨σ ++ [i], 2, 5, ⟨by omega, by omega, by omega, by omega⟩, hR, by simp; omega, ?_, ?_⟩
    ·simp [slM, hpM, e', spO, swT, swH, sw, Ob.sw, V.ren, V.rens]
    ·simp [slM, hpM, e', spO, swT, swH, sw, Ob.sw, V.ren, V.rens, rowA, atomC, stD, hN]
  ·exfalso
   have hp := o_s7 l σ (allp hall)
   rw [mz] at hp
   exact h0 (List.Perm.eq_nil hp.symm)
 ·obtain ⟨M, hM⟩ : ∃ M, M = metQ l σ := ⟨_, rfl⟩
  have hMl := o_rl o_rx M
  rw [slM, hpM, if_neg m0, if_neg m0]
  rw [← hM] at m0 ⊢
  have hmp : 0 < M.length := by omega
  have hmM : M.length ≤ l.length := by
   rw [hM]
   have key : ∀ τ : List Nat, (metQ l τ).length ≤ τ.length := by
    intro τ
    induction τ with
    | nil => simp [metQ]
    | cons j τ ih =>
     have : metQ l (j :: τ) = (match l[j]? with | some p => if p.2 = 0 then [] else [p] | none => []) ++ metQ l τ := by unfold metQ; exact List.flatMap_cons
     rw [this, List.length_append]
     have h1 : (match l[j]? with | some p => if p.2 = 0 then [] else [p] | none => [] : Sp).length ≤ 1 := by
      split
      ·split <;> simp
      ·simp
     simp only [List.length_cons]; omega
   exact Nat.le_trans (key σ) hbnd
  simp [spO]
  refine A10 hn ?_; try with_reducible exact tt
  refine ⟨fun i hi hin => ?_, fun hall => ?_⟩
  ·obtain ⟨s1, s2, s3, q, N1, N2, N3, hp, hN, hq, hK, hV⟩ := ent i hi
   have hc := o_mh q 0 hq (show RS (0 : Rat) 100000 from ⟨by decide, by decide⟩)
   have hms := o_s6 l σ i hi
   rw [hp, ← hM] at hms
   have hR : (σ ++ [i]).Nodup ∧ ∀ j ∈ σ ++ [i], j < l.length := by
    refine ⟨by rw [List.nodup_append]; exact ⟨hnd, by simp, fun a ha b hb e => by simp at hb; subst hb; exact hin (e ▸ ha)⟩, fun j hj => ?_⟩
    rcases List.mem_append.1 hj with hj | hj
    ·exact hlt j hj
    ·simp at hj; subst hj; exact hi
   have hl1 : (σ ++ [i]).length ≤ l.length := by
    have h2 : (σ ++ [i]).length ≤ (List.range l.length).length := hR.1.length_le_of_subset fun j hj => List.mem_range.2 (hR.2 j hj)
    simpa using h2
   rw [List.length_append, List.length_singleton] at hl1
   have hz0 : rcD 0 = [natW 0, .bool false, natW 0] := rfl
   rw [o_r0, o_r0, hN] at hc
   rw [o_r0] at ho
   rw [hz0] at hc ho
   refine A10 (fs hi (fs hn (fs hK hV))) ?_; try with_reducible exact tt
   refine CallS.pu (ho) (R1 (fs hi (fs hn (fs hK hV))) ?_); try with_reducible exact tt
   refine CallS.pu (hc) (R0 ?_); try with_reducible exact tt
   by_cases hq0 : q = 0
   ·have hc0 : cmpQ q 0 = 0 := Classical.byContradiction fun h => (o_sa q).1 h hq0
    refine A10 hc0 ?_; try with_reducible exact tt
    have e' : metQ l (σ ++ [i]) = M := by rw [hms]; simp [hq0]
    refine ⟨σ ++ [i], 2, 2, ⟨by omega, by omega, by omega, by omega⟩, hR, by simp; omega, ?_, ?_⟩
    ·simp [slM, hpM, e', m0, spO, swT, swH, sw, Ob.sw, V.ren, V.rens]
    ·simp [slM, hpM, e', m0, spO, swT, swH, sw, Ob.sw, V.ren, V.rens]
   ·have hc0 : ¬ cmpQ q 0 = 0 := (o_sa q).2 hq0
    refine A10 (fs hc0 hMl) ?_; try with_reducible exact tt
    have e' : metQ l (σ ++ [i]) = M ++ [((s1, s2, s3), q)] := by rw [hms]; simp [hq0]
    have e2 : rowA atomC (M ++ [((s1, s2, s3), q)]) = rowA atomC M ++ [.d (.int .i64 s1), .d (.int .i64 s2), .d (.bool s3), .d N1, .d N2, .d N3] := by rw [o_rp]; simp [rowA, atomC, stD, hN]
    refine ⟨σ ++ [i], 2, 6, ⟨by omega, by omega, by omega, by omega⟩, hR, by simp; omega, ?_, ?_⟩
    ·simp [slM, hpM, e', spO, swT, swH, sw, Ob.sw, V.ren, V.rens]
    ·simp [slM, hpM, e', spO, swT, swH, sw, Ob.sw, V.ren, V.rens, ← e2]
  ·have hp := o_s7 l σ (allp hall)
   rw [← hM] at hp
   have hMl2 : M.length = (atQ l).length := by rw [hp.length_eq, (o_qa l).length_eq]
   have hso := o_s0 M (by unfold Uq; exact (hp.map _).nodup_iff.2 (o_qc hu)) hmp (by rw [hp.length_eq]; exact h12) (atQ l) (o_s8 l M hu hp)
   have hal : (spD rcD (atQ l)).length = (atQ l).length * 6 := o_pt rcD (fun _ => rfl) _
   have htk : (spD rcD (atQ l)).take ((atQ l).length * 6) = spD rcD (atQ l) := List.take_of_length_le (by omega)
   rw [hMl2] at hso ⊢
   refine A00 ?_; try with_reducible exact tt
   refine CallS.g [2] hso ?_
   simp
   refine AW.freeze 2 6 ⟨91, rowA atomC (atQ l)⟩ (spD rcD (atQ l)) (by simp) rfl ?_
   simp [frzH, htk]
   refine A10 htk ?_; try with_reducible exact tt
end
end Go.Proofs.YtmpjlkclkhnpfaaGreatDoor.Am
namespace Go.Proofs.YtmpjlkclkhnpfaaGreatDoor.Am
section
open Go.RowKit
def Gr (D B : Nat) (q : Rat) : Prop := ∃ z : Nat, q * (D : Rat) = (z : Rat) ∧ z ≤ B * D
theorem o_sc {D : Nat} (h : 0 < D) : (D : Rat) ≠ 0 := by
 intro e
 have : D = 0 := by exact_mod_cast e
 omega
theorem Gr.rs {D B N : Nat} {q : Rat} (hD : 0 < D) (hB : 1 ≤ B) (h : Gr D B q) (hN : size (B * D) ≤ N) : RS q N := by
 obtain ⟨z, h1, h2⟩ := h
 have hd := o_sc hD
 have e : q = mkRat (z : Int) D := by
  rw [Rat.mkRat_eq_div]
  have : ((z : Int) : Rat) = (z : Rat) := rfl
  rw [this, ← h1]
  rw [Rat.mul_div_cancel hd]
 rw [e]
 refine RS.mk' hD ?_ ?_
 ·exact Nat.le_trans (o_ij (by simpa using h2)) hN
 ·exact Nat.le_trans (o_ij (by exact Nat.le_mul_of_pos_left D hB)) hN
theorem Gr.zero (D B : Nat) : Gr D B 0 := ⟨0, by grind, Nat.zero_le _⟩
theorem Gr.add {D B C : Nat} {x y : Rat} (hx : Gr D B x) (hy : Gr D C y) : Gr D (B + C) (x + y) := by
 obtain ⟨z, h1, h2⟩ := hx
 obtain ⟨w, h3, h4⟩ := hy
 refine ⟨z + w, ?_, by rw [Nat.add_mul]; omega⟩
 have : ((z + w : Nat) : Rat) = (z : Rat) + (w : Rat) := by simp
 rw [this, ← h1, ← h3]; grind
theorem Gr.mul {D E B C : Nat} {x y : Rat} (hx : Gr D B x) (hy : Gr E C y) : Gr (D * E) (B * C) (x * y) := by
 obtain ⟨z, h1, h2⟩ := hx
 obtain ⟨w, h3, h4⟩ := hy
 refine ⟨z * w, ?_, ?_⟩
 ·have e1 : ((z * w : Nat) : Rat) = (z : Rat) * (w : Rat) := by simp
  have e2 : ((D * E : Nat) : Rat) = (D : Rat) * (E : Rat) := by simp
  rw [e1, e2, ← h1, ← h3]; grind
 ·have := Nat.mul_le_mul h2 h4
  refine Nat.le_trans this (Nat.le_of_eq ?_)
  rw [Nat.mul_mul_mul_comm]
theorem Gr.le {D B C : Nat} {x : Rat} (h : Gr D B x) (hbc : B ≤ C) : Gr D C x := by
 obtain ⟨z, h1, h2⟩ := h
 exact ⟨z, h1, Nat.le_trans h2 (Nat.mul_le_mul_right _ hbc)⟩
theorem Gr.one (D : Nat) : Gr D 1 1 := ⟨D, by grind, by omega⟩
theorem Gr.sub1 {D : Nat} {x : Rat} (h : Gr D 1 x) : Gr D 1 (1 - x) := by
 obtain ⟨z, h1, h2⟩ := h
 refine ⟨D - z, ?_, by omega⟩
 have e1 : ((D - z : Nat) : Rat) = (D : Rat) - (z : Rat) := by
  have : (D : Rat) = ((D - z + z : Nat) : Rat) := by rw [Nat.sub_add_cancel (by omega)]
  rw [this]
  have e : ((D - z + z : Nat) : Rat) = ((D - z : Nat) : Rat) + (z : Rat) := by simp
  rw [e]; grind
 rw [e1, ← h1]; grind
theorem o_sd {k a w : Nat} (h : GoodS k a w) : ∃ G : Nat, 0 < G ∧ G ≤ 2 ^ 63 ∧ ∀ x, x ≤ 15 → Gr G 1 (chP k a x) := by
 by_cases hk : k = 1
 ·subst hk
  have ha : 1 ≤ a ∧ a ≤ 4 := by
   rcases h.1 with ⟨-, h1, h2⟩ | ⟨h1, -⟩ | ⟨h1, -⟩
   ·exact ⟨h1, h2⟩
   ·omega
   ·omega
  refine ⟨(a + 1) ^ 15, Nat.pow_pos (by omega), Nat.le_trans (Nat.pow_le_pow_left (show a + 1 ≤ 5 by omega) 15) (by decide), fun x hx => ?_⟩
  rw [chP, if_pos rfl]
  unfold chM
  have key : ∀ n, n ≤ 15 → ∃ z : Nat, mkRat (a : Int) (a + 1) ^ n * (((a + 1) ^ n : Nat) : Rat) = (z : Rat) ∧ z ≤ (a + 1) ^ n := by
   intro n
   induction n with
   | zero => intro _; exact ⟨1, by simp, by simp⟩
   | succ n ih =>
    intro hn
    obtain ⟨z, h1, h2⟩ := ih (by omega)
    refine ⟨z * a, ?_, by rw [Nat.pow_succ]; exact Nat.mul_le_mul h2 (by omega)⟩
    have e1 : mkRat (a : Int) (a + 1) * ((a + 1 : Nat) : Rat) = (a : Rat) := by
     rw [Rat.mkRat_eq_div]
     have : ((a : Int) : Rat) = (a : Rat) := rfl
     rw [this]
     exact Rat.div_mul_cancel (o_sc (by omega))
    have e2 : (((a + 1) ^ (n + 1) : Nat) : Rat) = (((a + 1) ^ n : Nat) : Rat) * ((a + 1 : Nat) : Rat) := by rw [Nat.pow_succ]; simp
    have e3 : ((z * a : Nat) : Rat) = (z : Rat) * (a : Rat) := by simp
    rw [Rat.pow_succ, e2, e3, ← h1, ← e1]; grind
  obtain ⟨z, h1, h2⟩ := key x hx
  refine ⟨z * (a + 1) ^ (15 - x), ?_, ?_⟩
  ·have e1 : (((a + 1) ^ 15 : Nat) : Rat) = (((a + 1) ^ x : Nat) : Rat) * (((a + 1) ^ (15 - x) : Nat) : Rat) := by
    have : (a + 1) ^ 15 = (a + 1) ^ x * (a + 1) ^ (15 - x) := by rw [← Nat.pow_add]; congr 1; omega
    rw [this]; simp
   have e2 : ((z * (a + 1) ^ (15 - x) : Nat) : Rat) = (z : Rat) * (((a + 1) ^ (15 - x) : Nat) : Rat) := by simp
   rw [e1, e2, ← h1]; grind
  ·rw [Nat.one_mul, show (a + 1) ^ 15 = (a + 1) ^ x * (a + 1) ^ (15 - x) by rw [← Nat.pow_add]; congr 1; omega]
   exact Nat.mul_le_mul_right _ h2
 ·refine ⟨2 ^ 63, by decide, Nat.le_refl _, fun x hx => ?_⟩
  rw [chP, if_neg hk]
  have he := o_ot h hk hx
  generalize expOf k a x = e at *
  refine ⟨2 ^ (63 - e), ?_, by rw [Nat.one_mul]; exact Nat.pow_le_pow_right (by decide) (by omega)⟩
  have e1 : mkRat 1 (2 ^ e) * ((2 ^ e : Nat) : Rat) = 1 := by
   rw [Rat.mkRat_eq_div]
   have := Rat.div_mul_cancel (a := ((1 : Int) : Rat)) (o_sc (Nat.two_pow_pos e))
   simpa using this
  have e2 : ((2 ^ 63 : Nat) : Rat) = ((2 ^ e : Nat) : Rat) * ((2 ^ (63 - e) : Nat) : Rat) := by
   have : 2 ^ 63 = 2 ^ e * 2 ^ (63 - e) := by rw [← Nat.pow_add]; congr 1; omega
   rw [this]; simp
  rw [e2, ← Rat.mul_assoc, e1]; grind
end
end Go.Proofs.YtmpjlkclkhnpfaaGreatDoor.Am
namespace Go.Proofs.YtmpjlkclkhnpfaaGreatDoor.Am
section
open Go.RowKit
theorem o_se (q : Rat) (out K : Sp) (j : Nat) (h : j < K.length) : innQ q out (K.take (j + 1)) = addQ (innQ q out (K.take j)) K[j].1 (q * K[j].2) := by
 unfold innQ; rw [List.take_add_one, List.getElem?_eq_getElem h, Option.toList, List.foldl_append]; rfl
def outQ (next : St → Sp) (A : Sp) (i : Nat) : Sp := (A.take i).foldl (fun out a => innQ a.2 out (atQ (next a.1))) []
theorem o_sf (next : St → Sp) (A : Sp) (i : Nat) (h : i < A.length) : outQ next A (i + 1) = innQ A[i].2 (outQ next A i) (atQ (next A[i].1)) := by
 unfold outQ; rw [List.take_add_one, List.getElem?_eq_getElem h, Option.toList, List.foldl_append]; rfl
theorem o_sg (next : St → Sp) (l : Sp) : outQ next (atQ l) (atQ l).length = timesQ next l := by unfold outQ timesQ; rw [List.take_length]
theorem o_sh {D B : Nat} {l : Sp} (h : ∀ p ∈ l, Gr D B p.2) (s : St) : Gr D B (getQ l s) := by
 induction l with
 | nil => exact Gr.zero D B
 | cons p l ih =>
  unfold getQ
  split
  ·exact h p (by simp)
  ·exact ih fun q hq => h q (by simp [hq])
theorem o_si {D B : Nat} {q : Rat} {out : Sp} {C : Nat} (ho : ∀ p ∈ out, Gr D C p.2) : ∀ (K : Sp), (∀ p ∈ K, Gr D B (q * p.2)) → ∀ p ∈ innQ q out K, Gr D (C + K.length * B) p.2 := by
 have key : ∀ (K out : Sp) (C : Nat), (∀ p ∈ out, Gr D C p.2) → (∀ p ∈ K, Gr D B (q * p.2)) → ∀ p ∈ innQ q out K, Gr D (C + K.length * B) p.2 := by
  intro K
  induction K with
  | nil => intro out C ho _ p hp; simpa [innQ] using ho p hp
  | cons b K ih =>
   intro out C ho hK p hp
   have h1 : ∀ p ∈ addQ out b.1 (q * b.2), Gr D (C + B) p.2 := by
    intro p hp
    rcases o_qp hp with hp | rfl
    ·exact (ho p hp).le (by omega)
    ·exact (o_sh ho _).add (hK b (by simp))
   have := ih (addQ out b.1 (q * b.2)) (C + B) h1 (fun p hp => hK p (by simp [hp])) p hp
   refine this.le (Nat.le_of_eq ?_)
   rw [List.length_cons, Nat.add_mul, Nat.one_mul]; omega
 exact fun K => key K out C ho
theorem o_sj {D E B J : Nat} {next : St → Sp} {A : Sp} (hA : ∀ p ∈ A, Gr D B p.2) (hN : ∀ p ∈ A, (∀ r ∈ next p.1, Gr E 1 r.2) ∧ (atQ (next p.1)).length ≤ J) : ∀ i, i ≤ A.length → ∀ p ∈ outQ next A i, Gr (D * E) (i * J * B) p.2
 | 0, _ => fun p hp => by simp [outQ] at hp
 | i + 1, hi => by
  have hi' : i < A.length := hi
  have ih := o_sj hA hN i (by omega)
  rw [o_sf next A i hi']
  obtain ⟨h1, h2⟩ := hN A[i] (List.getElem_mem hi')
  have hm : ∀ p ∈ atQ (next A[i].1), Gr (D * E) B (A[i].2 * p.2) := fun p hp => by
   have := (hA A[i] (List.getElem_mem hi')).mul (h1 p (List.mem_filter.1 ((o_qa _).mem_iff.1 hp)).1)
   rwa [Nat.mul_one] at this
  intro p hp
  refine (o_si ih _ hm p hp).le ?_
  have := Nat.mul_le_mul_right B h2
  rw [Nat.add_mul i 1 J, Nat.one_mul, Nat.add_mul]; omega
theorem o_sk {top : Nat} {c : Nat → Rat} (s : St) : nzQ (stepQ top c s) ≠ [] := by
 intro h
 have h1 := (o_qo (fun _ => 1) top c s).2
 have h2 : exQ (fun _ => (1 : Rat)) (stepQ top c s) = 1 := by
  rw [h1]; split
  ·rfl
  ·grind
 have h3 := o_q4 (fun _ => (1 : Rat)) (stepQ top c s)
 rw [show (stepQ top c s).filter (fun p => decide (p.2 ≠ 0)) = nzQ (stepQ top c s) from rfl, h] at h3
 rw [h2] at h3
 exact absurd h3 (by decide)
theorem o_sl (l : Sp) (s : St) (q : Rat) : (setQ l s q).length ≤ l.length + 1 := by
 induction l with
 | nil => simp [setQ]
 | cons p l ih => unfold setQ; split <;> simp <;> omega
theorem o_sm (top : Nat) (c : Nat → Rat) (s : St) : (stepQ top c s).length ≤ 2 := by
 unfold stepQ
 split
 ·simp
 ·unfold eitQ addQ
  have := o_sl (setQ [] (s.1 + 1, s.2) (getQ [] (s.1 + 1, s.2) + c s.1)) s (getQ (setQ [] (s.1 + 1, s.2) (getQ [] (s.1 + 1, s.2) + c s.1)) s + (1 - c s.1))
  have h2 := o_sl [] (s.1 + 1, s.2) (getQ [] (s.1 + 1, s.2) + c s.1)
  simp at h2
  omega
theorem o_sn (l : Sp) : (atQ l).length ≤ l.length := by
 rw [(o_qa l).length_eq]; exact List.length_filter_le _ _
theorem o_so {G top : Nat} {c : Nat → Rat} (hc : ∀ x, x < top → Gr G 1 (c x)) (s : St) (hs : s.1 ≤ top) : ∀ p ∈ stepQ top c s, Gr G 1 p.2 := by
 unfold stepQ
 split
 ·intro p hp; simp at hp; subst hp; exact Gr.one G
 ·rename_i e
  have h1 := hc s.1 (by omega)
  have hne : ¬ s = (s.1 + 1, s.2) := fun h => by have := congrArg Prod.fst h; simp at this
  intro p hp
  unfold eitQ at hp
  rcases o_qp hp with hp | rfl
  ·rcases o_qp hp with hp | rfl
   ·cases hp
   ·have := (Gr.zero G 0).add h1
    simpa [getQ] using this
  ·have h2 : getQ (addQ [] (s.1 + 1, s.2) (c s.1)) s = 0 := by unfold addQ; rw [o_pv, if_neg hne]; rfl
   show Gr G 1 (getQ (addQ [] (s.1 + 1, s.2) (c s.1)) s + (1 - c s.1))
   rw [h2]
   have := (Gr.zero G 0).add h1.sub1
   simpa using this
end
end Go.Proofs.YtmpjlkclkhnpfaaGreatDoor.Am
namespace Go.Proofs.YtmpjlkclkhnpfaaGreatDoor.Am
section
open Go.RowKit
def PO (k a w : Nat) : Ob := ⟨73, [.d (.int .i64 k), .d (.int .i64 a), .d (.int .i64 w)]⟩
theorem o_sp (A : Sp) (i : Nat) (hi : i < A.length) : ∃ (s1 s2 : Nat) (s3 : Bool) (q : Rat) (N1 N2 N3 : D), A[i] = ((s1, s2, s3), q) ∧ rcD q = [N1, N2, N3] ∧ ((spD rcD A).drop (i * 6)).take 6 = [.int .i64 s1, .int .i64 s2, .bool s3, N1, N2, N3] := by
 obtain ⟨⟨⟨s1, s2, s3⟩, q⟩, hp⟩ : ∃ p, A[i] = p := ⟨_, rfl⟩
 have h6 := o_nc (n := 6) (f := atomC) o_rx A i hi
 rw [hp, ← o_ry] at h6
 exact ⟨s1, s2, s3, q, _, _, _, hp, rfl, by rw [h6]; rfl⟩
set_option maxHeartbeats 4000000 in
theorem o_sq {k a w : Nat} (h : GoodS k a w) (l : Sp) (G D B : Nat) (hu : Uq l) (hok : oklQ (topC w) l) (hnz : nzQ l ≠ []) (h12 : (nzQ l).length ≤ 12) (hl : l.length ≤ 1000000) (hD : 0 < D) (hB : 1 ≤ B) (hgl : ∀ p ∈ l, Gr D B p.2) (hG : 0 < G) (hc : ∀ x, x ≤ 15 → Gr G 1 (chP k a x)) (hsz : size (24 * B * (D * G)) ≤ 100000) :
  Eqn Tryz.prog o_9v [.mp 0, .fn (.func o_9y) [.p 1 0]] [spO l, PO k a w] (.mp 2) [spO l, PO k a w, spO (timesQ (stepQ (topC w) (chP k a)) l)] := by
 refine Eqn.gen [0, 1, 2] o_9x (by simp) (by simp) (by rfl) (by decide) (by simp) (by simp [spO, PO]) ?_
 have h15 : topC w ≤ 15 := by have := Nat.pow_le_pow_right (n := 2) (by omega) h.2.2; unfold topC; omega
 obtain ⟨next, hnext⟩ : ∃ f, f = stepQ (topC w) (chP k a) := ⟨_, rfl⟩
 obtain ⟨A, hA⟩ : ∃ A, A = atQ l := ⟨_, rfl⟩
 have hAl : A.length ≤ 12 := by rw [hA, (o_qa l).length_eq]; exact h12
 have hA0 : 1 ≤ A.length := by
  rw [hA, (o_qa l).length_eq]
  rcases Nat.eq_zero_or_pos (nzQ l).length with e | e
  ·exact absurd (List.eq_nil_of_length_eq_zero e) hnz
  ·exact e
 have hAm : ∀ p ∈ A, p ∈ l := fun p hp => (List.mem_filter.1 ((o_qa l).mem_iff.1 (hA ▸ hp))).1
 have hDG : 0 < D * G := Nat.mul_pos hD hG
 have hBD : size (B * D) ≤ 100000 := by
  refine Nat.le_trans (o_ij ?_) hsz
  calc B * D = B * D * 1 := (Nat.mul_one _).symm
   _ ≤ B * D * (24 * G) := Nat.mul_le_mul_left _ (by omega)
   _ = 24 * B * (D * G) := by simp [Nat.mul_comm, Nat.mul_left_comm, Nat.mul_assoc]
 have hat := o_sb l hu hnz h12 hl (fun p hp => (hgl p hp).rs hD hB hBD)
 have hGs : size (1 * G) ≤ 100000 := by
  refine Nat.le_trans (o_ij ?_) hsz
  calc 1 * G ≤ (24 * B * D) * G := Nat.mul_le_mul_right _ (Nat.mul_pos (by omega) hD)
   _ = 24 * B * (D * G) := by rw [Nat.mul_assoc]
 have hgn : ∀ s : St, s.1 ≤ topC w → ∀ p ∈ next s, Gr G 1 p.2 := fun s hs => by rw [hnext]; exact o_so (fun x hx => hc x (by omega)) s hs
 have hnl : ∀ s, (atQ (next s)).length ≤ 2 := fun s => Nat.le_trans (o_sn _) (by rw [hnext]; exact o_sm _ _ _)
 have hout := o_sj (D := D) (E := G) (B := B) (J := 2) (next := next) (A := A) (fun p hp => hgl p (hAm p hp)) (fun p hp => ⟨hgn p.1 (hok p (hAm p hp)).1.1, hnl p.1⟩)
 have hon := o_sf next A
 have hoa : outQ next A A.length = timesQ next l := by rw [hA]; exact o_sg next l
 have hADl := o_pt rcD (fun _ => rfl) A
 have hget := o_sp A
 rw [← hnext, ← hoa]
 rw [← hA] at hat
 have hcl : ∀ s : St, s.1 ≤ topC w → Eqn Tryz.prog o_9y [.d (.agg (stD s)), .p 0 0] [PO k a w] (.mp 1) [PO k a w, spO (next s)] ∧ Eqn Tryz.prog o_a4 [.mp 0] [spO (next s)] (.d (.sl (atQ (next s)).length (spD rcD (atQ (next s))))) [spO (next s)] := fun s hs => by
  refine ⟨by rw [hnext]; exact o_rw h s hs, o_sb _ (by rw [hnext]; exact (o_qo (fun _ => 0) _ _ s).1) (by rw [hnext]; exact o_sk s) ?_ ?_ fun p hp => (hgn s hs p hp).rs hG (Nat.le_refl _) hGs⟩
  ·exact Nat.le_trans (List.length_filter_le _ _) (Nat.le_trans (by rw [hnext]; exact o_sm _ _ _) (by omega))
  ·exact Nat.le_trans (by rw [hnext]; exact o_sm _ _ _) (by omega)
 have hAok : ∀ p ∈ A, p.1.1 ≤ topC w := fun p hp => (hok p (hAm p hp)).1.1
 clear hnext hA hoa hnz
 simp only [o_9w, spO, PO] at hat hcl ⊢
 generalize hLl : spD rcD l = LL at *
 refine A00 ?_; try with_reducible exact tt
 refine CallS.g [0] (hat) (R0 ?_); try with_reducible exact tt
 refine AW.loopG (α := Nat) (fun i => setS (List.replicate 40 .junk) [(1, .fn (.func o_9y) [.p 1 0]), (5, .mp 2), (12, .d (.sl A.length (spD rcD A))), (13, .d (.int .i64 A.length)), (14, .d (.int .i64 (i : Nat)))]) (fun i => [some ⟨1000391, LL.map .d⟩, some ⟨73, [.d (.int .i64 k), .d (.int .i64 a), .d (.int .i64 w)]⟩, some ⟨1000391, (spD rcD (outQ next A i)).map .d⟩]) (fun i => i ≤ A.length) (fun i => A.length - i) 0 ?_ (Nat.zero_le _) ?_ ?_ ?_
 ·intro i hi; simp
 ·simp
 ·simp [outQ, spD]
 rintro i hi
 simp
 by_cases hi2 : i < A.length
 ·have hi3 : (i : Int) < A.length := by omega
  obtain ⟨s1, s2, s3, q, N1, N2, N3, hp, hN, hg⟩ := hget i hi2
  have hsk := hAok _ (List.getElem_mem hi2)
  rw [hp] at hsk
  obtain ⟨hof, han⟩ := hcl (s1, s2, s3) hsk
  have hgq : Gr D B q := by have := hgl _ (hAm _ (List.getElem_mem hi2)); rw [hp] at this; exact this
  have hon1 := hon i hi2
  rw [hp] at hon1
  simp only at hon1
  have hgo := hout i hi
  have hn2 := hnl (s1, s2, s3)
  have hgn2 := hgn (s1, s2, s3) hsk
  obtain ⟨C, hC⟩ : ∃ C, C = atQ (next (s1, s2, s3)) := ⟨_, rfl⟩
  have hCm : ∀ p ∈ C, Gr G 1 p.2 := fun p hp => hgn2 p (List.mem_filter.1 ((o_qa _).mem_iff.1 (hC ▸ hp))).1
  rw [← hC] at hon1 han hn2
  have hCl := o_pt rcD (fun _ => rfl) C
  have hgetC := o_sp C
  have ewi : IntKind.i64.wrap ((i : Int) + 1) = ((i + 1 : Nat) : Int) := by rw [w64 (by omega) (by omega)]; omega
  simp only [stD] at hof han
  generalize hNL : spD rcD (next (s1, s2, s3)) = NL at *
  have hb6 : i * 6 + 6 ≤ A.length * 6 := by omega
  have hb7 : i * 6 < A.length * 6 := by omega
  refine A10 (fs hi2 (fs hi3 (fs hg (fs hADl (fs hb6 hb7))))) ?_; try with_reducible exact tt
  refine CallS.g [1] (hof) (R0 ?_); try with_reducible exact tt
  refine CallS.g [4] (han) (R0 ?_); try with_reducible exact tt
  refine AW.loopG (α := Nat) (fun j => setS (List.replicate 40 .junk) [(1, .fn (.func o_9y) [.p 1 0]), (5, .mp 2), (7, .p 3 0), (12, .d (.sl A.length (spD rcD A))), (13, .d (.int .i64 A.length)), (14, .d (.int .i64 (i : Nat))), (22, .d (.sl C.length (spD rcD C))), (23, .d (.int .i64 C.length)), (24, .d (.int .i64 (j : Nat)))]) (fun j => [some ⟨1000391, LL.map .d⟩, some ⟨73, [.d (.int .i64 k), .d (.int .i64 a), .d (.int .i64 w)]⟩, some ⟨1000391, (spD rcD (innQ q (outQ next A i) (C.take j))).map .d⟩, some ⟨91, [.d (.int .i64 s1), .d (.int .i64 s2), .d (.bool s3), .d N1, .d N2, .d N3]⟩]) (fun j => j ≤ C.length) (fun j => C.length - j) 0 ?_ (Nat.zero_le _) ?_ ?_ ?_
  ·intro j hj; simp
  ·simp
  ·simp [innQ]
  rintro j hj
  simp
  by_cases hj2 : j < C.length
  ·have hj3 : (j : Int) < C.length := by omega
   obtain ⟨t1, t2, t3, r, M1, M2, M3, hpc, hM, hgc⟩ := hgetC j hj2
   have hinn := o_se q (outQ next A i) C j hj2
   have hgr := hCm _ (List.getElem_mem hj2)
   rw [hpc] at hinn hgr
   simp only at hinn hgr
   have hqr := hgq.mul hgr
   have hgi := o_si (q := q) (B := B) hgo (C.take j) (fun p hp => by
    have := hgq.mul (hCm p (List.mem_of_mem_take hp))
    rwa [Nat.mul_one] at this)
   have hget2 := (o_sh hgi (t1, t2, t3)).le (C := 24 * B) (by
    have e1 : (C.take j).length ≤ 2 := by rw [List.length_take]; omega
    have e2 := Nat.mul_le_mul_right B e1
    have e3 : i * 2 * B ≤ 22 * B := Nat.mul_le_mul_right _ (by omega)
    omega)
   have hq1 := hgq.rs hD hB hBD
   have hr1 := hgr.rs hG (Nat.le_refl _) hGs
   have hmul := o_me q r hq1 hr1
   have hadd := o_r3 (innQ q (outQ next A i) (C.take j)) (t1, t2, t3) (q * r) (hget2.rs hDG (by omega) hsz) ((hqr.le (C := 24 * B) (by omega)).rs hDG (by omega) hsz)
   have ewj : IntKind.i64.wrap ((j : Int) + 1) = ((j + 1 : Nat) : Int) := by rw [w64 (by omega) (by omega)]; omega
   have hc6 : j * 6 + 6 ≤ C.length * 6 := by omega
   have hc7 : j * 6 < C.length * 6 := by omega
   rw [← hinn] at hadd
   rw [o_r0 q, o_r0 r, o_r0 (q * r), hN, hM] at hmul
   rw [o_r0 (q * r)] at hadd
   obtain ⟨P1, P2, P3, hP⟩ : ∃ P1 P2 P3, rcD (q * r) = [P1, P2, P3] := ⟨_, _, _, rfl⟩
   rw [hP] at hmul hadd
   simp only [spO, stD] at hadd
   refine A10 (fs hj2 (fs hj3 (fs hgc (fs hCl (fs hc6 hc7))))) ?_; try with_reducible exact tt
   refine CallS.pu (hmul) (R0 ?_); try with_reducible exact tt
   refine CallS.g [2] (hadd) (R0 ?_); try with_reducible exact tt
   refine A10 ewj ?_; try with_reducible exact tt
   refine ⟨j + 1, 2, 2, ⟨by omega, by omega, by omega, by omega⟩, by omega, by omega, ?_, ?_⟩
   ·simp [swT, swH, sw, Ob.sw, V.ren, V.rens]
   ·simp [swT, swH, sw, Ob.sw, V.ren, V.rens]
  ·have h2 : j = C.length := by omega
   subst h2
   rw [List.take_length, ← hon1]
   refine A00 ?_; try with_reducible exact tt
   refine A10 ewi ?_; try with_reducible exact tt
   refine ⟨i + 1, 2, 2, ⟨by omega, by omega, by omega, by omega⟩, by omega, by omega, ?_, ?_⟩
   ·simp [swT, swH, sw, Ob.sw, V.ren, V.rens]
   ·simp [swT, swH, sw, Ob.sw, V.ren, V.rens]
 ·have h2 : i = A.length := by omega
  subst h2
  refine A00 ?_; try with_reducible exact tt
end
end Go.Proofs.YtmpjlkclkhnpfaaGreatDoor.Am
namespace Go.Proofs.YtmpjlkclkhnpfaaGreatDoor.Am
section
open Go.RowKit
theorem o_sr {k a w : Nat} (h : GoodR k a w) (s : St) (hw : WellR k a w s.1 s.2.1 s.2.2) : Eqn Tryz.prog o_cg [.d (.agg (stD s)), .p 0 0] [PO k a w] (.d (.bool false)) [PO k a w] := by
 refine Eqn.gen [0] o_ci (by simp) (by simp) (by rfl) (by decide) (by simp) (by simp [PO]) ?_
 have hwl := o_ph h s.1 s.2.1 s.2.2
 rw [o_pg.2 hw] at hwl
 simp only [o_ch, PO, stD, parD, tsD] at hwl ⊢
 refine A00 ?_; try with_reducible exact tt
 refine CallS.pu (hwl) (R0 ?_); try with_reducible exact tt
theorem o_ss {k a w : Nat} (h : GoodR k a w) (s : St) (hw : WellR k a w s.1 s.2.1 s.2.2) : Eqn Tryz.prog o_dv [.d (.sl 1 (stD s)), .fn (.func o_cg) [.p 0 0]] [PO k a w] (.d (.int .i64 (-1))) [PO k a w] := by
 refine Eqn.gen [0] o_dx (by simp) (by simp) (by rfl) (by decide) (by simp) (by simp [PO]) ?_
 have hw1 := o_sr h s hw
 simp only [o_dw, PO, stD] at hw1 ⊢
 refine A00 ?_; try with_reducible exact tt
 refine AW.rounds 2 ?_
 refine A00 ?_; try with_reducible exact tt
 refine CallS.g [0] (hw1) (R0 ?_); try with_reducible exact tt
 refine A00 ?_; try with_reducible exact tt
theorem o_st {k a w : Nat} (h : GoodR k a w) (s : St) (hw : WellR k a w s.1 s.2.1 s.2.2) : Eqn Tryz.prog o_cd [.d (.sl 1 (stD s)), .fn (.func o_cg) [.p 0 0]] [PO k a w] (.d (.bool false)) [PO k a w] := by
 refine Eqn.gen [0] o_cf (by simp) (by simp) (by rfl) (by decide) (by simp) (by simp [PO]) ?_
 have hi := o_ss h s hw
 simp only [o_ce, PO, stD] at hi ⊢
 refine A00 ?_; try with_reducible exact tt
 refine CallS.g [0] (hi) (R0 ?_); try with_reducible exact tt
theorem o_su {k a w : Nat} (h : GoodR k a w) (s : St) (hw : WellR k a w s.1 s.2.1 s.2.2) : Eqn Tryz.prog o_9m [.d (parD k a w), .d (.sl 1 (stD s))] [] (.d (.int .i64 0)) [] := by
 refine Eqn.pure o_9o Plain.ok ?_
 have hc := o_pf h
 have hi := o_st h s hw
 simp only [o_9n, PO, stD, parD] at hc hi ⊢
 refine A00 ?_; try with_reducible exact tt
 refine CallS.pu (hc) (R0 ?_); try with_reducible exact tt
 refine A00 ?_; try with_reducible exact tt
 refine CallS.g [0] (hi) (R0 ?_); try with_reducible exact tt
 refine A00 ?_; try with_reducible exact tt
theorem o_sv {k a w : Nat} (hk : k ≠ 4) (hw : w ≤ 10) : Eqn Tryz.prog o_9p [.d (parD k a w)] [] (.d (.int .i64 (2 ^ w : Nat))) [] := by
 refine Eqn.pure o_9r Plain.ok ?_
 have hk' : ¬ (k : Int) = 4 := by omega
 have e0 : (2 : Int) ^ w = (2 ^ w : Nat) := by rw [Int.natCast_pow]; rfl
 have h2 : 2 ^ w ≤ 1024 := Nat.pow_le_pow_right (n := 2) (by omega) hw
 simp only [o_9q, parD]
 generalize 2 ^ w = S at *
 have e1 : IntKind.i64.wrap (S : Int) = S := w64 (by omega) (by omega)
 refine A10 (fs hk (fs hk' (fs e0 e1))) ?_; try with_reducible exact tt
end
end Go.Proofs.YtmpjlkclkhnpfaaGreatDoor.Am
namespace Go.Proofs.YtmpjlkclkhnpfaaGreatDoor.Am
section
open Go.RowKit
def kyQ (P : St → Prop) (l : Sp) : Prop := ∀ p ∈ l, P p.1
theorem o_sw {P : St → Prop} {q : Rat} : ∀ {l out : Sp}, kyQ P out → kyQ P l → kyQ P (innQ q out l)
 | [], out, h, _ => h
 | b :: l, out, h, hl => o_sw (out := addQ out b.1 (q * b.2)) (l := l) (fun p hp => by
   rcases o_qp hp with hp | rfl
   ·exact h p hp
   ·exact hl b (by simp)) fun p hp => hl p (by simp [hp])
theorem o_sx {P : St → Prop} {l : Sp} (h : kyQ P l) : kyQ P (atQ l) := fun p hp => h p (List.mem_filter.1 ((o_qa l).mem_iff.1 hp)).1
theorem o_sy {P P' : St → Prop} {next : St → Sp} (hn : ∀ s, P s → kyQ P' (next s)) {l : Sp} (h : kyQ P l) : kyQ P' (timesQ next l) := by
 have key : ∀ (k out : Sp), kyQ P' out → kyQ P k → kyQ P' (k.foldl (fun out a => innQ a.2 out (atQ (next a.1))) out) := by
  intro k
  induction k with
  | nil => intro out h _; exact h
  | cons a k ih =>
   intro out ho hk
   exact ih _ (o_sw ho (o_sx (hn _ (hk a (by simp))))) fun p hp => hk p (by simp [hp])
 exact key _ _ (fun p hp => by cases hp) (o_sx h)
def reach (top k : Nat) (i : Nat) (t : St) : Prop := t = (top, 0, true) ∨ t.2 = (0, false) ∧ k ≤ t.1 ∧ t.1 ≤ k + i ∧ t.1 ≤ top
theorem o_sz {top k i : Nat} {c : Nat → Rat} {t : St} (h : reach top k i t) : kyQ (reach top k (i + 1)) (stepQ top c t) := by
 obtain ⟨a, b, f⟩ := t
 unfold stepQ
 split
 ·rename_i e
  intro p hp
  simp at hp; subst hp
  left
  rcases h with h | ⟨h, -⟩
  ·have h1 := congrArg (fun x : St => x.2.1) h
   simp only at e h1
   rw [e, h1]
  ·simp only [Prod.mk.injEq] at h
   simp only at e
   rw [e, h.1]
 ·rename_i e
  simp only at e
  rcases h with h | ⟨h, h1, h2, h3⟩
  ·exact absurd (congrArg (fun x : St => x.1) h) e
  ·simp only at h h1 h2 h3
   intro p hp
   unfold eitQ at hp
   rcases o_qp hp with hp | rfl
   ·rcases o_qp hp with hp | rfl
    ·cases hp
    ·exact .inr ⟨h, by simp only; omega, by simp only; omega, by simp only; omega⟩
   ·exact .inr ⟨h, h1, by simp only; omega, h3⟩
theorem o_t0 {top : Nat} {c : Nat → Rat} {s : St} (hs : okQ top s) : ∀ i, kyQ (reach top s.1 i) (ofQ (stepQ top c) s i)
 | 0 => fun p hp => by
  simp [ofQ] at hp; subst hp
  obtain ⟨a, b, f⟩ := s
  obtain ⟨h1, h2, h3⟩ := hs
  simp only at h1 h2 h3
  subst h2
  cases f with
  | false => exact .inr ⟨rfl, Nat.le_refl _, Nat.le_refl _, h1⟩
  | true => left; rw [h3 rfl]
 | i + 1 => o_sy (fun t ht => o_sz ht) (o_t0 hs i)
theorem o_t1 {top k i : Nat} {l : Sp} (hu : Uq l) (h : kyQ (reach top k i) l) : l.length ≤ i + 2 := by
 have h1 : (l.map (·.1)).length ≤ ((top, 0, true) :: (List.range (i + 1)).map fun j => (k + j, 0, false) : List St).length := by
  refine List.Nodup.length_le_of_subset hu fun t ht => ?_
  obtain ⟨p, hp, rfl⟩ := List.mem_map.1 ht
  rcases h p hp with e | ⟨e, e1, e2, -⟩
  ·rw [e]; simp
  ·refine List.mem_cons_of_mem _ (List.mem_map.2 ⟨p.1.1 - k, List.mem_range.2 (by omega), ?_⟩)
   rw [show k + (p.1.1 - k) = p.1.1 by omega, ← e]
 simpa using h1
theorem o_t2 {top : Nat} {c : Nat → Rat} (s : St) (n : Nat) : nzQ (ofQ (stepQ top c) s n) ≠ [] := by
 intro h
 have h2 := o_qx (top := top) (c := c) s n
 have h3 := o_q4 (fun _ => (1 : Rat)) (ofQ (stepQ top c) s n)
 rw [show (ofQ (stepQ top c) s n).filter (fun p => decide (p.2 ≠ 0)) = nzQ (ofQ (stepQ top c) s n) from rfl, h] at h3
 rw [h2] at h3
 exact absurd h3 (by decide)
theorem o_t3 {G top : Nat} {c : Nat → Rat} (h0 : ∀ k, k < top → 0 ≤ c k) (h1 : ∀ k, k < top → c k ≤ 1) (hc : ∀ x, x < top → Gr G 1 (c x)) {s : St} (hs : okQ top s) : ∀ n, n ≤ 9 → ∀ p ∈ ofQ (stepQ top c) s n, Gr (G ^ n) (24 ^ n) p.2
 | 0, _ => fun p hp => by
  simp [ofQ] at hp; subst hp
  exact Gr.one _
 | n + 1, hn => by
  have ih := o_t3 h0 h1 hc hs n (by omega)
  have hl := o_t1 (o_qm _ s n) (o_t0 (c := c) hs n)
  have hA : (atQ (ofQ (stepQ top c) s n)).length ≤ 12 := Nat.le_trans (o_sn _) (by omega)
  have hm : ∀ p ∈ atQ (ofQ (stepQ top c) s n), p ∈ ofQ (stepQ top c) s n := fun p hp => (List.mem_filter.1 ((o_qa _).mem_iff.1 hp)).1
  have := o_sj (D := G ^ n) (E := G) (B := 24 ^ n) (J := 2) (next := stepQ top c) (A := atQ (ofQ (stepQ top c) s n)) (fun p hp => ih p (hm p hp)) (fun p hp => ⟨o_so hc p.1 (o_qw h0 h1 hs n p (hm p hp)).1.1, Nat.le_trans (o_sn _) (o_sm _ _ _)⟩) _ (Nat.le_refl _)
  rw [o_sg] at this
  intro p hp
  rw [Nat.pow_succ]
  refine (this p hp).le ?_
  rw [Nat.pow_succ, Nat.mul_comm (24 ^ n) 24]
  exact Nat.mul_le_mul_right _ (by omega)
theorem o_t4 (a : Nat) (h : size a ≤ 1) : ∀ n, size (a ^ n) ≤ n + 1
 | 0 => Nat.le_trans (by decide : size 1 ≤ 1) (by omega)
 | n + 1 => by
  rw [Nat.pow_succ]
  have := o_m0 (a ^ n) a
  have := o_t4 a h n
  omega
theorem o_t5 {G n : Nat} (hG : G ≤ 2 ^ 63) (hn : n ≤ 9) : size (24 * 24 ^ n * (G ^ n * G)) ≤ 100000 ∧ size (24 ^ n * G ^ n) ≤ 100000 := by
 have h1 : size G ≤ 1 := o_k8 (Nat.lt_of_le_of_lt hG (by decide))
 have h2 : size 24 ≤ 1 := o_k8 (by decide)
 have a1 := o_t4 24 h2 n
 have a2 := o_t4 G h1 n
 have a3 := o_m0 (24 * 24 ^ n) (G ^ n * G)
 have a4 := o_m0 24 (24 ^ n)
 have a5 := o_m0 (G ^ n) G
 have a6 := o_m0 (24 ^ n) (G ^ n)
 omega
theorem o_t6 {k a w : Nat} (h : GoodS k a w) : (∀ x, x < topC w → 0 ≤ chP k a x) ∧ (∀ x, x < topC w → chP k a x ≤ 1) := by
 have h15 : topC w ≤ 15 := by have := Nat.pow_le_pow_right (n := 2) (by omega) h.2.2; unfold topC; omega
 obtain ⟨G, hG, -, hc⟩ := o_sd h
 have hp : (0 : Rat) < (G : Rat) := by exact_mod_cast hG
 refine ⟨fun x hx => ?_, fun x hx => ?_⟩
 ·obtain ⟨z, h1, h2⟩ := hc x (by omega)
  apply Classical.byContradiction
  intro hn
  have hz : (0 : Rat) ≤ (z : Rat) := by exact_mod_cast Nat.zero_le z
  have := Rat.mul_lt_mul_of_pos_right (Rat.not_le.1 hn) hp
  grind
 ·obtain ⟨z, h1, h2⟩ := hc x (by omega)
  apply Classical.byContradiction
  intro hn
  have hz : (z : Rat) ≤ (G : Rat) := by exact_mod_cast (by omega : z ≤ G)
  have := Rat.mul_lt_mul_of_pos_right (Rat.not_le.1 hn) hp
  grind
end
end Go.Proofs.YtmpjlkclkhnpfaaGreatDoor.Am
namespace Go.Proofs.YtmpjlkclkhnpfaaGreatDoor.Am
section
open Go.RowKit
def dstQ (k a w : Nat) (s : St) (n : Nat) : Sp := ofQ (stepQ (topC w) (chP k a)) s n
set_option maxHeartbeats 4000000 in
theorem o_t7 {k a w : Nat} (h : GoodS k a w) (s : St) (hw : WellR k a w s.1 s.2.1 s.2.2) (hs : okQ (topC w) s) (n : Nat) (hn : n ≤ 8) : Eqn Tryz.prog o_7j [.d (parD k a w), .d (.agg (stD s)), .d (.int .i64 n)] [] (.tup [.d (.sl (atQ (dstQ k a w s n)).length (spD rcD (atQ (dstQ k a w s n)))), .d (.int .i64 0)]) [] := by
 refine Eqn.pure o_7l Plain.ok ?_
 have hk4 : k ≠ 4 := by have := h.1; omega
 have w4 := h.2.2
 have hg : GoodR k a w := .inr ⟨hk4, o_p0 h⟩
 have h15 : topC w ≤ 15 := by have := Nat.pow_le_pow_right (n := 2) (by omega) h.2.2; unfold topC; omega
 have hwr := o_su hg s hw
 have hst := o_sv (a := a) hk4 (show w ≤ 10 by omega)
 have hsu := o_r7 s
 obtain ⟨c0, c1⟩ := o_t6 h
 obtain ⟨G, hG, hG63, hc⟩ := o_sd h
 have h16 : 2 ^ w ≤ 16 := Nat.pow_le_pow_right (n := 2) (by omega) w4
 have hti : ∀ i, i ≤ 7 → Eqn Tryz.prog o_9v [.mp 0, .fn (.func o_9y) [.p 1 0]] [spO (dstQ k a w s i), PO k a w] (.mp 2) [spO (dstQ k a w s i), PO k a w, spO (dstQ k a w s (i + 1))] := fun i hi => by
  have hl := o_t1 (o_qm _ s i) (o_t0 (c := chP k a) hs i)
  exact o_sq h (dstQ k a w s i) G (G ^ i) (24 ^ i) (o_qm _ s i) (o_qw c0 c1 hs i) (o_t2 s i) (Nat.le_trans (List.length_filter_le _ _) (Nat.le_trans hl (by omega))) (Nat.le_trans hl (by omega)) (Nat.pow_pos hG) (Nat.pow_pos (by decide)) (o_t3 c0 c1 (fun x hx => hc x (by omega)) hs i (by omega)) hG hc (o_t5 hG63 (by omega)).1
 have hat : Eqn Tryz.prog o_a4 [.mp 0] [spO (dstQ k a w s n)] (.d (.sl (atQ (dstQ k a w s n)).length (spD rcD (atQ (dstQ k a w s n))))) [spO (dstQ k a w s n)] := by
  have hl := o_t1 (o_qm _ s n) (o_t0 (c := chP k a) hs n)
  exact o_sb _ (o_qm _ s n) (o_t2 s n) (Nat.le_trans (List.length_filter_le _ _) (Nat.le_trans hl (by omega))) (Nat.le_trans hl (by omega)) (fun p hp => (o_t3 c0 c1 (fun x hx => hc x (by omega)) hs n (by omega) p hp).rs (Nat.pow_pos hG) (Nat.pow_pos (by decide)) (o_t5 hG63 (by omega)).2)
 have hd0 : dstQ k a w s 0 = [(s, 1)] := rfl
 rw [← hd0] at hsu
 have e1 : IntKind.i64.wrap ((n : Int) + 1) = ((n + 1 : Nat) : Int) := by rw [w64 (by omega) (by omega)]; omega
 obtain ⟨W, hW⟩ : ∃ W, W = 2 ^ w := ⟨_, rfl⟩
 rw [← hW] at hst h16
 have hmul : (n + 1) * W ≤ 9 * 16 := Nat.mul_le_mul (by omega) h16
 have e2 : IntKind.i64.wrap (((n + 1 : Nat) : Int) * (W : Int)) = (((n + 1) * W : Nat) : Int) := by rw [← Int.natCast_mul]; exact w64 (by omega) (by omega)
 obtain ⟨M, hM⟩ : ∃ M, M = (n + 1) * W := ⟨_, rfl⟩
 rw [← hM] at e2 hmul
 obtain ⟨n1, hn1⟩ : ∃ n1, n1 = n + 1 := ⟨_, rfl⟩
 rw [← hn1] at e1 e2
 have g1 : ¬ (n : Int) < 0 := by omega
 have g2 : ¬ (64 : Int) < n := by omega
 have g3 : ¬ (512 : Int) < M := by omega
 have g4 : ¬ 512 < M := by omega
 have g5 : ¬ 64 < n := by omega
 generalize hA : atQ (dstQ k a w s n) = A at *
 simp only [o_7k, stD, parD, spO, PO] at hwr hst hsu hti hat ⊢
 refine A00 ?_; try with_reducible exact tt
 refine CallS.pf 2 3 ⟨78, [.d (.int .i64 s.1), .d (.int .i64 s.2.1), .d (.bool s.2.2)]⟩ [.int .i64 s.1, .int .i64 s.2.1, .bool s.2.2] (hwr) (by first | rfl | (simp [g1, g2, g5]; done)) (R1 (fs g1 (fs g2 g5)) ?_); try with_reducible exact tt
 refine A10 (fs g1 (fs g2 (fs g5 e1))) ?_; try with_reducible exact tt
 refine CallS.pu (hst) (R1 (fs e2 (fs g3 g4)) ?_); try with_reducible exact tt
 refine A10 (fs e2 (fs g3 g4)) ?_; try with_reducible exact tt
 refine CallS.nX (hsu) (R0 ?_); try with_reducible exact tt
 refine AW.loopG (α := Nat) (fun i => setS (List.replicate 43 .junk) [(3, .p 0 0), (9, .mp 3), (34, .d (.int .i64 n)), (35, .d (.int .i64 (i : Nat)))]) (fun i => [some ⟨73, [.d (.int .i64 k), .d (.int .i64 a), .d (.int .i64 w)]⟩, none, none, some ⟨1000391, (spD rcD (dstQ k a w s i)).map .d⟩]) (fun i => i ≤ n) (fun i => n - i) 0 ?_ (Nat.zero_le _) ?_ ?_ ?_
 ·intro i hi; simp
 ·simp
 ·simp
 rintro i hi
 simp
 by_cases hi2 : i < n
 ·have hi3 : (i : Int) < n := by omega
  have ew : IntKind.i64.wrap ((i : Int) + 1) = ((i + 1 : Nat) : Int) := by rw [w64 (by omega) (by omega)]; omega
  have ht := hti i (by omega)
  refine A10 (fs hi2 hi3) ?_; try with_reducible exact tt
  refine CallS.g [3, 0] (ht) (R1 ew ?_); try with_reducible exact tt
  refine A10 ew ?_; try with_reducible exact tt
  refine ⟨i + 1, 3, 4, by omega, by omega, by omega, ?_, ?_⟩
  ·simp [swT, swH, sw, Ob.sw, V.ren, V.rens]
  ·simp [swT, swH, sw, Ob.sw, V.ren, V.rens]
 ·have h2 : i = n := by omega
  subst h2
  refine A00 ?_; try with_reducible exact tt
  refine CallS.g [3] (hat) (R0 ?_); try with_reducible exact tt
  done
end
end Go.Proofs.YtmpjlkclkhnpfaaGreatDoor.Am
namespace Go.Proofs.YtmpjlkclkhnpfaaGreatDoor.Am
section
open Go.RowKit
structure NextOK (next : St → Sp) (G : Nat) (s : St) : Prop where
 uq : Uq (next s)
 nz : nzQ (next s) ≠ []
 len : (next s).length ≤ 2
 gr : ∀ p ∈ next s, Gr G 1 p.2
set_option maxHeartbeats 4000000 in
theorem o_t8 {f : FuncId} {next : St → Sp} {T1 : TypeId} {x0 x1 x2 : D} (ho1 : T1 < 1000000) (P : St → Prop) (l : Sp) (G D B : Nat) (hu : Uq l) (hok : ∀ p ∈ nzQ l, P p.1) (hnz : nzQ l ≠ []) (h12 : (nzQ l).length ≤ 12) (hl : l.length ≤ 1000000) (hD : 0 < D) (hB : 1 ≤ B) (hgl : ∀ p ∈ l, Gr D B p.2) (hG : 0 < G) (hf : ∀ s : St, P s → NextOK next G s ∧ Eqn Tryz.prog f [.d (.agg (stD s)), .p 0 0] [⟨T1, [.d x0, .d x1, .d x2]⟩] (.mp 1) [⟨T1, [.d x0, .d x1, .d x2]⟩, spO (next s)]) (hsz : size (24 * B * (D * G)) ≤ 100000) :
  Eqn Tryz.prog o_9v [.mp 0, .fn (.func f) [.p 1 0]] [spO l, ⟨T1, [.d x0, .d x1, .d x2]⟩] (.mp 2) [spO l, ⟨T1, [.d x0, .d x1, .d x2]⟩, spO (timesQ next l)] := by
 refine Eqn.gen [0, 1, 2] o_9x (by simp) (by simp) (by rfl) (by decide) (by simp) (by simp [spO, ho1]) ?_
 obtain ⟨A, hA⟩ : ∃ A, A = atQ l := ⟨_, rfl⟩
 have hAl : A.length ≤ 12 := by rw [hA, (o_qa l).length_eq]; exact h12
 have hA0 : 1 ≤ A.length := by
  rw [hA, (o_qa l).length_eq]
  rcases Nat.eq_zero_or_pos (nzQ l).length with e | e
  ·exact absurd (List.eq_nil_of_length_eq_zero e) hnz
  ·exact e
 have hAm : ∀ p ∈ A, p ∈ l := fun p hp => (List.mem_filter.1 ((o_qa l).mem_iff.1 (hA ▸ hp))).1
 have hAz : ∀ p ∈ A, p ∈ nzQ l := fun p hp => (o_qa l).mem_iff.1 (hA ▸ hp)
 have hDG : 0 < D * G := Nat.mul_pos hD hG
 have hBD : size (B * D) ≤ 100000 := by
  refine Nat.le_trans (o_ij ?_) hsz
  calc B * D = B * D * 1 := (Nat.mul_one _).symm
   _ ≤ B * D * (24 * G) := Nat.mul_le_mul_left _ (by omega)
   _ = 24 * B * (D * G) := by simp [Nat.mul_comm, Nat.mul_left_comm, Nat.mul_assoc]
 have hat := o_sb l hu hnz h12 hl (fun p hp => (hgl p hp).rs hD hB hBD)
 have hGs : size (1 * G) ≤ 100000 := by
  refine Nat.le_trans (o_ij ?_) hsz
  calc 1 * G ≤ (24 * B * D) * G := Nat.mul_le_mul_right _ (Nat.mul_pos (by omega) hD)
   _ = 24 * B * (D * G) := by rw [Nat.mul_assoc]
 have hgn : ∀ s : St, P s → ∀ p ∈ next s, Gr G 1 p.2 := fun s hs => (hf s hs).1.gr
 have hnl : ∀ s : St, P s → (atQ (next s)).length ≤ 2 := fun s hs => Nat.le_trans (o_sn _) (hf s hs).1.len
 have hout := o_sj (D := D) (E := G) (B := B) (J := 2) (next := next) (A := A) (fun p hp => hgl p (hAm p hp)) (fun p hp => ⟨hgn p.1 (hok p (hAz p hp)), hnl p.1 (hok p (hAz p hp))⟩)
 have hon := o_sf next A
 have hoa : outQ next A A.length = timesQ next l := by rw [hA]; exact o_sg next l
 have hADl := o_pt rcD (fun _ => rfl) A
 have hget := o_sp A
 rw [← hoa]
 rw [← hA] at hat
 have hcl : ∀ s : St, P s → Eqn Tryz.prog f [.d (.agg (stD s)), .p 0 0] [⟨T1, [.d x0, .d x1, .d x2]⟩] (.mp 1) [⟨T1, [.d x0, .d x1, .d x2]⟩, spO (next s)] ∧ Eqn Tryz.prog o_a4 [.mp 0] [spO (next s)] (.d (.sl (atQ (next s)).length (spD rcD (atQ (next s))))) [spO (next s)] := fun s hs => by
  obtain ⟨hn, hh⟩ := hf s hs
  refine ⟨hh, o_sb _ hn.uq hn.nz ?_ ?_ fun p hp => (hgn s hs p hp).rs hG (Nat.le_refl _) hGs⟩
  ·exact Nat.le_trans (List.length_filter_le _ _) (Nat.le_trans hn.len (by omega))
  ·exact Nat.le_trans hn.len (by omega)
 have hAok : ∀ p ∈ A, P p.1 := fun p hp => hok p (hAz p hp)
 clear hA hoa hnz hf
 simp only [o_9w, spO] at hat hcl ⊢
 generalize hLl : spD rcD l = LL at *
 refine A00 ?_; try with_reducible exact tt
 refine CallS.g [0] (hat) (R0 ?_); try with_reducible exact tt
 refine AW.loopG (α := Nat) (fun i => setS (List.replicate 40 .junk) [(1, .fn (.func f) [.p 1 0]), (5, .mp 2), (12, .d (.sl A.length (spD rcD A))), (13, .d (.int .i64 A.length)), (14, .d (.int .i64 (i : Nat)))]) (fun i => [some ⟨1000391, LL.map .d⟩, some ⟨T1, [.d x0, .d x1, .d x2]⟩, some ⟨1000391, (spD rcD (outQ next A i)).map .d⟩]) (fun i => i ≤ A.length) (fun i => A.length - i) 0 ?_ (Nat.zero_le _) ?_ ?_ ?_
 ·intro i hi; simp
 ·simp
 ·simp [outQ, spD]
 rintro i hi
 simp
 by_cases hi2 : i < A.length
 ·have hi3 : (i : Int) < A.length := by omega
  obtain ⟨s1, s2, s3, q, N1, N2, N3, hp, hN, hg⟩ := hget i hi2
  have hsk := hAok _ (List.getElem_mem hi2)
  rw [hp] at hsk
  obtain ⟨hof, han⟩ := hcl (s1, s2, s3) hsk
  have hgq : Gr D B q := by have := hgl _ (hAm _ (List.getElem_mem hi2)); rw [hp] at this; exact this
  have hon1 := hon i hi2
  rw [hp] at hon1
  simp only at hon1
  have hgo := hout i hi
  have hn2 := hnl (s1, s2, s3) hsk
  have hgn2 := hgn (s1, s2, s3) hsk
  obtain ⟨C, hC⟩ : ∃ C, C = atQ (next (s1, s2, s3)) := ⟨_, rfl⟩
  have hCm : ∀ p ∈ C, Gr G 1 p.2 := fun p hp => hgn2 p (List.mem_filter.1 ((o_qa _).mem_iff.1 (hC ▸ hp))).1
  rw [← hC] at hon1 han hn2
  have hCl := o_pt rcD (fun _ => rfl) C
  have hgetC := o_sp C
  have ewi : IntKind.i64.wrap ((i : Int) + 1) = ((i + 1 : Nat) : Int) := by rw [w64 (by omega) (by omega)]; omega
  simp only [stD] at hof han
  generalize hNL : spD rcD (next (s1, s2, s3)) = NL at *
  have hb6 : i * 6 + 6 ≤ A.length * 6 := by omega
  have hb7 : i * 6 < A.length * 6 := by omega
  refine A10 (fs hi2 (fs hi3 (fs hg (fs hADl (fs hb6 hb7))))) ?_; try with_reducible exact tt
  refine CallS.g [1] (hof) (R0 ?_); try with_reducible exact tt
  refine CallS.g [4] (han) (R0 ?_); try with_reducible exact tt
  refine AW.loopG (α := Nat) (fun j => setS (List.replicate 40 .junk) [(1, .fn (.func f) [.p 1 0]), (5, .mp 2), (7, .p 3 0), (12, .d (.sl A.length (spD rcD A))), (13, .d (.int .i64 A.length)), (14, .d (.int .i64 (i : Nat))), (22, .d (.sl C.length (spD rcD C))), (23, .d (.int .i64 C.length)), (24, .d (.int .i64 (j : Nat)))]) (fun j => [some ⟨1000391, LL.map .d⟩, some ⟨T1, [.d x0, .d x1, .d x2]⟩, some ⟨1000391, (spD rcD (innQ q (outQ next A i) (C.take j))).map .d⟩, some ⟨91, [.d (.int .i64 s1), .d (.int .i64 s2), .d (.bool s3), .d N1, .d N2, .d N3]⟩]) (fun j => j ≤ C.length) (fun j => C.length - j) 0 ?_ (Nat.zero_le _) ?_ ?_ ?_
  ·intro j hj; simp
  ·simp
  ·simp [innQ]
  rintro j hj
  simp
  by_cases hj2 : j < C.length
  ·have hj3 : (j : Int) < C.length := by omega
   obtain ⟨t1, t2, t3, r, M1, M2, M3, hpc, hM, hgc⟩ := hgetC j hj2
   have hinn := o_se q (outQ next A i) C j hj2
   have hgr := hCm _ (List.getElem_mem hj2)
   rw [hpc] at hinn hgr
   simp only at hinn hgr
   have hqr := hgq.mul hgr
   have hgi := o_si (q := q) (B := B) hgo (C.take j) (fun p hp => by
    have := hgq.mul (hCm p (List.mem_of_mem_take hp))
    rwa [Nat.mul_one] at this)
   have hget2 := (o_sh hgi (t1, t2, t3)).le (C := 24 * B) (by
    have e1 : (C.take j).length ≤ 2 := by rw [List.length_take]; omega
    have e2 := Nat.mul_le_mul_right B e1
    have e3 : i * 2 * B ≤ 22 * B := Nat.mul_le_mul_right _ (by omega)
    omega)
   have hq1 := hgq.rs hD hB hBD
   have hr1 := hgr.rs hG (Nat.le_refl _) hGs
   have hmul := o_me q r hq1 hr1
   have hadd := o_r3 (innQ q (outQ next A i) (C.take j)) (t1, t2, t3) (q * r) (hget2.rs hDG (by omega) hsz) ((hqr.le (C := 24 * B) (by omega)).rs hDG (by omega) hsz)
   have ewj : IntKind.i64.wrap ((j : Int) + 1) = ((j + 1 : Nat) : Int) := by rw [w64 (by omega) (by omega)]; omega
   have hc6 : j * 6 + 6 ≤ C.length * 6 := by omega
   have hc7 : j * 6 < C.length * 6 := by omega
   rw [← hinn] at hadd
   rw [o_r0 q, o_r0 r, o_r0 (q * r), hN, hM] at hmul
   rw [o_r0 (q * r)] at hadd
   obtain ⟨P1, P2, P3, hP⟩ : ∃ P1 P2 P3, rcD (q * r) = [P1, P2, P3] := ⟨_, _, _, rfl⟩
   rw [hP] at hmul hadd
   simp only [spO, stD] at hadd
   refine A10 (fs hj2 (fs hj3 (fs hgc (fs hCl (fs hc6 hc7))))) ?_; try with_reducible exact tt
   refine CallS.pu (hmul) (R0 ?_); try with_reducible exact tt
   refine CallS.g [2] (hadd) (R0 ?_); try with_reducible exact tt
   refine A10 ewj ?_; try with_reducible exact tt
   refine ⟨j + 1, 2, 2, ⟨by omega, by omega, by omega, by omega⟩, by omega, by omega, ?_, ?_⟩
   ·simp [swT, swH, sw, Ob.sw, V.ren, V.rens]
   ·simp [swT, swH, sw, Ob.sw, V.ren, V.rens]
  ·have h2 : j = C.length := by omega
   subst h2
   rw [List.take_length, ← hon1]
   refine A00 ?_; try with_reducible exact tt
   refine A10 ewi ?_; try with_reducible exact tt
   refine ⟨i + 1, 2, 2, ⟨by omega, by omega, by omega, by omega⟩, by omega, by omega, ?_, ?_⟩
   ·simp [swT, swH, sw, Ob.sw, V.ren, V.rens]
   ·simp [swT, swH, sw, Ob.sw, V.ren, V.rens]
 ·have h2 : i = A.length := by omega
  subst h2
  refine A00 ?_; try with_reducible exact tt
set_option maxHeartbeats 4000000 in
theorem o_t9 {f : FuncId} {next : St → Sp} {T1 T2 : TypeId} {x0 x1 x2 y0 y1 y2 : D} (ho1 : T1 < 1000000) (ho2 : T2 < 1000000) (P : St → Prop) (l : Sp) (G D B : Nat) (hu : Uq l) (hok : ∀ p ∈ nzQ l, P p.1) (hnz : nzQ l ≠ []) (h12 : (nzQ l).length ≤ 12) (hl : l.length ≤ 1000000) (hD : 0 < D) (hB : 1 ≤ B) (hgl : ∀ p ∈ l, Gr D B p.2) (hG : 0 < G) (hf : ∀ s : St, P s → NextOK next G s ∧ Eqn Tryz.prog f [.d (.agg (stD s)), .p 0 0, .p 1 0] [⟨T1, [.d x0, .d x1, .d x2]⟩, ⟨T2, [.d y0, .d y1, .d y2]⟩] (.mp 2) [⟨T1, [.d x0, .d x1, .d x2]⟩, ⟨T2, [.d y0, .d y1, .d y2]⟩, spO (next s)]) (hsz : size (24 * B * (D * G)) ≤ 100000) :
  Eqn Tryz.prog o_9v [.mp 0, .fn (.func f) [.p 1 0, .p 2 0]] [spO l, ⟨T1, [.d x0, .d x1, .d x2]⟩, ⟨T2, [.d y0, .d y1, .d y2]⟩] (.mp 3) [spO l, ⟨T1, [.d x0, .d x1, .d x2]⟩, ⟨T2, [.d y0, .d y1, .d y2]⟩, spO (timesQ next l)] := by
 refine Eqn.gen [0, 1, 2, 3] o_9x (by simp) (by simp) (by rfl) (by decide) (by simp) (by simp [spO, ho1, ho2]) ?_
 obtain ⟨A, hA⟩ : ∃ A, A = atQ l := ⟨_, rfl⟩
 have hAl : A.length ≤ 12 := by rw [hA, (o_qa l).length_eq]; exact h12
 have hA0 : 1 ≤ A.length := by
  rw [hA, (o_qa l).length_eq]
  rcases Nat.eq_zero_or_pos (nzQ l).length with e | e
  ·exact absurd (List.eq_nil_of_length_eq_zero e) hnz
  ·exact e
 have hAm : ∀ p ∈ A, p ∈ l := fun p hp => (List.mem_filter.1 ((o_qa l).mem_iff.1 (hA ▸ hp))).1
 have hAz : ∀ p ∈ A, p ∈ nzQ l := fun p hp => (o_qa l).mem_iff.1 (hA ▸ hp)
 have hDG : 0 < D * G := Nat.mul_pos hD hG
 have hBD : size (B * D) ≤ 100000 := by
  refine Nat.le_trans (o_ij ?_) hsz
  calc B * D = B * D * 1 := (Nat.mul_one _).symm
   _ ≤ B * D * (24 * G) := Nat.mul_le_mul_left _ (by omega)
   _ = 24 * B * (D * G) := by simp [Nat.mul_comm, Nat.mul_left_comm, Nat.mul_assoc]
 have hat := o_sb l hu hnz h12 hl (fun p hp => (hgl p hp).rs hD hB hBD)
 have hGs : size (1 * G) ≤ 100000 := by
  refine Nat.le_trans (o_ij ?_) hsz
  calc 1 * G ≤ (24 * B * D) * G := Nat.mul_le_mul_right _ (Nat.mul_pos (by omega) hD)
   _ = 24 * B * (D * G) := by rw [Nat.mul_assoc]
 have hgn : ∀ s : St, P s → ∀ p ∈ next s, Gr G 1 p.2 := fun s hs => (hf s hs).1.gr
 have hnl : ∀ s : St, P s → (atQ (next s)).length ≤ 2 := fun s hs => Nat.le_trans (o_sn _) (hf s hs).1.len
 have hout := o_sj (D := D) (E := G) (B := B) (J := 2) (next := next) (A := A) (fun p hp => hgl p (hAm p hp)) (fun p hp => ⟨hgn p.1 (hok p (hAz p hp)), hnl p.1 (hok p (hAz p hp))⟩)
 have hon := o_sf next A
 have hoa : outQ next A A.length = timesQ next l := by rw [hA]; exact o_sg next l
 have hADl := o_pt rcD (fun _ => rfl) A
 have hget := o_sp A
 rw [← hoa]
 rw [← hA] at hat
 have hcl : ∀ s : St, P s → Eqn Tryz.prog f [.d (.agg (stD s)), .p 0 0, .p 1 0] [⟨T1, [.d x0, .d x1, .d x2]⟩, ⟨T2, [.d y0, .d y1, .d y2]⟩] (.mp 2) [⟨T1, [.d x0, .d x1, .d x2]⟩, ⟨T2, [.d y0, .d y1, .d y2]⟩, spO (next s)] ∧ Eqn Tryz.prog o_a4 [.mp 0] [spO (next s)] (.d (.sl (atQ (next s)).length (spD rcD (atQ (next s))))) [spO (next s)] := fun s hs => by
  obtain ⟨hn, hh⟩ := hf s hs
  refine ⟨hh, o_sb _ hn.uq hn.nz ?_ ?_ fun p hp => (hgn s hs p hp).rs hG (Nat.le_refl _) hGs⟩
  ·exact Nat.le_trans (List.length_filter_le _ _) (Nat.le_trans hn.len (by omega))
  ·exact Nat.le_trans hn.len (by omega)
 have hAok : ∀ p ∈ A, P p.1 := fun p hp => hok p (hAz p hp)
 clear hA hoa hnz hf
 simp only [o_9w, spO] at hat hcl ⊢
 generalize hLl : spD rcD l = LL at *
 refine A00 ?_; try with_reducible exact tt
 refine CallS.g [0] (hat) (R0 ?_); try with_reducible exact tt
 refine AW.loopG (α := Nat) (fun i => setS (List.replicate 40 .junk) [(1, .fn (.func f) [.p 1 0, .p 2 0]), (5, .mp 3), (12, .d (.sl A.length (spD rcD A))), (13, .d (.int .i64 A.length)), (14, .d (.int .i64 (i : Nat)))]) (fun i => [some ⟨1000391, LL.map .d⟩, some ⟨T1, [.d x0, .d x1, .d x2]⟩, some ⟨T2, [.d y0, .d y1, .d y2]⟩, some ⟨1000391, (spD rcD (outQ next A i)).map .d⟩]) (fun i => i ≤ A.length) (fun i => A.length - i) 0 ?_ (Nat.zero_le _) ?_ ?_ ?_
 ·intro i hi; simp
 ·simp
 ·simp [outQ, spD]
 rintro i hi
 simp
 by_cases hi2 : i < A.length
 ·have hi3 : (i : Int) < A.length := by omega
  obtain ⟨s1, s2, s3, q, N1, N2, N3, hp, hN, hg⟩ := hget i hi2
  have hsk := hAok _ (List.getElem_mem hi2)
  rw [hp] at hsk
  obtain ⟨hof, han⟩ := hcl (s1, s2, s3) hsk
  have hgq : Gr D B q := by have := hgl _ (hAm _ (List.getElem_mem hi2)); rw [hp] at this; exact this
  have hon1 := hon i hi2
  rw [hp] at hon1
  simp only at hon1
  have hgo := hout i hi
  have hn2 := hnl (s1, s2, s3) hsk
  have hgn2 := hgn (s1, s2, s3) hsk
  obtain ⟨C, hC⟩ : ∃ C, C = atQ (next (s1, s2, s3)) := ⟨_, rfl⟩
  have hCm : ∀ p ∈ C, Gr G 1 p.2 := fun p hp => hgn2 p (List.mem_filter.1 ((o_qa _).mem_iff.1 (hC ▸ hp))).1
  rw [← hC] at hon1 han hn2
  have hCl := o_pt rcD (fun _ => rfl) C
  have hgetC := o_sp C
  have ewi : IntKind.i64.wrap ((i : Int) + 1) = ((i + 1 : Nat) : Int) := by rw [w64 (by omega) (by omega)]; omega
  simp only [stD] at hof han
  generalize hNL : spD rcD (next (s1, s2, s3)) = NL at *
  have hb6 : i * 6 + 6 ≤ A.length * 6 := by omega
  have hb7 : i * 6 < A.length * 6 := by omega
  refine A10 (fs hi2 (fs hi3 (fs hg (fs hADl (fs hb6 hb7))))) ?_; try with_reducible exact tt
  refine CallS.g [1, 2] (hof) (R0 ?_); try with_reducible exact tt
  refine CallS.g [5] (han) (R0 ?_); try with_reducible exact tt
  refine AW.loopG (α := Nat) (fun j => setS (List.replicate 40 .junk) [(1, .fn (.func f) [.p 1 0, .p 2 0]), (5, .mp 3), (7, .p 4 0), (12, .d (.sl A.length (spD rcD A))), (13, .d (.int .i64 A.length)), (14, .d (.int .i64 (i : Nat))), (22, .d (.sl C.length (spD rcD C))), (23, .d (.int .i64 C.length)), (24, .d (.int .i64 (j : Nat)))]) (fun j => [some ⟨1000391, LL.map .d⟩, some ⟨T1, [.d x0, .d x1, .d x2]⟩, some ⟨T2, [.d y0, .d y1, .d y2]⟩, some ⟨1000391, (spD rcD (innQ q (outQ next A i) (C.take j))).map .d⟩, some ⟨91, [.d (.int .i64 s1), .d (.int .i64 s2), .d (.bool s3), .d N1, .d N2, .d N3]⟩]) (fun j => j ≤ C.length) (fun j => C.length - j) 0 ?_ (Nat.zero_le _) ?_ ?_ ?_
  ·intro j hj; simp
  ·simp
  ·simp [innQ]
  rintro j hj
  simp
  by_cases hj2 : j < C.length
  ·have hj3 : (j : Int) < C.length := by omega
   obtain ⟨t1, t2, t3, r, M1, M2, M3, hpc, hM, hgc⟩ := hgetC j hj2
   have hinn := o_se q (outQ next A i) C j hj2
   have hgr := hCm _ (List.getElem_mem hj2)
   rw [hpc] at hinn hgr
   simp only at hinn hgr
   have hqr := hgq.mul hgr
   have hgi := o_si (q := q) (B := B) hgo (C.take j) (fun p hp => by
    have := hgq.mul (hCm p (List.mem_of_mem_take hp))
    rwa [Nat.mul_one] at this)
   have hget2 := (o_sh hgi (t1, t2, t3)).le (C := 24 * B) (by
    have e1 : (C.take j).length ≤ 2 := by rw [List.length_take]; omega
    have e2 := Nat.mul_le_mul_right B e1
    have e3 : i * 2 * B ≤ 22 * B := Nat.mul_le_mul_right _ (by omega)
    omega)
   have hq1 := hgq.rs hD hB hBD
   have hr1 := hgr.rs hG (Nat.le_refl _) hGs
   have hmul := o_me q r hq1 hr1
   have hadd := o_r3 (innQ q (outQ next A i) (C.take j)) (t1, t2, t3) (q * r) (hget2.rs hDG (by omega) hsz) ((hqr.le (C := 24 * B) (by omega)).rs hDG (by omega) hsz)
   have ewj : IntKind.i64.wrap ((j : Int) + 1) = ((j + 1 : Nat) : Int) := by rw [w64 (by omega) (by omega)]; omega
   have hc6 : j * 6 + 6 ≤ C.length * 6 := by omega
   have hc7 : j * 6 < C.length * 6 := by omega
   rw [← hinn] at hadd
   rw [o_r0 q, o_r0 r, o_r0 (q * r), hN, hM] at hmul
   rw [o_r0 (q * r)] at hadd
   obtain ⟨P1, P2, P3, hP⟩ : ∃ P1 P2 P3, rcD (q * r) = [P1, P2, P3] := ⟨_, _, _, rfl⟩
   rw [hP] at hmul hadd
   simp only [spO, stD] at hadd
   refine A10 (fs hj2 (fs hj3 (fs hgc (fs hCl (fs hc6 hc7))))) ?_; try with_reducible exact tt
   refine CallS.pu (hmul) (R0 ?_); try with_reducible exact tt
   refine CallS.g [3] (hadd) (R0 ?_); try with_reducible exact tt
   refine A10 ewj ?_; try with_reducible exact tt
   refine ⟨j + 1, 3, 3, ⟨by omega, by omega, by omega, by omega⟩, by omega, by omega, ?_, ?_⟩
   ·simp [swT, swH, sw, Ob.sw, V.ren, V.rens]
   ·simp [swT, swH, sw, Ob.sw, V.ren, V.rens]
  ·have h2 : j = C.length := by omega
   subst h2
   rw [List.take_length, ← hon1]
   refine A00 ?_; try with_reducible exact tt
   refine A10 ewi ?_; try with_reducible exact tt
   refine ⟨i + 1, 3, 3, ⟨by omega, by omega, by omega, by omega⟩, by omega, by omega, ?_, ?_⟩
   ·simp [swT, swH, sw, Ob.sw, V.ren, V.rens]
   ·simp [swT, swH, sw, Ob.sw, V.ren, V.rens]
 ·have h2 : i = A.length := by omega
  subst h2
  refine A00 ?_; try with_reducible exact tt
end
end Go.Proofs.YtmpjlkclkhnpfaaGreatDoor.Am
namespace Go.Proofs.YtmpjlkclkhnpfaaGreatDoor.Am
section
open Go.RowKit
theorem o_ta (n : Nat) : wD (n : Int) = .agg [natW n, .bool false] := by
 unfold wD
 rw [Int.natAbs_natCast]
 congr 4
theorem o_tb (p q : Nat) (h0 : 0 < q) (hp : size p ≤ 900000) (hq : size q ≤ 900000) : Eqn Tryz.prog o_8j [.d (.agg [natW p, .bool false]), .d (.agg [natW q, .bool false])] [] (.tup [.d (rD (mkRat p q)), .d (.int .i64 0)]) [] := by
 refine Eqn.pure o_8l Plain.ok ?_
 have ha := o_ka q false
 have hp1 := o_ka p false
 have hn1 := o_kb p false
 have hn2 := o_kb q false
 have hz := o_i0 q
 have hq0 : (q == 0) = false := by simp; omega
 rw [hq0] at hz
 have h4 := o_m4 false p (p : Int) rfl
 have h5 := o_mb (p : Int) q h0 (by rw [Int.natAbs_natCast]; exact hp) hq
 rw [o_ta] at h4 h5
 simp only [o_8k, rD] at h5 ⊢
 refine G0 ?_; try with_reducible exact tt
 refine CallS.pu (ha) (R0 ?_); try with_reducible exact tt
 refine CallS.pu (hz) (R0 ?_); try with_reducible exact tt
 refine AW.cond rfl (fun h => ?_) (fun h => ?_)
 ·simp at h
 refine G0 ?_; try with_reducible exact tt
 refine CallS.pu (hn1) (R0 ?_); try with_reducible exact tt
 refine CallS.pu (hn2) (R0 ?_); try with_reducible exact tt
 refine CallS.pu (hp1) (R0 ?_); try with_reducible exact tt
 refine CallS.pu (h4) (R0 ?_); try with_reducible exact tt
 refine CallS.pu (ha) (R0 ?_); try with_reducible exact tt
 refine CallS.pu (h5) (R0 ?_); try with_reducible exact tt
theorem o_tc (x y : Rat) (hx : RS x 100000) (hy : RS y 100000) (hx0 : 0 ≤ x.num) (hy0 : 0 < y.num) : Eqn Tryz.prog o_6v [.d (rD x), .d (rD y)] [] (.tup [.d (rD (x / y)), .d (.int .i64 0)]) [] := by
 refine Eqn.pure o_6x Plain.ok ?_
 have x1 := hx.1; have x2 := hx.2; have y1 := hy.1; have y2 := hy.2
 obtain ⟨u, hu⟩ : ∃ u : Nat, x.num = (u : Int) := ⟨x.num.natAbs, by omega⟩
 obtain ⟨v, hv⟩ : ∃ v : Nat, y.num = (v : Int) := ⟨y.num.natAbs, by omega⟩
 have hu2 : x.num.natAbs = u := by omega
 have hv2 : y.num.natAbs = v := by omega
 have h1 := o_m7 x.num y.den (by omega) (by rw [Int.natAbs_natCast]; omega)
 have h2 := o_m7 y.num x.den (by omega) (by rw [Int.natAbs_natCast]; omega)
 have h3 := o_md x (by omega)
 have h4 := o_md y (by omega)
 rw [hu2] at x1; rw [hv2] at y1
 have s1 := o_m0 u y.den
 have s2 := o_m0 v x.den
 have h5 := o_tb (u * y.den) (v * x.den) (Nat.mul_pos (by omega) x.den_pos) (by omega) (by omega)
 have e : mkRat ((u * y.den : Nat) : Int) (v * x.den) = x / y := by
  have hd := o_sc x.den_pos
  have hd2 := o_sc y.den_pos
  have hv0 : (v : Rat) ≠ 0 := o_sc (by omega)
  have ex : x = (u : Rat) / (x.den : Rat) := by
   have h := Rat.mkRat_self x
   rw [Rat.mkRat_eq_div, hu] at h
   exact h.symm
  have ey : y = (v : Rat) / (y.den : Rat) := by
   have h := Rat.mkRat_self y
   rw [Rat.mkRat_eq_div, hv] at h
   exact h.symm
  rw [Rat.mkRat_eq_div]
  have k1 : (((u * y.den : Nat) : Int) : Rat) = (u : Rat) * (y.den : Rat) := by push_cast; rfl
  have k2 : ((v * x.den : Nat) : Rat) = (v : Rat) * (x.den : Rat) := by simp
  rw [k1, k2]
  generalize hxd : (x.den : Rat) = xd at *
  generalize hyd : (y.den : Rat) = yd at *
  generalize (u : Rat) = uu at *
  generalize (v : Rat) = vv at *
  rw [ex, ey]
  grind
 rw [e] at h5
 rw [hu] at h1; rw [hv] at h2
 rw [← Int.natCast_mul, o_ta, o_ta, o_ta] at h1 h2
 rw [o_ta] at h3 h4
 simp only [o_6w, rD, hu2, hv2, hu, hv] at h1 h2 h3 h4 h5 ⊢
 refine G0 ?_; try with_reducible exact tt
 refine CallS.pu (h4) (R0 ?_); try with_reducible exact tt
 refine CallS.pu (h1) (R0 ?_); try with_reducible exact tt
 refine CallS.pu (h3) (R0 ?_); try with_reducible exact tt
 refine CallS.pu (h2) (R0 ?_); try with_reducible exact tt
 refine CallS.pu (h5) (R0 ?_); try with_reducible exact tt
end
end Go.Proofs.YtmpjlkclkhnpfaaGreatDoor.Am
namespace Go.Proofs.YtmpjlkclkhnpfaaGreatDoor.Am
section
open Go.RowKit
theorem o_td : ∀ a, a < 3 → ∀ x, x < 15 → (placeY a x).shift ≤ (placeY a (x + 1)).shift := by decide
theorem o_te {k a w r x : Nat} (h : GoodS k a w) (hk : k ≠ 1) (hr : r ≤ x) (hx : x ≤ 15) : expOf k a r ≤ expOf k a x := by
 unfold expOf
 split
 ·exact Nat.div_le_div_right hr
 ·have ha : a < 3 := by have := h.1; omega
  have key : ∀ d, r + d ≤ 15 → (placeY a r).shift ≤ (placeY a (r + d)).shift := by
   intro d
   induction d with
   | zero => intro _; exact Nat.le_refl _
   | succ d ih => intro hd; exact Nat.le_trans (ih (by omega)) (o_td a ha (r + d) (by omega))
  have := key (x - r) (by omega)
  rwa [show r + (x - r) = x by omega] at this
theorem o_tf (e : Nat) : mkRat 1 (2 ^ e) * ((2 ^ e : Nat) : Rat) = 1 := by
 rw [Rat.mkRat_eq_div]
 have := Rat.div_mul_cancel (a := ((1 : Int) : Rat)) (o_sc (Nat.two_pow_pos e))
 simpa using this
theorem o_tg {e : Nat} (he : e ≤ 63) : Gr (2 ^ 63) 1 (mkRat 1 (2 ^ e)) := by
 refine ⟨2 ^ (63 - e), ?_, by rw [Nat.one_mul]; exact Nat.pow_le_pow_right (by decide) (by omega)⟩
 have e1 := o_tf e
 have e2 : ((2 ^ 63 : Nat) : Rat) = ((2 ^ e : Nat) : Rat) * ((2 ^ (63 - e) : Nat) : Rat) := by
  have : 2 ^ 63 = 2 ^ e * 2 ^ (63 - e) := by rw [← Nat.pow_add]; congr 1; omega
  rw [this]; simp
 rw [e2, ← Rat.mul_assoc, e1]; grind
theorem o_th {e f : Nat} (h : f ≤ e) : mkRat 1 (2 ^ e) / mkRat 1 (2 ^ f) = mkRat 1 (2 ^ (e - f)) := by
 have h1 := o_tf e
 have h2 := o_tf f
 have h3 := o_tf (e - f)
 have h4 : ((2 ^ e : Nat) : Rat) = ((2 ^ f : Nat) : Rat) * ((2 ^ (e - f) : Nat) : Rat) := by
  have : 2 ^ e = 2 ^ f * 2 ^ (e - f) := by rw [← Nat.pow_add]; congr 1; omega
  rw [this]; simp
 rw [h4] at h1
 generalize mkRat 1 (2 ^ e) = x at *
 generalize mkRat 1 (2 ^ f) = y at *
 generalize mkRat 1 (2 ^ (e - f)) = z at *
 generalize ((2 ^ f : Nat) : Rat) = u at *
 generalize ((2 ^ (e - f) : Nat) : Rat) = v at *
 have hy : y ≠ 0 := by intro hy; subst hy; simp at h2
 have : x = z * y := by grind
 rw [this]
 exact Rat.mul_div_cancel hy
theorem o_ti {a : Nat} (ha : 1 ≤ a) (n : Nat) : chM a n ≠ 0 := by
 unfold chM
 have h : mkRat (a : Int) (a + 1) ≠ 0 := by
  rw [Rat.mkRat_eq_div]
  have h1 : ((a : Int) : Rat) ≠ 0 := o_sc (by omega : 0 < a)
  have h2 := o_sc (by omega : 0 < a + 1)
  intro e
  have := Rat.div_mul_cancel (a := ((a : Int) : Rat)) h2
  rw [e] at this
  simp at this
  exact h1 (by simpa using this.symm)
 induction n with
 | zero => simp
 | succ n ih =>
  rw [Rat.pow_succ]
  intro e
  rcases Rat.mul_eq_zero.1 e with e | e
  ·exact ih e
  ·exact h e
theorem o_tj (q : Rat) (m : Nat) : ∀ n, q ^ (m + n) = q ^ m * q ^ n
 | 0 => by simp
 | n + 1 => by rw [← Nat.add_assoc, Rat.pow_succ, Rat.pow_succ, o_tj q m n, Rat.mul_assoc]
theorem o_tk {a : Nat} (ha : 1 ≤ a) {r x : Nat} (hr : r ≤ x) : chM a x / chM a r = chM a (x - r) := by
 have h := o_ti ha r
 have e : chM a x = chM a (x - r) * chM a r := by
  unfold chM
  rw [← o_tj, show x - r + r = x by omega]
 rw [e]
 exact Rat.mul_div_cancel h
theorem gs_a {k a w : Nat} (h : GoodS k a w) (hk : k = 1) : 1 ≤ a ∧ a ≤ 4 := by
 rcases h.1 with ⟨-, h1, h2⟩ | ⟨h1, -⟩ | ⟨h1, -⟩
 ·exact ⟨h1, h2⟩
 ·omega
 ·omega
theorem o_tl {k a w x : Nat} (h : GoodS k a w) (hx : x ≤ 15) : chP k a x ≠ 0 := by
 unfold chP
 split
 ·rename_i hk
  exact o_ti (gs_a h hk).1 x
 ·intro e
  have := o_tf (expOf k a x)
  rw [e] at this
  simp at this
def ratC (k a r x : Nat) : Rat := if r ≤ x then chP k a x / chP k a r else 0
theorem o_tm {k a w : Nat} (h : GoodS k a w) : ∃ G : Nat, 0 < G ∧ G ≤ 2 ^ 63 ∧ (∀ x, x ≤ 15 → Gr G 1 (chP k a x)) ∧ ∀ r x, x ≤ 15 → Gr G 1 (ratC k a r x) := by
 by_cases hk : k = 1
 ·obtain ⟨G, h1, h2, h3⟩ := o_sd h
  refine ⟨G, h1, h2, h3, fun r x hx => ?_⟩
  unfold ratC
  split
  ·rename_i hr
   have := h3 (x - r) (by omega)
   subst hk
   rw [chP, if_pos rfl] at this ⊢
   rw [chP, if_pos rfl, o_tk (gs_a h rfl).1 hr]
   exact this
  ·exact Gr.zero _ _
 ·refine ⟨2 ^ 63, by decide, Nat.le_refl _, fun x hx => ?_, fun r x hx => ?_⟩
  ·rw [chP, if_neg hk]
   have := o_ot h hk hx
   exact o_tg (by omega)
  ·unfold ratC
   split
   ·rename_i hr
    rw [chP, if_neg hk, chP, if_neg hk, o_th (o_te h hk hr hx)]
    have := o_ot h hk hx
    exact o_tg (by omega)
   ·exact Gr.zero _ _
theorem o_tn {G : Nat} (hG : 0 < G) {q : Rat} (h : Gr G 1 q) : 0 ≤ q ∧ q ≤ 1 := by
 have hp : (0 : Rat) < (G : Rat) := by exact_mod_cast hG
 obtain ⟨z, h1, h2⟩ := h
 refine ⟨?_, ?_⟩
 ·apply Classical.byContradiction
  intro hn
  have hz : (0 : Rat) ≤ (z : Rat) := by exact_mod_cast Nat.zero_le z
  have := Rat.mul_lt_mul_of_pos_right (Rat.not_le.1 hn) hp
  grind
 ·apply Classical.byContradiction
  intro hn
  have hz : (z : Rat) ≤ (G : Rat) := by exact_mod_cast (by omega : z ≤ G)
  have := Rat.mul_lt_mul_of_pos_right (Rat.not_le.1 hn) hp
  grind
theorem o_to {k a w r x : Nat} (h : GoodS k a w) (hx : x ≤ 15) : RS (ratC k a r x) 1000 := by
 obtain ⟨G, h1, h2, -, h3⟩ := o_tm h
 exact (h3 r x hx).rs h1 (Nat.le_refl _) (Nat.le_trans (o_k8 (Nat.lt_of_le_of_lt (by omega) (by decide : 2 ^ 63 < 2 ^ 64))) (by omega))
end
end Go.Proofs.YtmpjlkclkhnpfaaGreatDoor.Am
namespace Go.Proofs.YtmpjlkclkhnpfaaGreatDoor.Am
section
open Go.RowKit
def RO (q : Rat) : Ob := ⟨29, [.d (natW q.num.natAbs), .d (.bool (decide (q.num < 0))), .d (natW (q.den - 1))]⟩
def SO (s : St) : Ob := ⟨78, [.d (.int .i64 s.1), .d (.int .i64 s.2.1), .d (.bool s.2.2)]⟩
theorem o_tp {G : Nat} (hG : 0 < G) {q : Rat} (h : Gr G 1 q) : 0 ≤ q.num := by
 have := (o_tn hG h).1
 exact Rat.num_nonneg.2 this
theorem o_tq {k a w : Nat} (h : GoodS k a w) (s : St) (hs : s.1 ≤ topC w) (r : Nat) (hr : r ≤ s.1) (hrt : r < topC w) : Eqn Tryz.prog o_ed [.d (.agg (stD s)), .p 0 0, .p 1 0] [PO k a w, RO (chP k a r)] (.mp 2) [PO k a w, RO (chP k a r), spO (stepQ (topC w) (ratC k a r) s)] := by
 have h15 : topC w ≤ 15 := by have := Nat.pow_le_pow_right (n := 2) (by omega) h.2.2; unfold topC; omega
 have hl := o_re k a w
 obtain ⟨G, hG, hG63, hc1, hc2⟩ := o_tm h
 have hGs : size (1 * G) ≤ 1000 := Nat.le_trans (o_k8 (Nat.lt_of_le_of_lt (by omega) (by decide : 2 ^ 63 < 2 ^ 64))) (by omega)
 have hrs := o_to (r := r) (x := s.1) h (by omega)
 have hst : stepQ (topC w) (ratC k a r) s = onQ w s (ratC k a r s.1) := rfl
 rw [hst]
 have hrc : ratC k a r s.1 = chP k a s.1 / chP k a r := by unfold ratC; rw [if_pos hr]
 have hy0 : 0 < (chP k a r).num := by
  have h1 := o_tp hG (hc1 r (by omega))
  have h2 : (chP k a r).num ≠ 0 := fun e => o_tl h (x := r) (by omega) (Rat.num_eq_zero.1 e)
  omega
 have key : ∃ x0 x1 x2 : D, Sub1 (.d (.agg [x0, x1, x2])) (.d (rD (if s.1 = topC w then 0 else chP k a s.1))) ∧ Eqn Tryz.prog o_cp [.d (parD k a w), .d (.int .i64 s.1)] [] (.tup [.d (.agg [x0, x1, x2]), .d (.int .i64 0)]) [] := by
  by_cases e : s.1 = topC w
  ·refine ⟨_, _, _, by rw [if_pos e]; exact o_r1, ?_⟩
   have := o_rd h
   rw [show 2 ^ w - 1 = s.1 from e.symm] at this
   exact this
  ·refine ⟨_, _, _, by rw [if_neg e]; exact Sub1.refl _, o_rc h (by unfold topC at *; omega)⟩
 obtain ⟨x0, x1, x2, hX, hch⟩ := key
 have key2 : ∃ q : Rat, RS q 1000 ∧ onQ w s q = onQ w s (ratC k a r s.1) ∧ Eqn Tryz.prog o_6v [.d (.agg [x0, x1, x2]), .d (rD (chP k a r))] [] (.tup [.d (rD q), .d (.int .i64 0)]) [] := by
  have hyr := ((hc1 r (by omega)).rs hG (Nat.le_refl _) hGs).le (show 1000 ≤ 100000 by omega)
  by_cases e : s.1 = topC w
  ·rw [if_pos e] at hX
   refine ⟨0, ⟨by decide, by decide⟩, by unfold onQ; rw [if_pos e, if_pos e], ?_⟩
   have := o_tc 0 (chP k a r) ⟨by decide, by decide⟩ hyr (by decide) hy0
   rw [show (0 : Rat) / chP k a r = 0 by grind] at this
   exact this.sub (Subs.cons hX (Subs.refl _))
  ·rw [if_neg e] at hX
   refine ⟨ratC k a r s.1, hrs, rfl, ?_⟩
   have := o_tc (chP k a s.1) (chP k a r) (((hc1 s.1 (by omega)).rs hG (Nat.le_refl _) hGs).le (by omega)) hyr (o_tp hG (hc1 s.1 (by omega))) hy0
   rw [← hrc] at this
   exact this.sub (Subs.cons hX (Subs.refl _))
 obtain ⟨q, hq, hqo, hdv⟩ := key2
 have hon := o_rt h s hs q hq (rD q) (Sub1.refl _) ⟨_, _, _, rfl⟩
 rw [hqo] at hon
 refine Eqn.gen [0, 1, 5] o_ef (by simp) (by simp) (by rfl) (by decide) (by simp) (by simp [spO, PO, RO]) ?_
 simp only [o_ee, spO, stD, parD, PO, RO, rD] at hl hch hdv hon ⊢
 generalize spD rcD _ = L at *
 generalize natW (chP k a r).num.natAbs = Y0 at *
 generalize natW ((chP k a r).den - 1) = Y2 at *
 generalize decide ((chP k a r).num < 0) = Y1 at *
 generalize natW q.num.natAbs = Z0 at *
 generalize natW (q.den - 1) = Z2 at *
 generalize decide (q.num < 0) = Z1 at *
 refine A00 ?_; try with_reducible exact tt
 refine CallS.pu (hl) (R0 ?_); try with_reducible exact tt
 refine CallS.pu (hch) (R0 ?_); try with_reducible exact tt
 refine A00 ?_; try with_reducible exact tt
 refine CallS.pu (hdv) (R0 ?_); try with_reducible exact tt
 refine A00 ?_; try with_reducible exact tt
 refine CallS.nX (hon) (R0 ?_); try with_reducible exact tt
theorem o_tr (s o : St) : Eqn Tryz.prog o_eg [.d (.agg (stD s)), .p 0 0] [SO o] (.mp 1) [SO o, spO [((s.1, s.2.1, s.2.2 || o.2.2), 1)]] := by
 have hsu := o_r7 (s.1, s.2.1, s.2.2 || o.2.2)
 refine Eqn.gen [0, 2] o_ei (by simp) (by simp) (by rfl) (by decide) (by simp) (by simp [spO, SO]) ?_
 obtain ⟨s1, s2, s3⟩ := s
 obtain ⟨o1, o2, o3⟩ := o
 simp only [o_eh, spO, stD, SO] at hsu ⊢
 generalize spD rcD _ = L at *
 cases s3
 ·simp only [Bool.false_or] at hsu
  refine A00 ?_; try with_reducible exact tt
  refine CallS.nX (hsu) (R0 ?_); try with_reducible exact tt
 ·simp only [Bool.true_or] at hsu
  refine A00 ?_; try with_reducible exact tt
  refine CallS.nX (hsu) (R0 ?_); try with_reducible exact tt
end
end Go.Proofs.YtmpjlkclkhnpfaaGreatDoor.Am
namespace Go.Proofs.YtmpjlkclkhnpfaaGreatDoor.Am
section
open Go.RowKit
theorem o_ts {P P' : St → Prop} {next : St → Sp} (hn : ∀ s, P s → kyQ P' (nzQ (next s))) {l : Sp} (h : kyQ P l) : kyQ P' (timesQ next l) := by
 have key : ∀ (k out : Sp), kyQ P' out → kyQ P k → kyQ P' (k.foldl (fun out a => innQ a.2 out (atQ (next a.1))) out) := by
  intro k
  induction k with
  | nil => intro out h _; exact h
  | cons a k ih =>
   intro out ho hk
   refine ih _ (o_sw ho fun p hp => hn _ (hk a (by simp)) p ((o_qa _).mem_iff.1 hp)) fun p hp => hk p (by simp [hp])
 exact key _ _ (fun p hp => by cases hp) (o_sx h)
def clQ (top k a : Nat) (s : St) : Nat → Sp
 | 0 => [(s, 1)]
 | r + 1 => timesQ (stepQ top (ratC k a r)) (clQ top k a s r)
def fullQ (f : Bool) (s : St) : Sp := [((s.1, s.2.1, s.2.2 || f), 1)]
def mgQ (top k a : Nat) (s o : St) : Sp := timesQ (fullQ o.2.2) (clQ top k a s o.1)
theorem o_tt {top k a : Nat} (s : St) : ∀ r, Uq (clQ top k a s r)
 | 0 => by simp [clQ, Uq]
 | r + 1 => o_qk _ _
theorem o_tu {top k a : Nat} (s : St) : ∀ r, exQ (fun _ => 1) (clQ top k a s r) = 1
 | 0 => by simp only [clQ, exQ]; grind
 | r + 1 => by
  show exQ (fun _ => 1) (timesQ _ (clQ top k a s r)) = 1
  rw [o_ql]
  have : (fun t => exQ (fun _ => (1 : Rat)) (stepQ top (ratC k a r) t)) = fun _ => 1 := by
   funext t
   rw [(o_qo (fun _ => 1) top _ t).2]
   split
   ·rfl
   ·grind
  rw [this, o_tu s r]
theorem o_tv {top k a : Nat} (s : St) (r : Nat) : nzQ (clQ top k a s r) ≠ [] := by
 intro h
 have h2 := o_tu (top := top) (k := k) (a := a) s r
 have h3 := o_q4 (fun _ => (1 : Rat)) (clQ top k a s r)
 rw [show (clQ top k a s r).filter (fun p => decide (p.2 ≠ 0)) = nzQ (clQ top k a s r) from rfl, h] at h3
 rw [h2] at h3
 exact absurd h3 (by decide)
theorem o_tw {top k a : Nat} {s : St} (hs : okQ top s) : ∀ r, kyQ (reach top s.1 r) (clQ top k a s r)
 | 0 => fun p hp => by
  simp [clQ] at hp; subst hp
  obtain ⟨a, b, f⟩ := s
  obtain ⟨h1, h2, h3⟩ := hs
  simp only at h1 h2 h3
  subst h2
  cases f with
  | false => exact .inr ⟨rfl, Nat.le_refl _, Nat.le_refl _, h1⟩
  | true => left; rw [h3 rfl]
 | r + 1 => o_sy (fun t ht => o_sz ht) (o_tw hs r)
theorem o_tx {k a w : Nat} (h : GoodS k a w) (r : Nat) : (∀ x, x < topC w → 0 ≤ ratC k a r x) ∧ (∀ x, x < topC w → ratC k a r x ≤ 1) := by
 have h15 : topC w ≤ 15 := by have := Nat.pow_le_pow_right (n := 2) (by omega) h.2.2; unfold topC; omega
 obtain ⟨G, hG, -, -, hc⟩ := o_tm h
 exact ⟨fun x hx => (o_tn hG (hc r x (by omega))).1, fun x hx => (o_tn hG (hc r x (by omega))).2⟩
theorem o_ty {k a w : Nat} (h : GoodS k a w) {s : St} (hs : okQ (topC w) s) : ∀ r, oklQ (topC w) (clQ (topC w) k a s r)
 | 0 => fun p hp => by
  simp [clQ] at hp; subst hp
  exact ⟨hs, (by decide : (0 : Rat) ≤ 1)⟩
 | r + 1 => o_qu (fun s hs => o_qv (o_tx h r).1 (o_tx h r).2 hs) (o_ty h hs r)
theorem o_tz {k a w : Nat} (h : GoodS k a w) {s : St} (hs : okQ (topC w) s) : ∀ r, r ≤ topC w → kyQ (fun t => okQ (topC w) t ∧ r ≤ t.1) (clQ (topC w) k a s r)
 | 0, _ => fun p hp => by
  simp [clQ] at hp; subst hp
  exact ⟨hs, Nat.zero_le _⟩
 | r + 1, hr => by
  have h15 : topC w ≤ 15 := by have := Nat.pow_le_pow_right (n := 2) (by omega) h.2.2; unfold topC; omega
  refine o_ts (P := fun t => okQ (topC w) t ∧ r ≤ t.1) (fun t ht p hp => ?_) (o_tz h hs r (by omega))
  have hp1 : p ∈ stepQ (topC w) (ratC k a r) t := (List.mem_filter.1 hp).1
  have hp2 : p.2 ≠ 0 := by have := (List.mem_filter.1 hp).2; simpa using this
  refine ⟨(o_qv (o_tx h r).1 (o_tx h r).2 ht.1 p hp1).1, ?_⟩
  obtain ⟨u1, u2⟩ := ht
  rcases Nat.lt_or_ge r t.1 with hlt | hge
  ·unfold stepQ at hp1
   split at hp1
   ·simp at hp1; subst hp1; exact hlt
   ·unfold eitQ at hp1
    rcases o_qp hp1 with hp1 | rfl
    ·rcases o_qp hp1 with hp1 | rfl
     ·cases hp1
     ·show r + 1 ≤ t.1 + 1; omega
    ·exact hlt
  ·have e : t.1 = r := by omega
   have hne : ¬ t.1 = topC w := by omega
   have hc1 : ratC k a r t.1 = 1 := by
    unfold ratC
    rw [e, if_pos (Nat.le_refl _)]
    have := o_tl h (x := r) (by omega)
    grind
   unfold stepQ at hp1
   rw [if_neg hne, hc1] at hp1
   have hne2 : ¬ (t.1 + 1, t.2) = t := fun he => by have := congrArg (fun x : St => x.1) he; simp at this
   have e2 : eitQ 1 (t.1 + 1, t.2) t = [((t.1 + 1, t.2), 1), (t, 0)] := by
    unfold eitQ addQ
    have hne3 : ¬ t = (t.1 + 1, t.2) := fun e => hne2 e.symm
    have z1 : (0 : Rat) + 1 = 1 := Rat.zero_add 1
    have z2 : (0 : Rat) + (1 - 1) = 0 := by grind
    simp only [setQ, getQ, if_neg hne3, z1, z2]
   rw [e2] at hp1
   rcases List.mem_cons.1 hp1 with rfl | hp1
   ·show r + 1 ≤ t.1 + 1; omega
   ·rcases List.mem_cons.1 hp1 with rfl | hp1
    ·exact absurd rfl hp2
    ·cases hp1
theorem o_u0 {k a w G : Nat} (h : GoodS k a w) (hc : ∀ r x, x ≤ 15 → Gr G 1 (ratC k a r x)) {s : St} (hs : okQ (topC w) s) : ∀ r, r ≤ 9 → ∀ p ∈ clQ (topC w) k a s r, Gr (G ^ r) (24 ^ r) p.2
 | 0, _ => fun p hp => by
  simp [clQ] at hp; subst hp
  exact Gr.one _
 | r + 1, hn => by
  have h15 : topC w ≤ 15 := by have := Nat.pow_le_pow_right (n := 2) (by omega) h.2.2; unfold topC; omega
  have ih := o_u0 h hc hs r (by omega)
  have hl := o_t1 (o_tt s r) (o_tw (k := k) (a := a) hs r)
  have hA : (atQ (clQ (topC w) k a s r)).length ≤ 12 := Nat.le_trans (o_sn _) (by omega)
  have hm : ∀ p ∈ atQ (clQ (topC w) k a s r), p ∈ clQ (topC w) k a s r := fun p hp => (List.mem_filter.1 ((o_qa _).mem_iff.1 hp)).1
  have := o_sj (D := G ^ r) (E := G) (B := 24 ^ r) (J := 2) (next := stepQ (topC w) (ratC k a r)) (A := atQ (clQ (topC w) k a s r)) (fun p hp => ih p (hm p hp)) (fun p hp => ⟨o_so (fun x hx => hc r x (by omega)) p.1 (o_ty h hs r p (hm p hp)).1.1, Nat.le_trans (o_sn _) (o_sm _ _ _)⟩) _ (Nat.le_refl _)
  rw [o_sg] at this
  intro p hp
  rw [Nat.pow_succ]
  refine (this p hp).le ?_
  rw [Nat.pow_succ, Nat.mul_comm (24 ^ r) 24]
  exact Nat.mul_le_mul_right _ (by omega)
end
end Go.Proofs.YtmpjlkclkhnpfaaGreatDoor.Am
namespace Go.Proofs.YtmpjlkclkhnpfaaGreatDoor.Am
section
open Go.RowKit
def SQ (top : Nat) (c g : Nat → Rat) (k : Nat) : Rat := if k = top then g top else c k * g (k + 1) + (1 - c k) * g k
def SnQ (top : Nat) (c : Nat → Rat) : Nat → (Nat → Rat) → Nat → Rat
 | 0, g => g
 | n + 1, g => SnQ top c n (SQ top c g)
def WQ (top k a : Nat) : Nat → (Nat → Rat) → Nat → Rat
 | 0, g => g
 | b + 1, g => WQ top k a b (SQ top (ratC k a b) g)
def plQ (g : Nat → Rat) (s : St) : Rat := g s.1
theorem o_u1 (top : Nat) (c g : Nat → Rat) (s : St) : exQ (plQ g) (stepQ top c s) = plQ (SQ top c g) s := by
 rw [(o_qo (plQ g) top c s).2]
 unfold plQ SQ
 split
 ·rename_i e; rw [e]
 ·rfl
theorem o_u2 (top : Nat) (c g : Nat → Rat) (l : Sp) : exQ (plQ g) (timesQ (stepQ top c) l) = exQ (plQ (SQ top c g)) l := by
 rw [o_ql]
 congr 1
 funext s
 exact o_u1 top c g s
theorem o_u3 (top : Nat) (c : Nat → Rat) (s : St) : ∀ (n : Nat) (g : Nat → Rat), exQ (plQ g) (ofQ (stepQ top c) s n) = SnQ top c n g s.1
 | 0, g => by simp only [ofQ, exQ, SnQ, plQ]; grind
 | n + 1, g => by
  show exQ (plQ g) (timesQ (stepQ top c) (ofQ (stepQ top c) s n)) = _
  rw [o_u2, o_u3 top c s n]; rfl
theorem o_u4 (top : Nat) (c : Nat → Rat) : ∀ (n m : Nat) (g : Nat → Rat), SnQ top c n (SnQ top c m g) = SnQ top c (m + n) g
 | n, 0, g => by rw [Nat.zero_add]; rfl
 | n, m + 1, g => by
  show SnQ top c n (SnQ top c m (SQ top c g)) = _
  rw [o_u4 top c n m, show m + 1 + n = m + n + 1 by omega]; rfl
theorem o_u5 (top k a : Nat) (s : St) : ∀ (b : Nat) (g : Nat → Rat), exQ (plQ g) (clQ top k a s b) = WQ top k a b g s.1
 | 0, g => by simp only [clQ, exQ, WQ, plQ]; grind
 | b + 1, g => by
  show exQ (plQ g) (timesQ _ (clQ top k a s b)) = _
  rw [o_u2, o_u5 top k a s b]; rfl
theorem o_u6 (top k a : Nat) (s o : St) (g : Nat → Rat) : exQ (plQ g) (mgQ top k a s o) = WQ top k a o.1 g s.1 := by
 unfold mgQ
 rw [o_ql, ← o_u5]
 congr 1
 funext t
 unfold fullQ plQ
 simp only [exQ]; grind
theorem o_u7 (top : Nat) (c g g' : Nat → Rat) (u v : Rat) : SQ top c (fun k => u * g k + v * g' k) = fun k => u * SQ top c g k + v * SQ top c g' k := by
 funext k
 unfold SQ
 split
 ·rfl
 ·grind
theorem o_u8 (top k a : Nat) (u v : Rat) : ∀ (b : Nat) (g g' : Nat → Rat), WQ top k a b (fun x => u * g x + v * g' x) = fun x => u * WQ top k a b g x + v * WQ top k a b g' x
 | 0, g, g' => rfl
 | b + 1, g, g' => by
  show WQ top k a b (SQ top (ratC k a b) (fun x => u * g x + v * g' x)) = _
  rw [o_u7, o_u8 top k a u v b]; rfl
theorem o_u9 {k a w b : Nat} (h : GoodS k a w) (hb : b ≤ 15) : ratC k a b b = 1 := by
 unfold ratC
 rw [if_pos (Nat.le_refl _)]
 have := o_tl h hb
 grind
theorem o_ua {k a w : Nat} (h : GoodS k a w) : ∀ (b : Nat) (g g' : Nat → Rat), b ≤ topC w → (∀ x, b ≤ x → x ≤ topC w → g x = g' x) → ∀ x, x ≤ topC w → WQ (topC w) k a b g x = WQ (topC w) k a b g' x
 | 0, g, g', _, hg, x, hx => hg x (Nat.zero_le _) hx
 | b + 1, g, g', hb, hg, x, hx => by
  have h15 : topC w ≤ 15 := by have := Nat.pow_le_pow_right (n := 2) (by omega) h.2.2; unfold topC; omega
  refine o_ua h b _ _ (by omega) (fun y h1 h2 => ?_) x hx
  unfold SQ
  split
  ·exact hg _ hb (Nat.le_refl _)
  ·rename_i hne
   rw [hg (y + 1) (by omega) (by omega)]
   rcases Nat.lt_or_ge b y with h3 | h3
   ·rw [hg y h3 h2]
   ·have : y = b := by omega
    subst this
    rw [o_u9 h (by omega)]
    grind
theorem o_ub {k a w : Nat} (h : GoodS k a w) (g : Nat → Rat) (x : Nat) (hx : x ≤ topC w) (b : Nat) (hb : b ≤ topC w) : SQ (topC w) (chP k a) (fun b => WQ (topC w) k a b g x) b = WQ (topC w) k a b (SQ (topC w) (chP k a) g) x := by
 have h15 : topC w ≤ 15 := by have := Nat.pow_le_pow_right (n := 2) (by omega) h.2.2; unfold topC; omega
 by_cases e : b = topC w
 ·have hs : SQ (topC w) (chP k a) (fun b => WQ (topC w) k a b g x) b = WQ (topC w) k a b g x := by
   unfold SQ
   rw [if_pos e]
   exact congrArg (fun z => WQ (topC w) k a z g x) e.symm
  rw [hs]
  refine o_ua h b _ _ hb (fun y h1 h2 => ?_) x hx
  have : y = topC w := by omega
  unfold SQ
  rw [if_pos this, this]
 ·have hs : SQ (topC w) (chP k a) (fun b => WQ (topC w) k a b g x) b = chP k a b * WQ (topC w) k a b (SQ (topC w) (ratC k a b) g) x + (1 - chP k a b) * WQ (topC w) k a b g x := by
   show (if b = topC w then _ else _) = _
   rw [if_neg e]; rfl
  rw [hs]
  have hl := congrFun (o_u8 (topC w) k a (chP k a b) (1 - chP k a b) b (SQ (topC w) (ratC k a b) g) g) x
  rw [← hl]
  refine o_ua h b _ _ hb (fun y h1 h2 => ?_) x hx
  show chP k a b * SQ (topC w) (ratC k a b) g y + (1 - chP k a b) * g y = SQ (topC w) (chP k a) g y
  have hne := o_tl h (x := b) (by omega)
  unfold SQ
  split
  ·rename_i hy; rw [hy]; grind
  ·have : ratC k a b y = chP k a y / chP k a b := by unfold ratC; rw [if_pos h1]
   rw [this]
   have h5 : chP k a b * (chP k a y / chP k a b) = chP k a y := by grind
   grind
theorem o_uc {top : Nat} {g h : St → Rat} (hgh : ∀ s, s.1 ≤ top → g s = h s) : ∀ {l : Sp}, (∀ p ∈ l, p.1.1 ≤ top) → exQ g l = exQ h l
 | [], _ => rfl
 | p :: l, hl => by
  simp only [exQ]
  rw [hgh p.1 (hl p (by simp)), o_uc hgh (l := l) fun q hq => hl q (by simp [hq])]
theorem of_w {k a w : Nat} (h : GoodS k a w) (x : Nat) (hx : x ≤ topC w) : ∀ (m : Nat) (g : Nat → Rat), exQ (fun s => WQ (topC w) k a s.1 g x) (ofQ (stepQ (topC w) (chP k a)) (0, 0, false) m) = SnQ (topC w) (chP k a) m g x
 | 0, g => by simp only [ofQ, exQ, SnQ, WQ]; grind
 | m + 1, g => by
  obtain ⟨c0, c1⟩ := o_t6 h
  have hok := o_qw c0 c1 (s := (0, 0, false)) ⟨Nat.zero_le _, rfl, fun h => by cases h⟩ m
  show exQ (plQ (fun b => WQ (topC w) k a b g x)) (timesQ _ (ofQ (stepQ (topC w) (chP k a)) (0, 0, false) m)) = _
  rw [o_u2]
  show exQ (fun s : St => SQ (topC w) (chP k a) (fun b => WQ (topC w) k a b g x) s.1) _ = _
  rw [o_uc (top := topC w) (h := fun s => WQ (topC w) k a s.1 (SQ (topC w) (chP k a) g) x) (fun s hs => o_ub h g x hx s.1 hs) (fun p hp => (hok p hp).1.1)]
  rw [of_w h x hx m]; rfl
def mrgdQ (top k a : Nat) (A B : Sp) : Sp := A.foldl (fun out x => B.foldl (fun out y => innQ (x.2 * y.2) out (atQ (mgQ top k a x.1 y.1))) out) []
theorem o_ud (g : St → Rat) (top k a : Nat) (x : St × Rat) : ∀ (B out : Sp), Uq out → Uq (B.foldl (fun out y => innQ (x.2 * y.2) out (atQ (mgQ top k a x.1 y.1))) out) ∧ exQ g (B.foldl (fun out y => innQ (x.2 * y.2) out (atQ (mgQ top k a x.1 y.1))) out) = exQ g out + x.2 * exQ (fun t => exQ g (mgQ top k a x.1 t)) B
 | [], out, h => ⟨h, by simp only [List.foldl_nil, exQ]; grind⟩
 | y :: B, out, h => by
  obtain ⟨h0, h3⟩ := o_qi g (x.2 * y.2) (atQ (mgQ top k a x.1 y.1)) out h
  obtain ⟨h1, h2⟩ := o_ud g top k a x B _ h0
  refine ⟨h1, ?_⟩
  rw [List.foldl_cons, h2, h3, o_qb]
  simp only [exQ]; grind
theorem o_ue (g : St → Rat) (top k a : Nat) (B : Sp) : ∀ (A out : Sp), Uq out → Uq (A.foldl (fun out x => B.foldl (fun out y => innQ (x.2 * y.2) out (atQ (mgQ top k a x.1 y.1))) out) out) ∧ exQ g (A.foldl (fun out x => B.foldl (fun out y => innQ (x.2 * y.2) out (atQ (mgQ top k a x.1 y.1))) out) out) = exQ g out + exQ (fun s => exQ (fun t => exQ g (mgQ top k a s t)) B) A
 | [], out, h => ⟨h, by simp only [List.foldl_nil, exQ]; grind⟩
 | x :: A, out, h => by
  obtain ⟨h0, h3⟩ := o_ud g top k a x B out h
  obtain ⟨h1, h2⟩ := o_ue g top k a B A _ h0
  refine ⟨h1, ?_⟩
  rw [List.foldl_cons, h2, h3]
  simp only [exQ]; grind
theorem o_uf {k a w : Nat} (h : GoodS k a w) (n m : Nat) (g : Nat → Rat) : exQ (plQ g) (mrgdQ (topC w) k a (atQ (ofQ (stepQ (topC w) (chP k a)) (0, 0, false) n)) (atQ (ofQ (stepQ (topC w) (chP k a)) (0, 0, false) m))) = exQ (plQ g) (ofQ (stepQ (topC w) (chP k a)) (0, 0, false) (n + m)) := by
 obtain ⟨c0, c1⟩ := o_t6 h
 have hok := o_qw c0 c1 (s := (0, 0, false)) ⟨Nat.zero_le _, rfl, fun h => by cases h⟩ n
 unfold mrgdQ
 rw [(o_ue (plQ g) (topC w) k a _ _ [] (by simp [Uq])).2, o_qb]
 have e0 : exQ (plQ g) [] = 0 := rfl
 rw [e0]
 rw [o_uc (top := topC w) (h := plQ (SnQ (topC w) (chP k a) m g)) (fun s hs => ?_) (fun p hp => (hok p hp).1.1)]
 ·rw [o_u3, o_u3, o_u4, Nat.add_comm m n]; grind
 ·rw [o_qb]
  have : (fun t => exQ (plQ g) (mgQ (topC w) k a s t)) = fun t : St => WQ (topC w) k a t.1 g s.1 := by
   funext t
   exact o_u6 _ _ _ _ _ _
  rw [this]
  exact of_w h s.1 hs m g
end
end Go.Proofs.YtmpjlkclkhnpfaaGreatDoor.Am
namespace Go.Proofs.YtmpjlkclkhnpfaaGreatDoor.Am
section
open Go.RowKit
theorem o_ug (f : Bool) (G : Nat) (s : St) : NextOK (fullQ f) G s where
 uq := by simp [fullQ, Uq]
 nz := by simp [fullQ, nzQ]
 len := by simp [fullQ]
 gr := fun p hp => by simp [fullQ] at hp; subst hp; exact Gr.one G
theorem o_uh {k a w G : Nat} (h : GoodS k a w) (hc : ∀ r x, x ≤ 15 → Gr G 1 (ratC k a r x)) (r : Nat) (s : St) (hs : s.1 ≤ topC w) : NextOK (stepQ (topC w) (ratC k a r)) G s where
 uq := (o_qo (fun _ => 0) _ _ s).1
 nz := o_sk s
 len := o_sm _ _ _
 gr := o_so (fun x hx => hc r x (by
  have : topC w ≤ 15 := by have := Nat.pow_le_pow_right (n := 2) (by omega) h.2.2; unfold topC; omega
  omega)) s hs
set_option maxHeartbeats 4000000 in
theorem o_ui {k a w : Nat} (h : GoodS k a w) (s o : St) (hs : okQ (topC w) s) (ho : o.1 ≤ topC w) (h7 : o.1 ≤ 7) : Eqn Tryz.prog o_d4 [.d (parD k a w), .d (.agg (stD s)), .d (.agg (stD o))] [] (.mp 0) [spO (mgQ (topC w) k a s o)] := by
 have h15 : topC w ≤ 15 := by have := Nat.pow_le_pow_right (n := 2) (by omega) h.2.2; unfold topC; omega
 obtain ⟨G, hG, hG63, -, hc⟩ := o_tm h
 have hl := o_re k a w
 have hsu := o_r7 s
 have hfin : Eqn Tryz.prog o_9v [.mp 0, .fn (.func o_eg) [.p 1 0]] [spO (clQ (topC w) k a s o.1), SO o] (.mp 2) [spO (clQ (topC w) k a s o.1), SO o, spO (mgQ (topC w) k a s o)] := by
  have hl := o_t1 (o_tt s o.1) (o_tw (k := k) (a := a) hs o.1)
  exact o_t8 (by decide) (fun _ => True) (clQ (topC w) k a s o.1) G (G ^ o.1) (24 ^ o.1) (o_tt s _) (fun _ _ => trivial) (o_tv s _) (Nat.le_trans (List.length_filter_le _ _) (Nat.le_trans hl (by omega))) (Nat.le_trans hl (by omega)) (Nat.pow_pos hG) (Nat.pow_pos (by decide)) (o_u0 h hc hs _ (by omega)) hG (fun t _ => ⟨o_ug _ _ _, o_tr t o⟩) (o_t5 hG63 (by omega)).1
 have hro : ∀ r, r < o.1 → Eqn Tryz.prog o_9v [.mp 0, .fn (.func o_ed) [.p 1 0, .p 2 0]] [spO (clQ (topC w) k a s r), PO k a w, RO (chP k a r)] (.mp 3) [spO (clQ (topC w) k a s r), PO k a w, RO (chP k a r), spO (clQ (topC w) k a s (r + 1))] := fun r hr => by
  have hl := o_t1 (o_tt s r) (o_tw (k := k) (a := a) hs r)
  exact o_t9 (by decide) (by decide) (fun t => okQ (topC w) t ∧ r ≤ t.1) (clQ (topC w) k a s r) G (G ^ r) (24 ^ r) (o_tt s _) (fun p hp => o_tz h hs r (by omega) p (List.mem_filter.1 hp).1) (o_tv s _) (Nat.le_trans (List.length_filter_le _ _) (Nat.le_trans hl (by omega))) (Nat.le_trans hl (by omega)) (Nat.pow_pos hG) (Nat.pow_pos (by decide)) (o_u0 h hc hs _ (by omega)) hG (fun t ht => ⟨o_uh h hc r t ht.1.1, o_tq h t ht.1.1 r ht.2 (by omega)⟩) (o_t5 hG63 (by omega)).1
 have hch : ∀ r, r < o.1 → Eqn Tryz.prog o_cp [.d (parD k a w), .d (.int .i64 r)] [] (.tup [.d (rD (chP k a r)), .d (.int .i64 0)]) [] := fun r hr => o_rc h (by unfold topC at ho; omega)
 have hd0 : clQ (topC w) k a s 0 = [(s, 1)] := rfl
 rw [← hd0] at hsu
 obtain ⟨R, hR⟩ : ∃ R, R = mgQ (topC w) k a s o := ⟨_, rfl⟩
 rw [← hR] at hfin ⊢
 obtain ⟨o1, o2, o3⟩ := o
 simp only at ho h7 hfin hro hch
 generalize topC w = W at *
 refine Eqn.gen [4] o_d6 (by simp) (by simp) (by rfl) (by decide) (by simp) (by simp [spO]) ?_
 simp only [o_d5, spO, stD, parD, PO, RO, SO, rD] at hl hsu hfin hro hch ⊢
 refine A00 ?_; try with_reducible exact tt
 refine CallS.nX (hsu) (R0 ?_); try with_reducible exact tt
 refine AW.loopG (α := Nat) (fun i => setS (List.replicate 32 .junk) [(3, .p 0 0), (5, .p 2 0), (7, .mp 3), (14, .d (.int .i64 o1)), (15, .d (.int .i64 (i : Nat)))]) (fun i => [some ⟨73, [.d (.int .i64 k), .d (.int .i64 a), .d (.int .i64 w)]⟩, none, some ⟨78, [.d (.int .i64 o1), .d (.int .i64 o2), .d (.bool o3)]⟩, some ⟨1000391, (spD rcD (clQ W k a s i)).map .d⟩]) (fun i => i ≤ o1) (fun i => o1 - i) 0 ?_ (Nat.zero_le _) ?_ ?_ ?_
 ·intro i hi; simp
 ·simp
 ·simp
 rintro i hi
 simp
 by_cases hi2 : i < o1
 ·have hi3 : (i : Int) < o1 := by omega
  have ew : IntKind.i64.wrap ((i : Int) + 1) = ((i + 1 : Nat) : Int) := by rw [w64 (by omega) (by omega)]; omega
  have ht := hro i hi2
  have hci := hch i hi2
  generalize natW (chP k a i).num.natAbs = Z0 at *
  generalize natW ((chP k a i).den - 1) = Z2 at *
  generalize decide ((chP k a i).num < 0) = Z1 at *
  refine A10 (fs hi2 hi3) ?_; try with_reducible exact tt
  refine CallS.pu (hl) (R0 ?_); try with_reducible exact tt
  refine CallS.pu (hci) (R0 ?_); try with_reducible exact tt
  refine A00 ?_; try with_reducible exact tt
  refine CallS.g [3, 0, 4] (ht) (R1 ew ?_); try with_reducible exact tt
  refine A10 ew ?_; try with_reducible exact tt
  refine ⟨i + 1, 3, 5, by omega, by omega, by omega, ?_, ?_⟩
  ·simp [swT, swH, sw, Ob.sw, V.ren, V.rens]
  ·simp [swT, swH, sw, Ob.sw, V.ren, V.rens]
 ·have h2 : i = o1 := by omega
  subst h2
  refine A00 ?_; try with_reducible exact tt
  refine CallS.g [3, 2] (hfin) (R0 ?_); try with_reducible exact tt
  done
end
end Go.Proofs.YtmpjlkclkhnpfaaGreatDoor.Am
