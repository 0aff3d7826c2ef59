/- Parts of the proof: YuAt, YuAt2, Yu2, Float2, Yu3, Chain2, Chain3, Chain4, Chain5, Chain6, ChainP, Chain7, Chain8, ChainA, ChainM, ChainB, ChainC, ChainD, ChainE, Chain9, ChainF, ThinM, Thin1, Thin2, Thin3, Reg1, BitsM, Bits1, Bits2, Bits3, Reg2, Reg3, Reg4, PackM, Pack1, Pack2, Carr1, Carr2, Carr3, Carr6, AmUn, Cms1, Dec1, Dec2, Dec3, TxtM, Txt1, TxtN, Txt2, Txt3, Mul1, Div1, Mul2, Rat2, Txt4, Txt5, DecT, Dec4, Dec5. -/
import Derived.Test.YtlelpbaeplcfiaaDoorPc
set_option linter.unusedVariables false
set_option linter.unusedSimpArgs false
set_option maxRecDepth 100000
namespace Go.Proofs.YtlelpbaeplcfiaaDoor.Am
section
open Go.RowKit
theorem o_fo (n : Nat) (p : Pl) : V.lowl n ((plC p).map V.d) = true := rfl
theorem o_fp {m : Mem} {a : Act} {T : List V} {H : List (Option Ob)} (sat : Sat m a T H) {s : Nat} {x : V} (h : T.getD s .junk = x) : x.rep m (a.tmps.getD s undef) := h ▸ sat.slots s
theorem nloop (r : Loop) : ∀ c t f, Obj.loop r ≠ .cells c t f := by intro c t f h; cases h

theorem o_fq {m m' : Mem} (hI : m'.I = m.I) (hw : m'.w = m.w) {ds : List D} {vs : List Value} (h : V.reps m (ds.map V.d) vs) : V.reps m' (ds.map V.d) vs := by
 rw [V.reps_map_d] at h ⊢
 rw [hI, hw]; exact h
theorem o_fr {m : Mem} {a : Act} {T : List V} {H : List (Option Ob)} (sat : Sat m a T H) {c : Operand} {s : Nat} (hc : X.of c = .t s) {b : Bool} (h : T.getD s .junk = .d (.bool b)) : a.eval c = .bool b :=
 V.rep_bool.1 (X.rep' (T := T) (fun s _ => sat.slots s) (by rw [hc]; exact h))
def zD : List D := [.int .i64 0, .int .i64 0, .nilsl, .nilsl]
def SS : Nat → Bool := fun n => n == 0 || n == 2

set_option maxHeartbeats 4000000 in
theorem o_fs {asg bd : Code} (hasg : resolveC Tryd.prog asg = cAsg) (hbd : resolveC Tryd.prog bd = cBd) (ca : Code.calm asg = true) (cb : Code.calm bd = true) {fn df : Nat} {tmps : Array Value} {rec : LoopState → Option Code → Loop}
  (hrec : rec = fun st pe => { state := st, pending := pe, fn, tmps, params := #[24, 25], assign := asg, body := bd, defers := df }) (s K : Nat) (s1 : 1 ≤ s) (s5 : s ≤ 5) (hK : K ≤ 1023) {m : Mem} {l : Nat} {sv : Value}
  (sat : ∀ a : Act, a.tmps = #[.func (.yield l) #[] #[], sv] ++ Array.replicate 21 undef → a.defers = [] → Sat m a ([fnY l, .p 3 0] ++ List.replicate 21 .junk) [some (kO K), none, some (plO (zD.map V.d)), some (sO s)])
  (t3 : (V.p 0 0).rep m (tmps.getD 3 undef)) (t6 : (V.p 2 0).rep m (tmps.getD 6 undef)) (hsz : tmps.size = 31) (hlo : m.loose l) (hl : m.w.heap[l]? = some (.loop (rec .ready none))) :
  Calls Tryd.prog o_a3 #[.func (.yield l) #[] #[], sv] m.w fun e w' => (∃ v, e = .returned v) ∧ ∃ m' : Mem, m'.w = w' ∧ m'.base ∧ m'.obj 2 (plO ((plC (placeY s K)).map .d)) ∧ (m.at (m.w.putObj l (.loop (rec .done (some (.exit 1)))))).le m' (· < 4) := by
 obtain ⟨f67, r0, r1, g, r5, r6, -, id, ops, o0, o1, o2, o3, o4, cy, hf, hb, hops, e0, e1, eg, eos, ecall, eo4, ecy, er5, er6, ecalm, eres, ent⟩ := o_ff o_fi
 simp only at hb e0 e1 eg eos ecall eo4 ecy er5 er6 ecalm eres ent
 obtain ⟨cc, ho3, hg3, hc3, ha3, hd3⟩ := o_fg ecall
 rw [Bool.and_eq_true] at ecalm
 refine calls_of_wp hf hb ((wpIn_wide (n := 0)).1 ?_)
 have sat0 := sat { tmps := #[.func (.yield l) #[] #[], sv] ++ Array.replicate (f67.ntmps - #[Value.func (.yield l) #[] #[], sv].size) undef, defers := [] } (by rw [ent]; rfl) rfl
 have htop : ∀ n, 4 ≤ n → m.ρ n = none := sat0.top
 refine AW.then (L := 4) e0 (w_r0 l K s s1 s5 (zD.map V.d) rfl) sat0 (Mem.le.refl _ _) htop (by simp) fun T1 H1 m1 a1 hq st1 le1 L1 => ?_
 obtain ⟨m1', hw1, st1', le1', L1'⟩ := Sat.weaken (T1 := Tw0 l) (H1 := Hw K s 0 (zD.map V.d)) (Weak.of hq.1 hq.2) st1 le1 htop (by simp [Hw])
 rw [← hw1]
 refine AW.then (L := 4) e1 (w_r1 l K s (zD.map V.d) rfl) st1' le1' htop (by simp [Hw]) fun T2 H2 m2 a2 hq st2 le2 L2 => ?_
 obtain ⟨m2', hw2, st2', le2', L2'⟩ := Sat.weaken (T1 := Tw l 0) (H1 := Hw K s 0 (zD.map V.d)) (Weak.of hq.1 hq.2) st2 le2 htop (by simp [Hw])
 rw [← hw2]
 clear hw1 hw2 st1 st2 sat0 sat le1 le2 L1 L2 st1' le1' L1' hq
 refine wpIn_block (wpIn_wide.2 (o_5e (fun k a w => ∃ (i : Nat) (c : List D) (m' : Mem), m'.w = w ∧ k = 1024 - i ∧ i ≤ K ∧ c.length = 4 ∧ Sat m' a (Tw l i) (Hw K s i (c.map V.d)) ∧ m.le m' (· < 4)) ?_ 1024 a2 m2'.w ⟨0, _, m2', rfl, rfl, Nat.zero_le _, rfl, st2', le2'⟩))
 clear st2' le2' L2' hq m2 m2' a2 T2 H2 m1 m1' a1 T1 H1
 rintro k a w ⟨i, c, mw, rfl, rfl, hi, hc, st, le⟩
 have hlc : V.lowl 6 (c.map V.d) = true := V.lowl_mono (by omega) _ (o_5s c).1
 refine (wpIn_wide (n := 0)).1 ?_
 refine AW.then (L := 4) eg (w_g l K s i (by omega) (c.map V.d) hlc) st le htop (by simp [Hw]) fun T1 H1 m1 a1 hq st1 le1 L1 => ?_
 obtain ⟨m1', hw1, st1', le1', L1'⟩ := Sat.weaken (T1 := Tw l i) (H1 := Hw K s i (c.map V.d)) (Weak.of hq.1 hq.2) st1 le1 htop (by simp [Hw])
 rw [← hw1]
 clear hw1 st1 le1 L1 hq st le m1 T1 H1 a mw
 refine wpIn_seq (wpIn_block (wpIn_seq (wpIn_seq (o_6n ?_))))
 rw [hops, show [o0, o1, o2, o3, o4] = [o0, o1, o2] ++ [o3, o4] from rfl]
 refine o_6e (l := none) (L := 4) (K := fun T H => T = ((((Tw l i).set 15 (fnY l)).set 16 (.d (.int .i64 i))).set 17 (.d (.agg (plC (placeY s i))))) ∧ H = Hw K s i (c.map V.d)) [o3, o4] ecalm.1 (by rw [eos]; exact w_os l K s i (c.map V.d) ops ⟨rfl, rfl⟩) st1' le1' htop (by simp [Hw]) fun T2 H2 a2 m2 hq st2 le2 L2 => ?_
 obtain ⟨rfl, rfl⟩ := hq
 clear st1' le1' L1' m1' a1
 -- the call of yield
 have g15 : a2.eval (.tmp 15) = .func (.yield l) #[] #[] := by
  have := o_fp st2 (s := 15) (x := fnY l) (by simp [Tw])
  unfold V.rep at this
  obtain ⟨vs, h1, h2⟩ := this
  simp at h2
  subst h2
  exact h1
 have g16 : a2.eval (.tmp 16) = .int .i64 i := V.rep_int.1 (o_fp st2 (s := 16) (by simp [Tw]))
 have g17 : (V.d (.agg (plC (placeY s i)))).rep m2 (a2.eval (.tmp 17)) := o_fp st2 (s := 17) (by simp [Tw])
 obtain ⟨lo2, hl2⟩ := hlo.keep le2
 have hl2' := hl2.trans hl
 have hcut : ∀ n, n = 0 ∨ n = 2 → (m2.cut SS).ρ n = m2.ρ n := fun n h => by rcases h with rfl | rfl <;> simp [SS]
 have hobj : ∀ (n : Nat) (ty : TypeId) (ds : List D), n = 0 ∨ n = 2 → m2.obj n ⟨ty, ds.map V.d⟩ → (m2.cut SS).obj n ⟨ty, ds.map V.d⟩ := by
  rintro n ty ds hn ⟨b, vs, more, h1, h2, h3, h4, h5⟩
  exact ⟨b, vs, more, by rw [hcut n hn]; exact h1, h2, h3, o_fq (m := m2) (m' := m2.cut SS) rfl rfl (show V.reps m2 (ds.map V.d) vs from h4), h5⟩
 have hun : ∀ (n : Nat) (ty : TypeId) (ds : List D) (mr : Mem), n = 0 ∨ n = 2 → (∀ b, m2.ρ n = some b → mr.ρ n = some b) → mr.obj n ⟨ty, ds.map V.d⟩ → (⟨m2.ρ, mr.I, mr.w⟩ : Mem).obj n ⟨ty, ds.map V.d⟩ := by
  rintro n ty ds mr hn hρ ⟨b, vs, more, h1, h2, h3, h4, h5⟩
  obtain ⟨b', hb'⟩ : ∃ b', m2.ρ n = some b' := by
   rcases hn with rfl | rfl
   ·exact o_fl (st2.obj 0 _ rfl)
   ·exact o_fl (st2.obj 2 _ rfl)
  have := hρ b' hb'
  rw [h1] at this
  cases this
  exact ⟨b, vs, more, hb', h2, h3, o_fq (m := mr) (m' := ⟨m2.ρ, mr.I, mr.w⟩) rfl rfl (show V.reps mr (ds.map V.d) vs from h4), h5⟩
 have r3 : (V.p 0 0).rep (m2.cut SS) (tmps.getD 3 undef) := by
  unfold V.rep at t3 ⊢
  obtain ⟨b, h1, h2⟩ := t3
  exact ⟨b, by rw [hcut 0 (.inl rfl)]; exact le2.ρ 0 b h1, h2⟩
 have r6' : (V.p 2 0).rep (m2.cut SS) (tmps.getD 6 undef) := by
  unfold V.rep at t6 ⊢
  obtain ⟨b, h1, h2⟩ := t6
  exact ⟨b, by rw [hcut 2 (.inr rfl)]; exact le2.ρ 2 b h1, h2⟩
 have rv : (V.d (.agg (plC (placeY s i)))).rep (m2.cut SS) (a2.eval (.tmp 17)) := V.rep_d.2 (V.rep_d.1 g17)
 have loc : (m2.cut SS).loose l := by
  refine ⟨lo2.lt, fun n h => ?_, lo2.I⟩
  simp only at h
  split at h
  ·exact lo2.ρ n h
  ·cases h
 have hround := o_fm hasg hbd ca cb hrec (0 - 1) K i (plC (placeY s i)) rfl (m := m2.cut SS) (l := l) (c := c.map V.d) (Mem.cut_base st2.base SS) (hobj 0 _ [.int .i64 K] (.inl rfl) (st2.obj 0 _ rfl)) (hobj 2 _ c (.inr rfl) (st2.obj 2 _ rfl)) (by simpa using hc)
  (fun b h0 h2 => by
   rw [hcut 0 (.inl rfl)] at h0; rw [hcut 2 (.inr rfl)] at h2
   have := st2.inj 0 2 b rfl rfl h0 h2
   omega)
  (fun n h0 h2 => by simp [SS, h0, h2]) r3 r6' hsz loc hl2' rv
 obtain ⟨fn', tmps', asg', bd', hy, hR⟩ := hround
 rw [← g16] at hy
 refine wpListIn_plain hg3 (fun Kk hKk => ⟨fun _ _ => trivial, ?_⟩)
 rw [show (FR none).round = none from rfl, Oper.semAt_none, o_6j ho3 hc3 ha3 g15, hy, Oper.uponIn_round]
 refine ⟨fun h => by simp [FR, Fence.wide] at h, hR.mono ?_⟩
 rintro e w' ⟨mr, rfl, mrb, mr0, mr2, hcase⟩
 -- both ways: a memory that fits
 have key : ∀ (o : Obj), (∀ c t f, o ≠ .cells c t f) → ((m2.cut SS).at (m2.w.putObj l o)).le mr (· < 3) → ∀ b : Bool,
   Sat ⟨m2.ρ, mr.I, mr.w⟩ (a2.put (some 18) (.bool b)) (((((Tw l i).set 15 (fnY l)).set 16 (.d (.int .i64 i))).set 17 (.d (.agg (plC (placeY s i))))).set 18 (.d (.bool b))) (Hw K s i ((plC (placeY s i)).map V.d)) ∧ (m2.at (m2.w.putObj l o)).le ⟨m2.ρ, mr.I, mr.w⟩ (fun n => SS n = true) := by
  intro o ho hle b
  have hu := Mem.uncut (m := m2.at (m2.w.putObj l o)) (S := SS) hle (fun n h => by simp [SS] at h; omega)
  have hρ : ∀ n b, m2.ρ n = some b → n = 0 ∨ n = 2 → mr.ρ n = some b := fun n b h hn => hle.ρ n b (by show (if SS n = true then m2.ρ n else none) = some b; rw [if_pos (by rcases hn with rfl | rfl <;> rfl)]; exact h)
  refine ⟨Sat.put (Sat.uncut (H' := Hw K s i ((plC (placeY s i)).map V.d)) (lo2.sat o st2) mrb hu (fun n h => ?_) rfl fun n ob h => ?_) 18 (V.rep_bool.2 rfl), hu⟩
  ·simp [SS] at h
   rcases h with rfl | rfl <;> rfl
  ·rcases n with _ | _ | _ | _ | _ | _ | n
   ·left; simp [Hw] at h; subst h
    exact ⟨rfl, hun 0 _ [.int .i64 K] mr (.inl rfl) (fun b h => hρ 0 b h (.inl rfl)) mr0⟩
   ·simp [Hw] at h
   ·left; simp [Hw] at h; subst h
    exact ⟨rfl, hun 2 _ (plC (placeY s i)) mr (.inr rfl) (fun b h => hρ 2 b h (.inr rfl)) mr2⟩
   ·right; simp [Hw] at h; subst h; exact ⟨rfl, rfl⟩
   ·simp [Hw] at h
   ·right; simp [Hw] at h; subst h; exact ⟨rfl, by simp [Hw]⟩
   ·simp [Hw] at h
 have hres : ∀ (a : Act) (w : World), (results f67 a.tmps).run Tryd.prog w = .ok (.tuple #[]) w := fun a w => by
  have : f67.results = #[] := Array.eq_empty_of_size_eq_zero eres
  simp [results, this]
 have hmap : [o4].map (resolveO Tryd.prog ops) = [((cWb.r.l.b.l.l.os).drop 4).headD ⟨none, .bad, none, []⟩] := by rw [← eo4]; rfl
 by_cases hik : i = K
 ·rw [if_pos hik] at hcase
  obtain ⟨rfl, hle⟩ := hcase
  obtain ⟨sat5, le5⟩ := key _ (nloop _) hle false
  refine hKk _ _ ?_
  rw [hd3]
  have lem := (hlo.le le2 (o := .loop (rec .done (some (.exit 1)))) (o' := .loop (rec .done (some (.exit 1)))) hl (nloop _) (nloop _) (nloop _) rfl).trans le5 (fun n b _ h => by simp [SS] at h; omega)
  refine o_6e (l := none) (L := 4) (m0 := m.at (m.w.putObj l (.loop (rec .done (some (.exit 1)))))) (m := ⟨m2.ρ, mr.I, mr.w⟩) (K := fun T H => T = (((((Tw l i).set 15 (fnY l)).set 16 (.d (.int .i64 i))).set 17 (.d (.agg (plC (placeY s i))))).set 18 (.d (.bool false))).set 19 (.d (.bool true)) ∧ H = Hw K s i ((plC (placeY s i)).map V.d)) [] ecalm.2 (by rw [hmap]; exact w_o4 l K s i _ false _ ⟨rfl, rfl⟩) sat5 lem htop (by simp [Hw]) fun T6 H6 a6 m6 hq st6 le6 _ => ?_
  obtain ⟨rfl, rfl⟩ := hq
  refine wpListIn_nil ?_
  refine wpIn_cond_split (o_fr st6 ecy (b := true) (by simp [Tw])) (fun _ => wpIn_ret ?_) (fun h => by cases h)
  refine ⟨st6.defers, _, hres _ _, ⟨_, rfl⟩, m6, rfl, st6.base, ?_, le6⟩
  rw [← hik]
  exact st6.obj 2 _ rfl
 ·rw [if_neg hik] at hcase
  obtain ⟨rfl, hle⟩ := hcase
  obtain ⟨sat5, le5⟩ := key (.loop (rec .ready none)) (nloop _) (by rw [o_6l hl2']; exact hle) true
  rw [o_6l hl2'] at le5
  refine hKk _ _ ?_
  rw [hd3]
  refine o_6e (l := none) (L := 4) (m0 := m) (m := ⟨m2.ρ, mr.I, mr.w⟩) (K := fun T H => T = (((((Tw l i).set 15 (fnY l)).set 16 (.d (.int .i64 i))).set 17 (.d (.agg (plC (placeY s i))))).set 18 (.d (.bool true))).set 19 (.d (.bool false)) ∧ H = Hw K s i ((plC (placeY s i)).map V.d)) [] ecalm.2 (by rw [hmap]; exact w_o4 l K s i _ true _ ⟨rfl, rfl⟩) sat5 (le2.trans le5 (fun n b _ h => by simp [SS] at h; omega)) htop (by simp [Hw]) fun T6 H6 a6 m6 hq st6 le6 _ => ?_
  obtain ⟨rfl, rfl⟩ := hq
  refine wpListIn_nil ?_
  refine wpIn_cond_split (o_fr st6 ecy (b := false) (by simp [Tw])) (fun h => by cases h) (fun _ => wpIn_skip ?_)
  have hlp := o_fo 6 (placeY s i)
  obtain ⟨m7, hw7, st7, le7, _⟩ := Sat.weaken (T1 := Tw l i) (H1 := Hw K s i ((plC (placeY s i)).map V.d)) (Weak.of (by simp [Tw, Hw, V.low, V.lowl]) (by simp [Hw, hlp, V.lowl, V.low])) st6 le6 htop (by simp [Hw])
  rw [← hw7]
  refine wpIn_mono (wpIn_wide.2 (w_r5 l K s i s1 s5 (by omega) _ hlp r5 er5 m m7 a6 st7 le7 htop (by simp [Hw]))) ?_
  rintro e a8 w8 ⟨T8, H8, m8, rfl, hq, st8, le8, _⟩
  cases e with
  | normal =>
   obtain ⟨m9, hw9, st9, le9, _⟩ := Sat.weaken (T1 := Tw l i) (H1 := Hw K s (i + 1) ((plC (placeY s i)).map V.d)) (Weak.of hq.1 hq.2) st8 le8 htop (by simp [Hw])
   rw [← hw9]
   refine wpIn_mono (wpIn_wide.2 (w_r6 l K s i (by omega) _ hlp r6 er6 m m9 a8 st9 le9 htop (by simp [Hw]))) ?_
   rintro e a10 w10 ⟨T10, H10, m10, rfl, hq, st10, le10, _⟩
   cases e with
   | normal =>
    obtain ⟨m11, hw11, st11, le11, _⟩ := Sat.weaken (T1 := Tw l (i + 1)) (H1 := Hw K s (i + 1) ((plC (placeY s i)).map V.d)) (Weak.of hq.1 hq.2) st10 le10 htop (by simp [Hw])
    exact ⟨1024 - (i + 1), by omega, i + 1, plC (placeY s i), m11, hw11, rfl, by omega, rfl, st11, le11⟩
   | _ => exact hq.elim
  | _ => exact hq.elim
end
end Go.Proofs.YtlelpbaeplcfiaaDoor.Am
namespace Go.Proofs.YtlelpbaeplcfiaaDoor.Am
section
open Go.RowKit
def atE (s k : Int) : Int := if 1 ≤ s ∧ s ≤ 5 then (if 0 ≤ k ∧ k ≤ 1023 then 0 else 2) else 10
def atP (s k : Int) : Pl := if atE s k = 0 then placeY s.toNat k.toNat else ⟨0, 0, 0, 0⟩

def Ta (s k : Nat) (x23 : V) : List V := [.d (.int .i64 s), .d (.int .i64 k), .junk, .p 0 0, .p 1 0, .d (.int .i64 0), .p 2 0] ++ List.replicate 16 .junk ++ [x23] ++ List.replicate 7 .junk
def Ta0 (s k : Nat) : List V := [.d (.int .i64 s), .d (.int .i64 k), .junk, .p 0 0, .p 1 0, .d (.int .i64 0)] ++ List.replicate 25 .junk
abbrev zO : Ob := plO (zD.map V.d)

theorem a_1 (s k : Nat) : AW Tryd.prog 0 o_71.l (thenQ (fun T H => wk 2 T (Ta0 s k) ∧ wkH 2 H [some (kO k), some zO]) noQ) ([.d (.int .i64 s), .d (.int .i64 k)] ++ List.replicate 29 .junk) [] := by
 simp only [o_71, C.l, Ta0]
 refine G0 ?_; try with_reducible exact tt
 exact ⟨Subs.refl _, rfl⟩
theorem a_2 (s k : Nat) (s1 : 1 ≤ s) (s5 : s ≤ 5) (hk : k ≤ 1023) : AW Tryd.prog 0 o_71.r.l (thenQ (fun T H => wk 2 T (Ta0 s k) ∧ wkH 2 H [some (kO k), some zO]) noQ) (Ta0 s k) [some (kO k), some zO] := by
 simp only [o_71, C.l, C.r, Ta0, zD]
 refine G0 ?_; try with_reducible exact tt
 refine CallS.pu (o_f5 s) (R0 ?_); try with_reducible exact tt
 have h1 : (1 : Int) ≤ s ∧ (s : Int) ≤ 5 := by omega
 refine AW.cond rfl (fun h => ?_) (fun h => ?_)
 ·simp [h1] at h
 have h2 : ¬ (1023 : Int) < k := by omega
 refine G1 h2 ?_; try with_reducible exact tt
 refine AW.cond rfl (fun h => ?_) (fun h => ?_)
 ·simp at h
 refine G0 ?_; try with_reducible exact tt
 rfl
theorem a_3 (s k : Nat) : AW Tryd.prog 0 o_71.r.r.l (thenQ (fun T H => wk 3 T (Ta s k .junk) ∧ wkH 3 H [some (kO k), some zO, some zO]) noQ) (Ta0 s k) [some (kO k), some zO] := by
 simp only [o_71, C.l, C.r, Ta0, Ta]
 refine G0 ?_; try with_reducible exact tt
 exact ⟨Subs.refl _, rfl⟩
theorem a_4 (s k : Nat) : AW Tryd.prog 0 o_71.r.r.r.l.l (thenQ (fun T H => wk 4 T (Ta s k (.fn (.func o_a3) [.p 3 0])) ∧ wkH 4 H [some (kO k), some zO, some zO, some (sO s)]) noQ) (Ta s k .junk) [some (kO k), some zO, some zO] := by
 simp only [o_71, C.l, C.r, Ta]
 refine G0 ?_; try with_reducible exact tt
 refine CallS.newX (o_fe s) ⟨rfl, fun _ => rfl⟩ rfl (fun _ => rfl) (Subs.refl _) ?_
 simp [nameOf, V.ren, V.rens]
 rfl
theorem a_5 (s k : Nat) (x : V) (p : Pl) {K' : List V → List (Option Ob) → Prop} (h : ∀ T, T.getD 4 .junk = .p 1 0 → T.getD 5 .junk = .d (.int .i64 0) → K' T [none, some (plO ((plC p).map V.d)), some (plO ((plC p).map V.d)), none]) :
  vops Tryd.prog false K' o_71.r.r.r.r.l.os [] (Ta s k x) [none, some zO, some (plO ((plC p).map V.d)), none] := by
 simp only [o_71, C.l, C.r, C.os, Ta, zD]
 simp only [plC, List.map_cons, List.map_nil] at h ⊢
 simp
 exact need.of (by decide) (h _ rfl rfl)

theorem o_ft (l : List V) (n i : Nat) (h : l.length ≤ i) : (l ++ List.replicate n V.junk).getD i .junk = .junk := by
 rw [List.getD_eq_getElem?_getD, List.getElem?_append_right h, List.getElem?_replicate]; split <;> rfl
theorem o_fu {m : Mem} {H : List (Option Ob)} {a : Act} {l : Nat} {sv : Value} (hb : m.base) (hobj : ∀ n ob, H.getD n none = some ob → m.obj n ob) (hinj : ∀ n k b, live H n → live H k → m.ρ n = some b → m.ρ k = some b → n = k) (htop : ∀ n, H.length ≤ n → m.ρ n = none)
  (hv : (V.p 3 0).rep m sv) (ht : a.tmps = #[.func (.yield l) #[] #[], sv] ++ Array.replicate 21 undef) (hd : a.defers = []) : Sat m a ([fnY l, .p 3 0] ++ List.replicate 21 .junk) H := by
 refine ⟨hb, fun s => ?_, hobj, hinj, htop, by rw [ht]; simp, hd⟩
 rcases s with _ | _ | s
 ·rw [ht]
  show V.rep m (fnY l) _
  unfold V.rep
  exact ⟨[], by simp, by simp⟩
 ·rw [ht]
  show V.rep m (.p 3 0) _
  simpa using hv
 ·have : ([fnY l, .p 3 0] ++ List.replicate 21 V.junk).getD (s + 2) .junk = .junk := o_ft _ _ _ (by simp)
  rw [this]
  unfold V.rep
  trivial
def SC : Nat → Bool := fun n => n == 0 || n == 2 || n == 3

set_option maxHeartbeats 4000000 in
theorem o_fv (s k : Nat) (s1 : 1 ≤ s) (s5 : s ≤ 5) (hk : k ≤ 1023) : Eqn Tryd.prog o_70 [.d (.int .i64 s), .d (.int .i64 k)] [] (.tup [.d (plD (placeY s k)), .d (.int .i64 0)]) [] := by
 refine ⟨Nat.le_refl _, by simp, rfl, by simp, fun m vs mb hargs _ _ htop => .inr ⟨o_6o o_72 _ _, ?_⟩⟩
 obtain ⟨v0, _, rfl, hv0, hargs⟩ := V.reps_cons'.1 hargs
 obtain ⟨v1, _, rfl, hv1, hargs⟩ := V.reps_cons'.1 hargs
 simp at hargs; subst hargs
 have htop : ∀ n, 0 ≤ n → m.ρ n = none := fun n _ => htop n (Nat.zero_le _)
 obtain ⟨f10, a1, a2, a3, a4, asg, bd, g, ps, id, ops, hf, hb, e1, e2, e3, e4, eg, eps, easg, ebd, e5, ecalm, ers, ent⟩ := o_fh at_s
 simp only at hb e1 e2 e3 e4 eg eps easg ebd e5 ecalm ers ent
 rw [Bool.and_eq_true, Bool.and_eq_true] at ecalm
 obtain ⟨calA, calB, calO⟩ := ecalm
 have eps : ps = #[24, 25] := by rw [← Array.toArray_toList (xs := ps), eps]
 subst eps
 refine (callsIn_wide (n := 1)).1 (callsIn_of_wp_marks hf hb trivial ?_ rfl)
 have hsize : f10.ntmps - 2 = 29 := by rw [ent]
 have sat0 : Sat m { tmps := #[v0, v1] ++ Array.replicate (f10.ntmps - #[v0, v1].size) undef, defers := [] } ([.d (.int .i64 s), .d (.int .i64 k)] ++ List.replicate 29 .junk) [] := by
  refine ⟨mb, fun i => ?_, by simp, fun n k b ln => by simp [live] at ln, fun n _ => htop n (Nat.zero_le _), by simp [ent], rfl⟩
  rcases i with _ | _ | i
  ·show V.rep m (.d (.int .i64 s)) _
   rw [Array.getD_eq_getD_getElem?, Array.getElem?_append_left (by simp)]
   exact hv0
  ·show V.rep m (.d (.int .i64 k)) _
   rw [Array.getD_eq_getD_getElem?, Array.getElem?_append_left (by simp)]
   exact hv1
  ·have : ([V.d (.int .i64 s), V.d (.int .i64 k)] ++ List.replicate 29 V.junk).getD (i + 2) .junk = .junk := o_ft _ _ _ (by simp)
   rw [this]
   unfold V.rep
   trivial
 refine AW.then (L := 0) e1 (a_1 s k) sat0 (Mem.le.refl _ _) htop (by simp) fun T1 H1 m1 w1 hq st1 le1 _ => ?_
 obtain ⟨m1', hw1, st1', le1', _⟩ := Sat.weaken (T1 := Ta0 s k) (H1 := [some (kO k), some zO]) (Weak.of hq.1 hq.2) st1 le1 htop (by simp)
 rw [← hw1]
 refine AW.then (L := 0) e2 (a_2 s k s1 s5 hk) st1' le1' htop (by simp) fun T2 H2 m2 w2 hq st2 le2 _ => ?_
 obtain ⟨m2', hw2, st2', le2', _⟩ := Sat.weaken (T1 := Ta0 s k) (H1 := [some (kO k), some zO]) (Weak.of hq.1 hq.2) st2 le2 htop (by simp)
 rw [← hw2]
 refine AW.then (L := 0) e3 (a_3 s k) st2' le2' htop (by simp) fun T3 H3 m3 w3 hq st3 le3 _ => ?_
 obtain ⟨m3', hw3, st3', le3', _⟩ := Sat.weaken (T1 := Ta s k .junk) (H1 := [some (kO k), some zO, some zO]) (Weak.of hq.1 hq.2) st3 le3 htop (by simp)
 rw [← hw3]
 refine wpIn_seq ?_
 refine AW.then (L := 0) e4 (a_4 s k) st3' le3' htop (by simp) fun T4 H4 m4' w4 hq st4 le4 _ => ?_
 obtain ⟨m4, hw4, st4', le4', _⟩ := Sat.weaken (T1 := Ta s k (.fn (.func o_a3) [.p 3 0])) (H1 := [some (kO k), some zO, some zO, some (sO s)]) (Weak.of hq.1 hq.2) st4 le4 htop (by simp)
 rw [← hw4]
 clear hw1 hw2 hw3 hw4 st1 st2 st3 st4 st1' st2' st3' le1 le2 le3 le4 le1' le2' le3' hq sat0
 refine wpIn_block (wpIn_rangeFunc fun fn' _ => ?_)
 -- the function that is ranged over
 have gt3 : (V.p 0 0).rep m4 (w4.tmps.getD 3 undef) := o_fp st4' (s := 3) rfl
 have gt6 : (V.p 2 0).rep m4 (w4.tmps.getD 6 undef) := o_fp st4' (s := 6) rfl
 have gt23 : (V.fn (.func o_a3) [.p 3 0]).rep m4 (w4.tmps.getD 23 undef) := o_fp st4' (s := 23) rfl
 unfold V.rep at gt23
 obtain ⟨cvs, hg23, hcv⟩ := gt23
 obtain ⟨sv, _, rfl, hsv, hcv⟩ := V.reps_cons'.1 hcv
 simp at hcv; subst hcv
 have hgt : g = .tmp 23 := by
  cases g <;> simp [X.of] at eg
  ·rw [eg]
  ·rename_i v; cases h : D.of1 v <;> simp [h] at eg
 have hgev : w4.eval g = .func (.func o_a3) #[] #[sv] := by rw [hgt]; exact hg23
 obtain ⟨rec, hrec⟩ : ∃ rec : LoopState → Option Code → Loop, rec = fun st pe => { state := st, pending := pe, fn := fn', tmps := w4.tmps, params := #[24, 25], assign := asg, body := bd, defers := m4.w.heap.size } := ⟨_, rfl⟩
 obtain ⟨W1, hW1⟩ : ∃ W1, W1 = (m4.w.alloc (.deferred (some []))).alloc (.loop (rec .ready none)) := ⟨_, rfl⟩
 have hl1 : W1.heap[m4.w.heap.size + 1]? = some (.loop (rec .ready none)) := by
  rw [hW1]; have := World.alloc_heap_new (m4.w.alloc (.deferred (some []))) (.loop (rec .ready none)); rwa [World.size_alloc] at this
 have hd1 : W1.heap[m4.w.heap.size]? = some (.deferred (some [])) := by
  rw [hW1]; exact (Below.heap_alloc _ _ _ (by simp)).trans (World.alloc_heap_new m4.w _)
 have satw : Sat (m4.at W1) w4 (Ta s k (.fn (.func o_a3) [.p 3 0])) [some (kO k), some zO, some zO, some (sO s)] := by
  rw [hW1]; exact (st4'.grow _).grow _
 have lew : m.le (m4.at W1) (· < 0) := by
  rw [hW1]; exact (le4'.grow st4'.base _).grow (st4'.grow _).base _
 have loD : (m4.at W1).loose m4.w.heap.size := by
  rw [hW1]; exact (o_6m st4'.base _).grow _
 have loL : (m4.at W1).loose (m4.w.heap.size + 1) := by
  rw [hW1]
  have := o_6m (st4'.grow (.deferred (some []))).base (.loop (rec .ready none))
  simpa using this
 have hb4 : m.w.heap.size ≤ m4.w.heap.size := le4'.size
 have hrep1 : ∀ x v, V.rep m4 x v → V.rep (m4.at W1) x v := fun x v h => by
  rw [hW1]
  exact V.rep_off (m := m4) (m' := m4.at ((m4.w.alloc (.deferred (some []))).alloc (.loop (rec .ready none)))) ⟨rfl, rfl, fun b hb => (Below.heap_alloc _ _ _ (by simp; have := st4'.base.imm b hb; omega)).trans (Below.heap_alloc _ _ _ (st4'.base.imm b hb)), fun n b hb => (Below.heap_alloc _ _ _ (by simp; have := st4'.base.dom n b hb; omega)).trans (Below.heap_alloc _ _ _ (st4'.base.dom n b hb))⟩ x v h
 generalize hLn : m4.w.heap.size + 1 = l at *
 generalize hDn : m4.w.heap.size = dd at *
 refine ⟨l, [{ target := .collected dd, args := #[] }], W1, { target := .fn (.func o_a3) #[sv], args := #[.func (.yield l) #[] #[]] }, W1, o_a3, #[.func (.yield l) #[] #[], sv], W1, ?_, ?_, fun _ _ => trivial, ?_, fun h => by simp [Fence.wide] at h, ?_⟩
 ·have := run_enterLoop_outer (P := Tryd.prog) (w := m4.w) fn' w4.tmps #[24, 25] asg bd
  rw [hW1, hrec, ← hLn, ← hDn]
  exact this
 ·simp only [Go.resolve, hgev]
  simp [go_sem, Deferred.ofValue]
 ·simp [invoke, go_sem]
 refine callsIn_wide.2 ?_
 -- the memory that the walk sees
 have cutr : ∀ n, SC n = true → ((m4.at W1).cut SC).ρ n = m4.ρ n := fun n h => by simp [h]
 have cobj : ∀ (n : Nat) (ty : TypeId) (ds : List D), SC n = true → (m4.at W1).obj n ⟨ty, ds.map V.d⟩ → ((m4.at W1).cut SC).obj n ⟨ty, ds.map V.d⟩ := by
  rintro n ty ds hn ⟨b, vs, more, h1, h2, h3, h4, h5⟩
  exact ⟨b, vs, more, by rw [cutr n hn]; exact h1, h2, h3, o_fq (m := m4.at W1) (m' := (m4.at W1).cut SC) rfl rfl (show V.reps (m4.at W1) (ds.map V.d) vs from h4), h5⟩
 have prep : ∀ n o v, SC n = true → (V.p n o).rep (m4.at W1) v → (V.p n o).rep ((m4.at W1).cut SC) v := by
  intro n o v hn h
  unfold V.rep at h ⊢
  obtain ⟨b, h1, h2⟩ := h
  exact ⟨b, by rw [cutr n hn]; exact h1, h2⟩
 have loC : ((m4.at W1).cut SC).loose l := by
  refine ⟨loL.lt, fun n h => ?_, loL.I⟩
  simp only at h
  split at h
  ·exact loL.ρ n h
  ·cases h
 have lv : ∀ n, live [some (kO k), none, some zO, some (sO s)] n → SC n = true := fun n h => by
  rcases n with _ | _ | _ | _ | n <;> first | rfl | (simp [live] at h)
 have hwalk := o_fs (m := (m4.at W1).cut SC) (l := l) (sv := sv) easg ebd calA calB hrec s k s1 s5 hk
  (fun a ha hd => o_fu (H := [some (kO k), none, some zO, some (sO s)]) (Mem.cut_base satw.base SC) (fun n ob h => by
   rcases n with _ | _ | _ | _ | n
   ·simp at h; subst h; exact cobj 0 _ [.int .i64 k] rfl (satw.obj 0 _ rfl)
   ·simp at h
   ·simp at h; subst h; exact cobj 2 _ zD rfl (satw.obj 2 _ rfl)
   ·simp at h; subst h; exact cobj 3 _ [.int .i64 s] rfl (satw.obj 3 _ rfl)
   ·simp at h) (fun n k' b h1 h2 h3 h4 => by
    have l1 := lv n h1
    have l2 := lv k' h2
    rw [cutr n l1] at h3; rw [cutr k' l2] at h4
    refine satw.inj n k' b ?_ ?_ h3 h4
    ·rcases n with _ | _ | _ | _ | n <;> first | rfl | (simp [live] at h1)
    ·rcases k' with _ | _ | _ | _ | k' <;> first | rfl | (simp [live] at h2)) (fun n h => by
    have h4 : ¬ SC n = true := by simp [SC]; simp at h; omega
    simp [h4]) (prep 3 0 sv rfl (hrep1 _ _ hsv)) ha hd)
  (prep 0 0 _ rfl (hrep1 _ _ gt3)) (prep 2 0 _ rfl (hrep1 _ _ gt6)) (by rw [satw.size]; rfl) loC hl1
 refine hwalk.mono ?_
 rintro e w5 ⟨⟨v, rfl⟩, m5, rfl, b5, o5, le5⟩
 obtain ⟨loC5, hl5⟩ := (loC.put (.loop (rec .done (some (.exit 1))))).keep le5
 have hl5' := hl5.trans (World.putObj_heap_same loC.lt)
 have hrd : ∀ st pe, (rec st pe).state = st ∧ (rec st pe).pending = pe := fun st pe => by rw [hrec]; exact ⟨rfl, rfl⟩
 have hend := run_endLoop (P := Tryd.prog) hl5' (by rw [(hrd _ _).1]; simp)
 rw [(hrd _ _).2] at hend
 obtain ⟨o6, hend⟩ : ∃ o6, (Instr.endLoop l).run Tryd.prog m5.w = .ok (some (.exit 1)) (m5.w.putObj l o6) := ⟨_, hend⟩
 refine ⟨_, _, hend, wpIn_exit ?_⟩
 -- back in the asker
 have hu := Mem.uncut (m := (m4.at W1).at (W1.putObj l (.loop (rec .done (some (.exit 1)))))) (S := SC) le5 (fun n h => by simp [SC] at h; omega)
 have lo5 : (⟨m4.ρ, m5.I, m5.w⟩ : Mem).loose l := ((loL.put (.loop (rec .done (some (.exit 1))))).keep hu).1
 have loD5 := (Mem.loose.keep (m := (m4.at W1).at (W1.putObj l (.loop (rec .done (some (.exit 1)))))) (l := dd) ⟨by simpa using loD.lt, loD.ρ, loD.I⟩ hu)
 have hne : dd ≠ l := by omega
 have hd5 : m5.w.heap[dd]? = some (.deferred (some [])) := loD5.2.trans ((World.putObj_heap_other hne).trans hd1)
 have obj2 : (⟨m4.ρ, m5.I, m5.w⟩ : Mem).obj 2 (plO ((plC (placeY s k)).map V.d)) := by
  obtain ⟨b, vs, more, h1, h2, h3, h4, h5⟩ := o5
  obtain ⟨b', hb'⟩ := o_fl (satw.obj 2 _ rfl)
  have := le5.ρ 2 b' (by show (if SC 2 = true then m4.ρ 2 else none) = some b'; rw [if_pos (show SC 2 = true from rfl)]; exact hb')
  rw [h1] at this
  cases this
  exact ⟨b, vs, more, hb', h2, h3, o_fq (m := m5) (m' := ⟨m4.ρ, m5.I, m5.w⟩) rfl rfl (show V.reps m5 ((plC (placeY s k)).map V.d) vs from h4), h5⟩
 have sat5 : Sat ⟨m4.ρ, m5.I, m5.w⟩ w4 (Ta s k (.fn (.func o_a3) [.p 3 0])) [none, some zO, some (plO ((plC (placeY s k)).map V.d)), none] := by
  refine Sat.uncut (m := (m4.at W1).at (W1.putObj l (.loop (rec .done (some (.exit 1)))))) (loL.sat (.loop (rec .done (some (.exit 1)))) satw) b5 hu (fun n h => ?_) rfl fun n ob h => ?_
  ·simp [SC] at h
   rcases h with (rfl | rfl) | rfl <;> rfl
  ·rcases n with _ | _ | _ | _ | n
   ·simp at h
   ·right; simp at h; subst h; exact ⟨rfl, rfl⟩
   ·left; simp at h; subst h; exact ⟨rfl, obj2⟩
   ·simp at h
   ·simp at h
 have le5' : m.le ⟨m4.ρ, m5.I, m5.w⟩ (· < 0) := by
  refine Mem.le.trans (lew.far mb (l := l) (by omega) (.loop (rec .done (some (.exit 1))))) hu fun n b h _ => ?_
  rw [htop n (Nat.zero_le _)] at h; cases h
 have sat6 := lo5.sat o6 sat5
 have le6 := le5'.far mb (l := l) (by omega) o6
 have hd6 : (m5.w.putObj l o6).heap[dd]? = some (.deferred (some [])) := (World.putObj_heap_other hne).trans hd5
 have loD6 : ((⟨m4.ρ, m5.I, m5.w⟩ : Mem).at (m5.w.putObj l o6)).loose dd := ⟨by simpa using loD5.1.lt, loD5.1.ρ, loD5.1.I⟩
 show (Code.seq (.region id ops false) .ret).wpIn Fence.wide 1 _ _ _ _
 refine wpIn_seq (o_6n ?_)
 have hops : ops.toList = ops.toList ++ [] := (List.append_nil _).symm
 rw [hops]
 refine o_6i (D := [{ target := .collected dd, args := #[] }]) (Q := fun e a w => e = .normal ∧ ∃ T' H' m', m'.w = w ∧ Sat m' a T' H' ∧ T'.getD 4 .junk = .p 1 0 ∧ T'.getD 5 .junk = .d (.int .i64 0) ∧ H' = [none, some (plO ((plC (placeY s k)).map V.d)), some (plO ((plC (placeY s k)).map V.d)), none] ∧ m.le m' (· < 0) ∧ ((⟨m4.ρ, m5.I, m5.w⟩ : Mem).at (m5.w.putObj l o6)).le m' (· < 4)) ?_ _ w4 _ _ ⟨rfl, by rw [st4'.defers]; rfl⟩ ?_
 ·rintro e a a' w hbes ⟨rfl, T7, H7, m7, rfl, st7, h4, h5, rfl, le0, le7⟩
  refine wpIn_ret ?_
  have hdf : a'.defers = [{ target := .collected dd, args := #[] }] := by rw [hbes.defers, st7.defers]; rfl
  show LeavesInM _ _ _ _ _ _ a'.defers _ _
  rw [hdf, ← hbes.tmps]
  obtain ⟨lo7, hl7⟩ := loD6.keep le7
  have hd7 := hl7.trans hd6
  refine ⟨by simp, .inl ⟨dd, _, rfl, run_takeDeferred hd7, ?_⟩⟩
  have sat8 := lo7.sat (.deferred none) st7
  obtain ⟨v, hv1, hv2⟩ := o_5j (P := Tryd.prog) sat8 f10 (.tup [.d (plD (placeY s k)), .d (.int .i64 0)]) (by
   rw [ers]
   simp only [outV, outs, RV.out, h4, h5]
   rfl)
  refine ⟨v, hv1, v, ⟨fun _ => none, m7.I, m7.w.putObj dd (.deferred none)⟩, rfl, rfl, ?_⟩
  have lem := le0.far mb (l := dd) (by omega) (.deferred none)
  refine ⟨⟨sat8.base.imm, fun n b h => (by cases h), sat8.base.tabs.mono (fun _ h => h) (fun _ _ => rfl)⟩, ⟨fun n b h => (by rw [htop n (Nat.zero_le _)] at h; cases h), lem.I, lem.os, lem.tape, lem.output, lem.size, lem.block, lem.shape, lem.imm, lem.newI, fun n b h => (by cases h)⟩, ?_, by simp, by simp, fun _ _ => rfl, fun n b _ h => (by cases h)⟩
  unfold V.rep at hv2 ⊢
  obtain ⟨us, h1, h2⟩ := hv2
  exact ⟨us, h1, o_fq (ds := [plD (placeY s k), .int .i64 0]) (m := m7.at (m7.w.putObj dd (.deferred none))) rfl rfl h2⟩
 ·refine o_6e (l := none) (L := 4) (m0 := (⟨m4.ρ, m5.I, m5.w⟩ : Mem).at (m5.w.putObj l o6)) (m := (⟨m4.ρ, m5.I, m5.w⟩ : Mem).at (m5.w.putObj l o6)) (K := fun T H => T.getD 4 .junk = .p 1 0 ∧ T.getD 5 .junk = .d (.int .i64 0) ∧ H = [none, some (plO ((plC (placeY s k)).map V.d)), some (plO ((plC (placeY s k)).map V.d)), none]) [] calO (by rw [e5]; exact a_5 s k _ _ fun T h1 h2 => ⟨h1, h2, rfl⟩) sat6 (Mem.le.refl _ _) sat6.top (by simp) fun T7 H7 a7 m7 hq st7 le7 _ => ?_
  refine wpListIn_nil ⟨rfl, T7, H7, m7, rfl, st7, hq.1, hq.2.1, hq.2.2, ?_, le7⟩
  refine Mem.le.trans le6 le7 fun n b h _ => ?_
  rw [htop n (Nat.zero_le _)] at h; cases h

theorem Sub1.aggd {l r : List D} (h : Subs (l.map V.d) (r.map V.d)) : Sub1 (.d (.agg l)) (.d (.agg r)) := fun m v k => by
 rw [V.rep_d] at k ⊢
 unfold D.rep at k ⊢
 obtain ⟨vs, h1, h2, h3⟩ := k
 exact ⟨vs, h1, h2, V.reps_map_d.1 (h m vs (V.reps_map_d.2 h3))⟩
theorem Sub1.pl0 (e : D) : Sub1 (.tup [.d (.agg [.int .i64 0, .int .i64 0, .nilsl, .nilsl]), .d e]) (.tup [.d (plD ⟨0, 0, 0, 0⟩), .d e]) :=
 Sub1.tup (Subs.cons (Sub1.aggd (Subs.cons (Sub1.refl _) (Subs.cons (Sub1.refl _) (Subs.cons Sub1.nil (Subs.cons Sub1.nil (Subs.refl _)))))) (Subs.refl _))

theorem o_fw (s k : Int) : Eqn Tryd.prog o_70 [.d (.int .i64 s), .d (.int .i64 k)] [] (.tup [.d (plD (atP s k)), .d (.int .i64 (atE s k))]) [] := by
 by_cases hs : 1 ≤ s ∧ s ≤ 5
 ·by_cases hk : 0 ≤ k ∧ k ≤ 1023
  ·have e : atE s k = 0 := by rw [atE, if_pos hs, if_pos hk]
   obtain ⟨s, rfl⟩ : ∃ n : Nat, s = n := ⟨s.toNat, by omega⟩
   obtain ⟨k, rfl⟩ : ∃ n : Nat, k = n := ⟨k.toNat, by omega⟩
   rw [atP, if_pos e, e]
   exact o_fv s k (by omega) (by omega) (by omega)
  ·have e : atE s k = 2 := by rw [atE, if_pos hs, if_neg hk]
   rw [atP, if_neg (by rw [e]; omega), e]
   refine Eqn.pure o_72 (o_db _ _) ?_
   simp only [o_71]
   refine G0 ?_; try with_reducible exact tt
   refine CallS.pu (o_f5 s) (R0 ?_); try with_reducible exact tt
   refine AW.cond rfl (fun h => ?_) (fun h => ?_)
   ·simp [hs] at h
   by_cases h0 : k < 0
   ·refine G1 h0 ?_; try with_reducible exact tt
    refine AW.cond rfl (fun h => ?_) (fun h => ?_)
    ·refine G0 ?_; try with_reducible exact tt
     exact Sub1.pl0 _
    ·simp [h0] at h
   ·have h1 : 1023 < k := by omega
    refine G1 (fs h0 h1) ?_; try with_reducible exact tt
    refine AW.cond rfl (fun h => ?_) (fun h => ?_)
    ·refine G0 ?_; try with_reducible exact tt
     exact Sub1.pl0 _
    ·simp [h0, h1] at h
 ·have e : atE s k = 10 := by rw [atE, if_neg hs]
  rw [atP, if_neg (by rw [e]; omega), e]
  refine Eqn.pure o_72 (o_db _ _) ?_
  simp only [o_71]
  refine G0 ?_; try with_reducible exact tt
  refine CallS.pu (o_f5 s) (R0 ?_); try with_reducible exact tt
  refine AW.cond rfl (fun h => ?_) (fun h => ?_)
  ·refine G0 ?_; try with_reducible exact tt
   exact Sub1.pl0 _
  ·simp at h
   omega
end
end Go.Proofs.YtlelpbaeplcfiaaDoor.Am
namespace Go.Proofs.YtlelpbaeplcfiaaDoor.Am
section
open Go.RowKit
set_option maxHeartbeats 2000000 in
theorem o_fx : Eqn Tryd.prog o_6x [] [] (.d (.bool true)) [] := by
 refine Eqn.pure o_6z (o_5k _) ?_
 simp only [o_6y]
 have h1 := o_fv 1 9 (by omega) (by omega) (by omega)
 have hp : placeY 1 9 = ⟨3, 1, 12, 14⟩ := by kernel_rfl
 rw [hp] at h1
 simp only [plD] at h1
 have t1 := o_ec 12 (by omega)
 have t2 := o_ec 14 (by omega)
 rw [show smallS 12 = ⟨#[49, 50]⟩ by kernel_rfl] at t1
 rw [show smallS 14 = ⟨#[49, 52]⟩ by kernel_rfl] at t2
 refine G0 ?_; try with_reducible exact tt
 refine CallS.pu (h1) (R0 ?_); try with_reducible exact tt
 refine CallS.pu (o_f5 5) (R0 ?_); try with_reducible exact tt
 refine CallS.pu (t1) (R0 ?_); try with_reducible exact tt
 refine CallS.pu (t2) (R0 ?_); try with_reducible exact tt

theorem o_fy (s t : Nat) (ht : 0 < t) : ∃ c, moreY s t = t + c ∧ 0 < c ∧ t / 2 ^ s ≤ c := by
 unfold moreY
 have hz : t / 2 ^ s * 2 ^ s < t ∨ 0 < t / 2 ^ s := by
  rcases Nat.eq_zero_or_pos (t / 2 ^ s) with h | h
  ·left; rw [h]; omega
  ·exact .inr h
 generalize t / 2 ^ s = q at *
 generalize q * 2 ^ s = b at *
 split
 ·exact ⟨q + 1, rfl, by omega, by omega⟩
 ·exact ⟨q, rfl, by omega, by omega⟩
theorem o_fz {s : Nat} (hs : 1 ≤ s) (k : Nat) : (placeY s k).shift = shiftY s (placeY s k).reply ∧ (placeY s k).value < (placeY s k).reply ∧ 0 < (placeY s k).reply := by
 induction k with
 | zero =>
  simp only [placeY]
  refine ⟨?_, Nat.two_pow_pos _, Nat.two_pow_pos _⟩
  have h1 : bitsN (2 ^ (2 * s)) = 2 * s + 1 := by
   rw [o_ef (k := 2 * s) (Nat.le_refl _), Nat.div_self (Nat.two_pow_pos _)]; rfl
  rw [shiftY, h1]; omega
 | succ k ih =>
  obtain ⟨h1, h2, h3⟩ := ih
  have hm : (placeY s k).reply < moreY s (placeY s k).reply ∧ (placeY s k).value + 2 ^ (placeY s k).shift < moreY s (placeY s k).reply := by
   generalize placeY s k = p at *
   obtain ⟨c, hc1, hc2, hc3⟩ := o_fy s p.reply h3
   have hc : 2 ^ p.shift ≤ c := by
    obtain ⟨hb1, hb2⟩ := o_eg h3
    rcases Nat.eq_zero_or_pos p.shift with h0 | h0
    ·rw [h0]; exact hc2
    ·rw [h1, shiftY] at h0
     refine Nat.le_trans ?_ hc3
     rw [Nat.le_div_iff_mul_le (Nat.two_pow_pos _), ← Nat.pow_add]
     refine Nat.le_trans (Nat.pow_le_pow_right (by omega) ?_) hb1
     rw [h1, shiftY]; omega
   omega
  simp only [placeY, nextY]
  split
  ·exact ⟨rfl, hm.2, by simp only; omega⟩
  ·exact ⟨h1, by simp only; omega, h3⟩
theorem o_g0 {a b : Nat} (h : a ≤ b) : bitsN a ≤ bitsN b := o_ee (Nat.lt_of_le_of_lt h (o_ed b))
theorem o_g1 {a b : Nat} (h : b ≤ 2 * a) : bitsN b ≤ bitsN a + 1 := o_ee (by have := o_ed a; rw [Nat.pow_succ]; omega)

theorem o_g2 {s k : Nat} (hs : 1 ≤ s) : (placeY s k).value < (placeY s (k + 1)).value ∧ (placeY s k).shift ≤ (placeY s (k + 1)).shift ∧ (placeY s (k + 1)).shift ≤ (placeY s k).shift + 1 ∧ (placeY s k).value < (placeY s k).reply ∧
  (((placeY s (k + 1)).x = (placeY s k).x ∧ (placeY s (k + 1)).reply = (placeY s k).reply) ∨ ((placeY s (k + 1)).x = (placeY s k).x + 1 ∧ (placeY s k).reply < (placeY s (k + 1)).reply)) := by
 obtain ⟨h1, h2, h3⟩ := o_fz hs k
 obtain ⟨g1, g2, g3⟩ := o_fz hs (k + 1)
 have h4 := (o_ei hs k).1
 have hm := o_eh hs (show 2 ≤ (placeY s k).reply by omega)
 have hm2 : (placeY s k).reply ≤ moreY s (placeY s k).reply := by
  obtain ⟨c, hc1, hc2, hc3⟩ := o_fy s _ h3
  omega
 have b1 := o_g0 hm2
 have b2 := o_g1 hm
 have hp := Nat.two_pow_pos (placeY s k).shift
 have hm3 : (placeY s k).reply < moreY s (placeY s k).reply := by
  obtain ⟨c, hc1, hc2, hc3⟩ := o_fy s _ h3
  omega
 simp only [placeY, nextY] at g1 g2 g3 ⊢
 split
 ·refine ⟨by simp only; omega, ?_, ?_, h2, .inr ⟨rfl, hm3⟩⟩
  ·simp only [h1, shiftY]; omega
  ·simp only [h1, shiftY]; omega
 ·exact ⟨by simp only; omega, Nat.le_refl _, Nat.le_succ _, h2, .inl ⟨rfl, rfl⟩⟩
end
end Go.Proofs.YtlelpbaeplcfiaaDoor.Am
namespace Go.Proofs.YtlelpbaeplcfiaaDoor.Am
section
open Go.RowKit
def p2 (n : Nat) : Nat := 2 ^ n
def halfO (cs : List Bool) : Nat → Nat → Bool × Nat × Int
 | 0, i => (true, i, 0)
 | r + 1, i => if i < cs.length then (if cs.getD i false then halfO cs r (i + 1) else (false, i + 1, 0)) else (false, i, 8)
end
end Go.Proofs.YtlelpbaeplcfiaaDoor.Am
namespace Go.Proofs.YtlelpbaeplcfiaaDoor.Am
section
open Go.RowKit
theorem o_g3 (s k : Int) : Eqn Tryd.prog o_83 [.d (.int .i64 s), .d (.int .i64 k)] [] (.d (.int .i64 (atE s k))) [] := by
 refine Eqn.pure o_85 (o_5k _) ?_
 simp only [o_84]
 by_cases h0 : s < 1
 ·refine G1 h0 ?_; try with_reducible exact tt
  refine AW.cond rfl (fun h => ?_) (fun h => ?_)
  ·refine G0 ?_; try with_reducible exact tt
   refine Sub1.int ?_
   rw [atE, if_neg (by omega)]
  ·simp [h0] at h
 by_cases h1 : 5 < s
 ·refine G1 (fs h0 h1) ?_; try with_reducible exact tt
  refine AW.cond rfl (fun h => ?_) (fun h => ?_)
  ·refine G0 ?_; try with_reducible exact tt
   refine Sub1.int ?_
   rw [atE, if_neg (by omega)]
  ·simp [h0, h1] at h
 by_cases h2 : k < 0
 ·refine G1 (fs h0 (fs h1 h2)) ?_; try with_reducible exact tt
  refine AW.cond rfl (fun h => ?_) (fun h => ?_)
  ·simp [h0, h1] at h
  refine G1 (fs h0 (fs h1 h2)) ?_; try with_reducible exact tt
  refine AW.cond rfl (fun h => ?_) (fun h => ?_)
  ·refine G0 ?_; try with_reducible exact tt
   refine Sub1.int ?_
   rw [atE, if_pos (by omega), if_neg (by omega)]
  ·simp [h2] at h
 by_cases h3 : 1023 < k
 ·refine G1 (fs h0 (fs h1 (fs h2 h3))) ?_; try with_reducible exact tt
  refine AW.cond rfl (fun h => ?_) (fun h => ?_)
  ·simp [h0, h1] at h
  refine G1 (fs h0 (fs h1 (fs h2 h3))) ?_; try with_reducible exact tt
  refine AW.cond rfl (fun h => ?_) (fun h => ?_)
  ·refine G0 ?_; try with_reducible exact tt
   refine Sub1.int ?_
   rw [atE, if_pos (by omega), if_neg (by omega)]
  ·simp [h2, h3] at h
 refine G1 (fs h0 (fs h1 (fs h2 h3))) ?_; try with_reducible exact tt
 refine AW.cond rfl (fun h => ?_) (fun h => ?_)
 ·simp [h0, h1] at h
 refine G1 (fs h0 (fs h1 (fs h2 h3))) ?_; try with_reducible exact tt
 refine AW.cond rfl (fun h => ?_) (fun h => ?_)
 ·simp [h2, h3] at h
 refine G0 ?_; try with_reducible exact tt
 refine Sub1.int ?_
 rw [atE, if_pos (by omega), if_pos (by omega)]

theorem o_g4 {s k : Int} (h : atE s k = 0) : 1 ≤ s ∧ s ≤ 5 ∧ 0 ≤ k ∧ k ≤ 1023 := by
 unfold atE at h
 split at h
 ·split at h <;> omega
 ·omega
theorem o_g5 {s k : Int} (h : atE s k = 0) : (atP s k).shift ≤ 8192 := by
 have h1 := o_g4 h
 rw [atP, if_pos h]
 exact (o_fn (s := s.toNat) (k := k.toNat) (by omega) (by omega) (by omega)).2.1

def stepY (cs : List Bool) (s k : Int) : Bool × Int × Nat × Bool := if atE s k = 0 then halfR cs (atP s k).shift 0 false else (false, atE s k, 0, false)
def againE (s k j : Int) : Int := if atE s k = 0 then atE s j else atE s k
def againY (cs : List Bool) (s k j : Int) : Bool × Int × Nat × Bool := if againE s k j = 0 then halfR cs ((atP s k).shift - (atP s j).shift) 0 false else (false, againE s k j, 0, false)
end
end Go.Proofs.YtlelpbaeplcfiaaDoor.Am
namespace Go.Proofs.YtlelpbaeplcfiaaDoor.Am
section
open Go.RowKit
end
end Go.Proofs.YtlelpbaeplcfiaaDoor.Am
namespace Go.Proofs.YtlelpbaeplcfiaaDoor.Am
section
open Go.RowKit
def parD (k a w : Int) : D := .agg [.int .i64 k, .int .i64 a, .int .i64 w]
end
end Go.Proofs.YtlelpbaeplcfiaaDoor.Am
namespace Go.Proofs.YtlelpbaeplcfiaaDoor.Am
section
open Go.RowKit
end
end Go.Proofs.YtlelpbaeplcfiaaDoor.Am
namespace Go.Proofs.YtlelpbaeplcfiaaDoor.Am
section
open Go.RowKit
end
end Go.Proofs.YtlelpbaeplcfiaaDoor.Am
namespace Go.Proofs.YtlelpbaeplcfiaaDoor.Am
section
open Go.RowKit
def stepG (cs : List Bool) (d k : Int) (p : Nat) (dd : Bool) : Bool × Int × Nat × Bool := if wrongZ d [k] = 0 then halfR cs (k.toNat / 2 ^ d.toNat) p dd else (false, wrongZ d [k], p, dd)

def stepYG (cs : List Bool) (s k : Int) (q : Nat) (dd : Bool) : Bool × Int × Nat × Bool := if atE s k = 0 then halfR cs (atP s k).shift q dd else (false, atE s k, q, dd)
end
end Go.Proofs.YtlelpbaeplcfiaaDoor.Am
namespace Go.Proofs.YtlelpbaeplcfiaaDoor.Am
section
abbrev StepT := Nat → Nat → Bool → Bool × Int × Nat × Bool
def addL (st : StepT) (top : Nat) : Nat → Nat → Bool → Nat → Bool → Int × Nat × Bool × Nat × Bool
 | 0, x, f, p, d => (0, x, f, p, d)
 | n + 1, x, f, p, d =>
  if x = top then (0, x, true, p, d)
  else if (st x p d).2.1 = 0 then
   if f = true ∧ (if (st x p d).1 then x + 1 else x) = top then (0, top, f, (st x p d).2.2.1, (st x p d).2.2.2)
   else addL st top n (if (st x p d).1 then x + 1 else x) f (st x p d).2.2.1 (st x p d).2.2.2
  else ((st x p d).2.1, x, f, (st x p d).2.2.1, (st x p d).2.2.2)
end
end Go.Proofs.YtlelpbaeplcfiaaDoor.Am
namespace Go.Proofs.YtlelpbaeplcfiaaDoor.Am
section
open Go.RowKit
end
end Go.Proofs.YtlelpbaeplcfiaaDoor.Am
namespace Go.Proofs.YtlelpbaeplcfiaaDoor.Am
section
open Go.RowKit
def stOf (cs : List Bool) (k a : Int) : StepT := fun x p dd => if k = 1 then stepM cs a x p dd else if k = 2 then stepG cs a x p dd else stepYG cs a x p dd
def GoodS (k a w : Nat) : Prop := (k = 1 ∧ 1 ≤ a ∧ a ≤ 4 ∨ k = 2 ∧ a ≤ 1 ∨ k = 3 ∧ 1 ≤ a ∧ a ≤ 2) ∧ 1 ≤ w ∧ w ≤ 4
end
end Go.Proofs.YtlelpbaeplcfiaaDoor.Am
namespace Go.Proofs.YtlelpbaeplcfiaaDoor.Am
section
open Go.RowKit
abbrev AgT := Nat → Nat → Nat → Bool → Bool × Int × Nat × Bool
def agOf (cs : List Bool) (k a : Nat) : AgT := fun x r p dd => if k = 1 then powerR cs a (a + 1) (x - r) p dd else if k = 2 then halfR cs (x / 2 ^ a - r / 2 ^ a) p dd else halfR cs ((placeY a x).shift - (placeY a r).shift) p dd
end
end Go.Proofs.YtlelpbaeplcfiaaDoor.Am
namespace Go.Proofs.YtlelpbaeplcfiaaDoor.Am
section
open Go.RowKit
def mergeL (ag : AgT) (top : Nat) : Nat → Nat → Nat → Bool → Nat → Bool → Int × Nat × Bool × Nat × Bool
 | 0, _, x, f, p, d => (0, x, f, p, d)
 | n + 1, r, x, f, p, d =>
  if x = top then mergeL ag top n (r + 1) x true p d
  else if (ag x r p d).2.1 = 0 then mergeL ag top n (r + 1) (if (ag x r p d).1 then x + 1 else x) f (ag x r p d).2.2.1 (ag x r p d).2.2.2
  else ((ag x r p d).2.1, x, f, (ag x r p d).2.2.1, (ag x r p d).2.2.2)
end
end Go.Proofs.YtlelpbaeplcfiaaDoor.Am
namespace Go.Proofs.YtlelpbaeplcfiaaDoor.Am
section
open Go.RowKit
def outD (p : Nat) (R : Bool × Int × Nat × Bool) : D := .agg [.bool R.1, .int .i64 (R.2.2.1 - p : Nat), .int .i64 R.2.1]
end
end Go.Proofs.YtlelpbaeplcfiaaDoor.Am
namespace Go.Proofs.YtlelpbaeplcfiaaDoor.Am
section
open Go.RowKit
end
end Go.Proofs.YtlelpbaeplcfiaaDoor.Am
namespace Go.Proofs.YtlelpbaeplcfiaaDoor.Am
section
open Go.RowKit
structure Live (p : Nat) (R : Bool × Int × Nat × Bool) : Prop where
 err : R.2.1 = 0 ∨ R.2.1 = 8
 dead : R.2.2.2 = true ↔ R.2.1 ≠ 0
 no : R.2.1 ≠ 0 → R.1 = false
 le : p ≤ R.2.2.1

theorem Live.mono {p q : Nat} {R : Bool × Int × Nat × Bool} (h : Live q R) (hq : p ≤ q) : Live p R := ⟨h.err, h.dead, h.no, Nat.le_trans hq h.le⟩
theorem Live.ok {p : Nat} {R : Bool × Int × Nat × Bool} (h : Live p R) (h1 : R.2.1 = 0) : R.2.2.2 = false := by
 cases hd : R.2.2.2 with
 | false => rfl
 | true => exact absurd h1 (h.dead.1 hd)
end
end Go.Proofs.YtlelpbaeplcfiaaDoor.Am
namespace Go.Proofs.YtlelpbaeplcfiaaDoor.Am
section
open Go.RowKit
def halfD (e : Nat) : D := .agg [natW 1, .bool false, natW (2 ^ e - 1)]
def expOf (k a x : Nat) : Nat := if k = 2 then x / 2 ^ a else (placeY a x).shift
end
end Go.Proofs.YtlelpbaeplcfiaaDoor.Am
namespace Go.Proofs.YtlelpbaeplcfiaaDoor.Am
section
open Go.RowKit
end
end Go.Proofs.YtlelpbaeplcfiaaDoor.Am
namespace Go.Proofs.YtlelpbaeplcfiaaDoor.Am
section
open Go.RowKit
end
end Go.Proofs.YtlelpbaeplcfiaaDoor.Am
namespace Go.Proofs.YtlelpbaeplcfiaaDoor.Am
section
structure TR where
 e : Int
 y : Nat
 t : Nat
 f : Bool
 p : Nat
 d : Bool
end
end Go.Proofs.YtlelpbaeplcfiaaDoor.Am
namespace Go.Proofs.YtlelpbaeplcfiaaDoor.Am
section
open Go.RowKit
def binM (cs : List Bool) : Nat → Nat → Nat → Bool → Int × Nat × Nat × Bool
 | 0, c, p, d => (0, c, p, d)
 | n + 1, c, p, d => if flipE cs p d = 0 then binM cs n (if flipB cs p d then c + 1 else c) (flipP cs p d) (flipD cs p d) else (flipE cs p d, 0, flipP cs p d, flipD cs p d)
def thinM (cs : List Bool) (f : Bool) : Nat → Nat → Nat → Nat → Bool → TR
 | 0, y, t, p, d => ⟨0, y, t, f, p, d⟩
 | n + 1, y, t, p, d => if (binM cs y 0 p d).1 = 0 then thinM cs f n (binM cs y 0 p d).2.1 (t + 1) (binM cs y 0 p d).2.2.1 (binM cs y 0 p d).2.2.2 else ⟨(binM cs y 0 p d).1, y, t, f, (binM cs y 0 p d).2.2.1, (binM cs y 0 p d).2.2.2⟩
def downM (cs : List Bool) (most times : Nat) : Nat → Nat → Nat → Bool → Nat → Bool → TR
 | 0, y, t, f, p, d => ⟨0, y, t, f, p, d⟩
 | k + 1, y, t, f, p, d =>
  if most < y then
   if t = times then ⟨0, most, t, true, p, d⟩
   else if (thinM cs f 1 y t p d).e = 0 then downM cs most times k (thinM cs f 1 y t p d).y (thinM cs f 1 y t p d).t f (thinM cs f 1 y t p d).p (thinM cs f 1 y t p d).d
   else ⟨(thinM cs f 1 y t p d).e, y, t, f, (thinM cs f 1 y t p d).p, (thinM cs f 1 y t p d).d⟩
  else ⟨0, y, t, f, p, d⟩
def oneM (cs : List Bool) (most times y t : Nat) (f : Bool) (p : Nat) (d : Bool) : TR :=
 if (halfR cs t p d).1 then downM cs most times (times - t + 1) (y + 1) t f (halfR cs t p d).2.2.1 (halfR cs t p d).2.2.2
 else ⟨(halfR cs t p d).2.1, y, t, f, (halfR cs t p d).2.2.1, (halfR cs t p d).2.2.2⟩
def addTM (cs : List Bool) (most times : Nat) : Nat → Nat → Nat → Bool → Nat → Bool → TR
 | 0, y, t, f, p, d => ⟨0, y, t, f, p, d⟩
 | n + 1, y, t, f, p, d => if (oneM cs most times y t f p d).e = 0 then addTM cs most times n (oneM cs most times y t f p d).y (oneM cs most times y t f p d).t (oneM cs most times y t f p d).f (oneM cs most times y t f p d).p (oneM cs most times y t f p d).d else oneM cs most times y t f p d
def mergeTM (cs : List Bool) (most times y t : Nat) (f : Bool) (z u : Nat) (g : Bool) (p : Nat) (d : Bool) : TR :=
 let A := thinM cs f (u - t) y t p d
 if A.e = 0 then
  let B := thinM cs g (t - u) z u A.p A.d
  if B.e = 0 then downM cs most times (times - A.t + 1) (A.y + B.y) A.t (f || g) B.p B.d else B
 else A

def tsD (y t : Nat) (f : Bool) : D := .agg [.int .i64 y, .int .i64 t, .bool f]
end
end Go.Proofs.YtlelpbaeplcfiaaDoor.Am
namespace Go.Proofs.YtlelpbaeplcfiaaDoor.Am
section
open Go.RowKit
def tpD (a b : Int) : D := .agg [.int .i64 a, .int .i64 b]

def GoodT (a b : Nat) : Prop := 1 ≤ a ∧ a ≤ 1023 ∧ b ≤ 20
def WellT (a b y t : Nat) (f : Bool) : Prop := y ≤ a ∧ t ≤ b ∧ (f = true → t = b)
end
end Go.Proofs.YtlelpbaeplcfiaaDoor.Am
namespace Go.Proofs.YtlelpbaeplcfiaaDoor.Am
section
open Go.RowKit
end
end Go.Proofs.YtlelpbaeplcfiaaDoor.Am
namespace Go.Proofs.YtlelpbaeplcfiaaDoor.Am
section
open Go.RowKit
def GoodC (k a w : Nat) : Prop := (k = 1 ∧ 1 ≤ a ∧ a ≤ 4096 ∧ bitsN (a + 1) * (2 ^ w - 1) ≤ 8192 ∨ k = 2 ∧ a ≤ 8 ∨ k = 3 ∧ 1 ≤ a ∧ a ≤ 5) ∧ 1 ≤ w ∧ w ≤ 10
def GoodR (k a b : Nat) : Prop := k = 4 ∧ GoodT a b ∨ k ≠ 4 ∧ GoodC k a b
def WellR (k a b y t : Nat) (f : Bool) : Prop := k = 4 ∧ WellT a b y t f ∨ k ≠ 4 ∧ t = 0 ∧ y ≤ 2 ^ b - 1 ∧ (f = true → y = 2 ^ b - 1)
def addRM (cs : List Bool) (k a b n y t : Nat) (f : Bool) (p : Nat) (d : Bool) : TR :=
 if k = 4 then addTM cs a b n y t f p d
 else ⟨(addL (stOf cs k a) (2 ^ b - 1) n y f p d).1, (addL (stOf cs k a) (2 ^ b - 1) n y f p d).2.1, 0, (addL (stOf cs k a) (2 ^ b - 1) n y f p d).2.2.1, (addL (stOf cs k a) (2 ^ b - 1) n y f p d).2.2.2.1, (addL (stOf cs k a) (2 ^ b - 1) n y f p d).2.2.2.2⟩
def mergeRM (cs : List Bool) (k a b y t : Nat) (f : Bool) (z u : Nat) (g : Bool) (p : Nat) (d : Bool) : TR :=
 if k = 4 then mergeTM cs a b y t f z u g p d
 else ⟨(mergeL (agOf cs k a) (2 ^ b - 1) z 0 y f p d).1, (mergeL (agOf cs k a) (2 ^ b - 1) z 0 y f p d).2.1, 0, (mergeL (agOf cs k a) (2 ^ b - 1) z 0 y f p d).2.2.1 || g, (mergeL (agOf cs k a) (2 ^ b - 1) z 0 y f p d).2.2.2.1, (mergeL (agOf cs k a) (2 ^ b - 1) z 0 y f p d).2.2.2.2⟩
end
end Go.Proofs.YtlelpbaeplcfiaaDoor.Am
namespace Go.Proofs.YtlelpbaeplcfiaaDoor.Am
section
def b2n (b : Bool) : Nat := if b then 1 else 0
@[simp] theorem o_g6 (b : Bool) : b2n b ≤ 1 := by cases b <;> decide
def numB : List Bool → Nat → Nat
 | [], n => n
 | b :: l, n => numB l (2 * n + b2n b)
theorem o_g7 : ∀ (l : List Bool) (n : Nat), numB l n = n * 2 ^ l.length + numB l 0
 | [], n => by simp [numB]
 | b :: l, n => by
  rw [numB, o_g7 l, numB, o_g7 l (2 * 0 + b2n b), List.length_cons, Nat.pow_succ, Nat.add_mul, Nat.mul_zero, Nat.zero_add, ← Nat.add_assoc, Nat.mul_comm 2 n, Nat.mul_assoc, Nat.mul_comm 2]
theorem o_g8 : ∀ l : List Bool, numB l 0 < 2 ^ l.length
 | [] => by simp [numB]
 | b :: l => by
  rw [numB, o_g7, List.length_cons, Nat.pow_succ]
  have := o_g8 l
  have := o_g6 b
  generalize 2 ^ l.length = v at *
  cases b <;> simp [b2n] <;> omega
def bitsW (n w : Nat) : List Bool := (List.range w).map fun i => decide (n / 2 ^ (w - 1 - i) % 2 = 1)
@[simp] theorem o_g9 (n w : Nat) : (bitsW n w).length = w := by simp [bitsW]
theorem o_ga (n w : Nat) : bitsW n (w + 1) = bitsW (n / 2) w ++ [decide (n % 2 = 1)] := by
 simp only [bitsW, List.range_succ, List.map_append, List.map_cons, List.map_nil]
 congr 1
 ·apply List.map_congr_left
  intro i hi
  have := List.mem_range.1 hi
  rw [Nat.div_div_eq_div_mul, ← Nat.pow_succ', show w + 1 - 1 - i = (w - 1 - i).succ by omega]
 ·simp
def bit (bs : List Bool) (i : Nat) : Nat := b2n (bs.getD i false)
def byteAt (bs : List Bool) (i : Nat) : Nat := bit bs (8 * i) * 128 + bit bs (8 * i + 1) * 64 + bit bs (8 * i + 2) * 32 + bit bs (8 * i + 3) * 16 + bit bs (8 * i + 4) * 8 + bit bs (8 * i + 5) * 4 + bit bs (8 * i + 6) * 2 + bit bs (8 * i + 7)
def bytesOf (bs : List Bool) : List Nat := (List.range ((bs.length + 7) / 8)).map (byteAt bs)
@[simp] theorem o_gb (bs : List Bool) : (bytesOf bs).length = (bs.length + 7) / 8 := by simp [bytesOf]
theorem o_gc {bs : List Bool} {i : Nat} (h : bs.length ≤ i) : bit bs i = 0 := by
 unfold bit; rw [List.getD_eq_getElem?_getD, List.getElem?_eq_none h]; rfl
def bitsOf1 (x : Nat) : List Bool := bitsW x 8
def bitsOf : List Nat → List Bool
 | [] => []
 | x :: l => bitsOf1 x ++ bitsOf l
@[simp] theorem o_gd : ∀ l : List Nat, (bitsOf l).length = 8 * l.length
 | [] => rfl
 | x :: l => by simp [bitsOf, bitsOf1, o_gd l]; omega
theorem o_ge : ∀ l k : List Nat, bitsOf (l ++ k) = bitsOf l ++ bitsOf k
 | [], k => rfl
 | x :: l, k => by simp [bitsOf, o_ge l k]
end
end Go.Proofs.YtlelpbaeplcfiaaDoor.Am
namespace Go.Proofs.YtlelpbaeplcfiaaDoor.Am
section
open Go.RowKit
def u8s (ws : List Nat) : List V := ws.map fun x : Nat => V.d (.int .u8 x)
def BY (ws : List Nat) : D := .sl ws.length (ws.map fun x : Nat => .int .u8 x)
@[simp] theorem o_gf (n : Nat) (ws : List Nat) : V.lowl n (u8s ws) = true := by induction ws <;> simp_all [u8s]
@[simp] theorem o_gg (θ : Nat → Nat) (ws : List Nat) : V.rens θ (u8s ws) = u8s ws := by induction ws <;> simp_all [u8s]
def wrB (bs : List Bool) : Ob := ⟨5, u8s (bytesOf bs)⟩
end
end Go.Proofs.YtlelpbaeplcfiaaDoor.Am
namespace Go.Proofs.YtlelpbaeplcfiaaDoor.Am
section
open Go.RowKit
def smallB (ws : List Nat) : Prop := ∀ x ∈ ws, x < 256
end
end Go.Proofs.YtlelpbaeplcfiaaDoor.Am
namespace Go.Proofs.YtlelpbaeplcfiaaDoor.Am
section
open Go.RowKit
def numAt (ws : List Nat) (a w : Nat) : Nat := numB (((bitsOf ws).drop a).take w) 0
end
end Go.Proofs.YtlelpbaeplcfiaaDoor.Am
namespace Go.Proofs.YtlelpbaeplcfiaaDoor.Am
section
open Go.RowKit
def wellTB (a b y t : Nat) (f : Bool) : Bool := decide (y ≤ a) && (decide (t ≤ b) && (!f || t == b))
def wellRB (k a b y t : Nat) (f : Bool) : Bool := if k = 4 then wellTB a b y t f else (t == 0) && (decide (y ≤ 2 ^ b - 1) && (!f || y == 2 ^ b - 1))
end
end Go.Proofs.YtlelpbaeplcfiaaDoor.Am
namespace Go.Proofs.YtlelpbaeplcfiaaDoor.Am
section
open Go.RowKit
def stR (R : TR) (y t : Nat) (f : Bool) : D := if R.e = 0 then tsD R.y R.t R.f else tsD y t f
end
end Go.Proofs.YtlelpbaeplcfiaaDoor.Am
namespace Go.Proofs.YtlelpbaeplcfiaaDoor.Am
section
open Go.RowKit
def kwR (k a b : Nat) : Nat := if k = 4 then bitsN a else b
def twR (k b : Nat) : Nat := if k = 4 then bitsN b else 0
def encR (k a b y t : Nat) (f : Bool) : List Bool := bitsW y (kwR k a b) ++ bitsW t (twR k b) ++ [f]
theorem o_gh (k a b y t : Nat) (f : Bool) : (encR k a b y t f).length = kwR k a b + twR k b + 1 := by simp [encR]; omega

def readR (ws : List Nat) (k a b at_ : Nat) : (Nat × Nat × Bool) × Int × Nat :=
 if 8 * ws.length - at_ < kwR k a b + twR k b + 1 then ((0, 0, false), 5, at_)
 else if wellRB k a b (numAt ws at_ (kwR k a b)) (numAt ws (at_ + kwR k a b) (twR k b)) ((bitsOf ws).getD (at_ + kwR k a b + twR k b) false) then ((numAt ws at_ (kwR k a b), numAt ws (at_ + kwR k a b) (twR k b), (bitsOf ws).getD (at_ + kwR k a b + twR k b) false), 0, at_ + kwR k a b + twR k b + 1)
 else ((0, 0, false), 4, at_ + kwR k a b + twR k b + 1)
end
end Go.Proofs.YtlelpbaeplcfiaaDoor.Am
namespace Go.Proofs.YtlelpbaeplcfiaaDoor.Am
section
def ofB (f : Nat → Bool) : Nat → Nat
 | 0 => 0
 | n + 1 => ofB f n + (if f n then 2 ^ n else 0)
def bitX (w : Nat) (xs : List Nat) (k : Nat) : Bool := (xs.getD (k / w) 0).testBit (k % w)
def nwP (n w : Nat) : Nat := (n * w + 63) / 64
def wordsP (w : Nat) (xs : List Nat) : List Nat := (List.range (nwP xs.length w)).map fun j => ofB (fun b => bitX w xs (64 * j + b)) 64
@[simp] theorem o_gi (w : Nat) (xs : List Nat) : (wordsP w xs).length = nwP xs.length w := by simp [wordsP]
theorem o_gj {w : Nat} {xs : List Nat} {j : Nat} (h : j < nwP xs.length w) : (wordsP w xs).getD j 0 = ofB (fun b => bitX w xs (64 * j + b)) 64 := by
 unfold wordsP; rw [List.getD_eq_getElem?_getD, List.getElem?_map, List.getElem?_range h]; rfl
def smallP (w : Nat) (xs : List Nat) : Prop := ∀ x ∈ xs, x < 2 ^ w
def andN (x y : Nat) : Nat := x &&& (2 ^ 64 - 1 - y)
def setW1 (w : Nat) (x v r : Nat) : Nat := andN x ((2 ^ w - 1) * 2 ^ r % 2 ^ 64) ||| v * 2 ^ r % 2 ^ 64
def setW2 (w : Nat) (x v s : Nat) : Nat := andN x ((2 ^ w - 1) / 2 ^ s) ||| v / 2 ^ s
end
end Go.Proofs.YtlelpbaeplcfiaaDoor.Am
namespace Go.Proofs.YtlelpbaeplcfiaaDoor.Am
section
open Go.RowKit
def u64s (ws : List Nat) : List V := ws.map fun x : Nat => V.d (.int .u64 x)
@[simp] theorem o_gk (n : Nat) (ws : List Nat) : V.lowl n (u64s ws) = true := by induction ws <;> simp_all [u64s]
@[simp] theorem o_gl (θ : Nat → Nat) (ws : List Nat) : V.rens θ (u64s ws) = u64s ws := by induction ws <;> simp_all [u64s]
def vecB (w : Nat) (xs : List Nat) : Ob := ⟨34, u64s (wordsP w xs)⟩

def vecD (w : Nat) (xs : List Nat) : List D := [.sl (nwP xs.length w) ((wordsP w xs).map fun x : Nat => D.int .u64 x), .int .i64 xs.length, .int .i64 w]
end
end Go.Proofs.YtlelpbaeplcfiaaDoor.Am
namespace Go.Proofs.YtlelpbaeplcfiaaDoor.Am
section
open Go.RowKit
end
end Go.Proofs.YtlelpbaeplcfiaaDoor.Am
namespace Go.Proofs.YtlelpbaeplcfiaaDoor.Am
section
open Go.RowKit
def encN (k a b y t : Nat) (f : Bool) : Nat := numB (encR k a b y t f) 0
def wdR (k a b : Nat) : Nat := kwR k a b + twR k b + 1
theorem o_gm (k a b y t : Nat) (f : Bool) : encN k a b y t f < 2 ^ wdR k a b := by have := o_g8 (encR k a b y t f); rw [o_gh] at this; exact this
abbrev ST := Nat × Nat × Bool
def encs (k a b : Nat) (l : List ST) : List Nat := l.map fun s => encN k a b s.1 s.2.1 s.2.2
def wells (k a b : Nat) (l : List ST) : Prop := ∀ s ∈ l, WellR k a b s.1 s.2.1 s.2.2
@[simp] theorem o_gn (k a b : Nat) (l : List ST) : (encs k a b l).length = l.length := by simp [encs]
theorem o_go (k a b : Nat) (l : List ST) : smallP (wdR k a b) (encs k a b l) := by
 intro x hx
 obtain ⟨s, -, rfl⟩ := List.mem_map.1 hx
 exact o_gm _ _ _ _ _ _
def arrB (k a b : Nat) (l : List ST) : Ob := vecB (wdR k a b) (encs k a b l)
end
end Go.Proofs.YtlelpbaeplcfiaaDoor.Am
namespace Go.Proofs.YtlelpbaeplcfiaaDoor.Am
section
open Go.RowKit
end
end Go.Proofs.YtlelpbaeplcfiaaDoor.Am
namespace Go.Proofs.YtlelpbaeplcfiaaDoor.Am
section
open Go.RowKit
end
end Go.Proofs.YtlelpbaeplcfiaaDoor.Am
namespace Go.Proofs.YtlelpbaeplcfiaaDoor.Am
section
open Go.RowKit
theorem o_gp (n s : Nat) (ds : List D) (l : List D) : V.frzs n s ds (l.map V.d) = l.map V.d := by
 rw [o_5f]; simp [V.frz]
end
end Go.Proofs.YtlelpbaeplcfiaaDoor.Am
namespace Go.Proofs.YtlelpbaeplcfiaaDoor.Am
section
open Go.RowKit
section
variable {P : Program} {L : Nat} {Q : Exit → List V → List (Option Ob) → Prop} {T : List V} {H : List (Option Ob)} {x : C}
def AWu (P : Program) (L : Nat) (x : C) (Q : Exit → List V → List (Option Ob) → Prop) : Nat → List V → List (Option Ob) → Prop
 | 0, _, _ => False
 | n + 1, T, H => AW P L x (thenQ (AWu P L x Q n) Q) T H
theorem AW.rounds (n : Nat) (h : AWu P L x Q n T H) : AW P L (.loop x) Q T H := by
 refine AW.loop (fun k T H => AWu P L x Q k T H) n h fun k T H hk => ?_
 cases k with
 | zero => exact hk.elim
 | succ k =>
  refine AW.mono hk fun e T' H' hq => ?_
  cases e <;> first | exact ⟨k, Nat.lt_succ_self k, hq⟩ | exact hq
theorem AWu.next {n : Nat} (h : AW P L x (thenQ (AWu P L x Q n) Q) T H) : AWu P L x Q (n + 1) T H := h
end
theorem EqnD.sub {P : Program} {f : FuncId} {args args' : List V} {Hs Hs' : List Ob} {X : V} {dead : List Nat} (E : EqnD P f args' Hs X Hs' dead) (h : Subs args args') : EqnD P f args Hs X Hs' dead :=
 ⟨E.len, E.old, E.lowx, E.lowo, fun m vs hb hv => E.run m vs hb (h m vs hv)⟩
end
end Go.Proofs.YtlelpbaeplcfiaaDoor.Am
namespace Go.Proofs.YtlelpbaeplcfiaaDoor.Am
section
open Go.RowKit
attribute [simp] o_gp o_67 o_68
@[simp] theorem o_gq (θ : Nat → Nat) : ∀ l k : List V, V.rens θ (l ++ k) = V.rens θ l ++ V.rens θ k
 | [], k => by simp [V.rens]
 | x :: l, k => by simp [V.rens, o_gq θ l k]
@[simp] theorem o_gr (n : Nat) : ∀ l k : List V, V.lowl n (l ++ k) = (V.lowl n l && V.lowl n k)
 | [], k => by simp [V.lowl]
 | x :: l, k => by simp [V.lowl, o_gr n l k, Bool.and_assoc]
def arrD (k a b : Nat) (l : List ST) : List D := [.ptr (vecD (wdR k a b) (encs k a b l)) 0, .int .i64 k, .int .i64 a, .int .i64 b]
end
end Go.Proofs.YtlelpbaeplcfiaaDoor.Am
namespace Go.Proofs.YtlelpbaeplcfiaaDoor.Am
section
open Go.RowKit
def dsD (l : List Nat) : List D := l.map fun x : Nat => D.int .i64 x
def nD (n : Nat) : D := .sl (sizeD n) (dsD (decs n))
theorem o_gs (l : List Nat) : (dsD l).length = l.length := by simp [dsD]
theorem o_gt (l : List Nat) (i : Nat) (h : i < l.length) : (dsD l)[i]? = some (.int .i64 (l.getD i 0 : Nat)) := by simp [dsD, h]
theorem o_gu : decs 0 = [] := rfl
theorem o_gv : nD 0 = .sl 0 [] := rfl

theorem o_gw (l : List Nat) (hs : dsmall l) (hn : l.length ≤ 1000000) : Eqn Tryd.prog o_b2 [.d (.sl l.length (dsD l))] [] (.d (nD (dval l))) [] := by
 refine Eqn.pure o_b4 Plain.ok ?_
 have hlen := o_gs l
 have hget := o_gt l
 have htk : ∀ i, i ≤ l.length → trimN l i = trimN l l.length → trimN l i = i → D.sl i ((dsD l).take i) = nD (dval l) := by
  intro i hi h1 h2
  have h3 := o_z l l.length (Nat.le_refl _)
  have h4 := o_5 l l.length (Nat.le_refl _)
  rw [← h1, h2, List.take_length] at h3
  rw [← h1, h2] at h4
  have h5 := o_1j (hs.take i) h4
  rw [h3] at h5
  unfold nD sizeD dsD
  rw [h5, List.length_take, Nat.min_eq_left hi, List.map_take]
 have htk' : ∀ i, i ≤ l.length → trimN l i = trimN l l.length → trimN l i = i → D.sl i ((l.map fun x : Nat => D.int .i64 x).take i) = nD (dval l) := htk
 simp only [o_b3, dsD]
 clear hlen hget htk
 generalize nD (dval l) = N at *
 refine A00 ?_; try with_reducible exact tt
 refine AW.loopT (α := Nat) 0 (fun i => [(3, .d (.int .i64 (i : Nat)))]) (fun i => []) (fun i => i ≤ l.length ∧ trimN l i = trimN l l.length) (fun i => i) l.length ?_ ?_ ⟨Nat.le_refl _, rfl⟩ ?_ ?_ ?_
 ·simp
 ·simp
 ·simp
 ·simp
 rintro i ⟨hi, ht⟩
 simp
 rcases i with _ | m
 ·have hf := htk' 0 hi ht rfl
  refine A00 ?_; try with_reducible exact tt
  exact Sub1.of (by rw [← hf]; simp)
 ·have hm : m < l.length := by omega
  have hm2 : ¬ l.length ≤ m := by omega
  have hge : l.getD m 0 = l[m] := by simp [List.getD, hm]
  have ew : IntKind.i64.wrap (m : Int) = (m : Int) := w64 (by omega) (by omega)
  by_cases h0 : l[m] = 0
  ·have ht2 : trimN l m = trimN l l.length := by rw [← ht, trimN, if_pos (by rw [hge]; exact h0)]
   refine A10 (fs hm (fs hm2 (fs hi (fs h0 ew)))) ?_; try with_reducible exact tt
   exact ⟨m, ⟨by omega, ht2⟩, by omega, Sub1.refl _⟩
  ·have hf := htk' (m + 1) hi ht (by rw [trimN, if_neg (by rw [hge]; exact h0)])
   have h0' : ¬ ((l[m] : Nat) : Int) = 0 := by omega
   refine A10 (fs hm (fs hm2 (fs hi (fs h0 (fs h0' ew))))) ?_; try with_reducible exact tt
   exact Sub1.of (by rw [hf])
theorem o_gx {m : Nat} (h : m ≠ 0) : decs m = (m % 10000) :: decs (m / 10000) := by
 obtain ⟨k, rfl⟩ : ∃ k, m = k + 1 := ⟨m - 1, by omega⟩
 conv => lhs; unfold decs
 rw [decsF, if_neg h]
 obtain ⟨h1, h2, h3⟩ := o_1f k ((k + 1) / 10000) (by omega)
 rw [o_11 h2 (o_1h _) h3 (o_1i _) (by rw [h1, o_1g])]
theorem o_gy (l : List Nat) (x : Nat) : (dsD (l ++ [x])).map V.d = (dsD l).map V.d ++ [.d (.int .i64 x)] := by simp [dsD]

theorem o_gz (n : Nat) (hn : n < 9223372036854775808) : Eqn Tryd.prog o_9l [.d (.int .i64 n)] [] (.d (nD n)) [] := by
 refine Eqn.pure o_9n Plain.ok ?_
 have hsz : (decs n).length ≤ 5 := o_12 (o_1i n) (by rw [o_1g]; omega)
 simp only [o_9m]
 refine A00 ?_; try with_reducible exact tt
 refine AW.loopG (α := List Nat × Nat) (fun s => setS (List.replicate 14 .junk) [(0, .d (.int .i64 (s.2 : Nat))), (3, if s.1 = [] then .d .nilsl else .own 0 1 s.1.length)]) (fun s => if s.1 = [] then [] else [some ⟨3, (dsD s.1).map .d⟩]) (fun s => s.1 ++ decs s.2 = decs n ∧ s.2 ≤ n) (fun s => s.2) ([], n) ?_ ⟨rfl, Nat.le_refl _⟩ ?_ ?_ ?_
 ·intro i hi; split <;> simp
 ·simp
 ·simp
 rintro ⟨pre, m⟩ ⟨hp, hm⟩
 simp only at hp hm
 have hpl : pre.length ≤ 5 := by rw [← hp, List.length_append] at hsz; omega
 by_cases h0 : m = 0
 ·subst h0
  rw [o_gu, List.append_nil] at hp
  subst hp
  by_cases hpe : decs n = []
  ·have hn0 := o_1k.1 hpe
   subst hn0
   rw [if_pos hpe, if_pos hpe]
   simp
   refine A00 ?_; try with_reducible exact tt
   exact Sub1.nil
  ·rw [if_neg hpe, if_neg hpe]
   have htk : (dsD (decs n)).take (decs n).length = dsD (decs n) := List.take_of_length_le (by rw [o_gs]; omega)
   simp
   refine AW.freeze 0 1 ⟨3, (dsD (decs n)).map .d⟩ (dsD (decs n)) (by simp) rfl ?_
   simp [frzH, htk]
   refine A00 ?_; try with_reducible exact tt
   exact Sub1.refl _
 ·have hst := o_gx h0
  rw [hst, List.append_cons] at hp
  have hmp : 0 < m := by omega
  have hmp' : (0 : Int) < m := by omega
  have e1 : (m : Int).tmod 10000 = ((m % 10000 : Nat) : Int) := by rw [Int.tmod_eq_emod_of_nonneg (by omega)]; omega
  have e2 : (m : Int).tdiv 10000 = ((m / 10000 : Nat) : Int) := by rw [Int.tdiv_eq_ediv_of_nonneg (by omega)]; omega
  have hlt : m / 10000 < m := by omega
  have hle : m / 10000 ≤ n := by omega
  have hsn := o_gy pre (m % 10000)
  clear hst
  generalize m % 10000 = x at *
  generalize m / 10000 = y at *
  by_cases hpe : pre = []
  ·subst hpe
   simp
   refine A10 (fs hmp (fs hmp' (fs e1 e2))) ?_; try with_reducible exact tt
   refine ⟨[x], y, 0, 1, by simp, ⟨hp, hle⟩, hlt, ?_, ?_⟩
   ·simp [swT, swH, sw, Ob.sw, V.ren, V.rens]
   ·simp [swT, swH, sw, Ob.sw, V.ren, V.rens, dsD]
  ·rw [if_neg hpe, if_neg hpe]
   simp
   have hlen := o_gs pre
   refine A10 (fs hmp (fs hmp' (fs e1 (fs e2 (fs hlen hpl))))) ?_; try with_reducible exact tt
   refine ⟨pre ++ [x], y, 0, 2, by simp, ⟨hp, hle⟩, hlt, ?_, ?_⟩
   ·simp [swT, swH, sw, Ob.sw, V.ren, V.rens]
   ·simp [swT, swH, sw, Ob.sw, V.ren, V.rens, hsn]
end
end Go.Proofs.YtlelpbaeplcfiaaDoor.Am
namespace Go.Proofs.YtlelpbaeplcfiaaDoor.Am
section
open Go.RowKit
theorem o_h0 (f : Nat → Nat) (i : Nat) : dsD ((List.range (i + 1)).map f) = dsD ((List.range i).map f) ++ [.int .i64 (f i)] := by
 rw [List.range_succ, List.map_append]; simp [dsD]
set_option maxHeartbeats 1000000 in
theorem o_h1 (a b : List Nat) (ha : dsmall a) (hb : dsmall b) (hla : a.length ≤ 100000) (hlb : b.length ≤ 100000) : Eqn Tryd.prog o_9o [.d (.sl a.length (dsD a)), .d (.sl b.length (dsD b))] [] (.d (nD (dval a + dval b))) [] := by
 refine Eqn.pure o_9q Plain.ok ?_
 obtain ⟨F, hF⟩ : ∃ F : Nat → List D, F = fun i => dsD ((List.range i).map (addD a b)) := ⟨_, rfl⟩
 have hFl : ∀ i, (F i).length = i := by intro i; rw [hF]; simp [dsD]
 have hFs : ∀ i, F (i + 1) = F i ++ [.int .i64 (addD a b i)] := by intro i; rw [hF]; exact o_h0 _ i
 have hF0 : F 0 = [] := by rw [hF]; rfl
 have htr : ∀ i, i ≤ 200001 → Eqn Tryd.prog o_b2 [.d (.sl i (F i))] [] (.d (nD (dval ((List.range i).map (addD a b))))) [] := by
  intro i hi
  have := o_gw ((List.range i).map (addD a b)) (o_19 (o_1a a b) i) (by simp; omega)
  rw [hF]
  simpa using this
 have hcl := o_15 ha hb
 have hval := o_16 a b
 clear hF
 simp only [o_9p, dsD]
 refine A00 ?_; try with_reducible exact tt
 refine AW.loopG (α := Nat) (fun i => setS (List.replicate 53 .junk) [(0, .d (.sl a.length (a.map fun x : Nat => D.int .i64 x))), (1, .d (.sl b.length (b.map fun x : Nat => D.int .i64 x))), (5, if i = 0 then .d .nilsl else .own 0 1 i), (6, .d (.int .i64 (carryD a b i : Nat))), (7, .d (.int .i64 (i : Nat)))]) (fun i => if i = 0 then [] else [some ⟨3, (F i).map .d⟩]) (fun i => i ≤ max a.length b.length + 1) (fun i => max a.length b.length + 1 - i) 0 ?_ (Nat.zero_le _) ?_ ?_ ?_
 ·intro i hi; split <;> simp
 ·simp [carryD]
 ·simp
 rintro i hi
 have hc1 := hcl i
 have hqb := hcl (i + 1)
 have hsn := hFs i
 have hqd : carryD a b (i + 1) = (a.getD i 0 + b.getD i 0 + carryD a b i) / 10000 := rfl
 have hrd : addD a b i = (a.getD i 0 + b.getD i 0 + carryD a b i) % 10000 := rfl
 have g1 := ha.getD i
 have g2 := hb.getD i
 have ew : IntKind.i64.wrap ((i : Int) + 1) = (i : Int) + 1 := w64 (by omega) (by omega)
 have e3 : ((a.getD i 0 + b.getD i 0 + carryD a b i : Nat) : Int).tmod 10000 = (addD a b i : Int) := by rw [Int.tmod_eq_emod_of_nonneg (by omega), hrd]; omega
 have e4 : ((a.getD i 0 + b.getD i 0 + carryD a b i : Nat) : Int).tdiv 10000 = (carryD a b (i + 1) : Int) := by rw [Int.tdiv_eq_ediv_of_nonneg (by omega), hqd]; omega
 by_cases pa : i < a.length
 ·have ga : a[i] = a.getD i 0 := by simp [List.getD, pa]
  by_cases pb : i < b.length
  ·have gb : b[i] = b.getD i 0 := by simp [List.getD, pb]
   have e1 : IntKind.i64.wrap ((carryD a b i : Int) + (a.getD i 0 : Nat)) = (carryD a b i : Int) + (a.getD i 0 : Nat) := w64 (by omega) (by omega)
   have e2 : IntKind.i64.wrap ((carryD a b i : Int) + (a.getD i 0 : Nat) + (b.getD i 0 : Nat)) = ((a.getD i 0 + b.getD i 0 + carryD a b i : Nat) : Int) := by rw [w64 (by omega) (by omega)]; omega
   clear hqd hrd
   generalize a.getD i 0 + b.getD i 0 + carryD a b i = s at *
   generalize a.getD i 0 = ai at *
   generalize b.getD i 0 = bi at *
   have hii : (i : Int) < a.length := by omega
   have hij : (i : Int) < b.length := by omega
   have hl := hFl i
   clear hval htr
   generalize carryD a b i = c at *
   generalize hq : carryD a b (i + 1) = q at *
   have e5 : IntKind.i64.wrap (q : Int) = (q : Int) := w64 (by omega) (by omega)
   generalize addD a b i = r at *
   by_cases hi0 : i = 0
   ·rw [if_pos hi0, if_pos hi0]
    rw [hi0] at hsn
    rw [hF0] at hsn
    have hq1 : carryD a b 1 = q := by rw [← hq, hi0]
    simp
    refine A10 (fs pa (fs pb (fs hii (fs hij (fs ga (fs gb (fs e1 (fs e2 (fs e3 (fs e4 (fs e5 (fs ew hl)))))))))))) ?_; try with_reducible exact tt
    refine ⟨i + 1, 0, 1, by simp, by omega, by omega, ?_, ?_⟩
    ·simp [swT, swH, sw, Ob.sw, V.ren, V.rens, hi0, hq1]
    ·simp [swT, swH, sw, Ob.sw, V.ren, V.rens, hi0, hsn]
   ·rw [if_neg hi0, if_neg hi0]
    simp
    refine A10 (fs pa (fs pb (fs hii (fs hij (fs ga (fs gb (fs e1 (fs e2 (fs e3 (fs e4 (fs e5 (fs ew hl)))))))))))) ?_; try with_reducible exact tt
    refine ⟨i + 1, 0, 2, by simp, by omega, by omega, ?_, ?_⟩
    ·simp [swT, swH, sw, Ob.sw, V.ren, V.rens, hq]
    ·simp [swT, swH, sw, Ob.sw, V.ren, V.rens, hsn]
  ·have gb : b.getD i 0 = 0 := by simp [List.getD, List.getElem?_eq_none (show b.length ≤ i by omega)]
   have e1 : IntKind.i64.wrap ((carryD a b i : Int) + (a.getD i 0 : Nat)) = ((a.getD i 0 + b.getD i 0 + carryD a b i : Nat) : Int) := by rw [w64 (by omega) (by omega)]; omega
   clear hqd hrd
   generalize a.getD i 0 + b.getD i 0 + carryD a b i = s at *
   generalize a.getD i 0 = ai at *
   generalize b.getD i 0 = bi at *
   have hii : (i : Int) < a.length := by omega
   have hij : ¬ (i : Int) < b.length := by omega
   have hl := hFl i
   clear hval htr
   generalize carryD a b i = c at *
   generalize hq : carryD a b (i + 1) = q at *
   have e5 : IntKind.i64.wrap (q : Int) = (q : Int) := w64 (by omega) (by omega)
   generalize addD a b i = r at *
   by_cases hi0 : i = 0
   ·rw [if_pos hi0, if_pos hi0]
    rw [hi0] at hsn
    rw [hF0] at hsn
    have hq1 : carryD a b 1 = q := by rw [← hq, hi0]
    simp
    refine A10 (fs pa (fs pb (fs hii (fs hij (fs ga (fs e1 (fs e3 (fs e4 (fs e5 (fs ew hl)))))))))) ?_; try with_reducible exact tt
    refine ⟨i + 1, 0, 1, by simp, by omega, by omega, ?_, ?_⟩
    ·simp [swT, swH, sw, Ob.sw, V.ren, V.rens, hi0, hq1]
    ·simp [swT, swH, sw, Ob.sw, V.ren, V.rens, hi0, hsn]
   ·rw [if_neg hi0, if_neg hi0]
    simp
    refine A10 (fs pa (fs pb (fs hii (fs hij (fs ga (fs e1 (fs e3 (fs e4 (fs e5 (fs ew hl)))))))))) ?_; try with_reducible exact tt
    refine ⟨i + 1, 0, 2, by simp, by omega, by omega, ?_, ?_⟩
    ·simp [swT, swH, sw, Ob.sw, V.ren, V.rens, hq]
    ·simp [swT, swH, sw, Ob.sw, V.ren, V.rens, hsn]
 ·have ga : a.getD i 0 = 0 := by simp [List.getD, List.getElem?_eq_none (show a.length ≤ i by omega)]
  have hii : ¬ (i : Int) < a.length := by omega
  by_cases pb : i < b.length
  ·have gb : b[i] = b.getD i 0 := by simp [List.getD, pb]
   have e1 : IntKind.i64.wrap ((carryD a b i : Int) + (b.getD i 0 : Nat)) = ((a.getD i 0 + b.getD i 0 + carryD a b i : Nat) : Int) := by rw [w64 (by omega) (by omega)]; omega
   clear hqd hrd
   generalize a.getD i 0 + b.getD i 0 + carryD a b i = s at *
   generalize a.getD i 0 = ai at *
   generalize b.getD i 0 = bi at *
   have hij : (i : Int) < b.length := by omega
   have hl := hFl i
   clear hval htr
   generalize carryD a b i = c at *
   generalize hq : carryD a b (i + 1) = q at *
   have e5 : IntKind.i64.wrap (q : Int) = (q : Int) := w64 (by omega) (by omega)
   generalize addD a b i = r at *
   by_cases hi0 : i = 0
   ·rw [if_pos hi0, if_pos hi0]
    rw [hi0] at hsn
    rw [hF0] at hsn
    have hq1 : carryD a b 1 = q := by rw [← hq, hi0]
    simp
    refine A10 (fs pa (fs pb (fs hii (fs hij (fs gb (fs e1 (fs e3 (fs e4 (fs e5 (fs ew hl)))))))))) ?_; try with_reducible exact tt
    refine ⟨i + 1, 0, 1, by simp, by omega, by omega, ?_, ?_⟩
    ·simp [swT, swH, sw, Ob.sw, V.ren, V.rens, hi0, hq1]
    ·simp [swT, swH, sw, Ob.sw, V.ren, V.rens, hi0, hsn]
   ·rw [if_neg hi0, if_neg hi0]
    simp
    refine A10 (fs pa (fs pb (fs hii (fs hij (fs gb (fs e1 (fs e3 (fs e4 (fs e5 (fs ew hl)))))))))) ?_; try with_reducible exact tt
    refine ⟨i + 1, 0, 2, by simp, by omega, by omega, ?_, ?_⟩
    ·simp [swT, swH, sw, Ob.sw, V.ren, V.rens, hq]
    ·simp [swT, swH, sw, Ob.sw, V.ren, V.rens, hsn]
  ·have gb : b.getD i 0 = 0 := by simp [List.getD, List.getElem?_eq_none (show b.length ≤ i by omega)]
   have hij : ¬ (i : Int) < b.length := by omega
   simp only [ga, gb, Nat.zero_add] at e3 e4 hqd
   by_cases hc0 : 0 < carryD a b i
   ·have hc0' : (0 : Int) < carryD a b i := by omega
    have hlt : i < max a.length b.length + 1 := by
     rcases Nat.lt_or_ge i (max a.length b.length + 1) with h | h
     ·exact h
     ·exfalso
      obtain ⟨j, rfl⟩ : ∃ j, i = j + 1 := ⟨i - 1, by omega⟩
      have h1 := hcl j
      have h2 : carryD a b (j + 1) = (a.getD j 0 + b.getD j 0 + carryD a b j) / 10000 := rfl
      have h3 : a.getD j 0 = 0 := by simp [List.getD, List.getElem?_eq_none (show a.length ≤ j by omega)]
      have h4 : b.getD j 0 = 0 := by simp [List.getD, List.getElem?_eq_none (show b.length ≤ j by omega)]
      omega
    clear hqd hrd
    have hl := hFl i
    clear hval htr
    generalize carryD a b i = c at *
    generalize hq : carryD a b (i + 1) = q at *
    have e5 : IntKind.i64.wrap (q : Int) = (q : Int) := w64 (by omega) (by omega)
    generalize addD a b i = r at *
    by_cases hi0 : i = 0
    ·rw [if_pos hi0, if_pos hi0]
     rw [hi0] at hsn
     rw [hF0] at hsn
     have hq1 : carryD a b 1 = q := by rw [← hq, hi0]
     simp
     refine A10 (fs pa (fs pb (fs hii (fs hij (fs hc0 (fs hc0' (fs e3 (fs e4 (fs e5 (fs ew hl)))))))))) ?_; try with_reducible exact tt
     refine ⟨i + 1, 0, 1, by simp, by omega, by omega, ?_, ?_⟩
     ·simp [swT, swH, sw, Ob.sw, V.ren, V.rens, hi0, hq1]
     ·simp [swT, swH, sw, Ob.sw, V.ren, V.rens, hi0, hsn]
    ·rw [if_neg hi0, if_neg hi0]
     simp
     refine A10 (fs pa (fs pb (fs hii (fs hij (fs hc0 (fs hc0' (fs e3 (fs e4 (fs e5 (fs ew hl)))))))))) ?_; try with_reducible exact tt
     refine ⟨i + 1, 0, 2, by simp, by omega, by omega, ?_, ?_⟩
     ·simp [swT, swH, sw, Ob.sw, V.ren, V.rens, hq]
     ·simp [swT, swH, sw, Ob.sw, V.ren, V.rens, hsn]
   ·have hc0' : ¬ (0 : Int) < carryD a b i := by omega
    have hcz : carryD a b i = 0 := by omega
    have hv := hval i
    rw [hcz, Nat.mul_zero, Nat.add_zero, List.take_of_length_le (by omega), List.take_of_length_le (by omega)] at hv
    have ht := htr i (by omega)
    rw [hv] at ht
    clear e3 e4 hqd hrd hval htr
    generalize carryD a b i = c at *
    by_cases hi0 : i = 0
    ·rw [if_pos hi0, if_pos hi0]
     subst hi0
     rw [hF0] at ht
     replace ht : Eqn Tryd.prog o_b2 [.d .nilsl] [] (.d (nD (dval a + dval b))) [] := ht.sub (Subs.cons Sub1.nil (Subs.refl _))
     simp
     refine A11 (fs pa (fs pb (fs hii (fs hij (fs hc0 hc0'))))) ht ?_; try with_reducible exact tt
    ·rw [if_neg hi0, if_neg hi0]
     have htk : (F i).take i = F i := List.take_of_length_le (by rw [hFl]; exact Nat.le_refl _)
     simp
     refine AW.freeze 0 1 ⟨3, (F i).map .d⟩ (F i) (by simp) rfl ?_
     simp [frzH, htk]
     refine A11 (fs pa (fs pb (fs hii (fs hij (fs hc0 hc0'))))) ht ?_; try with_reducible exact tt
theorem o_h2 (x y : Nat) (hx : sizeD x ≤ 100000) (hy : sizeD y ≤ 100000) : Eqn Tryd.prog o_9o [.d (nD x), .d (nD y)] [] (.d (nD (x + y))) [] := by
 have := o_h1 (decs x) (decs y) (o_1h x) (o_1h y) hx hy
 rwa [o_1g, o_1g] at this
end
end Go.Proofs.YtlelpbaeplcfiaaDoor.Am
namespace Go.Proofs.YtlelpbaeplcfiaaDoor.Am
section
open Go.RowKit
theorem o_h3 (x y : Nat) (hx : sizeD x ≤ 1000000) (hy : sizeD y ≤ 1000000) : Eqn Tryd.prog o_9u [.d (nD x), .d (nD y)] [] (.d (.int .i64 (cmpZ x y))) [] := by
 refine Eqn.pure o_9w Plain.ok ?_
 unfold sizeD at hx hy
 have ha := o_1h x
 have hb := o_1h y
 have ta := o_1i x
 have tb := o_1i y
 have va := o_1g x
 have vb := o_1g y
 simp only [o_9v, nD, sizeD, dsD]
 generalize decs x = a at *
 generalize decs y = b at *
 by_cases hl : a.length = b.length
 ·have hlp : (a.length : Int) = b.length := by omega
  have hc := o_1e ha hb a.length
  rw [List.take_length, hl, List.take_length, va, vb] at hc
  replace hc : cmpN a b b.length = cmpZ x y := hc
  rw [← hc]
  have ew0 : IntKind.i64.wrap ((b.length : Int) - 1) = (b.length : Int) - 1 := w64 (by omega) (by omega)
  refine A10 (fs hl (fs hlp ew0)) ?_; try with_reducible exact tt
  refine AW.loopT (α := Nat) 0 (fun j => [(5, .d (.int .i64 ((j : Int) - 1)))]) (fun j => []) (fun j => j ≤ b.length ∧ cmpN a b j = cmpN a b b.length) (fun j => j) b.length ?_ ?_ ⟨Nat.le_refl _, rfl⟩ ?_ ?_ ?_
  ·simp
  ·simp
  ·simp
  ·simp
  rintro j ⟨hj, hje⟩
  rcases j with _ | m
  ·simp
   have h0 : cmpN a b b.length = 0 := by rw [← hje]; rfl
   rw [h0]
   refine A00 ?_; try with_reducible exact tt
  ·rw [cmpN] at hje
   have hm : m < a.length := by omega
   have hm2 : m < b.length := by omega
   have g1 : a.getD m 0 = a[m] := by simp [List.getD, hm]
   have g2 : b.getD m 0 = b[m] := by simp [List.getD, hm2]
   have ew : IntKind.i64.wrap ((m : Int) - 1) = (m : Int) - 1 := w64 (by omega) (by omega)
   have hmi : (m : Int) < b.length := by omega
   rw [g1, g2] at hje
   by_cases h1 : a[m] < b[m]
   ·rw [if_pos h1] at hje
    rw [← hje]
    have h1' : ((a[m] : Nat) : Int) < (b[m] : Nat) := by omega
    simp
    refine A10 (fs hm (fs hm2 (fs hmi (fs hl (fs hlp (fs h1 h1')))))) ?_; try with_reducible exact tt
   ·rw [if_neg h1] at hje
    have h1' : ¬ ((a[m] : Nat) : Int) < (b[m] : Nat) := by omega
    by_cases h2 : b[m] < a[m]
    ·rw [if_pos h2] at hje
     rw [← hje]
     have h2' : ((b[m] : Nat) : Int) < (a[m] : Nat) := by omega
     simp
     refine A10 (fs hm (fs hm2 (fs hmi (fs hl (fs hlp (fs h1 (fs h1' (fs h2 h2')))))))) ?_; try with_reducible exact tt
    ·rw [if_neg h2] at hje
     have h2' : ¬ ((b[m] : Nat) : Int) < (a[m] : Nat) := by omega
     simp
     refine A10 (fs hm (fs hm2 (fs hmi (fs hl (fs hlp (fs h1 (fs h1' (fs h2 (fs h2' ew))))))))) ?_; try with_reducible exact tt
     exact ⟨m, ⟨by omega, hje⟩, by omega, Sub1.refl _⟩
 ·have hlp : ¬ (a.length : Int) = b.length := by omega
  by_cases h1 : a.length < b.length
  ·have h1' : (a.length : Int) < b.length := by omega
   have h3 := o_1c ha tb h1
   rw [va, vb] at h3
   rw [show cmpZ x y = -1 by unfold cmpZ; rw [if_pos h3]]
   refine A10 (fs hl (fs hlp (fs h1 h1'))) ?_; try with_reducible exact tt
  ·have h1' : ¬ (a.length : Int) < b.length := by omega
   have h3 := o_1c hb ta (show b.length < a.length by omega)
   rw [va, vb] at h3
   rw [show cmpZ x y = 1 by unfold cmpZ; rw [if_neg (by omega), if_pos h3]]
   refine A10 (fs hl (fs hlp (fs h1 h1'))) ?_; try with_reducible exact tt

set_option maxHeartbeats 1000000 in
theorem o_h4 (x y : Nat) (hxy : y ≤ x) (hx : sizeD x ≤ 100000) (hy : sizeD y ≤ 100000) : Eqn Tryd.prog o_bz [.d (nD x), .d (nD y)] [] (.d (nD (x - y))) [] := by
 refine Eqn.pure o_c1 Plain.ok ?_
 unfold sizeD at hx hy
 have ha := o_1h x
 have hb := o_1h y
 have tb := o_1i y
 have ta := o_1i x
 have va := o_1g x
 have vb := o_1g y
 have hll : (decs y).length ≤ (decs x).length := by
  rcases Nat.lt_or_ge (decs x).length (decs y).length with h | h
  ·have := o_1c ha tb h
   omega
  ·exact h
 simp only [o_c0, nD, sizeD, dsD]
 generalize decs x = a at *
 generalize decs y = b at *
 have hval := o_18 ha hb a.length
 have hbl := o_17 a b
 rw [List.take_length, List.take_of_length_le hll, va, vb] at hval
 have hsz := o_1d (l := (List.range a.length).map (subD a b)) (o_19 (o_1b a b) a.length) a.length
 rw [List.take_of_length_le (by simp)] at hsz
 have hxa : dval a < 10000 ^ a.length := by have := o_1d ha a.length; rwa [List.take_length] at this
 have hfin : dval ((List.range a.length).map (subD a b)) = x - y := by
  have h1 := hbl a.length
  rcases Nat.lt_or_ge (borrowD a b a.length) 1 with h | h
  ·have : borrowD a b a.length = 0 := by omega
   rw [this] at hval
   omega
  ·have : borrowD a b a.length = 1 := by omega
   rw [this] at hval
   omega
 obtain ⟨F, hF⟩ : ∃ F : Nat → List D, F = fun i => dsD ((List.range i).map (subD a b)) := ⟨_, rfl⟩
 have hFl : ∀ i, (F i).length = i := by intro i; rw [hF]; simp [dsD]
 have hFs : ∀ i, F (i + 1) = F i ++ [.int .i64 (subD a b i)] := by intro i; rw [hF]; exact o_h0 _ i
 have hF0 : F 0 = [] := by rw [hF]; rfl
 have htr : Eqn Tryd.prog o_b2 [.d (.sl a.length (F a.length))] [] (.d (nD (x - y))) [] := by
  have := o_gw ((List.range a.length).map (subD a b)) (o_19 (o_1b a b) _) (by simp; omega)
  rw [hF, ← hfin]
  simpa using this
 clear hF hfin hxa hsz
 simp only [nD, sizeD, dsD] at htr
 generalize D.sl (decs (x - y)).length (List.map (fun x : Nat => D.int .i64 x) (decs (x - y))) = N at *
 refine A00 ?_; try with_reducible exact tt
 refine AW.loopG (α := Nat) (fun i => setS (List.replicate 41 .junk) [(0, .d (.sl a.length (a.map fun x : Nat => D.int .i64 x))), (1, .d (.sl b.length (b.map fun x : Nat => D.int .i64 x))), (5, if i = 0 then .d .nilsl else .own 0 1 i), (6, .d (.int .i64 (borrowD a b i : Nat))), (7, .d (.int .i64 (i : Nat)))]) (fun i => if i = 0 then [] else [some ⟨3, (F i).map .d⟩]) (fun i => i ≤ a.length) (fun i => a.length - i) 0 ?_ (Nat.zero_le _) ?_ ?_ ?_
 ·intro i hi; split <;> simp
 ·simp [borrowD]
 ·simp
 rintro i hi
 by_cases pa : i < a.length
 ·have hii : (i : Int) < a.length := by omega
  have hc1 := hbl i
  have hqb := hbl (i + 1)
  have hsn := hFs i
  have ga : a[i] = a.getD i 0 := by simp [List.getD, pa]
  have g1 := ha.getD i
  have g2 := hb.getD i
  have hqd : borrowD a b (i + 1) = if a.getD i 0 < b.getD i 0 + borrowD a b i then 1 else 0 := rfl
  have hrd : subD a b i = (a.getD i 0 + 10000 - b.getD i 0 - borrowD a b i) % 10000 := rfl
  have ew : IntKind.i64.wrap ((i : Int) + 1) = (i : Int) + 1 := w64 (by omega) (by omega)
  have e1 : IntKind.i64.wrap ((a.getD i 0 : Nat) - (borrowD a b i : Int)) = (a.getD i 0 : Nat) - (borrowD a b i : Int) := w64 (by omega) (by omega)
  by_cases pb : i < b.length
  ·have hij : (i : Int) < b.length := by omega
   have gb : b[i] = b.getD i 0 := by simp [List.getD, pb]
   by_cases hz : a.getD i 0 < b.getD i 0 + borrowD a b i
   ·have q0 : borrowD a b (i + 1) = 1 := by rw [hqd]; rw [if_pos hz]
    have e2 : IntKind.i64.wrap ((a.getD i 0 : Nat) - (borrowD a b i : Int) - (b.getD i 0 : Nat)) = (subD a b i : Int) - 10000 := by rw [w64 (by omega) (by omega), hrd]; omega
    have e3 : IntKind.i64.wrap ((subD a b i : Int) - 10000 + 10000) = (subD a b i : Int) := by rw [w64 (by omega) (by omega)]; omega
    have e3' : IntKind.i64.wrap (subD a b i : Int) = (subD a b i : Int) := w64 (by omega) (by omega)
    have e4 : (subD a b i : Int) - 10000 < 0 := by omega
    have e5 : (subD a b i : Int) < 10000 := by omega
    clear hqd hrd
    generalize a.getD i 0 = ai at *
    generalize b.getD i 0 = bi at *
    have hl := hFl i
    clear hval htr
    generalize hq : borrowD a b (i + 1) = q at *
    generalize borrowD a b i = c at *
    generalize subD a b i = r at *
    by_cases hi0 : i = 0
    ·rw [if_pos hi0, if_pos hi0]
     rw [hi0] at hsn
     rw [hF0] at hsn
     have hq1 : borrowD a b 1 = q := by rw [← hq, hi0]
     simp
     refine A10 (fs pa (fs pb (fs hii (fs hij (fs ga (fs gb (fs e1 (fs e2 (fs e3 (fs e3' (fs e4 (fs e5 (fs ew hl))))))))))))) ?_; try with_reducible exact tt
     refine ⟨i + 1, 0, 1, by simp, by omega, by omega, ?_, ?_⟩
     ·simp [swT, swH, sw, Ob.sw, V.ren, V.rens, hi0, hq1, q0]
     ·simp [swT, swH, sw, Ob.sw, V.ren, V.rens, hi0, hsn]
    ·rw [if_neg hi0, if_neg hi0]
     simp
     refine A10 (fs pa (fs pb (fs hii (fs hij (fs ga (fs gb (fs e1 (fs e2 (fs e3 (fs e3' (fs e4 (fs e5 (fs ew hl))))))))))))) ?_; try with_reducible exact tt
     refine ⟨i + 1, 0, 2, by simp, by omega, by omega, ?_, ?_⟩
     ·simp [swT, swH, sw, Ob.sw, V.ren, V.rens, hq, q0]
     ·simp [swT, swH, sw, Ob.sw, V.ren, V.rens, hsn]
   ·have q0 : borrowD a b (i + 1) = 0 := by rw [hqd]; rw [if_neg hz]
    have e2 : IntKind.i64.wrap ((a.getD i 0 : Nat) - (borrowD a b i : Int) - (b.getD i 0 : Nat)) = (subD a b i : Int) := by rw [w64 (by omega) (by omega), hrd]; omega
    have e4 : ¬ (subD a b i : Int) < 0 := by omega
    clear hqd hrd
    generalize a.getD i 0 = ai at *
    generalize b.getD i 0 = bi at *
    have hl := hFl i
    clear hval htr
    generalize hq : borrowD a b (i + 1) = q at *
    generalize borrowD a b i = c at *
    generalize subD a b i = r at *
    by_cases hi0 : i = 0
    ·rw [if_pos hi0, if_pos hi0]
     rw [hi0] at hsn
     rw [hF0] at hsn
     have hq1 : borrowD a b 1 = q := by rw [← hq, hi0]
     simp
     refine A10 (fs pa (fs pb (fs hii (fs hij (fs ga (fs gb (fs e1 (fs e2 (fs e4 (fs ew hl)))))))))) ?_; try with_reducible exact tt
     refine ⟨i + 1, 0, 1, by simp, by omega, by omega, ?_, ?_⟩
     ·simp [swT, swH, sw, Ob.sw, V.ren, V.rens, hi0, hq1, q0]
     ·simp [swT, swH, sw, Ob.sw, V.ren, V.rens, hi0, hsn]
    ·rw [if_neg hi0, if_neg hi0]
     simp
     refine A10 (fs pa (fs pb (fs hii (fs hij (fs ga (fs gb (fs e1 (fs e2 (fs e4 (fs ew hl)))))))))) ?_; try with_reducible exact tt
     refine ⟨i + 1, 0, 2, by simp, by omega, by omega, ?_, ?_⟩
     ·simp [swT, swH, sw, Ob.sw, V.ren, V.rens, hq, q0]
     ·simp [swT, swH, sw, Ob.sw, V.ren, V.rens, hsn]
  ·have hij : ¬ (i : Int) < b.length := by omega
   have gb : b.getD i 0 = 0 := by simp [List.getD, List.getElem?_eq_none (show b.length ≤ i by omega)]
   by_cases hz : a.getD i 0 < b.getD i 0 + borrowD a b i
   ·have q0 : borrowD a b (i + 1) = 1 := by rw [hqd]; rw [if_pos hz]
    have e2 : IntKind.i64.wrap ((a.getD i 0 : Nat) - (borrowD a b i : Int)) = (subD a b i : Int) - 10000 := by rw [w64 (by omega) (by omega), hrd]; omega
    have e3 : IntKind.i64.wrap ((subD a b i : Int) - 10000 + 10000) = (subD a b i : Int) := by rw [w64 (by omega) (by omega)]; omega
    have e3' : IntKind.i64.wrap (subD a b i : Int) = (subD a b i : Int) := w64 (by omega) (by omega)
    have e4 : (subD a b i : Int) - 10000 < 0 := by omega
    have e5 : (subD a b i : Int) < 10000 := by omega
    clear hqd hrd e1
    generalize a.getD i 0 = ai at *
    generalize b.getD i 0 = bi at *
    have hl := hFl i
    clear hval htr
    generalize hq : borrowD a b (i + 1) = q at *
    generalize borrowD a b i = c at *
    generalize subD a b i = r at *
    by_cases hi0 : i = 0
    ·rw [if_pos hi0, if_pos hi0]
     rw [hi0] at hsn
     rw [hF0] at hsn
     have hq1 : borrowD a b 1 = q := by rw [← hq, hi0]
     simp
     refine A10 (fs pa (fs pb (fs hii (fs hij (fs ga (fs e2 (fs e3 (fs e3' (fs e4 (fs e5 (fs ew hl))))))))))) ?_; try with_reducible exact tt
     refine ⟨i + 1, 0, 1, by simp, by omega, by omega, ?_, ?_⟩
     ·simp [swT, swH, sw, Ob.sw, V.ren, V.rens, hi0, hq1, q0]
     ·simp [swT, swH, sw, Ob.sw, V.ren, V.rens, hi0, hsn]
    ·rw [if_neg hi0, if_neg hi0]
     simp
     refine A10 (fs pa (fs pb (fs hii (fs hij (fs ga (fs e2 (fs e3 (fs e3' (fs e4 (fs e5 (fs ew hl))))))))))) ?_; try with_reducible exact tt
     refine ⟨i + 1, 0, 2, by simp, by omega, by omega, ?_, ?_⟩
     ·simp [swT, swH, sw, Ob.sw, V.ren, V.rens, hq, q0]
     ·simp [swT, swH, sw, Ob.sw, V.ren, V.rens, hsn]
   ·have q0 : borrowD a b (i + 1) = 0 := by rw [hqd]; rw [if_neg hz]
    have e2 : IntKind.i64.wrap ((a.getD i 0 : Nat) - (borrowD a b i : Int)) = (subD a b i : Int) := by rw [w64 (by omega) (by omega), hrd]; omega
    have e4 : ¬ (subD a b i : Int) < 0 := by omega
    clear hqd hrd e1
    generalize a.getD i 0 = ai at *
    generalize b.getD i 0 = bi at *
    have hl := hFl i
    clear hval htr
    generalize hq : borrowD a b (i + 1) = q at *
    generalize borrowD a b i = c at *
    generalize subD a b i = r at *
    by_cases hi0 : i = 0
    ·rw [if_pos hi0, if_pos hi0]
     rw [hi0] at hsn
     rw [hF0] at hsn
     have hq1 : borrowD a b 1 = q := by rw [← hq, hi0]
     simp
     refine A10 (fs pa (fs pb (fs hii (fs hij (fs ga (fs e2 (fs e4 (fs ew hl)))))))) ?_; try with_reducible exact tt
     refine ⟨i + 1, 0, 1, by simp, by omega, by omega, ?_, ?_⟩
     ·simp [swT, swH, sw, Ob.sw, V.ren, V.rens, hi0, hq1, q0]
     ·simp [swT, swH, sw, Ob.sw, V.ren, V.rens, hi0, hsn]
    ·rw [if_neg hi0, if_neg hi0]
     simp
     refine A10 (fs pa (fs pb (fs hii (fs hij (fs ga (fs e2 (fs e4 (fs ew hl)))))))) ?_; try with_reducible exact tt
     refine ⟨i + 1, 0, 2, by simp, by omega, by omega, ?_, ?_⟩
     ·simp [swT, swH, sw, Ob.sw, V.ren, V.rens, hq, q0]
     ·simp [swT, swH, sw, Ob.sw, V.ren, V.rens, hsn]
 ·have hi2 : i = a.length := by omega
  have hii : ¬ (i : Int) < a.length := by omega
  rw [← hi2] at htr
  clear hval
  generalize borrowD a b i = c at *
  by_cases hi0 : i = 0
  ·rw [if_pos hi0, if_pos hi0]
   rw [hi0, hF0] at htr
   replace htr : Eqn Tryd.prog o_b2 [.d .nilsl] [] (.d N) [] := htr.sub (Subs.cons Sub1.nil (Subs.refl _))
   simp
   refine A11 (fs pa hii) htr ?_; try with_reducible exact tt
  ·rw [if_neg hi0, if_neg hi0]
   have htk : (F i).take i = F i := List.take_of_length_le (by rw [hFl]; exact Nat.le_refl _)
   simp
   refine AW.freeze 0 1 ⟨3, (F i).map .d⟩ (F i) (by simp) rfl ?_
   simp [frzH, htk]
   refine A11 (fs pa hii) htr ?_; try with_reducible exact tt
end
end Go.Proofs.YtlelpbaeplcfiaaDoor.Am
namespace Go.Proofs.YtlelpbaeplcfiaaDoor.Am
section
def padN : Nat → Nat → List Nat
 | 0, _ => []
 | w + 1, n => padN w (n / 10) ++ [48 + n % 10]
theorem o_h5 : ∀ w n, (padN w n).length = w
 | 0, _ => rfl
 | w + 1, n => by rw [padN, List.length_append, o_h5 w]; rfl
theorem o_h6 (a : Nat) : ∀ b n, padN (a + b) n = padN a (n / 10 ^ b) ++ padN b n
 | 0, n => by simp [padN]
 | b + 1, n => by
  rw [← Nat.add_assoc, padN, padN, o_h6 a b, Nat.div_div_eq_div_mul, Nat.pow_succ, Nat.mul_comm 10, List.append_assoc]
theorem o_h7 (u : Nat) : padN 4 u = [48 + u / 1000 % 10, 48 + u / 100 % 10, 48 + u / 10 % 10, 48 + u % 10] := by
 simp [padN, Nat.div_div_eq_div_mul]
theorem o_h8 (u : Nat) : padN 2 u = [48 + u / 10 % 10, 48 + u % 10] := by simp [padN]
theorem o_h9 : ∀ w, padN w 0 = List.replicate w 48
 | 0 => rfl
 | w + 1 => by rw [padN, Nat.zero_div, o_h9 w, ← List.replicate_succ']
theorem o_ha (a b n : Nat) (h : n < 10 ^ b) : padN (a + b) n = List.replicate a 48 ++ padN b n := by
 rw [o_h6, Nat.div_eq_of_lt h, o_h9]
theorem o_hb : ∀ w n, padN w (n % 10 ^ w) = padN w n
 | 0, _ => rfl
 | w + 1, n => by
  rw [padN, padN]
  have e1 : n % 10 ^ (w + 1) / 10 = n / 10 % 10 ^ w := by rw [Nat.pow_succ, Nat.mul_comm, Nat.mod_mul_right_div_self]
  have e2 : n % 10 ^ (w + 1) % 10 = n % 10 := by rw [Nat.pow_succ, Nat.mul_comm, Nat.mod_mul_right_mod]
  rw [e1, e2, o_hb w]
def ndig (n : Nat) : Nat := if n < 10 then 1 else ndig (n / 10) + 1
termination_by n
decreasing_by omega
theorem o_hc : ∀ (k n : Nat), 10 ^ k ≤ n → n < 10 ^ (k + 1) → ndig n = k + 1
 | 0, n, _, h2 => by rw [ndig, if_pos (by simpa using h2)]
 | k + 1, n, h1, h2 => by
  have h10 : 10 ≤ n := Nat.le_trans (by rw [Nat.pow_succ]; have : 0 < 10 ^ k := Nat.pow_pos (by decide); omega) h1
  rw [ndig, if_neg (by omega), o_hc k (n / 10) (by rw [Nat.pow_succ] at h1; omega) (by rw [Nat.pow_succ] at h2; omega)]
theorem o_hd (n : Nat) : 0 < ndig n := by rw [ndig]; split <;> omega
theorem o_he : ∀ n : Nat, n < 10 ^ ndig n := by
 intro n
 induction n using Nat.strongRecOn with
 | _ n ih =>
  rw [ndig]
  split
  ·simpa using ‹n < 10›
  ·have := ih (n / 10) (by omega)
   rw [Nat.pow_succ]; omega
theorem o_hf : ∀ (n k : Nat), n < 10 ^ k → 0 < k → ndig n ≤ k := by
 intro n
 induction n using Nat.strongRecOn with
 | _ n ih =>
  intro k h hk
  rw [ndig]
  split
  ·exact hk
  ·obtain ⟨j, rfl⟩ : ∃ j, k = j + 1 := ⟨k - 1, by omega⟩
   rcases Nat.eq_zero_or_pos j with rfl | hj
   ·simp at h; omega
   ·have := ih (n / 10) (by omega) j (by rw [Nat.pow_succ] at h; omega) hj
    omega
theorem o_hg : ∀ (k n : Nat), 0 < n / 10 ^ k → ndig n = ndig (n / 10 ^ k) + k
 | 0, n, _ => by simp
 | k + 1, n, h => by
  have h1 : n / 10 ^ (k + 1) = n / 10 / 10 ^ k := by rw [Nat.pow_succ, Nat.mul_comm, Nat.div_div_eq_div_mul]
  have h2 : 10 ≤ n := by
   rcases Nat.lt_or_ge n 10 with h3 | h3
   ·rw [h1, show n / 10 = 0 by omega, Nat.zero_div] at h; omega
   ·exact h3
  rw [ndig, if_neg (by omega), o_hg k (n / 10) (by rw [← h1]; exact h), h1]; omega
def decN (n : Nat) : List Nat := padN (ndig n) n
theorem o_hh (k n : Nat) (h : 0 < n / 10 ^ k) : decN n = decN (n / 10 ^ k) ++ padN k n := by
 rw [decN, o_hg k n h, o_h6, decN]
theorem o_hi (n k : Nat) (h : n < 10 ^ k) (hk : 0 < k) : List.replicate (k - (decN n).length) 48 ++ decN n = padN k n := by
 have h1 := o_hf n k h hk
 rw [decN, o_h5, ← o_ha _ _ _ (o_he n), show k - ndig n + ndig n = k by omega]
def bst (l : List Nat) : ByteArray := ⟨(l.map UInt8.ofNat).toArray⟩
def txt (n : Nat) : ByteArray := bst (decN n)
theorem o_hj (a b : List Nat) : bst a ++ bst b = bst (a ++ b) := by
 unfold bst
 apply ByteArray.ext
 rw [ByteArray.data_append]
 simp
@[simp] theorem o_hk (l : List Nat) : (bst l).size = l.length := by
 show ((l.map UInt8.ofNat).toArray).size = _
 simp
theorem o_hl : bst [] = ⟨#[]⟩ := rfl
theorem o_hm (n : Nat) : (decN n).length = ndig n := o_h5 _ _
theorem o_hn (n b : Nat) (h0 : 2 ^ (b - 1) ≤ n) (h1 : n < 2 ^ b) (hb : 0 < b) (hb2 : b ≤ 64) : b * 78913 / 262144 ≤ 19 ∧ ndig n = b * 78913 / 262144 + if 10 ^ (b * 78913 / 262144) ≤ n then 1 else 0 := by
 have key : ∀ b ∈ List.range 65, b * 78913 / 262144 ≤ 19 ∧ 2 ^ b ≤ 10 ^ (b * 78913 / 262144 + 1) ∧ (b * 78913 / 262144 = 0 ∨ 10 ^ (b * 78913 / 262144 - 1) ≤ 2 ^ (b - 1)) := by decide
 obtain ⟨k1, k2, k3⟩ := key b (by simp; omega)
 refine ⟨k1, ?_⟩
 generalize b * 78913 / 262144 = k at *
 by_cases h : 10 ^ k ≤ n
 ·rw [if_pos h, o_hc k n h (Nat.lt_of_lt_of_le h1 k2)]
 ·rw [if_neg h]
  rcases k3 with k3 | k3
  ·subst k3
   have : 0 < 2 ^ (b - 1) := Nat.pow_pos (by decide)
   simp at h; omega
  ·have hk : 0 < k := by
    rcases Nat.eq_zero_or_pos k with rfl | hk
    ·have : 0 < 2 ^ (b - 1) := Nat.pow_pos (by decide)
     simp at h; omega
    ·exact hk
   obtain ⟨j, rfl⟩ : ∃ j, k = j + 1 := ⟨k - 1, by omega⟩
   rw [o_hc j n (by simpa using Nat.le_trans k3 h0) (by omega)]
theorem o_ho (A R : List Nat) (m x : Nat) : (A ++ (List.replicate (m + 1) 0 ++ R)).set (A.length + m) x = A ++ (List.replicate m 0 ++ x :: R) := by
 rw [List.set_append_right _ _ (by omega), Nat.add_sub_cancel_left, List.set_append_left _ _ (by simp), List.replicate_succ', List.set_append_right _ _ (by simp)]
 simp
end
end Go.Proofs.YtlelpbaeplcfiaaDoor.Am
namespace Go.Proofs.YtlelpbaeplcfiaaDoor.Am
section
open Go.RowKit
theorem o_hp (b : Bool) : Eqn Tryd.prog o_ce [.d (.bool b)] [] (.d (.int .i64 (if b then 1 else 0))) [] := by
 refine Eqn.pure o_cg Plain.ok ?_
 simp only [o_cf]
 cases b
 ·refine A00 ?_; try with_reducible exact tt
 ·refine A00 ?_; try with_reducible exact tt
theorem o_hq (b : Nat) (hb : b ≤ 64) : Eqn Tryd.prog o_cb [.d (.int .i64 b)] [] (.d (.int .i64 (b * 78913 / 262144 : Nat))) [] := by
 refine Eqn.pure o_cd Plain.ok ?_
 simp only [o_cc]
 have e1 : IntKind.i64.wrap ((b : Int) * 78913) = ((b * 78913 : Nat) : Int) := by rw [w64 (by omega) (by omega)]; omega
 have e2 : ((b * 78913 : Nat) : Int) / 262144 = ((b * 78913 / 262144 : Nat) : Int) := by omega
 refine A10 (fs e1 e2) ?_; try with_reducible exact tt
def pow10V : List D := [.int .u64 1, .int .u64 10, .int .u64 100, .int .u64 1000, .int .u64 10000, .int .u64 100000, .int .u64 1000000, .int .u64 10000000, .int .u64 100000000, .int .u64 1000000000, .int .u64 10000000000, .int .u64 100000000000, .int .u64 1000000000000, .int .u64 10000000000000, .int .u64 100000000000000, .int .u64 1000000000000000, .int .u64 10000000000000000, .int .u64 100000000000000000, .int .u64 1000000000000000000, .int .u64 10000000000000000000]
theorem o_hr : pow10V.length = 20 := rfl
theorem o_hs : pow10V = (List.range 20).map fun k : Nat => D.int .u64 ((10 ^ k : Nat) : Int) := by kernel_rfl
theorem o_ht : ∀ (k : Nat) (h : k < pow10V.length), pow10V[k]'h = D.int .u64 ((10 ^ k : Nat) : Int) := by
 rw [o_hs]
 intro k h
 simp
theorem o_hu (n : Nat) (h0 : 0 < n) (h1 : n < 18446744073709551616) : Eqn Tryd.prog o_bn [.d (.int .u64 n)] [] (.d (.int .i64 (ndig n : Nat))) [] := by
 refine Eqn.pure o_bp Plain.ok ?_
 have hb : bitsN n ≤ 64 := o_ee (by omega)
 have hl := o_et n h1
 have hlt := o_ed n
 have hb0 : 0 < bitsN n := by
  rcases Nat.eq_zero_or_pos (bitsN n) with h | h
  ·rw [h] at hlt; simp at hlt; omega
  ·exact h
 have hge : 2 ^ (bitsN n - 1) ≤ n := by
  rcases Nat.lt_or_ge n (2 ^ (bitsN n - 1)) with h | h
  ·have := o_ee h; omega
  ·exact h
 obtain ⟨g1, g2⟩ := o_hn n (bitsN n) hge hlt hb0 hb
 have hlo := o_hq (bitsN n) hb
 generalize bitsN n * 78913 / 262144 = k at *
 have hbo := o_hp (decide (10 ^ k ≤ n))
 have hgt := o_ht k
 obtain ⟨t, ht⟩ : ∃ t, t = 10 ^ k := ⟨_, rfl⟩
 rw [← ht] at hgt g2 hbo
 have hkl : k < 20 := by omega
 have hki : (k : Int) < 20 := by omega
 have hkl2 : k < pow10V.length := by rw [o_hr]; omega
 have hge2 : decide ((t : Int) ≤ n) = decide (t ≤ n) := by rw [decide_eq_decide]; omega
 simp only [o_bo]
 rw [show [D.int .u64 1, .int .u64 10, .int .u64 100, .int .u64 1000, .int .u64 10000, .int .u64 100000, .int .u64 1000000, .int .u64 10000000, .int .u64 100000000, .int .u64 1000000000, .int .u64 10000000000, .int .u64 100000000000, .int .u64 1000000000000, .int .u64 10000000000000, .int .u64 100000000000000, .int .u64 1000000000000000, .int .u64 10000000000000000, .int .u64 100000000000000000, .int .u64 1000000000000000000, .int .u64 10000000000000000000] = pow10V from rfl]
 generalize pow10V = PV at *
 refine A00 ?_; try with_reducible exact tt
 refine CallS.pu (hl) (R0 ?_); try with_reducible exact tt
 refine CallS.pu (hlo) (R1 (fs hkl (fs hki (fs hkl2 (fs hgt hge2)))) ?_); try with_reducible exact tt
 refine CallS.pu (hbo) (R0 ?_); try with_reducible exact tt
 refine Sub1.int ?_
 rw [g2]
 by_cases h : t ≤ n
 ·simp only [h, if_true]; omega
 ·simp only [h, if_false]; omega
end
end Go.Proofs.YtlelpbaeplcfiaaDoor.Am
namespace Go.Proofs.YtlelpbaeplcfiaaDoor.Am
section
theorem u32N (x : Nat) (h : x < 4294967296) : IntKind.u32.wrap (x : Int) = x := by rw [IntKind.wrap_u32]; omega
theorem o_hv (u k : Nat) (h0 : 0 < k) (h : k ≤ 4294967296) : IntKind.u32.wrap ((u : Int).tmod k) = ((u % k : Nat) : Int) := by
 rw [Int.tmod_eq_emod_of_nonneg (by omega), ← Int.natCast_emod]
 exact u32N _ (Nat.lt_of_lt_of_le (Nat.mod_lt _ h0) h)
theorem o_hw (x k : Nat) (h : x < 4294967296) : IntKind.u32.wrap ((x : Int) / k) = ((x / k : Nat) : Int) := by
 rw [← Int.natCast_ediv]
 exact u32N _ (Nat.lt_of_le_of_lt (Nat.div_le_self _ _) h)
theorem o_hx (x k : Nat) (h : x < 18446744073709551616) : IntKind.u64.wrap ((x : Int) / k) = ((x / k : Nat) : Int) := by
 rw [← Int.natCast_ediv]
 have := Nat.div_le_self x k
 generalize x / k = q at *
 rw [IntKind.wrap_u64]; omega
theorem modN (x k : Nat) : (x : Int).tmod k = ((x % k : Nat) : Int) := by rw [Int.tmod_eq_emod_of_nonneg (by omega), ← Int.natCast_emod]
structure D4 (x a b : Nat) : Prop where
 da : IntKind.u32.wrap ((x : Int) / 100) = a
 mb : (x : Int).tmod 100 = b
 la : a < 100
 lb : b < 100
 dig : ∀ u, padN 4 (u * 10000 + x) = [48 + a / 10, 48 + a % 10, 48 + b / 10, 48 + b % 10]
theorem d4 (x : Nat) (hx : x < 10000) : ∃ a b, D4 x a b := by
 refine ⟨x / 100, x % 100, o_hw x 100 (by omega), modN x 100, by omega, by omega, fun u => ?_⟩
 rw [o_h7]
 congr 1
 ·omega
 congr 1
 ·omega
 congr 1
 ·omega
 congr 1
 omega
structure D8 (u x5 x6 x7 : Nat) : Prop where
 m5 : IntKind.u32.wrap ((u : Int).tmod 100000000) = x5
 d6 : IntKind.u32.wrap ((x5 : Int) / 10000) = x6
 m7 : (x5 : Int).tmod 10000 = x7
 l6 : x6 < 10000
 l7 : x7 < 10000
 dig : padN 8 u = padN 4 (u / 100000000 * 10000 + x6) ++ padN 4 (u / 10000 * 10000 + x7)
theorem d8 (u : Nat) : ∃ x5 x6 x7, D8 u x5 x6 x7 := by
 refine ⟨u % 100000000, u % 100000000 / 10000, u % 100000000 % 10000, o_hv u 100000000 (by omega) (by omega), o_hw _ 10000 (by omega), modN _ 10000, by omega, by omega, ?_⟩
 rw [show (8 : Nat) = 4 + 4 from rfl, o_h6, show u / 100000000 * 10000 + u % 100000000 / 10000 = u / 10000 by omega, show u / 10000 * 10000 + u % 100000000 % 10000 = u by omega]
structure Lk (l : ByteArray) (x y z c e : Nat) : Prop where
 wy : IntKind.u32.wrap ((x : Int) * 2) = y
 wz : IntKind.u32.wrap ((y : Int) + 1) = z
 gy : ∀ h, (l.data[y]'h).toNat = c
 gz : ∀ h, (l.data[z]'h).toNat = e
 ny : y < l.size
 nz : z < l.size
 hc : c = 48 + x / 10
 he : e = 48 + x % 10
theorem lk (l : ByteArray) (hl : l.size = 200) (h : ∀ x, x < 100 → (l.data.toList.getD (x * 2) 0).toNat = 48 + x / 10 ∧ (l.data.toList.getD (x * 2 + 1) 0).toNat = 48 + x % 10) (x : Nat) (hx : x < 100) : ∃ y z c e, Lk l x y z c e :=
 ⟨x * 2, x * 2 + 1, 48 + x / 10, 48 + x % 10, by rw [IntKind.wrap_u32]; omega, by rw [IntKind.wrap_u32]; omega, fun k => by have := (h x hx).1; rw [List.getD_eq_getElem?_getD, List.getElem?_eq_getElem (by simpa using k)] at this; simpa using this, fun k => by have := (h x hx).2; rw [List.getD_eq_getElem?_getD, List.getElem?_eq_getElem (by simpa using k)] at this; simpa using this, by omega, by omega, rfl, rfl⟩
theorem w64s (p k m : Nat) (h : p = m + k) (hp : p ≤ 1000) : IntKind.i64.wrap ((p : Int) - k) = m := by rw [IntKind.wrap_i64]; omega
end
end Go.Proofs.YtlelpbaeplcfiaaDoor.Am
namespace Go.Proofs.YtlelpbaeplcfiaaDoor.Am
section
open Go.RowKit
def yV (ws : List Nat) : List V := ws.map fun x : Nat => V.d (.int .u8 x)
theorem o_hy (ws : List Nat) (j v : Nat) : (yV ws).set j (.d (.int .u8 v)) = yV (ws.set j v) := by simp [yV, List.map_set]
@[simp] theorem o_hz (ws : List Nat) : (yV ws).length = ws.length := by simp [yV]
@[simp] theorem o_i0 (n : Nat) (ws : List Nat) : V.lowl n (yV ws) = true := by induction ws <;> simp_all [yV]
@[simp] theorem o_i1 (θ : Nat → Nat) (ws : List Nat) : V.rens θ (yV ws) = yV ws := by induction ws <;> simp_all [yV]
def lit2G (i : Nat) : Nat := (lit2.data.toList.getD i 0).toNat
theorem o_i2 : (List.range 100).all (fun x => lit2G (x * 2) == 48 + x / 10 && lit2G (x * 2 + 1) == 48 + x % 10) = true := by kernel_rfl
theorem o_i3 (x : Nat) (h : x < 100) : lit2G (x * 2) = 48 + x / 10 ∧ lit2G (x * 2 + 1) = 48 + x % 10 := by
 have := List.all_eq_true.1 o_i2 x (by simpa using h)
 simpa using this
theorem o_i4 (A R : List Nat) (m x : Nat) : (yV (A ++ (List.replicate (m + 1) 0 ++ R))).set (A.length + m) (.d (.int .u8 x)) = yV (A ++ (List.replicate m 0 ++ x :: R)) := by rw [o_hy, o_ho]

theorem fillF {A : List Nat} {p m : Nat} (h : p = m + 1) : ∀ (R : List Nat) (x : Nat), (yV (A ++ (List.replicate p 0 ++ R))).set (A.length + m) (.d (.int .u8 x)) = yV (A ++ (List.replicate m 0 ++ x :: R)) := by
 subst h; exact fun R x => o_i4 A R m x
def qN (n j : Nat) : Nat := n / 10 ^ (8 * j)
def rN (nd j : Nat) : Nat := nd - 8 * j
set_option maxHeartbeats 8000000 in
theorem o_i5 (T : Nat) (n nd : Nat) (hn : n < 18446744073709551616) (hnd : nd ≤ 20) (hlt : n < 10 ^ nd) (A B : List Nat) (hA : A.length ≤ 1000) :
  Eqn Tryd.prog o_bq [.row 0 A.length nd, .d (.int .u64 n)] [⟨T, yV (A ++ (List.replicate nd 0 ++ B))⟩] (.tup []) [⟨T, yV (A ++ (padN nd n ++ B))⟩] := by
 refine Eqn.obj1 o_bs (by exact Plain.ok) ⟨by simp, by simp⟩ ?_
 have e2 := o_e4
 simp only [o_br]
 rw [show (⟨#[48, 48, 48, 49, 48, 50, 48, 51, 48, 52, 48, 53, 48, 54, 48, 55, 48, 56, 48, 57, 49, 48, 49, 49, 49, 50, 49, 51, 49, 52, 49, 53, 49, 54, 49, 55, 49, 56, 49, 57, 50, 48, 50, 49, 50, 50, 50, 51, 50, 52, 50, 53, 50, 54, 50, 55, 50, 56, 50, 57, 51, 48, 51, 49, 51, 50, 51, 51, 51, 52, 51, 53, 51, 54, 51, 55, 51, 56, 51, 57, 52, 48, 52, 49, 52, 50, 52, 51, 52, 52, 52, 53, 52, 54, 52, 55, 52, 56, 52, 57, 53, 48, 53, 49, 53, 50, 53, 51, 53, 52, 53, 53, 53, 54, 53, 55, 53, 56, 53, 57, 54, 48, 54, 49, 54, 50, 54, 51, 54, 52, 54, 53, 54, 54, 54, 55, 54, 56, 54, 57, 55, 48, 55, 49, 55, 50, 55, 51, 55, 52, 55, 53, 55, 54, 55, 55, 55, 56, 55, 57, 56, 48, 56, 49, 56, 50, 56, 51, 56, 52, 56, 53, 56, 54, 56, 55, 56, 56, 56, 57, 57, 48, 57, 49, 57, 50, 57, 51, 57, 52, 57, 53, 57, 54, 57, 55, 57, 56, 57, 57]⟩ : ByteArray) = lit2 from rfl]
 have hl2g := o_i3
 unfold lit2G at hl2g
 generalize hl2 : lit2 = l2 at *
 refine A00 ?_; try with_reducible exact tt
 refine AW.loopT (α := Nat) 1 (fun j => [(4, .d (.int .i64 (rN nd j : Nat))), (1, .d (.int .u64 (qN n j : Nat)))]) (fun j => [(0, ⟨T, yV (A ++ (List.replicate (rN nd j) 0 ++ (padN (8 * j) n ++ B)))⟩)]) (fun j => 8 * j ≤ nd) (fun j => nd - 8 * j) 0 ?_ ?_ (by simp) ?_ ?_ ?_
 ·simp
 ·simp
 ·simp [rN, qN]
 ·simp [padN, rN, qN]
 intro j hj
 simp
 have hr0 : rN nd j = nd - 8 * j := rfl
 have hr1 : rN nd (j + 1) = nd - 8 * (j + 1) := rfl
 have hle : qN n j ≤ n := Nat.div_le_self _ _
 have hdd : qN n (j + 1) = qN n j / 100000000 := by rw [qN, qN, Nat.div_div_eq_div_mul, Nat.mul_succ, Nat.pow_add]
 have hpad : ∀ w, padN (w + 8 * j) n = padN w (qN n j) ++ padN (8 * j) n := fun w => by rw [o_h6]; rfl
 by_cases h8 : 8 ≤ rN nd j
 ·have h8' : (8 : Int) ≤ (rN nd j : Nat) := by omega
  replace hpad := hpad 8
  rw [show 8 + 8 * j = 8 * (j + 1) by omega] at hpad
  generalize padN (8 * j) n = X at *
  generalize qN n j = u at *
  generalize rN nd j = p at *
  have hu32 : ∀ x : Nat, x < 4294967296 → IntKind.u32.wrap (x : Int) = x := fun x hx => by rw [IntKind.wrap_u32]; omega
  have hp : p ≤ 1000 := by omega
  have hs1 : 8 * (j + 1) ≤ nd := by omega
  have hs2 : nd - 8 * (j + 1) < nd - 8 * j := by omega
  have du : IntKind.u64.wrap ((u : Int) / 100000000) = (qN n (j + 1) : Nat) := by rw [hdd]; exact o_hx u 100000000 (by omega)
  generalize hu1 : qN n (j + 1) = u1 at du hdd ⊢
  have hpn : p ≤ nd := by omega
  have hrp : rN nd (j + 1) + 8 = p := by omega
  clear hr0 hr1 hle
  clear hn hlt
  obtain ⟨p1, hp1⟩ : ∃ m, p = m + 1 := ⟨p - 1, by omega⟩
  have w1 : IntKind.i64.wrap ((p : Int) - 1) = p1 := w64s p 1 p1 hp1 hp
  obtain ⟨p2, hp2⟩ : ∃ m, p = m + 2 := ⟨p - 2, by omega⟩
  have w2 : IntKind.i64.wrap ((p : Int) - 2) = p2 := w64s p 2 p2 hp2 hp
  obtain ⟨p3, hp3⟩ : ∃ m, p = m + 3 := ⟨p - 3, by omega⟩
  have w3 : IntKind.i64.wrap ((p : Int) - 3) = p3 := w64s p 3 p3 hp3 hp
  obtain ⟨p4, hp4⟩ : ∃ m, p = m + 4 := ⟨p - 4, by omega⟩
  have w4 : IntKind.i64.wrap ((p : Int) - 4) = p4 := w64s p 4 p4 hp4 hp
  obtain ⟨p5, hp5⟩ : ∃ m, p = m + 5 := ⟨p - 5, by omega⟩
  have w5 : IntKind.i64.wrap ((p : Int) - 5) = p5 := w64s p 5 p5 hp5 hp
  obtain ⟨p6, hp6⟩ : ∃ m, p = m + 6 := ⟨p - 6, by omega⟩
  have w6 : IntKind.i64.wrap ((p : Int) - 6) = p6 := w64s p 6 p6 hp6 hp
  obtain ⟨p7, hp7⟩ : ∃ m, p = m + 7 := ⟨p - 7, by omega⟩
  have w7 : IntKind.i64.wrap ((p : Int) - 7) = p7 := w64s p 7 p7 hp7 hp
  obtain ⟨p8, hp8⟩ : ∃ m, p = m + 8 := ⟨p - 8, by omega⟩
  have w8 : IntKind.i64.wrap ((p : Int) - 8) = p8 := w64s p 8 p8 hp8 hp
  have f1 := fillF (A := A) (p := p) (m := p1) (by omega)
  have f2 := fillF (A := A) (p := p1) (m := p2) (by omega)
  have f3 := fillF (A := A) (p := p2) (m := p3) (by omega)
  have f4 := fillF (A := A) (p := p3) (m := p4) (by omega)
  have f5 := fillF (A := A) (p := p4) (m := p5) (by omega)
  have f6 := fillF (A := A) (p := p5) (m := p6) (by omega)
  have f7 := fillF (A := A) (p := p6) (m := p7) (by omega)
  have f8 := fillF (A := A) (p := p7) (m := p8) (by omega)
  obtain ⟨x5, x6, x7, ⟨m5, d6, m7, l6, l7, dig8⟩⟩ := d8 u
  obtain ⟨a7, b7, ⟨da7, mb7, la7, lb7, dig7⟩⟩ := d4 x7 l7
  obtain ⟨a6, b6, ⟨da6, mb6, la6, lb6, dig6⟩⟩ := d4 x6 l6
  have hlk := lk l2 e2 hl2g
  obtain ⟨yA, zA, cA, eA, ⟨wyA, wzA, gyA, gzA, nyA, nzA, hcA, heA⟩⟩ := hlk b7 lb7
  obtain ⟨yB, zB, cB, eB, ⟨wyB, wzB, gyB, gzB, nyB, nzB, hcB, heB⟩⟩ := hlk a7 la7
  obtain ⟨yC, zC, cC, eC, ⟨wyC, wzC, gyC, gzC, nyC, nzC, hcC, heC⟩⟩ := hlk b6 lb6
  obtain ⟨yD, zD, cD, eD, ⟨wyD, wzD, gyD, gzD, nyD, nzD, hcD, heD⟩⟩ := hlk a6 la6
  rw [dig8, dig6, dig7] at hpad
  rw [← hcA, ← heA, ← hcB, ← heB, ← hcC, ← heC, ← hcD, ← heD] at hpad
  clear hcA heA hcB heB hcC heC hcD heD dig8 dig6 dig7 hlk
  repeat (first | refine AW.seq ?_ | refine AW.block ?_)
  refine AW.reg mix ?_
  (simp -implicitDefEqProofs [h8, h8']; try simp (disch := omega) only [w64, wu64])
  try refine need.of (by first | omega | kernel_rfl) ?_
  refine AW.cond rfl (fun _ => ?_) (fun h => ?_)
  rotate_left
  ·simp at h
  refine AW.skip ?_
  simp
  repeat (first | refine AW.seq ?_ | refine AW.block ?_)
  refine AW.reg mix ?_
  (simp -implicitDefEqProofs [m5]; try simp (disch := omega) only [w64, wu64])
  try refine need.of (by first | omega | kernel_rfl) ?_
  repeat (first | refine AW.seq ?_ | refine AW.block ?_)
  refine AW.reg mix ?_
  (simp -implicitDefEqProofs [du]; try simp (disch := omega) only [w64, wu64])
  try refine need.of (by first | omega | kernel_rfl) ?_
  repeat (first | refine AW.seq ?_ | refine AW.block ?_)
  refine AW.reg mix ?_
  (simp -implicitDefEqProofs [d6, m7]; try simp (disch := omega) only [w64, wu64])
  try refine need.of (by first | omega | kernel_rfl) ?_
  repeat (first | refine AW.seq ?_ | refine AW.block ?_)
  refine AW.reg mix ?_
  (simp -implicitDefEqProofs [da7, mb7, wyA, wyB]; try simp (disch := omega) only [w64, wu64])
  try refine need.of (by first | omega | kernel_rfl) ?_
  repeat (first | refine AW.seq ?_ | refine AW.block ?_)
  refine AW.reg mix ?_
  (simp -implicitDefEqProofs [da6, mb6, wyC, wyD]; try simp (disch := omega) only [w64, wu64])
  try refine need.of (by first | omega | kernel_rfl) ?_
  refine G1 (fs w1 (fs w2 (fs w3 (fs w4 (fs w5 (fs w6 (fs w7 (fs w8 (fs wzA (fs wzB (fs wzC (fs wzD (fs gyA (fs gyB (fs gyC (fs gyD (fs gzA (fs gzB (fs gzC (fs gzD (fs nyA (fs nyB (fs nyC (fs nyD (fs nzA (fs nzB (fs nzC (fs nzD (fs f1 (fs f2 (fs f3 (fs f4 (fs f5 (fs f6 (fs f7 f8))))))))))))))))))))))))))))))))))) ?_; try with_reducible exact tt
  refine ⟨j + 1, hs1, hs2, ⟨Sub1.int (by rw [hu1]), Sub1.int (by omega)⟩, Subs.of ?_⟩
  rw [hpad, show rN nd (j + 1) = p8 by omega]
  simp
 ·have h8' : ¬ (8 : Int) ≤ (rN nd j : Nat) := by omega
  have hul : qN n j < 10 ^ rN nd j := by
   rw [qN, hr0, Nat.div_lt_iff_lt_mul (Nat.pow_pos (by decide)), ← Nat.pow_add, show nd - 8 * j + 8 * j = nd by omega]
   exact hlt
  replace hpad := hpad (rN nd j)
  rw [show rN nd j + 8 * j = nd by omega] at hpad
  have hfin : padN nd n ++ B = padN (rN nd j) (qN n j) ++ (padN (8 * j) n ++ B) := by rw [hpad, List.append_assoc]
  rw [hfin]
  have hp : rN nd j < 8 := by omega
  have hpn : rN nd j ≤ nd := by omega
  generalize padN (8 * j) n ++ B = X at *
  generalize qN n j = u at *
  generalize rN nd j = p at *
  have hu7 : u < 10000000 := Nat.lt_of_lt_of_le hul (Nat.pow_le_pow_right (by decide) (show p ≤ 7 by omega))
  clear hfin hpad hdd hr0 hr1 hle hn hlt hj
  have hlk := lk l2 e2 hl2g
  have du : IntKind.u32.wrap (u : Int) = u := u32N u (by omega)
  refine A10 (fs h8 (fs h8' du)) ?_; try with_reducible exact tt
  by_cases h4 : 4 ≤ p
  ·have h4' : (4 : Int) ≤ p := by omega
   obtain ⟨p4, hp4⟩ : ∃ m, p = m + 4 := ⟨p - 4, by omega⟩
   obtain ⟨p1, hp1⟩ : ∃ m, p = m + 1 := ⟨p - 1, by omega⟩
   obtain ⟨p2, hp2⟩ : ∃ m, p = m + 2 := ⟨p - 2, by omega⟩
   obtain ⟨p3, hp3⟩ : ∃ m, p = m + 3 := ⟨p - 3, by omega⟩
   have w1 : IntKind.i64.wrap ((p : Int) - 1) = p1 := w64s p 1 p1 hp1 (by omega)
   have w2 : IntKind.i64.wrap ((p : Int) - 2) = p2 := w64s p 2 p2 hp2 (by omega)
   have w3 : IntKind.i64.wrap ((p : Int) - 3) = p3 := w64s p 3 p3 hp3 (by omega)
   have w4 : IntKind.i64.wrap ((p : Int) - 4) = p4 := w64s p 4 p4 hp4 (by omega)
   have f1 := fillF (A := A) (p := p) (m := p1) (by omega)
   have f2 := fillF (A := A) (p := p1) (m := p2) (by omega)
   have f3 := fillF (A := A) (p := p2) (m := p3) (by omega)
   have f4 := fillF (A := A) (p := p3) (m := p4) (by omega)
   have hbU4 : u / 10000 < 10 ^ p4 := by rw [Nat.div_lt_iff_lt_mul (by decide), show (10000 : Nat) = 10 ^ 4 from rfl, ← Nat.pow_add, ← hp4]; exact hul
   have hpd4 : padN p u = padN p4 (u / 10000) ++ padN 4 (u / 10000 * 10000 + u % 10000) := by rw [show u / 10000 * 10000 + u % 10000 = u by omega, hp4, o_h6]
   obtain ⟨x4, hx4⟩ : ∃ b, b = u % 10000 := ⟨_, rfl⟩
   have m4 : (u : Int).tmod 10000 = x4 := by rw [hx4]; exact modN u 10000
   have l4 : x4 < 10000 := by rw [hx4]; exact Nat.mod_lt _ (by decide)
   rw [← hx4] at hpd4
   obtain ⟨a7, b7, ⟨da7, mb7, la7, lb7, dig7⟩⟩ := d4 x4 l4
   obtain ⟨yA, zA, cA, eA, ⟨wyA, wzA, gyA, gzA, nyA, nzA, hcA, heA⟩⟩ := hlk b7 lb7
   obtain ⟨yB, zB, cB, eB, ⟨wyB, wzB, gyB, gzB, nyB, nzB, hcB, heB⟩⟩ := hlk a7 la7
   rw [dig7, ← hcA, ← heA, ← hcB, ← heB] at hpd4
   have dU4 : IntKind.u32.wrap ((u : Int) / 10000) = (u / 10000 : Nat) := o_hw u 10000 (by omega)
   have hU74 : u / 10000 < 10000000 := Nat.lt_of_le_of_lt (Nat.div_le_self _ _) hu7
   rw [hpd4]
   clear hx4 hcA heA hcB heB hpd4 dig7
   generalize u / 10000 = u4 at *
   clear hul hu7 du
   refine A10 (fs h4 (fs h4' (fs m4 (fs dU4 (fs da7 (fs mb7 (fs wyA (fs wyB (fs w1 (fs w2 (fs w3 (fs w4 (fs wzA (fs wzB (fs gyA (fs gyB (fs gzA (fs gzB (fs nyA (fs nyB (fs nzA (fs nzB (fs f1 (fs f2 (fs f3 f4))))))))))))))))))))))))) ?_; try with_reducible exact tt
   by_cases h2 : 2 ≤ p4
   ·have h2' : (2 : Int) ≤ p4 := by omega
    obtain ⟨q1, hq1⟩ : ∃ m, p4 = m + 1 := ⟨p4 - 1, by omega⟩
    have v1 : IntKind.i64.wrap ((p4 : Int) - 1) = q1 := w64s p4 1 q1 hq1 (by omega)
    obtain ⟨q2, hq2⟩ : ∃ m, p4 = m + 2 := ⟨p4 - 2, by omega⟩
    have v2 : IntKind.i64.wrap ((p4 : Int) - 2) = q2 := w64s p4 2 q2 hq2 (by omega)
    have t1 := fillF (A := A) (p := p4) (m := q1) (by omega)
    have t2 := fillF (A := A) (p := q1) (m := q2) (by omega)
    have hbW2 : u4 / 100 < 10 ^ q2 := by rw [Nat.div_lt_iff_lt_mul (by decide), show (100 : Nat) = 10 ^ 2 from rfl, ← Nat.pow_add, ← hq2]; exact hbU4
    have hpd2 : padN p4 u4 = padN q2 (u4 / 100) ++ padN 2 u4 := by rw [hq2, o_h6]
    rw [o_h8] at hpd2
    obtain ⟨b2, hb2⟩ : ∃ b, b = u4 % 100 := ⟨_, rfl⟩
    have mb2 : (u4 : Int).tmod 100 = b2 := by rw [hb2]; exact modN u4 100
    have lb2 : b2 < 100 := by rw [hb2]; exact Nat.mod_lt _ (by decide)
    obtain ⟨yE, zE, cE, eE, ⟨wyE, wzE, gyE, gzE, nyE, nzE, hcE, heE⟩⟩ := hlk b2 lb2
    rw [show u4 / 10 % 10 = b2 / 10 by omega, show u4 % 10 = b2 % 10 by omega, ← hcE, ← heE] at hpd2
    have dU2 : IntKind.u32.wrap ((u4 : Int) / 100) = (u4 / 100 : Nat) := o_hw u4 100 (by omega)
    have hU72 : u4 / 100 < 10000000 := Nat.lt_of_le_of_lt (Nat.div_le_self _ _) hU74
    rw [hpd2]
    clear hb2 hcE heE hpd2
    generalize u4 / 100 = W2 at *
    clear hbU4 hU74
    refine A10 (fs h2 (fs h2' (fs mb2 (fs wyE (fs dU2 (fs v1 (fs v2 (fs wzE (fs gyE (fs gzE (fs nyE (fs nzE (fs t1 t2))))))))))))) ?_; try with_reducible exact tt
    by_cases h1 : 0 < q2
    ·have h1' : (0 : Int) < q2 := by omega
     have hP1 : q2 = 0 + 1 := by omega
     have hU : W2 < 10 := by rw [hP1] at hbW2; simpa using hbW2
     obtain ⟨c, hc⟩ : ∃ c, c = 48 + W2 := ⟨_, rfl⟩
     have o1 : IntKind.u32.wrap (48 + (W2 : Int)) = c := by rw [IntKind.wrap_u32]; omega
     have o2 : IntKind.u8.wrap (c : Int) = c := by rw [IntKind.wrap_u8]; omega
     have f := fillF (A := A) (p := q2) (m := 0) hP1
     rw [Nat.add_zero] at f
     have hnd0 : (0 : Int) < nd := by omega
     have hnd1 : 0 < nd := by omega
     refine A10 (fs h1 (fs h1' (fs o1 (fs o2 (fs f (fs hnd0 hnd1)))))) ?_; try with_reducible exact tt
     refine Subs.of ?_
     rw [hP1, hc]
     simp [padN, Nat.mod_eq_of_lt hU]
    ·have h1' : ¬ (0 : Int) < q2 := by omega
     have hP0 : q2 = 0 := by omega
     subst hP0
     refine A10 (fs h1 h1') ?_; try with_reducible exact tt
     exact Subs.of (by simp [padN])
   ·have h2' : ¬ (2 : Int) ≤ p4 := by omega
    refine A10 (fs h2 h2') ?_; try with_reducible exact tt
    by_cases h1 : 0 < p4
    ·have h1' : (0 : Int) < p4 := by omega
     have hP1 : p4 = 0 + 1 := by omega
     have hU : u4 < 10 := by rw [hP1] at hbU4; simpa using hbU4
     obtain ⟨c, hc⟩ : ∃ c, c = 48 + u4 := ⟨_, rfl⟩
     have o1 : IntKind.u32.wrap (48 + (u4 : Int)) = c := by rw [IntKind.wrap_u32]; omega
     have o2 : IntKind.u8.wrap (c : Int) = c := by rw [IntKind.wrap_u8]; omega
     have f := fillF (A := A) (p := p4) (m := 0) hP1
     rw [Nat.add_zero] at f
     have hnd0 : (0 : Int) < nd := by omega
     have hnd1 : 0 < nd := by omega
     refine A10 (fs h1 (fs h1' (fs o1 (fs o2 (fs f (fs hnd0 hnd1)))))) ?_; try with_reducible exact tt
     refine Subs.of ?_
     rw [hP1, hc]
     simp [padN, Nat.mod_eq_of_lt hU]
    ·have h1' : ¬ (0 : Int) < p4 := by omega
     have hP0 : p4 = 0 := by omega
     subst hP0
     refine A10 (fs h1 h1') ?_; try with_reducible exact tt
     exact Subs.of (by simp [padN])
  ·have h4' : ¬ (4 : Int) ≤ p := by omega
   refine A10 (fs h4 h4') ?_; try with_reducible exact tt
   by_cases h2 : 2 ≤ p
   ·have h2' : (2 : Int) ≤ p := by omega
    obtain ⟨q1, hq1⟩ : ∃ m, p = m + 1 := ⟨p - 1, by omega⟩
    have v1 : IntKind.i64.wrap ((p : Int) - 1) = q1 := w64s p 1 q1 hq1 (by omega)
    obtain ⟨q2, hq2⟩ : ∃ m, p = m + 2 := ⟨p - 2, by omega⟩
    have v2 : IntKind.i64.wrap ((p : Int) - 2) = q2 := w64s p 2 q2 hq2 (by omega)
    have t1 := fillF (A := A) (p := p) (m := q1) (by omega)
    have t2 := fillF (A := A) (p := q1) (m := q2) (by omega)
    have hbW2 : u / 100 < 10 ^ q2 := by rw [Nat.div_lt_iff_lt_mul (by decide), show (100 : Nat) = 10 ^ 2 from rfl, ← Nat.pow_add, ← hq2]; exact hul
    have hpd2 : padN p u = padN q2 (u / 100) ++ padN 2 u := by rw [hq2, o_h6]
    rw [o_h8] at hpd2
    obtain ⟨b2, hb2⟩ : ∃ b, b = u % 100 := ⟨_, rfl⟩
    have mb2 : (u : Int).tmod 100 = b2 := by rw [hb2]; exact modN u 100
    have lb2 : b2 < 100 := by rw [hb2]; exact Nat.mod_lt _ (by decide)
    obtain ⟨yE, zE, cE, eE, ⟨wyE, wzE, gyE, gzE, nyE, nzE, hcE, heE⟩⟩ := hlk b2 lb2
    rw [show u / 10 % 10 = b2 / 10 by omega, show u % 10 = b2 % 10 by omega, ← hcE, ← heE] at hpd2
    have dU2 : IntKind.u32.wrap ((u : Int) / 100) = (u / 100 : Nat) := o_hw u 100 (by omega)
    have hU72 : u / 100 < 10000000 := Nat.lt_of_le_of_lt (Nat.div_le_self _ _) hu7
    rw [hpd2]
    clear hb2 hcE heE hpd2
    generalize u / 100 = W2 at *
    clear hul hu7
    refine A10 (fs h2 (fs h2' (fs mb2 (fs wyE (fs dU2 (fs v1 (fs v2 (fs wzE (fs gyE (fs gzE (fs nyE (fs nzE (fs t1 t2))))))))))))) ?_; try with_reducible exact tt
    by_cases h1 : 0 < q2
    ·have h1' : (0 : Int) < q2 := by omega
     have hP1 : q2 = 0 + 1 := by omega
     have hU : W2 < 10 := by rw [hP1] at hbW2; simpa using hbW2
     obtain ⟨c, hc⟩ : ∃ c, c = 48 + W2 := ⟨_, rfl⟩
     have o1 : IntKind.u32.wrap (48 + (W2 : Int)) = c := by rw [IntKind.wrap_u32]; omega
     have o2 : IntKind.u8.wrap (c : Int) = c := by rw [IntKind.wrap_u8]; omega
     have f := fillF (A := A) (p := q2) (m := 0) hP1
     rw [Nat.add_zero] at f
     have hnd0 : (0 : Int) < nd := by omega
     have hnd1 : 0 < nd := by omega
     refine A10 (fs h1 (fs h1' (fs o1 (fs o2 (fs f (fs hnd0 hnd1)))))) ?_; try with_reducible exact tt
     refine Subs.of ?_
     rw [hP1, hc]
     simp [padN, Nat.mod_eq_of_lt hU]
    ·have h1' : ¬ (0 : Int) < q2 := by omega
     have hP0 : q2 = 0 := by omega
     subst hP0
     refine A10 (fs h1 h1') ?_; try with_reducible exact tt
     exact Subs.of (by simp [padN])
   ·have h2' : ¬ (2 : Int) ≤ p := by omega
    refine A10 (fs h2 h2') ?_; try with_reducible exact tt
    by_cases h1 : 0 < p
    ·have h1' : (0 : Int) < p := by omega
     have hP1 : p = 0 + 1 := by omega
     have hU : u < 10 := by rw [hP1] at hul; simpa using hul
     obtain ⟨c, hc⟩ : ∃ c, c = 48 + u := ⟨_, rfl⟩
     have o1 : IntKind.u32.wrap (48 + (u : Int)) = c := by rw [IntKind.wrap_u32]; omega
     have o2 : IntKind.u8.wrap (c : Int) = c := by rw [IntKind.wrap_u8]; omega
     have f := fillF (A := A) (p := p) (m := 0) hP1
     rw [Nat.add_zero] at f
     have hnd0 : (0 : Int) < nd := by omega
     have hnd1 : 0 < nd := by omega
     refine A10 (fs h1 (fs h1' (fs o1 (fs o2 (fs f (fs hnd0 hnd1)))))) ?_; try with_reducible exact tt
     refine Subs.of ?_
     rw [hP1, hc]
     simp [padN, Nat.mod_eq_of_lt hU]
    ·have h1' : ¬ (0 : Int) < p := by omega
     have hP0 : p = 0 := by omega
     subst hP0
     refine A10 (fs h1 h1') ?_; try with_reducible exact tt
     exact Subs.of (by simp [padN])
end
end Go.Proofs.YtlelpbaeplcfiaaDoor.Am
namespace Go.Proofs.YtlelpbaeplcfiaaDoor.Am
section
open Go.RowKit
@[simp] theorem o_i6 : ∀ l : List Nat, intsV (yV l) = some (l.map fun n : Nat => (n : Int))
 | [] => rfl
 | x :: l => by
  have := o_i6 l
  unfold yV at this ⊢
  rw [List.map_cons, intsV, this]
  rfl
theorem o_i7 (l : List Nat) : strOf (l.map fun n : Nat => (n : Int)) = bst l := by
 unfold strOf bst
 rw [List.map_map]
 congr 1
theorem o_i8 : ((List.range 10).all fun n => (lit1.extract n (n + 1)).data.toList == [UInt8.ofNat (48 + n)]) = true ∧ ((List.range 100).all fun n => n < 10 || (lit2.extract (n * 2) (n * 2 + 2)).data.toList == [UInt8.ofNat (48 + n / 10), UInt8.ofNat (48 + n % 10)]) = true := ⟨by kernel_rfl, by kernel_rfl⟩
theorem o_i9 (n : Nat) (h : n < 100) : smallS n = txt n := by
 have key : ∀ (s : ByteArray) (l : List UInt8), s.data.toList = l → s = ⟨l.toArray⟩ := by
  rintro ⟨a⟩ l rfl
  rfl
 unfold smallS
 split
 ·rename_i h10
  have := List.all_eq_true.1 o_i8.1 n (by simpa using h10)
  simp only [beq_iff_eq] at this
  rw [key _ _ this, txt, decN, ndig, if_pos h10]
  simp [padN, bst, Nat.mod_eq_of_lt h10]
 ·rename_i h10
  have := List.all_eq_true.1 o_i8.2 n (by simpa using h)
  simp only [h10, decide_false, Bool.false_or, beq_iff_eq] at this
  have h1 : n / 10 < 10 := by omega
  rw [key _ _ this, txt, decN, ndig, if_neg h10, ndig, if_pos h1]
  simp [padN, bst, Nat.mod_eq_of_lt h1]
theorem o_ia (n : Nat) (hn : n < 18446744073709551616) : Eqn Tryd.prog o_ab [.d (.int .u64 n), .d (.int .i64 10)] [] (.d (.str (txt n))) [] := by
 by_cases h100 : n < 100
 ·rw [← o_i9 n h100]; exact o_ea n h100
 refine Eqn.pure o_ad (o_5k _) ?_
 simp only [o_ac]
 have h1 : ¬ (n : Int) < 100 := by omega
 have hnd := o_hu n (by omega) hn
 have hlt := o_he n
 have hle := o_hf n 20 (Nat.lt_trans hn (by decide)) (by decide)
 have htx : txt n = bst (padN (ndig n) n) := rfl
 rw [htx]
 generalize ndig n = nd at *
 have hf := o_i5 112 n nd hn hle hlt [] (List.replicate (24 - nd) 0) (by simp)
 have hz : yV ([] ++ (List.replicate nd 0 ++ List.replicate (24 - nd) 0)) = List.replicate 24 (V.d (.int .u8 0)) := by
  rw [List.nil_append, List.replicate_append_replicate, show nd + (24 - nd) = 24 by omega]; rfl
 rw [hz] at hf
 rw [List.nil_append, List.length_nil] at hf
 have htk : (yV (padN nd n ++ List.replicate (24 - nd) 0)).take nd = yV (padN nd n) := by
  unfold yV
  rw [List.map_append, List.take_append_of_le_length (by rw [List.length_map, o_h5]; exact Nat.le_refl _), List.take_of_length_le (by rw [List.length_map, o_h5]; exact Nat.le_refl _)]
 have hln : (padN nd n).length = nd := o_h5 _ _
 have hst := o_i7 (padN nd n)
 have hni : (nd : Int) ≤ 24 := by omega
 refine A10 (fs h100 h1) ?_; try with_reducible exact tt
 refine CallS.pu (hnd) (R1 hni ?_); try with_reducible exact tt
 refine CallS.g [0] (hf) (R1 (fs hni (fs htk (fs hln hst))) ?_); try with_reducible exact tt
 done
end
end Go.Proofs.YtlelpbaeplcfiaaDoor.Am
namespace Go.Proofs.YtlelpbaeplcfiaaDoor.Am
section
open Go.RowKit
theorem and32 (x : Nat) (h : x < 18446744073709551616) : bits BinOp.and IntKind.u64 (x : Int) 4294967295 = ((x % 4294967296 : Nat) : Int) := by
 have := bits_and_u64_nat x 4294967295 h (by omega)
 rw [show ((4294967295 : Nat) : Int) = 4294967295 by rfl] at this
 rw [this, show (4294967295 : Nat) = 2 ^ 32 - 1 by rfl, Nat.and_two_pow_sub_one_eq_mod]

theorem o_ib (x y : Nat) (hx : x < 18446744073709551616) (hy : y < 18446744073709551616) :
  let x0 := x % 4294967296; let x1 := x / 4294967296; let y0 := y % 4294967296; let y1 := y / 4294967296
  let w0 := x0 * y0; let t := x1 * y0 + w0 / 4294967296; let w1 := t % 4294967296 + x0 * y1
  w0 < 18446744073709551616 ∧ x1 * y0 < 18446744073709551616 ∧ t < 18446744073709551616 ∧ x0 * y1 < 18446744073709551616 ∧ w1 < 18446744073709551616 ∧ x1 * y1 < 18446744073709551616 ∧
  x1 * y1 + t / 4294967296 < 18446744073709551616 ∧ x1 * y1 + t / 4294967296 + w1 / 4294967296 < 18446744073709551616 ∧
  x * y = (x1 * y1 + t / 4294967296 + w1 / 4294967296) * 18446744073709551616 + x * y % 18446744073709551616 := by
 intro x0 x1 y0 y1 w0 t w1
 have hx0 : x0 < 4294967296 := Nat.mod_lt _ (by decide)
 have hy0 : y0 < 4294967296 := Nat.mod_lt _ (by decide)
 have hx1 : x1 < 4294967296 := by simp only [x1]; omega
 have hy1 : y1 < 4294967296 := by simp only [y1]; omega
 have ex : x = x1 * 4294967296 + x0 := by simp only [x1, x0]; omega
 have ey : y = y1 * 4294967296 + y0 := by simp only [y1, y0]; omega
 have b : ∀ {a c : Nat}, a < 4294967296 → c < 4294967296 → a * c ≤ 18446744065119617025 := fun {a c} ha hc => by
  have := Nat.mul_le_mul (show a ≤ 4294967295 by omega) (show c ≤ 4294967295 by omega)
  omega
 have b00 := b hx0 hy0
 have b10 := b hx1 hy0
 have b01 := b hx0 hy1
 have b11 := b hx1 hy1
 have exy : x * y = x1 * y1 * 18446744073709551616 + (x1 * y0 + x0 * y1) * 4294967296 + x0 * y0 := by
  rw [ex, ey]
  simp only [Nat.add_mul, Nat.mul_add]
  have e1 : x1 * 4294967296 * (y1 * 4294967296) = x1 * y1 * 18446744073709551616 := by
   rw [Nat.mul_mul_mul_comm]
  have e2 : x1 * 4294967296 * y0 = x1 * y0 * 4294967296 := by rw [Nat.mul_right_comm]
  have e3 : x0 * (y1 * 4294967296) = x0 * y1 * 4294967296 := by rw [Nat.mul_assoc]
  rw [e1, e2, e3]; omega
 have hw0 : w0 = x0 * y0 := rfl
 generalize x * y = xy at exy ⊢
 generalize x0 * y0 = a00 at *
 have ht : t = x1 * y0 + w0 / 4294967296 := rfl
 generalize x1 * y0 = a10 at *
 have hw1 : w1 = t % 4294967296 + x0 * y1 := rfl
 generalize x0 * y1 = a01 at *
 generalize x1 * y1 = a11 at *
 clear_value w0 t w1
 omega

theorem o_ic (x y : Nat) (hx : x < 18446744073709551616) (hy : y < 18446744073709551616) : Eqn Tryd.prog o_bt [.d (.int .u64 x), .d (.int .u64 y)] [] (.tup [.d (.int .u64 (x * y / 18446744073709551616 : Nat)), .d (.int .u64 (x * y % 18446744073709551616 : Nat))]) [] := by
 refine Eqn.pure o_bv (o_db _ _) ?_
 simp only [o_bu]
 have hp := o_ib x y hx hy
 simp only at hp
 have a1 := and32 x hx
 have a2 := and32 y hy
 have d1 : (x : Int) / 4294967296 = (x / 4294967296 : Nat) := rfl
 have d2 : (y : Int) / 4294967296 = (y / 4294967296 : Nat) := rfl
 have l1 : x % 4294967296 < 4294967296 := Nat.mod_lt _ (by decide)
 generalize x % 4294967296 = x0 at hp a1 l1
 generalize x / 4294967296 = x1 at hp d1
 generalize y % 4294967296 = y0 at hp a2
 generalize y / 4294967296 = y1 at hp d2
 obtain ⟨p1, p2, p3, p4, p5, p6, p7, p8, p9⟩ := hp
 have m1 : IntKind.u64.wrap ((x0 : Int) * y0) = (x0 * y0 : Nat) := by rw [← Int.natCast_mul]; exact wu64 (by omega) (by omega)
 have m2 : IntKind.u64.wrap ((x1 : Int) * y0) = (x1 * y0 : Nat) := by rw [← Int.natCast_mul]; exact wu64 (by omega) (by omega)
 have m3 : IntKind.u64.wrap ((x0 : Int) * y1) = (x0 * y1 : Nat) := by rw [← Int.natCast_mul]; exact wu64 (by omega) (by omega)
 have m4 : IntKind.u64.wrap ((x1 : Int) * y1) = (x1 * y1 : Nat) := by rw [← Int.natCast_mul]; exact wu64 (by omega) (by omega)
 have m5 : IntKind.u64.wrap ((x : Int) * y) = (x * y % 18446744073709551616 : Nat) := by rw [IntKind.wrap_u64, Int.natCast_emod, Int.natCast_mul]; rfl
 have lo : x * y % 18446744073709551616 < 18446744073709551616 := Nat.mod_lt _ (by decide)
 generalize x * y % 18446744073709551616 = low at *
 generalize x * y = xy at *
 generalize x0 * y0 = a00 at *
 generalize x1 * y0 = a10 at *
 generalize x0 * y1 = a01 at *
 generalize x1 * y1 = a11 at *
 have q1 : (a00 : Int) / 4294967296 = (a00 / 4294967296 : Nat) := rfl
 generalize a00 / 4294967296 = b0 at *
 have s1 : IntKind.u64.wrap ((a10 : Int) + b0) = (a10 + b0 : Nat) := wu64 (by omega) (by omega)
 have a3 := and32 (a10 + b0) p3
 have q2 : ((a10 + b0 : Nat) : Int) / 4294967296 = ((a10 + b0) / 4294967296 : Nat) := rfl
 generalize (a10 + b0) / 4294967296 = t1 at *
 generalize (a10 + b0) % 4294967296 = t0 at *
 generalize a10 + b0 = t at *
 have s2 : IntKind.u64.wrap ((t0 : Int) + a01) = (t0 + a01 : Nat) := wu64 (by omega) (by omega)
 have q3 : ((t0 + a01 : Nat) : Int) / 4294967296 = ((t0 + a01) / 4294967296 : Nat) := rfl
 generalize (t0 + a01) / 4294967296 = v1 at *
 generalize t0 + a01 = v at *
 have s3 : IntKind.u64.wrap ((a11 : Int) + t1) = (a11 + t1 : Nat) := wu64 (by omega) (by omega)
 have s4 : IntKind.u64.wrap (((a11 + t1 : Nat) : Int) + v1) = (a11 + t1 + v1 : Nat) := wu64 (by omega) (by omega)
 have fin : xy / 18446744073709551616 = a11 + t1 + v1 := by omega
 rw [fin]
 generalize a11 + t1 + v1 = hi at *
 generalize a11 + t1 = r at *
 refine G1 (fs a1 (fs a2 (fs d1 (fs d2 (fs m1 (fs m2 (fs m3 (fs m4 (fs m5 (fs q1 (fs s1 (fs a3 (fs q2 (fs s2 (fs q3 (fs s3 s4)))))))))))))))) ?_; try with_reducible exact tt
end
end Go.Proofs.YtlelpbaeplcfiaaDoor.Am
namespace Go.Proofs.YtlelpbaeplcfiaaDoor.Am
section
open Go.RowKit
theorem o_id (hi lo y : Nat) (h0 : hi < y) (hl : lo < 18446744073709551616) (hy : y < 18446744073709551616) :
  ∃ s Y u v : Nat, s = 64 - bitsN y ∧ s ≤ 63 ∧ y * 2 ^ s = Y ∧ Y < 18446744073709551616 ∧ 9223372036854775808 ≤ Y ∧ hi * 2 ^ s < 18446744073709551616 ∧ hi * 2 ^ s ||| lo / 2 ^ (64 - s) = u ∧ lo * 2 ^ s % 18446744073709551616 = v ∧ u < Y ∧ v < 18446744073709551616 ∧
   (hi * 18446744073709551616 + lo) * 2 ^ s = u * 18446744073709551616 + v := by
 obtain ⟨b1, b2⟩ := o_eg (n := y) (by omega)
 have b3 := o_ed y
 have b4 : bitsN y ≤ 64 := o_ee (by omega)
 have hs : 64 - bitsN y ≤ 63 := by omega
 have hY1 : y * 2 ^ (64 - bitsN y) < 18446744073709551616 := by
  have : 2 ^ bitsN y * 2 ^ (64 - bitsN y) = 18446744073709551616 := by rw [← Nat.pow_add, show bitsN y + (64 - bitsN y) = 64 by omega]
  rw [← this]
  exact Nat.mul_lt_mul_of_pos_right b3 (Nat.two_pow_pos _)
 have hY2 : 9223372036854775808 ≤ y * 2 ^ (64 - bitsN y) := by
  have : 2 ^ (bitsN y - 1) * 2 ^ (64 - bitsN y) = 9223372036854775808 := by rw [← Nat.pow_add, show bitsN y - 1 + (64 - bitsN y) = 63 by omega]
  rw [← this]
  exact Nat.mul_le_mul_right _ b1
 generalize 64 - bitsN y = s at *
 have hB : (18446744073709551616 : Nat) = 2 ^ s * 2 ^ (64 - s) := by rw [← Nat.pow_add, show s + (64 - s) = 64 by omega]
 have hp := Nat.two_pow_pos s
 have hp' := Nat.two_pow_pos (64 - s)
 have hh : hi * 2 ^ s < y * 2 ^ s := Nat.mul_lt_mul_of_pos_right h0 hp
 have hlq : lo / 2 ^ (64 - s) < 2 ^ s := by rw [Nat.div_lt_iff_lt_mul hp', ← hB]; exact hl
 have hor : hi * 2 ^ s ||| lo / 2 ^ (64 - s) = hi * 2 ^ s + lo / 2 ^ (64 - s) := by
  rw [Nat.mul_comm, ← Nat.two_pow_add_eq_or_of_lt hlq]
 have hlo : lo * 2 ^ s = lo / 2 ^ (64 - s) * 18446744073709551616 + lo * 2 ^ s % 18446744073709551616 := by
  have h1 : lo * 2 ^ s / 18446744073709551616 = lo / 2 ^ (64 - s) := by
   conv => lhs; rw [hB]
   rw [Nat.mul_comm lo, Nat.mul_div_mul_left _ _ hp]
  have h2 := Nat.div_add_mod (lo * 2 ^ s) 18446744073709551616
  rw [h1] at h2
  omega
 have hlm : lo * 2 ^ s % 18446744073709551616 < 18446744073709551616 := Nat.mod_lt _ (by decide)
 have hN : (hi * 18446744073709551616 + lo) * 2 ^ s = (hi * 2 ^ s) * 18446744073709551616 + lo * 2 ^ s := by
  rw [Nat.add_mul, Nat.mul_right_comm]
 refine ⟨s, y * 2 ^ s, hi * 2 ^ s + lo / 2 ^ (64 - s), lo * 2 ^ s % 18446744073709551616, rfl, hs, rfl, hY1, hY2, by omega, hor, rfl, ?_, hlm, ?_⟩
 ·have h1 : (hi + 1) * 2 ^ s ≤ y * 2 ^ s := Nat.mul_le_mul_right _ h0
  rw [Nat.add_mul, Nat.one_mul] at h1
  omega
 ·rw [hN, hlo, Nat.add_mul]
  generalize lo * 2 ^ s % 18446744073709551616 = a at *
  generalize lo / 2 ^ (64 - s) = b at *
  generalize hi * 2 ^ s = c at *
  omega

def hInv (Y1 Y0 u v : Nat) (q r : Nat) : Prop := q * Y1 + r = u ∧ u * 4294967296 + v < (q + 1) * (Y1 * 4294967296 + Y0) ∧ r < 4294967296

theorem o_ie {Y1 Y0 u v : Nat} (h1 : 0 < Y1) (h2 : Y1 < 4294967296) (hv : v < 4294967296) : hInv Y1 Y0 u v (u / Y1) (u % Y1) := by
 refine ⟨?_, o_em h1 hv, ?_⟩
 ·rw [Nat.mul_comm]; exact Nat.div_add_mod u Y1
 ·have := Nat.mod_lt u h1; omega

set_option maxHeartbeats 8000000 in
theorem o_if (hi lo y : Nat) (h0 : hi < y) (hl : lo < 18446744073709551616) (hy : y < 18446744073709551616) : Eqn Tryd.prog o_a8 [.d (.int .u64 hi), .d (.int .u64 lo), .d (.int .u64 y)] [] (.tup [.d (.int .u64 ((hi * 18446744073709551616 + lo) / y : Nat)), .d (.int .u64 ((hi * 18446744073709551616 + lo) % y : Nat))]) [] := by
 rcases Nat.eq_zero_or_pos hi with rfl | hpos
 ·rw [Nat.zero_mul, Nat.zero_add]
  exact o_du lo y hl (by omega)
 refine Eqn.pure o_aa (o_db _ _) ?_
 simp only [o_a9]
 obtain ⟨s, Y, u, v, hs, hs63, hY, hYl, hYg, hhs, hor, hv, hu, hvl, hN⟩ := o_id hi lo y h0 hl hy
 have hq : (hi * 18446744073709551616 + lo) / y = (u * 18446744073709551616 + v) / Y := by rw [← hN, ← hY]; exact o_en.1.symm
 have hr : (hi * 18446744073709551616 + lo) % y = (u * 18446744073709551616 + v) % Y / 2 ^ s := by rw [← hN, ← hY]; exact o_en.2.symm
 rw [hq, hr]
 clear hq hr hN
 obtain ⟨Qf, hQf⟩ : ∃ Qf, Qf = (u * 18446744073709551616 + v) / Y := ⟨_, rfl⟩
 obtain ⟨Rf, hRf⟩ : ∃ Rf, Rf = (u * 18446744073709551616 + v) % Y / 2 ^ s := ⟨_, rfl⟩
 rw [← hQf, ← hRf]
 have h1 : ¬ y = 0 := by omega
 have h2 : ¬ (y : Int) ≤ hi := by omega
 have h3 : ¬ hi = 0 := by omega
 have h1' : ¬ (y : Int) = 0 := by omega
 have h3' : ¬ (hi : Int) = 0 := by omega
 refine G1 (fs h1 h1') ?_; try with_reducible exact tt
 refine AW.cond rfl (fun h => ?_) (fun h => ?_)
 ·simp [h1] at h
 refine G1 h2 ?_; try with_reducible exact tt
 refine AW.cond rfl (fun h => ?_) (fun h => ?_)
 ·simp [h2] at h
 refine G1 (fs h3 h3') ?_; try with_reducible exact tt
 refine AW.cond rfl (fun h => ?_) (fun h => ?_)
 ·simp [h3] at h
 refine G0 ?_; try with_reducible exact tt
 have hlead := o_eu y hy
 rw [← hs] at hlead
 have hq1' := Nat.div_add_mod Y 4294967296
 have hY0' : Y % 4294967296 < 4294967296 := Nat.mod_lt _ (by decide)
 have hv' := Nat.div_add_mod v 4294967296
 have hv0' : v % 4294967296 < 4294967296 := Nat.mod_lt _ (by decide)
 have f1 : IntKind.u64.wrap (s : Int) = s := wu64 (by omega) (by omega)
 have f2 : IntKind.u64.wrap ((y : Int) * 2 ^ s) = Y := by
  rw [show (y : Int) * 2 ^ s = ((y * 2 ^ s : Nat) : Int) by rw [Int.natCast_mul, Int.natCast_pow]; rfl, hY]; exact wu64 (by omega) (by omega)
 have f3 : (Y : Int) / 4294967296 = (Y / 4294967296 : Nat) := rfl
 have f4 := and32 Y hYl
 have f5 : IntKind.u64.wrap ((hi : Int) * 2 ^ s) = (hi * 2 ^ s : Nat) := by
  rw [show (hi : Int) * 2 ^ s = ((hi * 2 ^ s : Nat) : Int) by rw [Int.natCast_mul, Int.natCast_pow]; rfl]; exact wu64 (by omega) (by omega)
 have f6 : IntKind.u64.wrap ((64 : Int) - s) = (64 : Int) - s := wu64 (by omega) (by omega)
 have f7 : ((64 : Int) - s).toNat = 64 - s := by omega
 have f8 : (lo : Int) / 2 ^ (64 - s) = (lo / 2 ^ (64 - s) : Nat) := by rw [Int.natCast_ediv, Int.natCast_pow]; rfl
 have hll : lo / 2 ^ (64 - s) ≤ lo := Nat.div_le_self _ _
 have f9 := bits_or_u64_nat (hi * 2 ^ s) (lo / 2 ^ (64 - s)) hhs (by omega)
 rw [hor] at f9
 have f10 : IntKind.u64.wrap ((lo : Int) * 2 ^ s) = v := by
  rw [IntKind.wrap_u64, show (lo : Int) * 2 ^ s = ((lo * 2 ^ s : Nat) : Int) by rw [Int.natCast_mul, Int.natCast_pow]; rfl, ← hv]; rfl
 have f11 : (v : Int) / 4294967296 = (v / 4294967296 : Nat) := rfl
 have f12 := and32 v hvl
 have f13 : (s : Int) ≤ 64 := by omega
 have f14 : (0 : Int) ≤ 64 - s := by omega
 have f15 : (64 : Int) - s ≤ 64 := by omega
 generalize Y / 4294967296 = Y1 at *
 generalize Y % 4294967296 = Y0 at *
 generalize v / 4294967296 = v1 at *
 generalize v % 4294967296 = v0 at *
 generalize hi * 2 ^ s = h' at *
 generalize lo / 2 ^ (64 - s) = l' at *
 have hYY : Y = Y1 * 4294967296 + Y0 := by omega
 have hvv : v = v1 * 4294967296 + v0 := by omega
 have hY1 : 2147483648 ≤ Y1 := by omega
 have hY1l : Y1 < 4294967296 := by omega
 have hY0 : Y0 < 4294967296 := by omega
 have hv1 : v1 < 4294967296 := by omega
 have hv0 : v0 < 4294967296 := by omega
 have hYn : ¬ (Y1 : Int) = 0 := by omega
 have hYn' : ¬ Y1 = 0 := by omega
 have huq := Nat.div_add_mod u Y1
 have hqle : u / Y1 ≤ u := Nat.div_le_self _ _
 have g1 : IntKind.u64.wrap ((u : Int) / Y1) = (u / Y1 : Nat) := by rw [← Int.natCast_ediv]; generalize u / Y1 = q at *; exact wu64 (by omega) (by omega)
 have g2 : IntKind.u64.wrap (((u / Y1 : Nat) : Int) * Y1) = (u / Y1 * Y1 : Nat) := by
  rw [Nat.mul_comm] at huq
  rw [← Int.natCast_mul]; generalize u / Y1 * Y1 = q at *; exact wu64 (by omega) (by omega)
 have g3 : IntKind.u64.wrap ((u : Int) - (u / Y1 * Y1 : Nat)) = (u % Y1 : Nat) := by
  rw [Nat.mul_comm] at huq
  generalize u / Y1 * Y1 = q at *
  generalize u % Y1 = r at *
  rw [wu64 (by omega) (by omega)]; omega
 obtain ⟨q1, hq1⟩ : ∃ q1, q1 = (u * 4294967296 + v1) / Y := ⟨_, rfl⟩
 have gA : IntKind.u64.wrap ((u : Int) - IntKind.u64.wrap ((u : Int) / Y1 * Y1)) = (u : Int) % Y1 := by
  have h1 : ((u : Int) / Y1 * Y1) = ((u / Y1 : Nat) : Int) * Y1 := by rw [Int.natCast_ediv]
  rw [h1, g2, g3, Int.natCast_emod]
 refine G0 ?_; try with_reducible exact tt
 refine CallS.pu (hlead) (R1 (fs f1 (fs f2 (fs f3 (fs f4 (fs f5 (fs f6 (fs f7 (fs f8 (fs f9 (fs f10 (fs f11 (fs f12 (fs f13 (fs f14 (fs f15 (fs hYn (fs hYn' g1))))))))))))))))) ?_); try with_reducible exact tt
 refine AW.blockCut 0 [(15, .d (.int .u64 q1))] [] (by simp) (by simp) ?_ ?_
 ·-- the half digit 15
  refine AW.loopT (α := Nat × Nat) 0 (fun a => [(15, .d (.int .u64 (a.1 : Int))), (16, .d (.int .u64 (a.2 : Int)))]) (fun _ => []) (fun a => hInv Y1 Y0 u v1 a.1 a.2) (fun a => a.1) (u / Y1, u % Y1) (by simp) (by simp) (o_ie (by omega) (by omega) (by omega)) (by simp [gA]) (by simp) ?_
  rintro ⟨q, r⟩ ⟨i1, i2, i3⟩
  simp only at i1 i2 i3
  have hqY : q * 2147483648 ≤ q * Y1 := Nat.mul_le_mul_left _ hY1
  have hend : q * Y0 ≤ r * 4294967296 + v1 → q1 = q := fun h => by rw [hq1, hYY]; exact o_ej i1 h i2
  have hnext : (4294967296 ≤ q ∨ r * 4294967296 + v1 < q * Y0) → 0 < q ∧ (q - 1) * Y1 + (r + Y1) = u ∧ u * 4294967296 + v1 < (q - 1 + 1) * (Y1 * 4294967296 + Y0) := fun h => o_ek i1 (by omega) (by omega) h
  have hstep : ∀ (T : List V) , (4294967296 ≤ q ∨ r * 4294967296 + v1 < q * Y0) → 0 < q ∧ hInv Y1 Y0 u v1 (q - 1) (r + Y1) ∨ (0 < q ∧ 4294967296 ≤ r + Y1 ∧ q1 = q - 1) := fun _ h => by
   obtain ⟨n1, n2, n3⟩ := hnext h
   rcases Nat.lt_or_ge (r + Y1) 4294967296 with h1 | h1
   ·exact .inl ⟨n1, n2, n3, h1⟩
   ·refine .inr ⟨n1, h1, ?_⟩
    rw [hq1, hYY]
    exact o_ej n2 (o_el n2 (by omega) hY0 h1 _) n3
  have b1 : IntKind.u64.wrap ((r : Int) + Y1) = ((r + Y1 : Nat) : Int) := wu64 (by omega) (by omega)
  have body : (4294967296 ≤ q ∨ r * 4294967296 + v1 < q * Y0) → IntKind.u64.wrap ((q : Int) - 1) = ((q - 1 : Nat) : Int) := fun h => by
   have := (hnext h).1
   rw [wu64 (by omega) (by omega)]; omega
  by_cases c1 : 4294967296 ≤ q
  ·have c1' : (4294967296 : Int) ≤ q := by omega
   refine G1 c1' ?_; try with_reducible exact tt
   refine AW.cond rfl (fun h => ?_) (fun h => ?_)
   ·have e1 := body (.inl c1)
    rcases hstep [] (.inl c1) with ⟨n1, n2⟩ | ⟨n1, n2, n3⟩
    ·have n4 : ¬ (4294967296 : Int) ≤ ((r + Y1 : Nat) : Int) := by have := n2.2.2; omega
     generalize hr' : r + Y1 = r' at *
     generalize hq' : q - 1 = q' at *
     refine G1 (fs e1 (fs b1 n4)) ?_; try with_reducible exact tt
     refine AW.cond rfl (fun h => ?_) (fun h => ?_)
     ·first | (simp [n4] at h; done) | (simp [n4] at h; omega)
     refine G0 ?_; try with_reducible exact tt
     exact ⟨q', r', n2, by omega, by simp, by simp⟩
    ·have n4 : (4294967296 : Int) ≤ ((r + Y1 : Nat) : Int) := by omega
     generalize hr' : r + Y1 = r' at *
     generalize hq' : q - 1 = q' at *
     refine G1 (fs e1 (fs b1 n4)) ?_; try with_reducible exact tt
     refine AW.cond rfl (fun h => ?_) (fun h => ?_)
     ·refine AW.exit ?_
      (try (simp -implicitDefEqProofs; try simp (disch := omega) only [w64, wu64]))
      rw [n3]
      exact Sub1.refl _
     ·first | (simp at h; done) | (simp at h; omega)
   ·simp [c1'] at h
  ·have c1' : ¬ (4294967296 : Int) ≤ q := by omega
   have hqy : q * Y0 ≤ 4294967295 * 4294967295 := Nat.mul_le_mul (by omega) (by omega)
   have e1 : IntKind.u64.wrap ((q : Int) * Y0) = ((q * Y0 : Nat) : Int) := by rw [← Int.natCast_mul]; exact wu64 (by omega) (by omega)
   have e2 : IntKind.u64.wrap (4294967296 * (r : Int)) = ((4294967296 * r : Nat) : Int) := wu64 (by omega) (by omega)
   have e3 : IntKind.u64.wrap (((4294967296 * r : Nat) : Int) + v1) = ((4294967296 * r + v1 : Nat) : Int) := wu64 (by omega) (by omega)
   by_cases c2 : r * 4294967296 + v1 < q * Y0
   ·have c2' : ((4294967296 * r + v1 : Nat) : Int) < ((q * Y0 : Nat) : Int) := by omega
    have e4 := body (.inr c2)
    have hs := hstep [] (.inr c2)
    clear hend hnext hstep body
    generalize q * Y0 = m at *
    generalize 4294967296 * r = m2 at *
    generalize m2 + v1 = m3 at *
    refine G1 (fs c1' (fs e1 (fs e2 (fs e3 c2')))) ?_; try with_reducible exact tt
    refine AW.cond rfl (fun h => ?_) (fun h => ?_)
    ·rcases hs with ⟨n1, n2⟩ | ⟨n1, n2, n3⟩
     ·have n4 : ¬ (4294967296 : Int) ≤ ((r + Y1 : Nat) : Int) := by have := n2.2.2; omega
      generalize hr' : r + Y1 = r' at *
      generalize hq' : q - 1 = q' at *
      refine G1 (fs e4 (fs b1 n4)) ?_; try with_reducible exact tt
      refine AW.cond rfl (fun h => ?_) (fun h => ?_)
      ·first | (simp at h; done) | (simp at h; omega)
      refine G0 ?_; try with_reducible exact tt
      exact ⟨q', r', n2, by omega, by simp, by simp⟩
     ·have n4 : (4294967296 : Int) ≤ ((r + Y1 : Nat) : Int) := by omega
      generalize hr' : r + Y1 = r' at *
      generalize hq' : q - 1 = q' at *
      refine G1 (fs e4 (fs b1 n4)) ?_; try with_reducible exact tt
      refine AW.cond rfl (fun h => ?_) (fun h => ?_)
      ·refine AW.exit ?_
       (try (simp -implicitDefEqProofs; try simp (disch := omega) only [w64, wu64]))
       rw [n3]
       exact Sub1.refl _
      ·first | (simp at h; done) | (simp at h; omega)
    ·first | (simp at h; done) | (simp at h; omega)
   ·have c2' : ¬ ((4294967296 * r + v1 : Nat) : Int) < ((q * Y0 : Nat) : Int) := by omega
    have e4 := hend (by omega)
    clear hend hnext hstep body
    generalize q * Y0 = m at *
    generalize 4294967296 * r = m2 at *
    generalize m2 + v1 = m3 at *
    refine G1 (fs c1' (fs e1 (fs e2 (fs e3 c2')))) ?_; try with_reducible exact tt
    refine AW.cond rfl (fun h => ?_) (fun h => ?_)
    ·first | (simp at h; done) | (simp at h; omega)
    ·refine AW.exit ?_
     (try (simp -implicitDefEqProofs; try simp (disch := omega) only [w64, wu64]))
     rw [e4]
     exact Sub1.refl _
 obtain ⟨r1, hr1⟩ : ∃ r1, r1 = u * 4294967296 + v1 - q1 * Y := ⟨_, rfl⟩
 have hd := Nat.div_add_mod (u * 4294967296 + v1) Y
 have hm := Nat.mod_lt (u * 4294967296 + v1) (show Y > 0 by omega)
 rw [← hq1, Nat.mul_comm] at hd
 have hr1l : r1 < Y := by omega
 have hq1l : q1 < 4294967296 := by
  rw [hq1, Nat.div_lt_iff_lt_mul (by omega)]
  omega
 have p1 : IntKind.u64.wrap ((u : Int) * 4294967296) = (u * 4294967296 % 18446744073709551616 : Nat) := by rw [IntKind.wrap_u64]; rfl
 have p2 : IntKind.u64.wrap (((u * 4294967296 % 18446744073709551616 : Nat) : Int) + v1) = ((u * 4294967296 + v1) % 18446744073709551616 : Nat) := by rw [IntKind.wrap_u64]; omega
 have p3 : IntKind.u64.wrap ((q1 : Int) * Y) = (q1 * Y % 18446744073709551616 : Nat) := by rw [IntKind.wrap_u64, ← Int.natCast_mul]; rfl
 have p4 : IntKind.u64.wrap (((((u * 4294967296 + v1) % 18446744073709551616 : Nat)) : Int) - (q1 * Y % 18446744073709551616 : Nat)) = (r1 : Int) := by
  rw [IntKind.wrap_u64]
  generalize q1 * Y = m at *
  omega
 have hrq := Nat.div_add_mod r1 Y1
 have hrle : r1 / Y1 ≤ r1 := Nat.div_le_self _ _
 have g1' : IntKind.u64.wrap ((r1 : Int) / Y1) = (r1 / Y1 : Nat) := by rw [← Int.natCast_ediv]; generalize r1 / Y1 = q at *; exact wu64 (by omega) (by omega)
 have g2' : IntKind.u64.wrap (((r1 / Y1 : Nat) : Int) * Y1) = (r1 / Y1 * Y1 : Nat) := by
  rw [Nat.mul_comm] at hrq
  rw [← Int.natCast_mul]; generalize r1 / Y1 * Y1 = q at *; exact wu64 (by omega) (by omega)
 have g3' : IntKind.u64.wrap ((r1 : Int) - (r1 / Y1 * Y1 : Nat)) = (r1 % Y1 : Nat) := by
  rw [Nat.mul_comm] at hrq
  generalize r1 / Y1 * Y1 = q at *
  generalize r1 % Y1 = r at *
  rw [wu64 (by omega) (by omega)]; omega
 have gA' : IntKind.u64.wrap ((r1 : Int) - IntKind.u64.wrap ((r1 : Int) / Y1 * Y1)) = (r1 : Int) % Y1 := by
  have h1 : ((r1 : Int) / Y1 * Y1) = ((r1 / Y1 : Nat) : Int) * Y1 := by rw [Int.natCast_ediv]
  rw [h1, g2', g3', Int.natCast_emod]
 have hp := halves' (y := Y) (a := u * 4294967296 + v1) (b := 4294967296) (v0 := v0) (q1 := q1) (q0 := (r1 * 4294967296 + v0) / Y) (by omega) hq1.symm (by rw [← hr1])
 rw [← hr1] at hp
 obtain ⟨q0, hq0⟩ : ∃ q0, q0 = (r1 * 4294967296 + v0) / Y := ⟨_, rfl⟩
 rw [← hq0] at hp
 rw [show u * 18446744073709551616 + v = (u * 4294967296 + v1) * 4294967296 + v0 by omega] at hQf hRf
 rw [hp.1] at hQf
 rw [hp.2] at hRf
 have hd0 := Nat.div_add_mod (r1 * 4294967296 + v0) Y
 have hm0 := Nat.mod_lt (r1 * 4294967296 + v0) (show Y > 0 by omega)
 rw [← hq0, Nat.mul_comm] at hd0
 obtain ⟨r0, hr0⟩ : ∃ r0, r0 = r1 * 4294967296 + v0 - q0 * Y := ⟨_, rfl⟩
 rw [← hr0] at hRf
 have hq0l : q0 < 4294967296 := by
  rw [hq0, Nat.div_lt_iff_lt_mul (by omega)]
  omega
 have s1 : IntKind.u64.wrap ((r1 : Int) * 4294967296) = (r1 * 4294967296 % 18446744073709551616 : Nat) := by rw [IntKind.wrap_u64]; rfl
 have s2 : IntKind.u64.wrap (((r1 * 4294967296 % 18446744073709551616 : Nat) : Int) + v0) = ((r1 * 4294967296 + v0) % 18446744073709551616 : Nat) := by rw [IntKind.wrap_u64]; omega
 have s3 : IntKind.u64.wrap ((q0 : Int) * Y) = (q0 * Y % 18446744073709551616 : Nat) := by rw [IntKind.wrap_u64, ← Int.natCast_mul]; rfl
 have s4 : IntKind.u64.wrap (((((r1 * 4294967296 + v0) % 18446744073709551616 : Nat)) : Int) - (q0 * Y % 18446744073709551616 : Nat)) = (r0 : Int) := by
  rw [IntKind.wrap_u64]
  generalize q0 * Y = m at *
  omega
 have s5 : IntKind.u64.wrap ((q1 : Int) * 4294967296) = (q1 * 4294967296 : Nat) := wu64 (by omega) (by omega)
 have s6 : IntKind.u64.wrap (((q1 * 4294967296 : Nat) : Int) + q0) = (q1 * 4294967296 + q0 : Nat) := wu64 (by omega) (by omega)
 have s7 : (r0 : Int) / 2 ^ s = (r0 / 2 ^ s : Nat) := by rw [Int.natCast_ediv, Int.natCast_pow]; rfl
 rw [← hRf] at s7
 rw [← hQf] at s6
 clear hp hd hm hr1 hq1 hr0 hd0 hm0 hRf hQf
 obtain ⟨t3, ht3⟩ : ∃ t, t = q1 * Y % 18446744073709551616 := ⟨_, rfl⟩
 rw [← ht3] at p3 p4
 obtain ⟨t2, ht2⟩ : ∃ t, t = (u * 4294967296 + v1) % 18446744073709551616 := ⟨_, rfl⟩
 rw [← ht2] at p2 p4
 obtain ⟨t1, ht1⟩ : ∃ t, t = u * 4294967296 % 18446744073709551616 := ⟨_, rfl⟩
 rw [← ht1] at p1 p2
 clear ht1 ht2 ht3
 simp
 repeat (first | refine AW.seq ?_ | refine AW.block ?_ | (refine AW.reg mix ?_; simp -implicitDefEqProofs [p1, p2, p3, p4, hYn, hYn', g1']; try simp (disch := omega) only [w64, wu64]) | (refine need.of (by first | omega | kernel_rfl) ?_) | (refine AW.fin ?_; try simp -implicitDefEqProofs [p1, p2, p3, p4, hYn, hYn', g1']))
 refine AW.blockCut 0 [(18, .d (.int .u64 q0))] [] (by simp) (by simp) ?_ ?_
 ·-- the other half digit
  refine AW.loopT (α := Nat × Nat) 0 (fun a => [(18, .d (.int .u64 (a.1 : Int))), (16, .d (.int .u64 (a.2 : Int)))]) (fun _ => []) (fun a => hInv Y1 Y0 r1 v0 a.1 a.2) (fun a => a.1) (r1 / Y1, r1 % Y1) (by simp) (by simp) (o_ie (by omega) (by omega) (by omega)) (by simp [gA']) (by simp) ?_
  rintro ⟨q, r⟩ ⟨i1, i2, i3⟩
  simp only at i1 i2 i3
  have hqY : q * 2147483648 ≤ q * Y1 := Nat.mul_le_mul_left _ hY1
  have hend : q * Y0 ≤ r * 4294967296 + v0 → q0 = q := fun h => by rw [hq0, hYY]; exact o_ej i1 h i2
  have hnext : (4294967296 ≤ q ∨ r * 4294967296 + v0 < q * Y0) → 0 < q ∧ (q - 1) * Y1 + (r + Y1) = r1 ∧ r1 * 4294967296 + v0 < (q - 1 + 1) * (Y1 * 4294967296 + Y0) := fun h => o_ek i1 (by omega) (by omega) h
  have hstep : ∀ (T : List V) , (4294967296 ≤ q ∨ r * 4294967296 + v0 < q * Y0) → 0 < q ∧ hInv Y1 Y0 r1 v0 (q - 1) (r + Y1) ∨ (0 < q ∧ 4294967296 ≤ r + Y1 ∧ q0 = q - 1) := fun _ h => by
   obtain ⟨n1, n2, n3⟩ := hnext h
   rcases Nat.lt_or_ge (r + Y1) 4294967296 with h1 | h1
   ·exact .inl ⟨n1, n2, n3, h1⟩
   ·refine .inr ⟨n1, h1, ?_⟩
    rw [hq0, hYY]
    exact o_ej n2 (o_el n2 (by omega) hY0 h1 _) n3
  have b1 : IntKind.u64.wrap ((r : Int) + Y1) = ((r + Y1 : Nat) : Int) := wu64 (by omega) (by omega)
  have body : (4294967296 ≤ q ∨ r * 4294967296 + v0 < q * Y0) → IntKind.u64.wrap ((q : Int) - 1) = ((q - 1 : Nat) : Int) := fun h => by
   have := (hnext h).1
   rw [wu64 (by omega) (by omega)]; omega
  by_cases c1 : 4294967296 ≤ q
  ·have c1' : (4294967296 : Int) ≤ q := by omega
   refine G1 c1' ?_; try with_reducible exact tt
   refine AW.cond rfl (fun h => ?_) (fun h => ?_)
   ·have e1 := body (.inl c1)
    rcases hstep [] (.inl c1) with ⟨n1, n2⟩ | ⟨n1, n2, n3⟩
    ·have n4 : ¬ (4294967296 : Int) ≤ ((r + Y1 : Nat) : Int) := by have := n2.2.2; omega
     generalize hr' : r + Y1 = r' at *
     generalize hq' : q - 1 = q' at *
     refine G1 (fs e1 (fs b1 n4)) ?_; try with_reducible exact tt
     refine AW.cond rfl (fun h => ?_) (fun h => ?_)
     ·first | (simp [n4] at h; done) | (simp [n4] at h; omega)
     refine G0 ?_; try with_reducible exact tt
     exact ⟨q', r', n2, by omega, by simp, by simp⟩
    ·have n4 : (4294967296 : Int) ≤ ((r + Y1 : Nat) : Int) := by omega
     generalize hr' : r + Y1 = r' at *
     generalize hq' : q - 1 = q' at *
     refine G1 (fs e1 (fs b1 n4)) ?_; try with_reducible exact tt
     refine AW.cond rfl (fun h => ?_) (fun h => ?_)
     ·refine AW.exit ?_
      (try (simp -implicitDefEqProofs; try simp (disch := omega) only [w64, wu64]))
      rw [n3]
      exact Sub1.refl _
     ·first | (simp at h; done) | (simp at h; omega)
   ·simp [c1'] at h
  ·have c1' : ¬ (4294967296 : Int) ≤ q := by omega
   have hqy : q * Y0 ≤ 4294967295 * 4294967295 := Nat.mul_le_mul (by omega) (by omega)
   have e1 : IntKind.u64.wrap ((q : Int) * Y0) = ((q * Y0 : Nat) : Int) := by rw [← Int.natCast_mul]; exact wu64 (by omega) (by omega)
   have e2 : IntKind.u64.wrap (4294967296 * (r : Int)) = ((4294967296 * r : Nat) : Int) := wu64 (by omega) (by omega)
   have e3 : IntKind.u64.wrap (((4294967296 * r : Nat) : Int) + v0) = ((4294967296 * r + v0 : Nat) : Int) := wu64 (by omega) (by omega)
   by_cases c2 : r * 4294967296 + v0 < q * Y0
   ·have c2' : ((4294967296 * r + v0 : Nat) : Int) < ((q * Y0 : Nat) : Int) := by omega
    have e4 := body (.inr c2)
    have hs := hstep [] (.inr c2)
    clear hend hnext hstep body
    generalize q * Y0 = m at *
    generalize 4294967296 * r = m2 at *
    generalize m2 + v0 = m3 at *
    refine G1 (fs c1' (fs e1 (fs e2 (fs e3 c2')))) ?_; try with_reducible exact tt
    refine AW.cond rfl (fun h => ?_) (fun h => ?_)
    ·rcases hs with ⟨n1, n2⟩ | ⟨n1, n2, n3⟩
     ·have n4 : ¬ (4294967296 : Int) ≤ ((r + Y1 : Nat) : Int) := by have := n2.2.2; omega
      generalize hr' : r + Y1 = r' at *
      generalize hq' : q - 1 = q' at *
      refine G1 (fs e4 (fs b1 n4)) ?_; try with_reducible exact tt
      refine AW.cond rfl (fun h => ?_) (fun h => ?_)
      ·first | (simp at h; done) | (simp at h; omega)
      refine G0 ?_; try with_reducible exact tt
      exact ⟨q', r', n2, by omega, by simp, by simp⟩
     ·have n4 : (4294967296 : Int) ≤ ((r + Y1 : Nat) : Int) := by omega
      generalize hr' : r + Y1 = r' at *
      generalize hq' : q - 1 = q' at *
      refine G1 (fs e4 (fs b1 n4)) ?_; try with_reducible exact tt
      refine AW.cond rfl (fun h => ?_) (fun h => ?_)
      ·refine AW.exit ?_
       (try (simp -implicitDefEqProofs; try simp (disch := omega) only [w64, wu64]))
       rw [n3]
       exact Sub1.refl _
      ·first | (simp at h; done) | (simp at h; omega)
    ·first | (simp at h; done) | (simp at h; omega)
   ·have c2' : ¬ ((4294967296 * r + v0 : Nat) : Int) < ((q * Y0 : Nat) : Int) := by omega
    have e4 := hend (by omega)
    clear hend hnext hstep body
    generalize q * Y0 = m at *
    generalize 4294967296 * r = m2 at *
    generalize m2 + v0 = m3 at *
    refine G1 (fs c1' (fs e1 (fs e2 (fs e3 c2')))) ?_; try with_reducible exact tt
    refine AW.cond rfl (fun h => ?_) (fun h => ?_)
    ·first | (simp at h; done) | (simp at h; omega)
    ·refine AW.exit ?_
     (try (simp -implicitDefEqProofs; try simp (disch := omega) only [w64, wu64]))
     rw [e4]
     exact Sub1.refl _
 clear hq0
 obtain ⟨t6, ht6⟩ : ∃ t, t = q0 * Y % 18446744073709551616 := ⟨_, rfl⟩
 rw [← ht6] at s3 s4
 obtain ⟨t5, ht5⟩ : ∃ t, t = (r1 * 4294967296 + v0) % 18446744073709551616 := ⟨_, rfl⟩
 rw [← ht5] at s2 s4
 obtain ⟨t4, ht4⟩ : ∃ t, t = r1 * 4294967296 % 18446744073709551616 := ⟨_, rfl⟩
 rw [← ht4] at s1 s2
 obtain ⟨t7, ht7⟩ : ∃ t, t = q1 * 4294967296 := ⟨_, rfl⟩
 rw [← ht7] at s5 s6
 clear ht4 ht5 ht6 ht7
 simp
 refine G1 (fs s1 (fs s2 (fs s3 (fs s4 (fs s5 (fs s6 (fs s7 f13))))))) ?_; try with_reducible exact tt
end
end Go.Proofs.YtlelpbaeplcfiaaDoor.Am
namespace Go.Proofs.YtlelpbaeplcfiaaDoor.Am
section
open Go.RowKit
theorem o_ig : ∀ (ws : List Nat) (j v : Nat), j < ws.length → wval (ws.set j v) + 18446744073709551616 ^ j * ws.getD j 0 = wval ws + 18446744073709551616 ^ j * v
 | [], j, v, h => by simp at h
 | x :: l, 0, v, h => by simp [wval]; omega
 | x :: l, j + 1, v, h => by
  have ih := o_ig l j v (by simpa using h)
  simp only [List.set_cons_succ, wval, Nat.pow_succ, List.getD_cons_succ]
  have e : ∀ z, 18446744073709551616 ^ j * 18446744073709551616 * z = 18446744073709551616 * (18446744073709551616 ^ j * z) := fun z => by
   rw [Nat.mul_right_comm, Nat.mul_comm]
  rw [e, e]
  omega
theorem o_ih {ws : List Nat} (h : small ws) (j v : Nat) (hv : v < 18446744073709551616) : small (ws.set j v) := by
 intro x hx
 rcases List.mem_or_eq_of_mem_set hx with hx | rfl
 ·exact h x hx
 ·exact hv
def uW (ws : List Nat) : List V := U ws
theorem o_ii (ws : List Nat) : (uW ws).length = ws.length := by simp [uW, U]
theorem o_ij {ws : List Nat} {j : Nat} (h : j < ws.length) : (uW ws)[j]? = some (.d (.int .u64 (ws.getD j 0 : Nat))) := by
 simp [uW, U, List.getD, h]
theorem o_ik (ws : List Nat) (j v : Nat) : (uW ws).set j (.d (.int .u64 v)) = uW (ws.set j v) := by simp [uW, U, List.map_set]
theorem o_il (n : Nat) (ws : List Nat) : V.lowl n (uW ws) = true := o_dn n ws

theorem o_im {vn v z1 z2 p b xy o c l2 h2 : Nat} (hs2 : vn + p * o = v + p * l2) (hv : v + p * c = z2 + z1) (htot : xy + o + c = l2 + b * h2) : vn + p * b * h2 = z2 + (z1 + p * xy) := by
 have e2 := congrArg (p * ·) htot
 simp only [Nat.mul_add] at e2
 rw [← Nat.mul_assoc] at e2
 omega
set_option maxHeartbeats 4000000 in
theorem o_in (m n : Nat) (hm : size m ≤ 1000000) (hn : size n ≤ 1000000) : Eqn Tryd.prog o_az [.d (.agg [natW m]), .d (.agg [natW n])] [] (.d (.agg [natW (m * n)])) [] := by
 refine Eqn.pure o_b1 (o_5k _) ?_
 unfold size at hm hn
 rw [← o_cm m, ← o_cm n]
 have hsA := o_cn m
 have hsB := o_cn n
 rw [show natW (wval (words m)) = W (words m) by rw [o_cm]; rfl, show natW (wval (words n)) = W (words n) by rw [o_cm]; rfl]
 generalize words m = A at *
 generalize words n = B at *
 simp only [o_b0, W]
 have hlen : ((A.length : Int) + B.length).toNat = A.length + B.length := by omega
 refine G1 hlen ?_; try with_reducible exact tt
 rw [show List.replicate (A.length + B.length) (V.d (.int .u64 0)) = uW (List.replicate (A.length + B.length) 0) by simp [uW, U]]
 refine AW.loopT (α := Nat × List Nat) 4 (fun s => [(25, .d (.int .i64 (s.1 : Int)))]) (fun s => [(3, ⟨34, uW s.2⟩)]) (fun s => s.1 ≤ A.length ∧ s.2.length = A.length + B.length ∧ small s.2 ∧ wval s.2 = wval (A.take s.1) * wval B ∧ ∀ j, s.1 + B.length ≤ j → s.2.getD j 0 = 0) (fun s => A.length - s.1) (0, List.replicate (A.length + B.length) 0) ?_ ?_ ?_ ?_ ?_ ?_
 ·simp
 ·simp
 ·refine ⟨Nat.zero_le _, by simp, fun x hx => by rw [List.eq_of_mem_replicate hx]; omega, by simp [o_1, wval], fun j _ => ?_⟩
  simp [List.getD, List.getElem?_replicate]
  split <;> rfl
 ·simp
 ·simp [o_il]
 rintro ⟨i, ws⟩ ⟨hi, hl, hs, hv, hz⟩
 simp only at hi hl hs hv hz
 simp
 by_cases h : i = A.length
 ·subst h
  rw [List.take_length] at hv
  refine G0 ?_; try with_reducible exact tt
  refine AW.cond rfl (fun h => ?_) (fun h => ?_)
  ·simp at h
  refine AW.exit ?_
  (try (simp -implicitDefEqProofs; try simp (disch := omega) only [w64, wu64]))
  have hcell : uW ws = (ws.map fun x : Nat => D.int .u64 x).map V.d := by simp [uW, U]
  rw [hcell]
  refine AW.freeze 3 1 ⟨34, _⟩ (ws.map fun x : Nat => .int .u64 x) (by rfl) (by rfl) ?_
  simp [← hl, List.take_of_length_le]
  refine G0 ?_; try with_reducible exact tt
  refine CallS.pu (o_cv ws hs (by omega)) (R0 ?_); try with_reducible exact tt
  refine Sub1.of ?_
  rw [hv]
 ·have hi' : i < A.length := by omega
  have hp : (i : Int) < A.length := by omega
  refine G1 (fs hi' hp) ?_; try with_reducible exact tt
  refine AW.cond rfl (fun h => ?_) (fun h => ?_)
  ·refine G1 (fs hi' hp) ?_; try with_reducible exact tt
   have hwA : A[i] = A.getD i 0 := o_cu hi'
   have hx : A[i] < 18446744073709551616 := hsA _ (List.getElem_mem _)
   generalize A[i] = x at hwA hx ⊢
   refine AW.loopT (α := Nat × Nat × List Nat) 4 (fun s => [(33, .d (.int .i64 (s.1 : Int))), (8, .d (.int .u64 (s.2.1 : Int)))]) (fun s => [(3, ⟨34, uW s.2.2⟩)]) (fun s => s.1 ≤ B.length ∧ s.2.1 < 18446744073709551616 ∧ s.2.2.length = A.length + B.length ∧ small s.2.2 ∧ wval s.2.2 + 18446744073709551616 ^ (i + s.1) * s.2.1 = wval (A.take i) * wval B + 18446744073709551616 ^ i * (x * wval (B.take s.1)) ∧ ∀ j, i + B.length ≤ j → s.2.2.getD j 0 = 0) (fun s => B.length - s.1) (0, 0, ws) ?_ ?_ ⟨Nat.zero_le _, by simp, hl, hs, by simp [hv, wval], hz⟩ ?_ ?_ ?_
   ·simp
   ·simp
   ·simp
   ·simp [o_il]
   clear hl hs hv hz
   rintro ⟨k, c, ws'⟩ ⟨hk, hc, hl, hs, hv, hz⟩
   simp only at hk hc hl hs hv hz
   simp
   have hlen' : ((i : Int) + B.length).toNat = i + B.length := by omega
   have ew : IntKind.i64.wrap ((i : Int) + B.length) = ((i + B.length : Nat) : Int) := w64 (by omega) (by omega)
   have eu := o_ii ws'
   have eset := fun j v => o_ik ws' j v
   by_cases hkl : k = B.length
   ·subst hkl
    rw [List.take_length] at hv
    refine G0 ?_; try with_reducible exact tt
    refine AW.cond rfl (fun h => ?_) (fun h => ?_)
    ·simp at h
    have hg : (uW ws').length = A.length + B.length := by rw [eu]; exact hl
    have e2 : IntKind.i64.wrap ((i : Int) + 1) = (i : Int) + 1 := w64 (by omega) (by omega)
    refine G1 (fs hg (fs eset e2)) ?_; try with_reducible exact tt
    refine ⟨i + 1, ws'.set (i + B.length) c, ⟨hi', by simp [hl], o_ih hs _ _ hc, ?_, fun j hj => ?_⟩, by omega, by simp, by rw [hlen']; simp, o_il _ _⟩
    ·have h1 := o_ig ws' (i + B.length) c (by omega)
     rw [hz _ (Nat.le_refl _), Nat.mul_zero, Nat.add_zero] at h1
     rw [h1, hv, o_l, Nat.add_mul, hwA, Nat.mul_assoc]
    ·have h1 := hz j (by omega)
     rw [List.getD] at h1
     rw [List.getElem?_set_ne (by omega)]
     exact h1
   ·have hk' : k < B.length := by omega
    have hkp : (k : Int) < B.length := by omega
    refine G1 (fs hk' hkp) ?_; try with_reducible exact tt
    refine AW.cond rfl (fun h => ?_) (fun h => ?_)
    ·have hy : B[k] < 18446744073709551616 := hsB _ (List.getElem_mem _)
     have hwB : B[k] = B.getD k 0 := o_cu hk'
     have hg : (uW ws').length = A.length + B.length := by rw [eu]; exact hl
     have hik : i + k < ws'.length := by omega
     have hik2 : ((i : Int) + k).toNat = i + k := by omega
     have ewk : IntKind.i64.wrap ((i : Int) + k) = (i : Int) + k := w64 (by omega) (by omega)
     have hgo := o_ij hik
     have ho := hs.getD (i + k)
     have hset := fun v => o_ig ws' (i + k) v hik
     generalize hO : ws'.getD (i + k) 0 = o at hgo ho hset
     have e2 : IntKind.i64.wrap ((k : Int) + 1) = (k : Int) + 1 := w64 (by omega) (by omega)
     refine G1 (fs hk' hkp) ?_; try with_reducible exact tt
     generalize B[k] = y at hy hwB ⊢
     have hmul := o_ic x y hx hy
     have l0 : x * y % 18446744073709551616 < 18446744073709551616 := Nat.mod_lt _ (by decide)
     have hxy : x * y ≤ 18446744073709551615 * 18446744073709551615 := Nat.mul_le_mul (by omega) (by omega)
     have hdm := Nat.div_add_mod (x * y) 18446744073709551616
     obtain ⟨hi', hhi⟩ : ∃ q, q = x * y / 18446744073709551616 := ⟨_, rfl⟩
     obtain ⟨lo, hlo⟩ : ∃ q, q = x * y % 18446744073709551616 := ⟨_, rfl⟩
     obtain ⟨xy, hxyd⟩ : ∃ q, q = x * y := ⟨_, rfl⟩
     rw [← hhi, ← hlo] at hmul
     rw [← hlo] at l0
     rw [← hhi, ← hlo, ← hxyd] at hdm
     rw [← hxyd] at hxy
     obtain ⟨l1, k1, hl1, hll1, hk1⟩ : ∃ l1 k1 : Nat, lo + o + 0 = l1 + 18446744073709551616 * k1 ∧ l1 < 18446744073709551616 ∧ k1 ≤ 1 := ⟨(lo + o) % 18446744073709551616, (lo + o) / 18446744073709551616, by omega, by omega, by omega⟩
     obtain ⟨l2, k2, hl2, hll2, hk2⟩ : ∃ l2 k2 : Nat, l1 + c + 0 = l2 + 18446744073709551616 * k2 ∧ l2 < 18446744073709551616 ∧ k2 ≤ 1 := ⟨(l1 + c) % 18446744073709551616, (l1 + c) / 18446744073709551616, by omega, by omega, by omega⟩
     have htot : xy + o + c = l2 + 18446744073709551616 * (hi' + k1 + k2) := by omega
     have hhl : hi' + k1 + k2 < 18446744073709551616 := by omega
     have w1 : IntKind.u64.wrap ((hi' : Int) + k1) = ((hi' + k1 : Nat) : Int) := wu64 (by omega) (by omega)
     have w2 : IntKind.u64.wrap (((hi' + k1 : Nat) : Int) + k2) = ((hi' + k1 + k2 : Nat) : Int) := wu64 (by omega) (by omega)
     clear hhi hlo
     refine CallS.pu (hmul) (R1 (fs hg (fs hgo (fs hik2 ewk))) ?_); try with_reducible exact tt
     generalize hi' + k1 = h1 at *
     generalize h1 + k2 = h2 at *
     refine CallS.pu (o_d0 lo o 0 l1 k1 l0 ho (by omega) hll1 hl1) (R1 w1 ?_); try with_reducible exact tt
     refine CallS.pu (o_d0 l1 c 0 l2 k2 hll1 hc (by omega) hll2 hl2) (R1 (fs w2 (fs hg (fs hik2 (fs ewk (fs eset e2))))) ?_); try with_reducible exact tt
     refine ⟨k + 1, h2, ws'.set (i + k) l2, ⟨hk', hhl, by simpa using hl, o_ih hs _ _ hll2, ?_, fun j hj => ?_⟩, by omega, by simp, Subs.refl _, o_il _ _⟩
     ·have hs2 := hset l2
      have e1 : x * wval (B.take (k + 1)) = x * wval (B.take k) + 18446744073709551616 ^ k * xy := by
       rw [o_l, ← hwB, Nat.mul_add, hxyd]
       congr 1
       rw [← Nat.mul_assoc, Nat.mul_comm x, Nat.mul_assoc]
      rw [e1, Nat.mul_add, ← Nat.mul_assoc (18446744073709551616 ^ i) (18446744073709551616 ^ k) xy, ← Nat.pow_add, ← Nat.add_assoc i k 1, Nat.pow_succ]
      exact o_im hs2 hv htot
     ·have h1 := hz j hj
      rw [← List.getD_eq_getElem?_getD]
      rw [List.getD] at h1 ⊢
      rw [List.getElem?_set_ne (by omega)]
      exact h1
    ·simp [hk'] at h
  ·simp [hi'] at h
end
end Go.Proofs.YtlelpbaeplcfiaaDoor.Am
namespace Go.Proofs.YtlelpbaeplcfiaaDoor.Am
section
open Go.RowKit
theorem o_io {x n m : Nat} (h : x < 2 ^ n) (hm : n ≤ 64 * m) : size x ≤ m := by
 apply o_j (o_co x)
 rw [o_cm, show (18446744073709551616 : Nat) = 2 ^ 64 by rfl, ← Nat.pow_mul]
 exact Nat.lt_of_lt_of_le h (Nat.pow_le_pow_right (by omega) hm)
def splitW (y : Nat) : List Nat → List Nat × Nat
 | [] => ([], 0)
 | x :: l => (((splitW y l).2 * 18446744073709551616 + x) / y :: (splitW y l).1, ((splitW y l).2 * 18446744073709551616 + x) % y)
theorem o_ip {y : Nat} (h0 : 0 < y) : ∀ {l : List Nat}, small l → wval l = wval (splitW y l).1 * y + (splitW y l).2 ∧ (splitW y l).2 < y ∧ small (splitW y l).1 ∧ (splitW y l).1.length = l.length
 | [], _ => ⟨by simp [splitW, wval], h0, by simp [small, splitW], rfl⟩
 | x :: l, h => by
  have hx := h x (by simp)
  obtain ⟨h1, h2, h3, h4⟩ := o_ip h0 (l := l) (fun z hz => h z (by simp [hz]))
  simp only [splitW, wval, List.length_cons, h4]
  generalize splitW y l = s at *
  obtain ⟨Q, r⟩ := s
  simp only at *
  have hd := Nat.div_add_mod (r * 18446744073709551616 + x) y
  have hm := Nat.mod_lt (r * 18446744073709551616 + x) h0
  have hq : (r * 18446744073709551616 + x) / y < 18446744073709551616 := by
   rw [Nat.div_lt_iff_lt_mul h0]
   have : (r + 1) * 18446744073709551616 ≤ y * 18446744073709551616 := Nat.mul_le_mul_right _ h2
   omega
  refine ⟨?_, hm, ?_, trivial⟩
  ·rw [Nat.mul_comm y] at hd
   have e : 18446744073709551616 * (wval Q * y + r) = 18446744073709551616 * wval Q * y + r * 18446744073709551616 := by rw [Nat.mul_add, Nat.mul_assoc, Nat.mul_comm r]
   rw [h1, e, Nat.add_mul]
   obtain ⟨z, hz⟩ : ∃ z, z = (r * 18446744073709551616 + x) % y := ⟨_, rfl⟩
   obtain ⟨z2, hz2⟩ : ∃ z, z = (r * 18446744073709551616 + x) / y * y := ⟨_, rfl⟩
   obtain ⟨z3, hz3⟩ : ∃ z, z = 18446744073709551616 * wval Q * y := ⟨_, rfl⟩
   rw [← hz, ← hz2] at hd
   rw [← hz, ← hz2, ← hz3]
   omega
  ·intro z hz
   rcases List.mem_cons.1 hz with rfl | hz
   ·exact hq
   ·exact h3 z hz

theorem o_iq {y : Nat} (h0 : 0 < y) {l : List Nat} (h : small l) : wval (splitW y l).1 = wval l / y ∧ (splitW y l).2 = wval l % y := by
 obtain ⟨h1, h2, _, _⟩ := o_ip h0 h
 rw [h1]
 constructor
 ·rw [Nat.mul_comm, Nat.mul_add_div h0, Nat.div_eq_of_lt h2, Nat.add_zero]
 ·rw [Nat.mul_comm, Nat.mul_add_mod]; exact (Nat.mod_eq_of_lt h2).symm

def splitC (y : Nat) (ws : List Nat) (k : Nat) : List V := U (List.replicate k 0 ++ (splitW y (ws.drop k)).1)
theorem o_ir {y : Nat} (h0 : 0 < y) {ws : List Nat} (hs : small ws) {k : Nat} (hk : k ≤ ws.length) : (splitC y ws k).length = ws.length := by
 have := (o_ip h0 (l := ws.drop k) (fun x hx => hs x (List.mem_of_mem_drop hx))).2.2.2
 simp [splitC, U, this]; omega

set_option maxHeartbeats 2000000 in
theorem o_is (ws : List Nat) (y : Nat) (hs : small ws) (hn : ws.length ≤ 1000000) (h0 : 0 < y) (hy : y < 18446744073709551616) : Eqn Tryd.prog o_89 [.d (W ws), .d (.int .u64 y)] [] (.tup [.d (W (splitW y ws).1), .d (.int .u64 (splitW y ws).2)]) [] := by
 refine Eqn.pure o_8b (o_db _ _) ?_
 simp only [o_8a, W]
 have hlen := (o_ip h0 hs).2.2.2
 rw [hlen]
 have hlowC : ∀ k, V.lowl 1 (splitC y ws k) = true := fun k => o_dn 1 _
 refine G0 ?_; try with_reducible exact tt
 rw [show List.replicate ws.length (V.d (.int .u64 0)) = splitC y ws ws.length by simp [splitC, U, splitW]]
 refine AW.loopT (α := Nat) 1 (fun k => [(8, .d (.int .i64 ((k : Int) - 1))), (7, .d (.int .u64 ((splitW y (ws.drop k)).2 : Nat)))]) (fun k => [(0, ⟨34, splitC y ws k⟩)]) (fun k => k ≤ ws.length) (fun k => k) ws.length ?_ ?_ (Nat.le_refl _) ?_ ?_ ?_
 ·simp
 ·simp
 ·simp [splitW]
 ·simp [hlowC]
 rintro k hk
 simp
 cases k with
 | zero =>
  refine G0 ?_; try with_reducible exact tt
  refine AW.cond rfl (fun h => ?_) (fun h => ?_)
  ·simp at h
  refine AW.exit ?_
  (try (simp -implicitDefEqProofs; try simp (disch := omega) only [w64, wu64]))
  rw [show splitC y ws 0 = ((splitW y ws).1.map fun x : Nat => D.int .u64 x).map V.d by simp [splitC, U]]
  refine AW.freeze 0 1 ⟨34, _⟩ ((splitW y ws).1.map fun x : Nat => .int .u64 x) (by rfl) (by rfl) ?_
  simp [← hlen, List.take_of_length_le]
  refine G0 ?_; try with_reducible exact tt
 | succ k =>
  have hk' : k < ws.length := hk
  have hdrop : ws.drop k = ws[k] :: ws.drop (k + 1) := List.drop_eq_getElem_cons hk'
  obtain ⟨i1, i2, i3, i4⟩ := o_ip h0 (l := ws.drop (k + 1)) (fun x hx => hs x (List.mem_of_mem_drop hx))
  have hl := o_ir h0 hs hk
  have hset : (splitC y ws (k + 1)).set k (.d (.int .u64 (((splitW y (ws.drop (k + 1))).2 * 18446744073709551616 + ws[k]) / y : Nat))) = splitC y ws k := by
   rw [splitC, splitC, hdrop, splitW, U, U, List.replicate_succ', List.append_assoc, List.map_append, List.map_append, List.set_append_right _ _ (by simp)]
   simp
  have hrest : (splitW y (ws.drop k)).2 = ((splitW y (ws.drop (k + 1))).2 * 18446744073709551616 + ws[k]) % y := by rw [hdrop, splitW]
  have hx : ws[k] < 18446744073709551616 := hs _ (List.getElem_mem _)
  have hdv := o_if (splitW y (ws.drop (k + 1))).2 ws[k] y i2 hx hy
  rw [← hrest] at hdv
  generalize (splitW y (ws.drop (k + 1))).2 = r at *
  have e0 : (0 : Int) ≤ (k : Int) + 1 - 1 := by omega
  have e1 : (k : Int) + 1 - 1 = k := by omega
  have e2 : (((k : Int) + 1 - 1)).toNat = k := by omega
  have e3 : IntKind.i64.wrap ((k : Int) - 1) = (k : Int) - 1 := w64 (by omega) (by omega)
  generalize hxk : ws[k] = x at *
  generalize hqd : (r * 18446744073709551616 + x) / y = q at *
  generalize hr'' : (splitW y (ws.drop k)).2 = r' at *
  refine G1 (fs e0 (fs e1 (fs e2 hk'))) ?_; try with_reducible exact tt
  refine AW.cond rfl (fun h => ?_) (fun h => ?_)
  ·refine G1 (fs e0 (fs e1 (fs e2 (fs hk' hxk)))) ?_; try with_reducible exact tt
   refine CallS.pu (hdv) (R1 (fs e1 (fs hl (fs hk' (fs hset e3)))) ?_); try with_reducible exact tt
   refine ⟨k, by omega, by omega, ?_⟩
   rw [hr'']
   simp [hlowC]
  ·simp at h

theorem o_it (a b : Nat) (ha : size a ≤ 1000000) (h0 : 0 < b) (hb : b < 18446744073709551616 ∨ a < b) (hbs : size b ≤ 1000000) : Eqn Tryd.prog o_aq [.d (.agg [natW a]), .d (.agg [natW b])] [] (.tup [.d (.agg [natW (a / b)]), .d (.agg [natW (a % b)]), .d (.int .i64 0)]) [] := by
 refine Eqn.pure o_as (o_dc _ _ _) ?_
 simp only [o_ar]
 refine G0 ?_; try with_reducible exact tt
 refine CallS.pu (o_cx b) (R0 ?_); try with_reducible exact tt
 have hz : (b == 0) = false := by simp; omega
 refine AW.cond rfl (fun h => ?_) (fun h => ?_)
 ·simp [hz] at h
 refine G0 ?_; try with_reducible exact tt
 refine CallS.pu (o_cz a b ha hbs) (R0 ?_); try with_reducible exact tt
 refine AW.cond rfl (fun h => ?_) (fun h => ?_)
 ·have hlt : a < b := by simpa [o_dt] using h
  rw [Nat.div_eq_of_lt hlt, Nat.mod_eq_of_lt hlt]
  refine G0 ?_; try with_reducible exact tt
  refine CallS.pu (o_cw (words a) (o_cn a) (by unfold size at ha; omega)) (R0 ?_); try with_reducible exact tt
  rw [o_cm]
  exact Sub1.tup (Subs.cons (Sub1.nat0) (Subs.refl _))
 ·have hge : ¬ a < b := fun hlt => by simp [o_dt, hlt] at h
  have hb1 : b < 18446744073709551616 := by omega
  have e' : natW b = .sl 1 [.int .u64 b] := by rw [natW, o_dr (by omega) hb1]; rfl
  have hsp := o_is (words a) b (o_cn a) (by unfold size at ha; omega) h0 hb1
  obtain ⟨q1, q2, q3, q4⟩ := o_ip h0 (o_cn a)
  have hd := o_iq h0 (o_cn a)
  rw [o_cm] at hd
  have htr := o_cv (splitW b (words a)).1 q3 (by unfold size at ha; omega)
  rw [hd.1] at htr
  rw [hd.2] at hsp q2
  rw [show W (words a) = natW a from rfl] at hsp
  generalize (splitW b (words a)).1 = qs at *
  refine G1 e' ?_; try with_reducible exact tt
  refine AW.cond rfl (fun h => ?_) (fun h => ?_)
  ·refine G1 e' ?_; try with_reducible exact tt
   refine CallS.pu (hsp) (R0 ?_); try with_reducible exact tt
   refine CallS.pu (htr) (R0 ?_); try with_reducible exact tt
   refine CallS.pf 4 1 ⟨34, _⟩ [.int .u64 (a % b : Nat)] (o_cw [a % b] (o_ds (by omega)) (by simp)) (by first | rfl | (simp; done)) (R0 ?_); try with_reducible exact tt
   simp [wval]
  ·simp [e'] at h

theorem o_iu (b : Nat) (hb : 0 < b) (hbs : size b ≤ 1000000) : Eqn Tryd.prog o_ak [.d (.agg [natW 1]), .d (.agg [natW b])] [] (.d (.agg [natW 1])) [] := by
 refine Eqn.pure o_am (o_5k _) ?_
 simp only [o_al]
 have s1 : size 1 ≤ 1 := o_dw (by omega)
 refine G0 ?_; try with_reducible exact tt
 refine AW.loopT (α := Nat × Nat) 3 (fun _ => []) (fun p => [(0, ⟨25, [.d (natW p.1)]⟩), (1, ⟨25, [.d (natW p.2)]⟩)]) (fun p => (p = (1, b) ∨ (p = (b, 1) ∧ 1 < b) ∨ p = (1, 0))) (fun p => if p = (1, b) ∧ 0 < b then 3 else if p.2 = 0 then 1 else 2) (1, b) ?_ ?_ (.inl rfl) ?_ ?_ ?_
 ·simp
 ·simp
 ·simp
 ·simp
 rintro ⟨x, y⟩ hxy
 simp
 have hy : size y ≤ 1000000 ∧ size x ≤ 1000000 := by
  rcases hxy with h | ⟨h, _⟩ | h <;> cases h
  ·exact ⟨hbs, by omega⟩
  ·exact ⟨by omega, hbs⟩
  ·exact ⟨by rw [show size 0 = 0 from rfl]; omega, by omega⟩
 refine G0 ?_; try with_reducible exact tt
 refine CallS.pu (o_cx y) (R0 ?_); try with_reducible exact tt
 by_cases h0 : y = 0
 ·subst h0
  have hx : x = 1 := by
   rcases hxy with h | ⟨h, _⟩ | h <;> cases h
   ·omega
   ·rfl
  subst hx
  simp
  refine AW.cond rfl (fun h => ?_) (fun h => ?_)
  ·simp at h
  refine AW.exit ?_
  (try (simp -implicitDefEqProofs; try simp (disch := omega) only [w64, wu64]))
  refine G0 ?_; try with_reducible exact tt
  refine CallS.pu (o_cw (words 1) (o_cn 1) (by unfold size at s1; omega)) (R0 ?_); try with_reducible exact tt
  refine Sub1.of ?_
  rw [o_cm]
 ·refine AW.cond rfl (fun h => ?_) (fun h => ?_)
  ·refine G0 ?_; try with_reducible exact tt
   have hd : y < 18446744073709551616 ∨ x < y := by
    rcases hxy with h | ⟨h, h1⟩ | h <;> cases h
    ·rcases Nat.lt_or_ge 1 b with h | h
     ·exact .inr h
     ·exact .inl (by omega)
    ·exact .inl (by omega)
    ·exact absurd rfl h0
   refine CallS.pu (o_it x y hy.2 (by omega) hd hy.1) (R0 ?_); try with_reducible exact tt
   rcases hxy with h | ⟨h, h1⟩ | h <;> cases h
   ·rcases Nat.lt_or_ge 1 b with h | h
    ·refine .inr (.inl ⟨b, 1, ⟨⟨rfl, rfl⟩, h⟩, ?_, Subs.refl _, ?_⟩)
     ·rw [if_neg (by omega), if_neg (by omega), if_pos ⟨⟨rfl, rfl⟩, hb⟩]
      omega
     ·rw [Nat.mod_eq_of_lt h]; exact Subs.refl _
    ·obtain rfl : b = 1 := by omega
     exact .inr (.inr ⟨by simp, Subs.refl _, by simp⟩)
   ·refine .inr (.inr ⟨?_, Subs.refl _, by rw [Nat.mod_one]; exact Subs.refl _⟩)
    rw [if_neg (by omega), if_neg (by omega), if_neg (by omega)]
    omega
   ·exact absurd rfl h0
  ·simp at h
   exact absurd h h0

theorem o_iv (b : Nat) (h0 : 0 < b) (hb : size b ≤ 1000000) : Eqn Tryd.prog o_93 [.d (.agg [natW 1, .bool false]), .d (.agg [natW b])] [] (.d (.agg [natW 1, .bool false, natW (b - 1)])) [] := by
 refine Eqn.pure o_95 (o_5k _) ?_
 simp only [o_94]
 have s1 : size 1 ≤ 1 := o_dw (by omega)
 have h1 := o_it 1 1 (by omega) (by omega) (.inl (by omega)) (by omega)
 have h2 := o_it b 1 hb (by omega) (.inl (by omega)) (by omega)
 rw [Nat.div_one] at h1 h2
 refine G0 ?_; try with_reducible exact tt
 refine CallS.pu (o_dy 1 false) (R0 ?_); try with_reducible exact tt
 refine CallS.pu (o_iu b h0 hb) (R0 ?_); try with_reducible exact tt
 refine CallS.pu (o_dy 1 false) (R0 ?_); try with_reducible exact tt
 refine CallS.pu (h1) (R0 ?_); try with_reducible exact tt
 refine CallS.pu (h2) (R0 ?_); try with_reducible exact tt
 refine CallS.pf 8 1 ⟨34, _⟩ [.int .u64 (1 : Nat)] (o_cw [1] (o_ds (by omega)) (by simp)) (by first | rfl | (simp; done)) (R0 ?_); try with_reducible exact tt
 refine CallS.pu (o_dh b 1 hb (by omega)) (R0 ?_); try with_reducible exact tt
 refine CallS.pu (o_dz 1 false) (R0 ?_); try with_reducible exact tt
 refine CallS.pu (o_dx 1) (R0 ?_); try with_reducible exact tt

theorem o_iw (k : Nat) (hk : k ≤ 8192) : size (2 ^ k) ≤ 129 := o_io (n := k + 1) (Nat.pow_lt_pow_right (by omega) (Nat.lt_succ_self _)) (by omega)
theorem o_ix (k : Nat) (hk : k ≤ 8192) : Eqn Tryd.prog o_7o [.d (.int .i64 k)] [] (.tup [.d (.agg [natW 1, .bool false, natW (2 ^ k - 1)]), .d (.int .i64 0)]) [] := by
 refine Eqn.pure o_7q (o_db _ _) ?_
 simp only [o_7p]
 have hs := o_iw k hk
 have hp := Nat.two_pow_pos k
 have s1 : size 1 ≤ 1 := o_dw (by omega)
 have h1 := o_dq 1 k (by omega) hk
 rw [Nat.one_mul] at h1
 generalize 2 ^ k = b at *
 refine G0 ?_; try with_reducible exact tt
 refine CallS.pf 1 1 ⟨34, _⟩ [.int .u64 (1 : Nat)] (o_cw [1] (o_ds (by omega)) (by simp)) (by first | rfl | (simp; done)) (R0 ?_); try with_reducible exact tt
 refine CallS.pu (h1) (R0 ?_); try with_reducible exact tt
 refine AW.cond rfl (fun h => ?_) (fun h => ?_)
 ·simp at h
 refine G0 ?_; try with_reducible exact tt
 refine CallS.pu (o_e0 1 (by omega)) (R0 ?_); try with_reducible exact tt
 refine CallS.pu (o_iv b hp (by omega)) (R0 ?_); try with_reducible exact tt
end
end Go.Proofs.YtlelpbaeplcfiaaDoor.Am
namespace Go.Proofs.YtlelpbaeplcfiaaDoor.Am
section
open Go.RowKit
def spcL : ByteArray := ⟨#[32, 32, 32, 32, 32, 32, 32, 32, 32, 32, 32, 32, 32, 32, 32, 32, 32, 32, 32, 32, 32, 32, 32, 32, 32, 32, 32, 32, 32, 32, 32, 32, 32, 32, 32, 32, 32, 32, 32, 32, 32, 32, 32, 32, 32, 32, 32, 32, 32, 32, 32, 32, 32, 32, 32, 32, 32, 32, 32, 32, 32, 32, 32, 32, 32, 32, 32, 32, 32, 32, 32, 32, 32, 32, 32, 32, 32, 32, 32, 32, 32, 32, 32, 32, 32, 32, 32, 32, 32, 32, 32, 32, 32, 32, 32, 32, 32, 32, 32, 32, 32, 32, 32, 32, 32, 32, 32, 32, 32, 32, 32, 32, 32, 32, 32, 32, 32, 32, 32, 32, 32, 32, 32, 32, 32, 32, 32, 32]⟩
def dshL : ByteArray := ⟨#[45, 45, 45, 45, 45, 45, 45, 45, 45, 45, 45, 45, 45, 45, 45, 45, 45, 45, 45, 45, 45, 45, 45, 45, 45, 45, 45, 45, 45, 45, 45, 45, 45, 45, 45, 45, 45, 45, 45, 45, 45, 45, 45, 45, 45, 45, 45, 45, 45, 45, 45, 45, 45, 45, 45, 45, 45, 45, 45, 45, 45, 45, 45, 45, 45, 45, 45, 45, 45, 45, 45, 45, 45, 45, 45, 45, 45, 45, 45, 45, 45, 45, 45, 45, 45, 45, 45, 45, 45, 45, 45, 45, 45, 45, 45, 45, 45, 45, 45, 45, 45, 45, 45, 45, 45, 45, 45, 45, 45, 45, 45, 45, 45, 45, 45, 45, 45, 45, 45, 45, 45, 45, 45, 45, 45, 45, 45, 45]⟩
def zerL : ByteArray := ⟨#[48, 48, 48, 48, 48, 48, 48, 48, 48, 48, 48, 48, 48, 48, 48, 48, 48, 48, 48, 48, 48, 48, 48, 48, 48, 48, 48, 48, 48, 48, 48, 48, 48, 48, 48, 48, 48, 48, 48, 48, 48, 48, 48, 48, 48, 48, 48, 48, 48, 48, 48, 48, 48, 48, 48, 48, 48, 48, 48, 48, 48, 48, 48, 48]⟩
theorem o_iy : spcL.size = 128 := by kernel_rfl
theorem o_iz : dshL.size = 128 := by kernel_rfl
theorem o_j0 : zerL.size = 64 := by kernel_rfl
theorem o_j1 : ((spcL.extract 0 1).toList == (⟨#[48]⟩ : ByteArray).toList) = false := by kernel_rfl
theorem o_j2 : ((dshL.extract 0 1).toList == (⟨#[48]⟩ : ByteArray).toList) = false := by kernel_rfl
theorem o_j3 : ((zerL.extract 0 1).toList == (⟨#[48]⟩ : ByteArray).toList) = true := by kernel_rfl
theorem o_j4 : ((List.range 65).all fun k => (zerL.extract 0 k).data.toList == (List.replicate k 48).map UInt8.ofNat) = true := by kernel_rfl
theorem o_j5 (k : Nat) (h : k ≤ 64) : zerL.extract 0 k = bst (List.replicate k 48) := by
 have := List.all_eq_true.1 o_j4 k (by simp; omega)
 simp only [beq_iff_eq] at this
 unfold bst
 rw [← this]
theorem o_j6 (s p : ByteArray) (h : p.size ≤ s.size) (hs : s.size ≤ 1000) : Eqn Tryd.prog o_bw [.d (.str s), .d (.str p)] [] (.d (.bool ((s.extract 0 p.size).toList == p.toList))) [] := by
 refine Eqn.pure o_by Plain.ok ?_
 simp only [o_bx]
 have h' : (p.size : Int) ≤ s.size := by omega
 refine A10 (fs h h') ?_; try with_reducible exact tt
theorem o_j7 (s p : ByteArray) (h : p.size ≤ s.size) (hs : s.size ≤ 1000) : Eqn Tryd.prog o_ah [.d (.str s), .d (.str p)] [] (.d (.bool ((s.extract 0 p.size).toList == p.toList))) [] := by
 refine Eqn.pure o_aj Plain.ok ?_
 simp only [o_ai]
 have hh := o_j6 s p h hs
 refine A01 hh ?_; try with_reducible exact tt
theorem o_j8 (k : Nat) (h : k < 18446744073709551616) : Eqn Tryd.prog o_ae [.d (.int .u64 1), .d (.int .u64 k)] [] (.tup [.d (.int .u64 0), .d (.int .u64 k)]) [] := by
 refine Eqn.pure o_ag Plain.ok ?_
 simp only [o_af]
 have hm := o_ic 1 k (by omega) h
 rw [Nat.one_mul, Nat.div_eq_of_lt h, Nat.mod_eq_of_lt h] at hm
 refine A01 hm ?_; try with_reducible exact tt
@[simp] theorem o_j9 : ByteArray.size ⟨#[48]⟩ = 1 := rfl
theorem o_ja (k : Nat) (hk : k ≤ 18) : Eqn Tryd.prog o_8i [.d (.str ⟨#[48]⟩), .d (.int .i64 k)] [] (.d (.str (bst (List.replicate k 48)))) [] := by
 refine Eqn.pure o_8k Plain.ok ?_
 simp only [o_8j]
 rw [show (⟨#[32, 32, 32, 32, 32, 32, 32, 32, 32, 32, 32, 32, 32, 32, 32, 32, 32, 32, 32, 32, 32, 32, 32, 32, 32, 32, 32, 32, 32, 32, 32, 32, 32, 32, 32, 32, 32, 32, 32, 32, 32, 32, 32, 32, 32, 32, 32, 32, 32, 32, 32, 32, 32, 32, 32, 32, 32, 32, 32, 32, 32, 32, 32, 32, 32, 32, 32, 32, 32, 32, 32, 32, 32, 32, 32, 32, 32, 32, 32, 32, 32, 32, 32, 32, 32, 32, 32, 32, 32, 32, 32, 32, 32, 32, 32, 32, 32, 32, 32, 32, 32, 32, 32, 32, 32, 32, 32, 32, 32, 32, 32, 32, 32, 32, 32, 32, 32, 32, 32, 32, 32, 32, 32, 32, 32, 32, 32, 32]⟩ : ByteArray) = spcL from rfl]
 rw [show (⟨#[45, 45, 45, 45, 45, 45, 45, 45, 45, 45, 45, 45, 45, 45, 45, 45, 45, 45, 45, 45, 45, 45, 45, 45, 45, 45, 45, 45, 45, 45, 45, 45, 45, 45, 45, 45, 45, 45, 45, 45, 45, 45, 45, 45, 45, 45, 45, 45, 45, 45, 45, 45, 45, 45, 45, 45, 45, 45, 45, 45, 45, 45, 45, 45, 45, 45, 45, 45, 45, 45, 45, 45, 45, 45, 45, 45, 45, 45, 45, 45, 45, 45, 45, 45, 45, 45, 45, 45, 45, 45, 45, 45, 45, 45, 45, 45, 45, 45, 45, 45, 45, 45, 45, 45, 45, 45, 45, 45, 45, 45, 45, 45, 45, 45, 45, 45, 45, 45, 45, 45, 45, 45, 45, 45, 45, 45, 45, 45]⟩ : ByteArray) = dshL from rfl]
 rw [show (⟨#[48, 48, 48, 48, 48, 48, 48, 48, 48, 48, 48, 48, 48, 48, 48, 48, 48, 48, 48, 48, 48, 48, 48, 48, 48, 48, 48, 48, 48, 48, 48, 48, 48, 48, 48, 48, 48, 48, 48, 48, 48, 48, 48, 48, 48, 48, 48, 48, 48, 48, 48, 48, 48, 48, 48, 48, 48, 48, 48, 48, 48, 48, 48, 48]⟩ : ByteArray) = zerL from rfl]
 by_cases h0 : k = 0
 ·subst h0
  refine A00 ?_; try with_reducible exact tt
  exact Sub1.of rfl
 by_cases h1 : k = 1
 ·subst h1
  refine A00 ?_; try with_reducible exact tt
  exact Sub1.of rfl
 have e1 := o_iy
 have e2 := o_iz
 have e3 := o_j0
 have p1 := o_j7 spcL ⟨#[48]⟩ (by rw [e1]; decide) (by omega)
 have p2 := o_j7 dshL ⟨#[48]⟩ (by rw [e2]; decide) (by omega)
 have p3 := o_j7 zerL ⟨#[48]⟩ (by rw [e3]; decide) (by omega)
 rw [o_j9, o_j1] at p1
 rw [o_j9, o_j2] at p2
 rw [o_j9, o_j3] at p3
 have hx := o_j5 k (by omega)
 have hm := o_j8 k (by omega)
 generalize spcL = s1 at *
 generalize dshL = s2 at *
 generalize zerL = s3 at *
 have ku : IntKind.u64.wrap (k : Int) = k := by rw [IntKind.wrap_u64]; omega
 have ki : IntKind.i64.wrap (k : Int) = k := by rw [IntKind.wrap_i64]; omega
 have g1 : ¬ (k : Int) = 0 := by omega
 have g2 : ¬ (k : Int) = 1 := by omega
 have g3 : ¬ (k : Int) < 0 := by omega
 have g4 : (k : Int) ≤ 128 := by omega
 have g5 : (k : Int) ≤ 64 := by omega
 have g6 : ¬ (9223372036854775807 : Int) < k := by omega
 have e3k : k ≤ s3.size := by omega
 refine A14 (fs h0 (fs h1 (fs g1 (fs g2 (fs g3 (fs g4 (fs g5 (fs g6 (fs ku (fs ki (fs e3 (fs hx e3k)))))))))))) hm p1 p2 p3 ?_; try with_reducible exact tt
 done
end
end Go.Proofs.YtlelpbaeplcfiaaDoor.Am
namespace Go.Proofs.YtlelpbaeplcfiaaDoor.Am
section
open Go.RowKit
theorem o_jb : txt 0 = ⟨#[48]⟩ := by rw [txt, decN, ndig]; rfl
theorem o_jc (n : Nat) (hn : n < 18446744073709551616) : Eqn Tryd.prog o_8f [.d (.int .u64 n), .d (.int .i64 10)] [] (.d (.str (txt n))) [] := by
 refine Eqn.pure o_8h (o_5k _) ?_
 simp only [o_8g]
 have h := o_ia n hn
 refine A01 h ?_; try with_reducible exact tt
def wN (a i : Nat) : Nat := a / 10 ^ (18 * i)
def outN (a i : Nat) : List Nat := if wN a i = 0 then decN a else padN (18 * i) a
theorem o_jd (a i : Nat) : wN a (i + 1) = wN a i / 1000000000000000000 := by rw [wN, wN, Nat.div_div_eq_div_mul, Nat.mul_succ, Nat.pow_add]
theorem e18 : (1000000000000000000 : Nat) = 10 ^ 18 := by decide
theorem o_je (a i : Nat) (h : 0 < wN a (i + 1)) (h0 : 0 < wN a i) : List.replicate (18 - (decN (wN a i % 1000000000000000000)).length) 48 ++ decN (wN a i % 1000000000000000000) ++ outN a i = outN a (i + 1) := by
 have h1 : outN a i = padN (18 * i) a := by rw [outN, if_neg (by omega)]
 have h2 : outN a (i + 1) = padN (18 * (i + 1)) a := by rw [outN, if_neg (by omega)]
 have h3 : padN (18 * (i + 1)) a = padN 18 (wN a i) ++ padN (18 * i) a := by rw [show 18 * (i + 1) = 18 + 18 * i by omega, o_h6]; rfl
 rw [h1, h2, h3, e18, o_hi _ 18 (Nat.mod_lt _ (Nat.pow_pos (by decide))) (by decide), o_hb 18 (wN a i)]
theorem o_jf (a i : Nat) (h : wN a (i + 1) = 0) (h0 : 0 < wN a i) : decN (wN a i % 1000000000000000000) ++ outN a i = outN a (i + 1) := by
 rw [outN, outN, if_neg (by omega), if_pos h, Nat.mod_eq_of_lt (by rw [o_jd] at h; omega), o_hh (18 * i) a h0]
 rfl
theorem splitN (w y : Nat) (h0 : 0 < y) : wval (splitW y (words w)).1 = w / y ∧ (splitW y (words w)).2 = w % y := by
 obtain ⟨h1, h2, -, -⟩ := o_ip h0 (o_cn w)
 rw [o_cm] at h1
 generalize splitW y (words w) = s at *
 constructor
 ·rw [h1, Nat.mul_comm, Nat.mul_add_div h0, Nat.div_eq_of_lt h2, Nat.add_zero]
 ·rw [h1, Nat.mul_comm, Nat.mul_add_mod, Nat.mod_eq_of_lt h2]
theorem o_jg (a : Nat) (ha : size a ≤ 1000) : Eqn Tryd.prog o_76 [.d (.agg [natW a])] [] (.d (.str (txt a))) [] := by
 refine Eqn.pure o_78 (o_5k _) ?_
 have hz := o_cx a
 simp only [o_77]
 by_cases h0 : a = 0
 ·subst h0
  refine A01 hz ?_; try with_reducible exact tt
  exact Sub1.of (by rw [o_jb])
 have hda : ndig a ≤ 20000 := by
  have h1 := o_2 (o_cn a)
  rw [o_cm] at h1
  obtain ⟨K, hK⟩ : ∃ K, K = 20 * (words a).length := ⟨_, rfl⟩
  have h2 : a < 10 ^ K := by
   rw [hK, Nat.pow_mul]
   exact Nat.lt_of_lt_of_le h1 (Nat.pow_le_pow_left (by decide) _)
  rcases Nat.eq_zero_or_pos K with h3 | h3
  ·rw [h3] at h2; simp at h2; omega
  ·have := o_hf a K h2 h3
   rw [o_dp] at hK
   omega
 refine A11 h0 hz ?_; try with_reducible exact tt
 refine AW.loopT (α := Nat) 1 (fun i => [(4, .d (natW (wN a i))), (3, .d (.str (bst (outN a i))))]) (fun i => []) (fun i => True) (fun i => wN a i) 0 ?_ ?_ trivial ?_ ?_ ?_
 ·simp
 ·simp
 ·have e1 : outN a 0 = [] := by rw [outN, if_neg (by rw [wN]; simpa using h0)]; rfl
  have e2 : wN a 0 = a := by simp [wN]
  rw [e1, e2]
  simp [o_hl]
 ·simp
 intro i _
 have hw : wN a i ≤ a := Nat.div_le_self _ _
 have hsw := o_dg hw
 by_cases hwz : wN a i = 0
 ·have e1 : outN a i = decN a := by rw [outN, if_pos hwz]
  rw [e1, hwz, o_cs]
  simp
  refine A00 ?_; try with_reducible exact tt
  exact Sub1.of rfl
 ·have hs := o_is (words (wN a i)) 1000000000000000000 (o_cn _) (by rw [o_dp]; omega) (by decide) (by decide)
  have ht := o_cv (splitW 1000000000000000000 (words (wN a i))).1 (o_ip (by decide) (o_cn _)).2.2.1 (by rw [(o_ip (y := 1000000000000000000) (by decide) (o_cn _)).2.2.2, o_dp]; omega)
  obtain ⟨k1, k2⟩ := splitN (wN a i) 1000000000000000000 (by decide)
  rw [k2] at hs
  rw [k1, ← o_jd] at ht
  have hf := o_jc (wN a i % 1000000000000000000) (Nat.lt_trans (Nat.mod_lt _ (by decide)) (by decide))
  have hlt : wN a (i + 1) < wN a i := by rw [o_jd]; exact Nat.div_lt_self (by omega) (by decide)
  have hdl := o_hm (wN a i % 1000000000000000000)
  have hd18 := o_hf (wN a i % 1000000000000000000) 18 (Nat.mod_lt _ (by decide)) (by decide)
  have hd0 := o_hd (wN a i % 1000000000000000000)
  obtain ⟨w, hwd⟩ : ∃ w, w = wN a i := ⟨_, rfl⟩
  obtain ⟨w1, hwd1⟩ : ∃ w, w = wN a (i + 1) := ⟨_, rfl⟩
  obtain ⟨pt, hpt⟩ : ∃ w, w = wN a i % 1000000000000000000 := ⟨_, rfl⟩
  have hW : natW w = W (words w) := rfl
  have hlw : 0 < (words w).length := by
   rcases Nat.eq_zero_or_pos (words w).length with h | h
   ·exact absurd (o_cq.1 (List.eq_nil_of_length_eq_zero h)) (by omega)
   ·exact h
  have hol : (outN a i).length ≤ 20000 := by
   rw [outN, if_neg hwz, o_h5]
   have := o_hg (18 * i) a (Nat.pos_of_ne_zero hwz)
   omega
  have hmore := o_je a i
  have hlast := o_jf a i
  rw [← hpt] at hs hf hmore hlast hdl hd18 hd0
  rw [← hwd] at hs ht hlt hmore hlast hwz hw hsw ⊢
  rw [← hwd1] at ht hlt hmore hlast
  simp only [W] at hs ht hW
  generalize (words w).length = nw at *
  generalize ((words w).map fun x : Nat => D.int .u64 x) = LW at *
  generalize (splitW 1000000000000000000 (words w)).1 = sw1 at *
  simp
  rw [hW]
  have hlw' : (0 : Int) < nw := by omega
  rw [txt] at hf
  obtain ⟨O, hO⟩ : ∃ O, O = outN a i := ⟨_, rfl⟩
  obtain ⟨B, hB⟩ : ∃ B, B = decN pt := ⟨_, rfl⟩
  rw [← hO] at hmore hlast hol ⊢
  rw [← hB] at hmore hlast hdl hf
  refine A13 (fs hlw hlw') hs ht hf ?_; try with_reducible exact tt
  have hap := o_hj
  by_cases h1 : w1 = 0
  ·rw [h1, o_cs]
   replace hlast := hlast (by omega) (by omega)
   refine A00 ?_; try with_reducible exact tt
   have e1 := o_hj B O
   rw [hlast] at e1
   exact ⟨i + 1, by rw [← hwd1]; exact hlt, Sub1.of (by rw [e1]), Sub1.of (by rw [← hwd1, h1, o_cs])⟩
  ·have hW1 : natW w1 = W (words w1) := rfl
   simp only [W] at hW1
   have hl1 : 0 < (words w1).length := by
    rcases Nat.eq_zero_or_pos (words w1).length with h | h
    ·exact absurd (o_cq.1 (List.eq_nil_of_length_eq_zero h)) h1
    ·exact h
   generalize (words w1).length = nw1 at *
   generalize ((words w1).map fun x : Nat => D.int .u64 x) = LW1 at *
   have hl1' : (0 : Int) < nw1 := by omega
   replace hmore := hmore (by omega) (by omega)
   obtain ⟨k, hk⟩ : ∃ k, k = 18 - B.length := ⟨_, rfl⟩
   have hr := o_ja k (by omega)
   have ek : IntKind.i64.wrap (18 - (B.length : Int)) = k := by rw [w64 (by omega) (by omega)]; omega
   rw [← hk] at hmore
   have e1 := o_hj (List.replicate k 48) B
   have e2 := o_hj (List.replicate k 48 ++ B) O
   rw [hmore] at e2
   rw [hW1]
   have hsz : (List.replicate k 48 ++ B).length ≤ 18 := by simp; omega
   generalize hRB : List.replicate k 48 ++ B = RB at *
   generalize hRR : List.replicate k 48 = RR at *
   have hrl : RR.length ≤ 18 := by rw [← hRR]; simp; omega
   refine A11 (fs hl1 (fs hl1' (fs ek e1))) hr ?_; try with_reducible exact tt
   exact ⟨i + 1, by rw [← hwd1]; exact hlt, Sub1.of (by rw [e2]), Sub1.of (by rw [← hwd1, hW1])⟩
end
end Go.Proofs.YtlelpbaeplcfiaaDoor.Am
namespace Go.Proofs.YtlelpbaeplcfiaaDoor.Am
section
open Go.RowKit
@[simp] theorem o_jh : intsV [] = some [] := rfl
@[simp] theorem o_ji (n : Int) : intsV [.d (.int .u8 n)] = some [n] := rfl
theorem o_jj (n : Nat) : ∀ i, i ≤ sizeD n → dval ((decs n).take i) = n % 10000 ^ i := by
 intro i hi
 have h1 := o_w ((decs n).take i) ((decs n).drop i)
 rw [List.take_append_drop, o_1g, List.length_take, Nat.min_eq_left (show i ≤ (decs n).length from hi)] at h1
 have h2 := o_1d (o_1h n) i
 generalize dval ((decs n).take i) = T at *
 generalize dval ((decs n).drop i) = R at *
 rw [h1, Nat.add_mul_mod_self_left, Nat.mod_eq_of_lt h2]
theorem o_jk (n i : Nat) (hi : i < sizeD n) : (decs n).getD i 0 = n / 10000 ^ i % 10000 := by
 have h1 := o_14 (decs n) i
 rw [o_jj n (i + 1) hi, o_jj n i (by omega), Nat.pow_succ, Nat.mod_mul] at h1
 have hp : 0 < 10000 ^ i := Nat.pow_pos (by decide)
 have h2 : 10000 ^ i * (n / 10000 ^ i % 10000) = 10000 ^ i * (decs n).getD i 0 := by omega
 exact (Nat.eq_of_mul_eq_mul_left hp h2).symm
theorem o_jl (n : Nat) : n < 10000 ^ sizeD n := by
 have := o_y (o_1h n)
 rwa [o_1g] at this
theorem o_jm (n i : Nat) (hi : i < sizeD n) : 0 < n / 10000 ^ i := by
 rcases Nat.eq_zero_or_pos (n / 10000 ^ i) with h | h
 ·have hp : 0 < 10000 ^ i := Nat.pow_pos (by decide)
  have h1 : n < 10000 ^ i := (Nat.div_eq_zero_iff_lt hp).1 h
  have h2 := o_12 (ws := decs n) (m := i) (o_1i n) (by rw [o_1g]; exact h1)
  unfold sizeD at hi
  omega
 ·exact h
theorem pow4 (i : Nat) : 10000 ^ i = 10 ^ (4 * i) := by rw [Nat.pow_mul]
def dN (n i : Nat) : List Nat := if i < sizeD n then padN (4 * i) n else decN n
def qD (w k : Nat) : Nat := w / 10 ^ k
theorem o_jn (w k : Nat) : qD w (k + 1) = qD w k / 10 := by rw [qD, qD, Nat.div_div_eq_div_mul, Nat.pow_succ]
theorem o_jo (w k : Nat) : padN (k + 1) w = (48 + qD w k % 10) :: padN k w := by
 rw [Nat.add_comm, o_h6]; rfl
theorem o_jp (c : Nat) (l : List Nat) : bst [c] ++ bst l = bst (c :: l) := o_hj [c] l
theorem o_jq (c : Nat) : strOf [(c : Int)] = bst [c] := rfl
set_option maxHeartbeats 2000000 in
theorem o_jr (n : Nat) (hn : sizeD n ≤ 10000) : Eqn Tryd.prog o_9i [.d (nD n)] [] (.d (.str (txt n))) [] := by
 refine Eqn.pure o_9k Plain.ok ?_
 simp only [o_9j, nD]
 by_cases h0 : n = 0
 ·subst h0
  have e : sizeD 0 = 0 := rfl
  rw [e, o_jb]
  refine A00 ?_; try with_reducible exact tt
 have hL : 0 < sizeD n := by
  rcases Nat.eq_zero_or_pos (sizeD n) with h | h
  ·exact absurd (o_1k.1 (List.eq_nil_of_length_eq_zero h)) h0
  ·exact h
 have hL' : ¬ (sizeD n : Int) = 0 := by omega
 have hL2 : ¬ sizeD n = 0 := by omega
 have hdl : (dsD (decs n)).length = sizeD n := o_gs _
 have hget := fun i h => o_jk n i h
 have hgd := fun i => o_gt (decs n) i
 obtain ⟨DS, hDS⟩ : ∃ DS, DS = dsD (decs n) := ⟨_, rfl⟩
 rw [← hDS] at hdl hgd ⊢
 refine A10 (fs hL' hL2) ?_; try with_reducible exact tt
 refine AW.loopT (α := Nat) 0 (fun i => [(3, .d (.str (bst (dN n i)))), (4, .d (.int .i64 (i : Nat)))]) (fun i => []) (fun i => i ≤ sizeD n) (fun i => sizeD n - i) 0 ?_ ?_ (Nat.zero_le _) ?_ ?_ ?_
 ·simp
 ·simp
 ·simp [dN, hL, padN, o_hl]
 ·simp
 intro i hi
 simp
 by_cases hin : i < sizeD n
 ·have hin' : (i : Int) < sizeD n := by omega
  have hge := o_jm n i hin
  have hgi := hget i hin
  have hgdi := hgd i (by unfold sizeD at hin; exact hin)
  rw [hgi] at hgdi
  obtain ⟨w, hw⟩ : ∃ w, w = n / 10000 ^ i % 10000 := ⟨_, rfl⟩
  rw [← hw] at hgdi
  have hw4 : w < 10000 := by rw [hw]; exact Nat.mod_lt _ (by decide)
  have hd0 : dN n i = padN (4 * i) n := if_pos hin
  have hlen : (padN (4 * i) n).length = 4 * i := o_h5 _ _
  obtain ⟨K, hK4, hKc, hKe⟩ : ∃ K, K ≤ 4 ∧ (∀ k, k ≤ K → (k < K ↔ (k < 4 ∧ (i < sizeD n - 1 ∨ 0 < qD w k)))) ∧ padN K w ++ padN (4 * i) n = dN n (i + 1) := by
   by_cases hlast : i < sizeD n - 1
   ·refine ⟨4, Nat.le_refl _, fun k hk => by simp [hlast], ?_⟩
    rw [dN, if_pos (by omega), show 4 * (i + 1) = 4 + 4 * i by omega, o_h6, ← pow4, hw, show (10000 : Nat) = 10 ^ 4 from rfl, o_hb]
   ·have hi1 : i + 1 = sizeD n := by omega
    have hwv : w = n / 10000 ^ i := by
     rw [hw, Nat.mod_eq_of_lt]
     have := o_jl n
     rw [← hi1, Nat.pow_succ] at this
     exact Nat.div_lt_of_lt_mul this
    refine ⟨ndig w, o_hf w 4 hw4 (by decide), fun k hk => ?_, ?_⟩
    ·have h4 := o_hf w 4 hw4 (by decide)
     constructor
     ·intro hlt
      refine ⟨by omega, .inr ?_⟩
      rcases Nat.eq_zero_or_pos (qD w k) with h | h
      ·have h5 : w < 10 ^ k := (Nat.div_eq_zero_iff_lt (Nat.pow_pos (by decide))).1 h
       rcases Nat.eq_zero_or_pos k with rfl | hk0
       ·simp at h5; omega
       ·have := o_hf w k h5 hk0; omega
      ·exact h
     ·rintro ⟨-, h | h⟩
      ·exact absurd h hlast
      ·have := o_hg k w h
       have := o_hd (w / 10 ^ k)
       omega
    ·rw [dN, if_neg (by omega), o_hh (4 * i) n (by rw [← pow4]; exact hge), hwv, ← pow4]
     rfl
  rw [hd0]
  obtain ⟨P0, hP0⟩ : ∃ P, P = padN (4 * i) n := ⟨_, rfl⟩
  rw [← hP0] at hKe hlen ⊢
  have hgd2 : ∀ h, DS[i]'h = .int .i64 (w : Nat) := fun h => by
   rw [List.getElem?_eq_getElem h] at hgdi
   exact Option.some.inj hgdi
  have hi48 : i < DS.length := by omega
  clear hDS hgd hget hgi hgdi hge hd0
  refine A10 (fs hin (fs hin' (fs hgd2 hi48))) ?_; try with_reducible exact tt
  refine AW.loopT (α := Nat) 0 (fun k => [(3, .d (.str (bst (padN k w ++ P0)))), (5, .d (.int .i64 (qD w k : Nat))), (6, .d (.int .i64 (k : Nat)))]) (fun k => []) (fun k => k ≤ K) (fun k => K - k) 0 ?_ ?_ (Nat.zero_le _) ?_ ?_ ?_
  ·simp
  ·simp
  ·simp [padN, qD]
  ·simp
  intro k hk
  simp
  have xel : IntKind.i64.wrap ((sizeD n : Int) - 1) = ((sizeD n - 1 : Nat) : Int) := by rw [w64 (by omega) (by omega)]; omega
  have hkc := hKc k hk
  have hqle : qD w k ≤ w := Nat.div_le_self _ _
  obtain ⟨q, hq⟩ : ∃ q, q = qD w k := ⟨_, rfl⟩
  rw [← hq] at hkc hqle ⊢
  generalize hL1 : sizeD n - 1 = L1 at *
  by_cases hk4 : k < 4
  ·have hk4' : (k : Int) < 4 := by omega
   by_cases hla : i < L1
   ·have hla' : (i : Int) < L1 := by omega
    have hkK : k < K := hkc.2 ⟨hk4, .inl hla⟩
    have xek : IntKind.i64.wrap ((k : Int) + 1) = ((k + 1 : Nat) : Int) := by rw [w64 (by omega) (by omega)]; omega
    obtain ⟨r, hr⟩ : ∃ r, r = q % 10 := ⟨_, rfl⟩
    have xm10 : (q : Int).tmod 10 = r := by rw [hr]; exact modN q 10
    have r10 : r < 10 := by rw [hr]; exact Nat.mod_lt _ (by decide)
    obtain ⟨c, hc⟩ : ∃ c, c = 48 + r := ⟨_, rfl⟩
    have xa48 : IntKind.i64.wrap (48 + (r : Int)) = c := by rw [w64 (by omega) (by omega)]; omega
    have xu8c : IntKind.u8.wrap (c : Int) = c := by rw [IntKind.wrap_u8]; omega
    obtain ⟨q1, hq1⟩ : ∃ q1, q1 = q / 10 := ⟨_, rfl⟩
    have xdq : IntKind.i64.wrap ((q : Int) / 10) = q1 := by rw [hq1, w64 (by omega) (by omega)]; omega
    have xsO := o_jq c
    obtain ⟨X, hX⟩ : ∃ X, X = padN k w ++ P0 := ⟨_, rfl⟩
    have hXl : X.length ≤ 50000 := by rw [hX, List.length_append, o_h5, hlen]; omega
    have xbc := o_jp c X
    have hst : padN (k + 1) w ++ P0 = c :: X := by rw [o_jo, hX, hc, hr, hq]; rfl
    have hq' : qD w (k + 1) = q1 := by rw [o_jn, ← hq, hq1]
    rw [← hX]
    clear hr hc hq1 hX hKc hKe
    refine A10 (fs hk4 (fs hk4' (fs hla (fs hla' (fs xel (fs xek (fs xm10 (fs xa48 (fs xu8c (fs xdq (fs xsO xbc))))))))))) ?_; try with_reducible exact tt
    exact ⟨k + 1, by omega, by omega, Sub1.of (by rw [hst]), Sub1.int (by rw [hq']), Sub1.int (by omega)⟩
   ·have hla' : ¬ (i : Int) < L1 := by omega
    by_cases hq0 : 0 < q
    ·have hq0' : (0 : Int) < q := by omega
     have hkK : k < K := hkc.2 ⟨hk4, .inr hq0⟩
     have xek : IntKind.i64.wrap ((k : Int) + 1) = ((k + 1 : Nat) : Int) := by rw [w64 (by omega) (by omega)]; omega
     obtain ⟨r, hr⟩ : ∃ r, r = q % 10 := ⟨_, rfl⟩
     have xm10 : (q : Int).tmod 10 = r := by rw [hr]; exact modN q 10
     have r10 : r < 10 := by rw [hr]; exact Nat.mod_lt _ (by decide)
     obtain ⟨c, hc⟩ : ∃ c, c = 48 + r := ⟨_, rfl⟩
     have xa48 : IntKind.i64.wrap (48 + (r : Int)) = c := by rw [w64 (by omega) (by omega)]; omega
     have xu8c : IntKind.u8.wrap (c : Int) = c := by rw [IntKind.wrap_u8]; omega
     obtain ⟨q1, hq1⟩ : ∃ q1, q1 = q / 10 := ⟨_, rfl⟩
     have xdq : IntKind.i64.wrap ((q : Int) / 10) = q1 := by rw [hq1, w64 (by omega) (by omega)]; omega
     have xsO := o_jq c
     obtain ⟨X, hX⟩ : ∃ X, X = padN k w ++ P0 := ⟨_, rfl⟩
     have hXl : X.length ≤ 50000 := by rw [hX, List.length_append, o_h5, hlen]; omega
     have xbc := o_jp c X
     have hst : padN (k + 1) w ++ P0 = c :: X := by rw [o_jo, hX, hc, hr, hq]; rfl
     have hq' : qD w (k + 1) = q1 := by rw [o_jn, ← hq, hq1]
     rw [← hX]
     clear hr hc hq1 hX hKc hKe
     refine A10 (fs hk4 (fs hk4' (fs hla (fs hla' (fs hq0 (fs hq0' (fs xel (fs xek (fs xm10 (fs xa48 (fs xu8c (fs xdq (fs xsO xbc))))))))))))) ?_; try with_reducible exact tt
     exact ⟨k + 1, by omega, by omega, Sub1.of (by rw [hst]), Sub1.int (by rw [hq']), Sub1.int (by omega)⟩
    ·have hq0' : ¬ (0 : Int) < q := by omega
     have hkK : k = K := by
      rcases Nat.lt_or_ge k K with h | h
      ·have := (hKc k hk).1 h; omega
      ·omega
     subst hkK
     rw [hKe]
     have xei : IntKind.i64.wrap ((i : Int) + 1) = ((i + 1 : Nat) : Int) := by rw [w64 (by omega) (by omega)]; omega
     refine A10 (fs hk4 (fs hk4' (fs hla (fs hla' (fs hq0 (fs hq0' (fs xel xei))))))) ?_; try with_reducible exact tt
     exact ⟨i + 1, by omega, by omega, Sub1.refl _, Sub1.int (by omega)⟩
  ·have hk4' : ¬ (k : Int) < 4 := by omega
   have hkK : k = K := by
    rcases Nat.lt_or_ge k K with h | h
    ·have := (hKc k hk).1 h; omega
    ·omega
   subst hkK
   rw [hKe]
   have xei : IntKind.i64.wrap ((i : Int) + 1) = ((i + 1 : Nat) : Int) := by rw [w64 (by omega) (by omega)]; omega
   refine A10 (fs hk4 (fs hk4' (fs xel xei))) ?_; try with_reducible exact tt
   exact ⟨i + 1, by omega, by omega, Sub1.refl _, Sub1.int (by omega)⟩
 ·have h2 : i = sizeD n := by omega
  subst h2
  have hd : dN n (sizeD n) = decN n := if_neg (by omega)
  rw [hd]
  refine A00 ?_; try with_reducible exact tt
  exact Sub1.of rfl
end
end Go.Proofs.YtlelpbaeplcfiaaDoor.Am
namespace Go.Proofs.YtlelpbaeplcfiaaDoor.Am
section
open Go.RowKit
theorem o_js : ∀ (ws : List Nat) (j v : Nat), j < ws.length → dval (ws.set j v) + 10000 ^ j * ws.getD j 0 = dval ws + 10000 ^ j * v
 | [], j, v, h => by simp at h
 | x :: ws, 0, v, h => by simp [dval]; omega
 | x :: ws, j + 1, v, h => by
  have ih := o_js ws j v (by simpa using h)
  simp only [List.set_cons_succ, dval, List.getD_cons_succ]
  rw [Nat.pow_succ]
  generalize 10000 ^ j = P at *
  generalize ws.getD j 0 = g at *
  have e1 : P * 10000 * g = 10000 * (P * g) := by rw [Nat.mul_comm P, Nat.mul_assoc]
  have e2 : P * 10000 * v = 10000 * (P * v) := by rw [Nat.mul_comm P, Nat.mul_assoc]
  rw [e1, e2]
  omega
theorem o_jt {l : List Nat} {i j v : Nat} (h : i ≠ j) : (l.set i v).getD j 0 = l.getD j 0 := by
 rw [List.getD_eq_getElem?_getD, List.getElem?_set_ne h, ← List.getD_eq_getElem?_getD]
theorem dsmall.set {l : List Nat} (h : dsmall l) (j v : Nat) (hv : v < 10000) : dsmall (l.set j v) := fun x hx => by
 rcases List.mem_or_eq_of_mem_set hx with h1 | h1
 ·exact h x h1
 ·rw [h1]; exact hv
theorem o_ju {V A c o x D1 D2 Bk bk P K : Nat} (hv : D1 + P * K * c = V + P * (A * Bk)) (hs : D2 + P * K * o = D1 + P * K * (x % 10000)) (hx : x = o + c + A * bk) : D2 + P * (K * 10000) * (x / 10000) = V + P * (A * (Bk + K * bk)) := by
 have h1 : 10000 * (x / 10000) + x % 10000 = o + c + A * bk := by rw [Nat.div_add_mod]; exact hx
 have h2 : P * K * (10000 * (x / 10000) + x % 10000) = P * K * (o + c + A * bk) := by rw [h1]
 have h3 : P * (K * 10000) * (x / 10000) = P * K * (10000 * (x / 10000)) := by
  rw [← Nat.mul_assoc P K 10000, Nat.mul_assoc (P * K)]
 have h4 : P * (A * (Bk + K * bk)) = P * (A * Bk) + P * K * (A * bk) := by
  rw [Nat.mul_add, Nat.mul_add, show A * (K * bk) = K * (A * bk) by rw [← Nat.mul_assoc, Nat.mul_comm A K, Nat.mul_assoc], ← Nat.mul_assoc P K]
 rw [Nat.mul_add] at h2
 rw [Nat.mul_add, Nat.mul_add] at h2
 rw [h3, h4]
 generalize P * K * (10000 * (x / 10000)) = t1 at *
 generalize P * K * (x % 10000) = t2 at *
 generalize P * K * o = t3 at *
 generalize P * K * c = t4 at *
 generalize P * K * (A * bk) = t5 at *
 generalize P * (A * Bk) = t6 at *
 omega

@[simp] theorem lowI (n : Nat) : ∀ l : List Nat, V.lowl n (l.map fun x : Nat => V.d (D.int .i64 x)) = true
 | [] => rfl
 | x :: l => by
  have := lowI n l
  simp only [List.map_cons, V.lowl, this]; rfl
@[simp] theorem lowR (n m : Nat) (x : D) : V.lowl n (List.replicate m (V.d x)) = true := by
 induction m with
 | zero => rfl
 | succ m ih => simp only [List.replicate_succ, V.lowl, ih]; rfl
set_option maxHeartbeats 2000000 in
theorem o_jv (a b : List Nat) (ha : dsmall a) (hb : dsmall b) (hla : a.length ≤ 100000) (hlb : b.length ≤ 100000) : Eqn Tryd.prog o_b5 [.d (.sl a.length (dsD a)), .d (.sl b.length (dsD b))] [] (.d (nD (dval a * dval b))) [] := by
 refine Eqn.pure o_b7 Plain.ok ?_
 obtain ⟨n, hn⟩ : ∃ n, n = a.length + b.length + 1 := ⟨_, rfl⟩
 have ew1 : IntKind.i64.wrap ((a.length : Int) + b.length) = (a.length : Int) + b.length := w64 (by omega) (by omega)
 have ew2 : IntKind.i64.wrap ((a.length : Int) + b.length + 1) = (n : Int) := by rw [w64 (by omega) (by omega)]; omega
 have hnb : (n : Int) * 8 ≤ 140737488355328 := by omega
 have hnb2 : n ≤ 17592186044416 := by omega
 simp only [o_b6, dsD]
 refine A10 (fs ew1 (fs ew2 (fs hnb hnb2))) ?_; try with_reducible exact tt
 have hrep : List.replicate n (V.d (D.int .i64 0)) = (List.replicate n 0).map fun x : Nat => V.d (D.int .i64 x) := by simp
 rw [hrep]
 refine AW.loopT (α := Nat × List Nat) 1 (fun s => [(6, .d (.int .i64 (s.1 : Nat)))]) (fun s => [(0, ⟨3, s.2.map fun x : Nat => V.d (D.int .i64 x)⟩)]) (fun s => s.1 ≤ a.length ∧ s.2.length = n ∧ dsmall s.2 ∧ dval s.2 = dval (a.take s.1) * dval b ∧ ∀ j, s.1 + b.length ≤ j → s.2.getD j 0 = 0) (fun s => a.length - s.1) (0, List.replicate n 0) ?_ ?_ ⟨Nat.zero_le _, by simp, by intro x hx; simp [List.mem_replicate] at hx; omega, by rw [o_x]; simp [dval], by intro j _; simp only [List.getD, List.getElem?_replicate]; split <;> rfl⟩ ?_ ?_ ?_
 ·simp
 ·simp
 ·simp
 ·simp
 rintro ⟨i, out⟩ ⟨hi, hol, hos, hov, hoz⟩
 simp only at hi hol hos hov hoz
 simp
 by_cases pa : i < a.length
 ·have hii : (i : Int) < a.length := by omega
  have ewi : IntKind.i64.wrap ((i : Int) + 1) = ((i + 1 : Nat) : Int) := by rw [w64 (by omega) (by omega)]; omega
  have g1 := ha.getD i
  have ga : a[i] = a.getD i 0 := by simp [List.getD, pa]
  have hta := o_14 a i
  have hal : ∀ j, i + max 0 b.length ≤ j → out.getD j 0 = 0 := fun j hj => hoz j (by omega)
  refine A10 (fs pa hii) ?_; try with_reducible exact tt
  refine AW.loopT (α := Nat × Nat × List Nat) 1 (fun s => [(8, .d (.int .i64 (s.1 : Nat))), (7, .d (.int .i64 (s.2.1 : Nat)))]) (fun s => [(0, ⟨3, s.2.2.map fun x : Nat => V.d (D.int .i64 x)⟩)]) (fun s => s.1 ≤ b.length + 1 ∧ s.2.1 ≤ 9999 ∧ (s.1 = b.length + 1 → s.2.1 = 0) ∧ s.2.2.length = n ∧ dsmall s.2.2 ∧ dval s.2.2 + 10000 ^ i * 10000 ^ s.1 * s.2.1 = dval out + 10000 ^ i * (a.getD i 0 * dval (b.take s.1)) ∧ ∀ j, i + max s.1 b.length ≤ j → s.2.2.getD j 0 = 0) (fun s => b.length + 1 - s.1) (0, 0, out) ?_ ?_ ⟨Nat.zero_le _, by simp, by simp, hol, hos, by simp [dval], hal⟩ ?_ ?_ ?_
  ·simp
  ·simp
  ·simp
  ·simp
  rintro ⟨k, c, o⟩ ⟨hk, hc, hck, hl, hs, hv, hz⟩
  simp only at hk hc hck hl hs hv hz
  simp
  have ewk : IntKind.i64.wrap ((k : Int) + 1) = ((k + 1 : Nat) : Int) := by rw [w64 (by omega) (by omega)]; omega
  have e99 : ∀ x : Nat, ((x : Int).tmod 10000 = ((x % 10000 : Nat) : Int)) ∧ ((x : Int).tdiv 10000 = ((x / 10000 : Nat) : Int)) := fun x => ⟨by rw [Int.tmod_eq_emod_of_nonneg (by omega)]; omega, by rw [Int.tdiv_eq_ediv_of_nonneg (by omega)]; omega⟩
  by_cases pb : k < b.length
  ·have hij : (k : Int) < b.length := by omega
   have g2 := hb.getD k
   have gb : b[k] = b.getD k 0 := by simp [List.getD, pb]
   have htb := o_14 b k
   obtain ⟨m, hm⟩ : ∃ m, m = i + k := ⟨_, rfl⟩
   have hmo : m < o.length := by omega
   have hmn : m < n := by omega
   have go := hs.getD m
   have gm : o[m] = o.getD m 0 := by simp [List.getD, hmo]
   have em : IntKind.i64.wrap ((i : Int) + k) = (m : Int) := by rw [w64 (by omega) (by omega)]; omega
   have hpm := Nat.mul_le_mul (show a.getD i 0 ≤ 9999 by omega) (show b.getD k 0 ≤ 9999 by omega)
   obtain ⟨p, hp⟩ : ∃ p, p = a.getD i 0 * b.getD k 0 := ⟨_, rfl⟩
   rw [← hp] at hpm
   have ep : IntKind.i64.wrap (((a.getD i 0 : Nat) : Int) * (b.getD k 0 : Nat)) = (p : Int) := by rw [hp, ← Int.natCast_mul]; exact w64 (by omega) (by rw [← hp]; omega)
   obtain ⟨x, hx⟩ : ∃ x, x = o.getD m 0 + c + p := ⟨_, rfl⟩
   have e1 : IntKind.i64.wrap ((o.getD m 0 : Nat) + (c : Int)) = (o.getD m 0 : Nat) + (c : Int) := w64 (by omega) (by omega)
   have e2 : IntKind.i64.wrap ((o.getD m 0 : Nat) + (c : Int) + p) = (x : Int) := by rw [w64 (by omega) (by omega)]; omega
   obtain ⟨e3, e4⟩ := e99 x
   have hds := o_js o m (x % 10000) hmo
   rw [show 10000 ^ m = 10000 ^ i * 10000 ^ k by rw [hm, Nat.pow_add]] at hds
   have hst := o_ju (A := a.getD i 0) (bk := b.getD k 0) hv hds (by rw [hx, hp])
   have hset : (o.map fun x : Nat => V.d (D.int .i64 x)).set m (.d (.int .i64 (x % 10000 : Nat))) = (o.set m (x % 10000)).map fun x : Nat => V.d (D.int .i64 x) := by rw [List.map_set]
   have hs2 := hs.set m (x % 10000) (Nat.mod_lt _ (by decide))
   have hl2 : (o.set m (x % 10000)).length = n := by simpa using hl
   have hz2 : ∀ j, i + max (k + 1) b.length ≤ j → (o.set m (x % 10000)).getD j 0 = 0 := fun j hj => by rw [o_jt (by omega)]; exact hz j (by omega)
   have hxq : x / 10000 ≤ 9999 := by omega
   have e5 : IntKind.i64.wrap ((x / 10000 : Nat) : Int) = ((x / 10000 : Nat) : Int) := w64 (by omega) (by omega)
   rw [← htb] at hst
   clear hv hz hs hal hov hoz hta e99
   generalize o.set m (x % 10000) = o2 at *
   generalize x % 10000 = r at *
   generalize x / 10000 = q at *
   generalize a.getD i 0 = ai at *
   generalize b.getD k 0 = bk at *
   generalize o.getD m 0 = om at *
   refine A10 (fs pa (fs hii (fs pb (fs hij (fs ga (fs gb (fs hmo (fs hmn (fs hl (fs gm (fs em (fs ep (fs e1 (fs e2 (fs e3 (fs e4 (fs e5 (fs ewk hset)))))))))))))))))) ?_; try with_reducible exact tt
   exact ⟨k + 1, q, o2, ⟨by omega, hxq, by omega, hl2, hs2, hst, hz2⟩, by omega, ⟨Sub1.refl _, Sub1.int (by omega)⟩, Subs.refl _⟩
  ·have hij : ¬ (k : Int) < b.length := by omega
   by_cases hc0 : 0 < c
   ·have hc0' : (0 : Int) < c := by omega
    have hkb : k = b.length := by
     rcases Nat.lt_or_ge b.length k with h | h
     ·have := hck (by omega); omega
     ·omega
    obtain ⟨m, hm⟩ : ∃ m, m = i + k := ⟨_, rfl⟩
    have hmo : m < o.length := by omega
    have hmn : m < n := by omega
    have gz : o.getD m 0 = 0 := hz m (by omega)
    have gm : o[m] = 0 := by rw [← gz]; simp [List.getD, hmo]
    have em : IntKind.i64.wrap ((i : Int) + k) = (m : Int) := by rw [w64 (by omega) (by omega)]; omega
    have e2 : IntKind.i64.wrap (c : Int) = (c : Int) := w64 (by omega) (by omega)
    have e3 : (c : Int).tmod 10000 = (c : Int) := by rw [Int.tmod_eq_emod_of_nonneg (by omega)]; omega
    have e4 : (c : Int).tdiv 10000 = 0 := by rw [Int.tdiv_eq_ediv_of_nonneg (by omega)]; omega
    have hds := o_js o m c hmo
    rw [gz, Nat.mul_zero, Nat.add_zero, show 10000 ^ m = 10000 ^ i * 10000 ^ k by rw [hm, Nat.pow_add]] at hds
    have hst : dval (o.set m c) + 10000 ^ i * 10000 ^ (k + 1) * 0 = dval out + 10000 ^ i * (a.getD i 0 * dval (b.take (k + 1))) := by
     rw [Nat.mul_zero, Nat.add_zero, hds, hv, List.take_of_length_le (by omega), List.take_of_length_le (by omega)]
    have hset : (o.map fun x : Nat => V.d (D.int .i64 x)).set m (.d (.int .i64 (c : Nat))) = (o.set m c).map fun x : Nat => V.d (D.int .i64 x) := by rw [List.map_set]
    have hs2 := hs.set m c (by omega)
    have hl2 : (o.set m c).length = n := by simpa using hl
    have hz2 : ∀ j, i + max (k + 1) b.length ≤ j → (o.set m c).getD j 0 = 0 := fun j hj => by rw [o_jt (by omega)]; exact hz j (by omega)
    clear hv hz hs hal hov hoz hta e99 hds
    generalize o.set m c = o2 at *
    generalize a.getD i 0 = ai at *
    refine A10 (fs pa (fs hii (fs pb (fs hij (fs hc0 (fs hc0' (fs hmo (fs hmn (fs hl (fs gm (fs em (fs e2 (fs e3 (fs e4 (fs ewk hset))))))))))))))) ?_; try with_reducible exact tt
    exact ⟨k + 1, 0, o2, ⟨by omega, by omega, fun _ => rfl, hl2, hs2, by rw [ga]; exact hst, hz2⟩, by omega, ⟨Sub1.int (by omega), Sub1.int (by omega)⟩, Subs.refl _⟩
   ·have hc0' : ¬ (0 : Int) < c := by omega
    have hcz : c = 0 := by omega
    rw [hcz, Nat.mul_zero, Nat.add_zero, List.take_of_length_le (by omega)] at hv
    have hnv : dval o = dval (a.take (i + 1)) * dval b := by
     rw [hv, hta, hov, Nat.add_mul, Nat.mul_assoc]
    have hnz : ∀ j, i + 1 + b.length ≤ j → o.getD j 0 = 0 := fun j hj => hz j (by omega)
    clear hv hz hal hov hoz hta e99
    refine A10 (fs pa (fs hii (fs pb (fs hij (fs hc0 (fs hc0' ewi)))))) ?_; try with_reducible exact tt
    exact ⟨i + 1, o, ⟨by omega, hl, hs, hnv, hnz⟩, by omega, Sub1.int (by omega), Subs.refl _⟩
 ·have hii : ¬ (i : Int) < a.length := by omega
  have hi2 : i = a.length := by omega
  rw [hi2, List.take_length] at hov
  have ht := o_gw out hos (by omega)
  rw [hov, hol] at ht
  have htk : (dsD out).take n = dsD out := List.take_of_length_le (by rw [o_gs]; omega)
  have hob : (out.map fun x : Nat => V.d (D.int .i64 x)) = (dsD out).map V.d := by simp [dsD]
  rw [hob]
  refine AW.freeze 0 1 ⟨3, (dsD out).map .d⟩ (dsD out) (by simp) rfl ?_
  simp [frzH, htk]
  refine A11 (fs pa hii) ht ?_; try with_reducible exact tt
theorem o_jw (x y : Nat) (hx : sizeD x ≤ 100000) (hy : sizeD y ≤ 100000) : Eqn Tryd.prog o_b5 [.d (nD x), .d (nD y)] [] (.d (nD (x * y))) [] := by
 have := o_jv (decs x) (decs y) (o_1h x) (o_1h y) hx hy
 rwa [o_1g, o_1g] at this
end
end Go.Proofs.YtlelpbaeplcfiaaDoor.Am
namespace Go.Proofs.YtlelpbaeplcfiaaDoor.Am
section
open Go.RowKit
theorem o_jx {n m : Nat} (h : n < 10000 ^ m) : sizeD n ≤ m := o_12 (o_1i n) (by rw [o_1g]; exact h)
theorem o_jy {l : List Nat} {m : Nat} (h : m < l.length) : dval (l.drop m) = l.getD m 0 + 10000 * dval (l.drop (m + 1)) := by
 rw [List.drop_eq_getElem_cons h, dval]
 simp [List.getD, h]
theorem o_jz {l : List Nat} {m v : Nat} (h : m < l.length) : dval ((l.set m v).drop m) = v + 10000 * dval (l.drop (m + 1)) := by
 rw [o_jy (by simpa using h), List.drop_set_of_lt (by omega)]
 simp [List.getD, h]

set_option maxHeartbeats 2000000 in
theorem o_k0 (x y N : Nat) (h0 : 0 < y) (hN : N ≤ 50000) (hx : x < 10000 ^ N) (hy : y < 10000 ^ N) : Eqn Tryd.prog o_b8 [.d (nD x), .d (nD y)] [] (.tup [.d (nD (x / y)), .d (nD (x % y))]) [] := by
 refine Eqn.pure o_ba Plain.ok ?_
 have sx := o_jx hx
 have sy := o_jx hy
 have ha := o_1h x
 have va := o_1g x
 have hfin : ∀ q r, q * y + r = x → r < y → nD q = nD (x / y) ∧ nD r = nD (x % y) := by
  intro q r h1 h2
  rw [← h1, Nat.mul_comm q y, Nat.mul_add_div h0, Nat.div_eq_of_lt h2, Nat.mul_add_mod, Nat.mod_eq_of_lt h2]
  exact ⟨rfl, rfl⟩
 simp only [o_b9]
 rw [show nD x = .sl (decs x).length ((decs x).map fun x : Nat => D.int .i64 x) from rfl]
 unfold sizeD at sx
 generalize decs x = a at *
 rcases Nat.eq_zero_or_pos a.length with hz | hz
 ·have hx0 : x = 0 := by rw [← va, List.eq_nil_of_length_eq_zero hz]; rfl
  obtain ⟨f1, f2⟩ := hfin 0 0 (by rw [hx0]; simp) h0
  rw [← f1, ← f2]
  clear f1 f2 hfin
  have ha0 : a = [] := List.eq_nil_of_length_eq_zero hz
  subst ha0
  have ht := o_gw [] (by simp [dsmall]) (by simp)
  have hm : IntKind.i64.wrap (-1) = -1 := by decide
  have hm2 : IntKind.i64.wrap (0 - 1) = -1 := by decide
  rw [show dval [] = 0 from rfl, show D.sl ([] : List Nat).length (dsD []) = .sl 0 [] from rfl] at ht
  rw [o_gv] at ht ⊢
  refine A10 (fs hm hm2) ?_; try with_reducible exact tt
  refine AW.rounds 1 ?_
  refine AW.freeze 0 1 ⟨3, []⟩ [] (by simp) rfl ?_
  simp [frzH]
  refine A01 ht ?_; try with_reducible exact tt
  exact Sub1.tup (Subs.cons (Sub1.refl _) (Subs.cons Sub1.nil (Subs.refl _)))
 ·have hnb : (a.length : Int) * 8 ≤ 140737488355328 := by omega
  have hnb2 : a.length ≤ 17592186044416 := by omega
  have hnz : a.length ≠ 0 := by omega
  have ew0 : IntKind.i64.wrap ((a.length : Int) - 1) = (a.length : Int) - 1 := w64 (by omega) (by omega)
  refine A10 (fs hz (fs hnb (fs hnb2 (fs hnz ew0)))) ?_; try with_reducible exact tt
  have hrep : List.replicate a.length (V.d (D.int .i64 0)) = (List.replicate a.length 0).map fun x : Nat => V.d (D.int .i64 x) := by simp
  rw [hrep]
  refine AW.loopT (α := Nat × Nat × List Nat) 1 (fun s => [(8, .d (.int .i64 ((s.1 : Int) - 1))), (7, .d (nD s.2.1))]) (fun s => [(0, ⟨3, s.2.2.map fun x : Nat => V.d (D.int .i64 x)⟩)]) (fun s => s.1 ≤ a.length ∧ s.2.1 < y ∧ s.2.2.length = a.length ∧ dsmall s.2.2 ∧ dval (s.2.2.drop s.1) * y + s.2.1 = dval (a.drop s.1)) (fun s => s.1) (a.length, 0, List.replicate a.length 0) ?_ ?_ ⟨Nat.le_refl _, h0, by simp, by intro x hx; simp [List.mem_replicate] at hx; omega, by simp [dval]⟩ ?_ ?_ ?_
  ·simp
  ·simp
  ·simp
   exact Sub1.nil
  ·simp
  rintro ⟨j, r, out⟩ ⟨hj, hr, hol, hos, hov⟩
  simp only at hj hr hol hos hov
  rcases j with _ | m
  ·rw [List.drop_zero, List.drop_zero, va] at hov
   obtain ⟨f1, f2⟩ := hfin _ _ hov hr
   rw [← f1, ← f2]
   have ht := o_gw out hos (by omega)
   rw [hol] at ht
   have htk : (dsD out).take a.length = dsD out := List.take_of_length_le (by rw [o_gs]; omega)
   have hob : (out.map fun x : Nat => V.d (D.int .i64 x)) = (dsD out).map V.d := by simp [dsD]
   rw [hob]
   clear f1 f2 hfin
   simp
   refine AW.freeze 0 1 ⟨3, (dsD out).map .d⟩ (dsD out) (by simp) rfl ?_
   simp [frzH, htk]
   refine A01 ht ?_; try with_reducible exact tt
  ·have hm : m < a.length := by omega
   have hmo : m < out.length := by omega
   have ga : a[m] = a.getD m 0 := by simp [List.getD, hm]
   have gl := ha.getD m
   have hda := o_jy hm
   have ewm : IntKind.i64.wrap ((m : Int) - 1) = (m : Int) - 1 := w64 (by omega) (by omega)
   have hr2 : a.getD m 0 + 10000 * r < 10000 * y := by omega
   have hy1 : 10000 * y < 10000 ^ (N + 1) := by rw [Nat.pow_succ]; omega
   have sr := o_jx (Nat.lt_trans hr hy)
   have ht := o_gw (a.getD m 0 :: decs r) (fun x hx => by
    rcases List.mem_cons.1 hx with rfl | hx
    ·exact gl
    ·exact o_1h r x hx) (by simp; unfold sizeD at sr; omega)
   rw [show dval (a.getD m 0 :: decs r) = a.getD m 0 + 10000 * r by rw [dval, o_1g]] at ht
   simp only [List.length_cons, dsD, List.map_cons] at ht
   generalize a.getD m 0 = am at *
   obtain ⟨r2, hr2d⟩ : ∃ r2, r2 = am + 10000 * r := ⟨_, rfl⟩
   rw [← hr2d] at ht hr2
   have hr2' := hr2
   simp
   by_cases hr0 : r = 0
   ·have ht0 : decs r = [] := by rw [hr0]; rfl
    rw [ht0] at ht
    rw [show nD r = .sl 0 [] by rw [hr0]; rfl]
    refine A10 (fs hm (fs ga ewm)) ?_; try with_reducible exact tt
    refine CallS.pf 2 1 ⟨3, [.d (.int .i64 am)]⟩ [.int .i64 am] (ht) (by first | rfl | (simp; done)) (R0 ?_); try with_reducible exact tt
    refine A00 ?_; try with_reducible exact tt
    refine AW.loopT (α := Nat × Nat) 3 (fun s => [(9, .d (.int .i64 (s.1 : Nat))), (10, .d (.int .i64 (s.2 : Nat)))]) (fun s => []) (fun s => s.1 < s.2 ∧ s.2 ≤ 10000 ∧ s.1 * y ≤ r2 ∧ r2 < s.2 * y) (fun s => s.2 - s.1) (0, 10000) ?_ ?_ ⟨by decide, by decide, by omega, hr2⟩ ?_ ?_ ?_
    ·simp
    ·simp
    ·simp
    ·simp
    rintro ⟨lo, hi⟩ ⟨h1, h2, h3, h4⟩
    simp only at h1 h2 h3 h4
    simp
    by_cases hs : 1 < hi - lo
    ·obtain ⟨mid, hmid⟩ : ∃ mid, mid = (lo + hi) / 2 := ⟨_, rfl⟩
     have w1 : IntKind.i64.wrap ((hi : Int) - lo) = ((hi - lo : Nat) : Int) := by rw [w64 (by omega) (by omega)]; omega
     have w2 : IntKind.i64.wrap ((lo : Int) + hi) = ((lo + hi : Nat) : Int) := by rw [w64 (by omega) (by omega)]; omega
     have w3 : ((lo : Int) + hi).tdiv 2 = (mid : Int) := by rw [Int.tdiv_eq_ediv_of_nonneg (by omega)]; omega
     have w4 : IntKind.i64.wrap (mid : Int) = (mid : Int) := w64 (by omega) (by omega)
     have hs' : (1 : Int) < ((hi - lo : Nat) : Int) := by omega
     have c1 := o_gz mid (by omega)
     have hym : y * mid < 10000 ^ (N + 1) := by
      refine Nat.lt_of_le_of_lt (Nat.mul_le_mul_left y (show mid ≤ 10000 by omega)) ?_
      rw [Nat.mul_comm]; exact hy1
     have c2 := o_jw y mid (by omega) (Nat.le_trans (o_jx (show mid < 10000 ^ 2 by omega)) (by omega))
     have c3 := o_h3 (y * mid) r2 (Nat.le_trans (o_jx hym) (by omega)) (Nat.le_trans (o_jx (Nat.lt_trans hr2' hy1)) (by omega))
     have d1 : lo < mid ∧ mid < hi := by omega
     clear hmid
     by_cases hle : y * mid ≤ r2
     ·have hz : ¬ 0 < cmpZ (y * mid) r2 := by unfold cmpZ; split <;> (try split) <;> omega
      have hz' : cmpZ (y * mid) r2 ≤ 0 := by omega
      generalize cmpZ (y * mid) r2 = z at *
      generalize hq : hi - lo = q at *
      refine A13 (fs w1 (fs hs (fs hs' (fs w2 (fs w3 (fs w4 (fs hz hz'))))))) c1 c2 c3 ?_; try with_reducible exact tt
      exact ⟨mid, hi, ⟨by omega, h2, by rw [Nat.mul_comm]; exact hle, h4⟩, by omega, ⟨Sub1.refl _, Sub1.refl _⟩⟩
     ·have hz : 0 < cmpZ (y * mid) r2 := by unfold cmpZ; rw [if_neg (by omega), if_pos (by omega)]; decide
      have hz' : ¬ cmpZ (y * mid) r2 ≤ 0 := by omega
      generalize cmpZ (y * mid) r2 = z at *
      generalize hq : hi - lo = q at *
      refine A13 (fs w1 (fs hs (fs hs' (fs w2 (fs w3 (fs w4 (fs hz hz'))))))) c1 c2 c3 ?_; try with_reducible exact tt
      exact ⟨lo, mid, ⟨by omega, by omega, h3, by rw [Nat.mul_comm]; omega⟩, by omega, ⟨Sub1.refl _, Sub1.refl _⟩⟩
    ·have hhi : hi = lo + 1 := by omega
     subst hhi
     have w1 : IntKind.i64.wrap (((lo + 1 : Nat) : Int) - lo) = 1 := by rw [w64 (by omega) (by omega)]; omega
     have w1' : IntKind.i64.wrap ((lo : Int) + 1 - lo) = 1 := by rw [w64 (by omega) (by omega)]; omega
     have w5 : (lo : Int) + 1 - lo = 1 := by omega
     have c1 := o_gz lo (by omega)
     have hyl : y * lo ≤ r2 := by rw [Nat.mul_comm]; exact h3
     have hylN : y * lo < 10000 ^ (N + 1) := Nat.lt_of_le_of_lt hyl (Nat.lt_trans hr2' hy1)
     have c2 := o_jw y lo (by omega) (Nat.le_trans (o_jx (show lo < 10000 ^ 2 by omega)) (by omega))
     have c3 := o_h4 r2 (y * lo) hyl (Nat.le_trans (o_jx (Nat.lt_trans hr2' hy1)) (by omega)) (Nat.le_trans (o_jx hylN) (by omega))
     have hset : (out.map fun x : Nat => V.d (D.int .i64 x)).set m (.d (.int .i64 (lo : Nat))) = (out.set m lo).map fun x : Nat => V.d (D.int .i64 x) := by rw [List.map_set]
     have hnr : r2 - y * lo < y := by
      rw [Nat.add_mul, Nat.one_mul, Nat.mul_comm lo y] at h4
      omega
     have hnv : dval ((out.set m lo).drop m) * y + (r2 - y * lo) = dval (a.drop m) := by
      rw [o_jz hmo, hda, ← hov, hr2d, Nat.add_mul, Nat.mul_add, Nat.mul_comm lo y, Nat.mul_assoc]
      generalize dval (List.drop (m + 1) out) * y = t at *
      omega
     have hs2 := hos.set m lo (by omega)
     have hl2 : (out.set m lo).length = a.length := by simpa using hol
     have w6 : IntKind.i64.wrap 1 = 1 := by decide
     generalize y * lo = yl at *
     generalize r2 - yl = r3 at *
     generalize out.set m lo = out2 at *
     refine A13 (fs w1 (fs w1' (fs w5 (fs w6 (fs hm (fs hmo (fs hol (fs hset ewm)))))))) c1 c2 c3 ?_; try with_reducible exact tt
     exact ⟨m, r3, out2, ⟨by omega, hnr, hl2, hs2, hnv⟩, by omega, ⟨Sub1.refl _, Sub1.refl _⟩, Subs.refl _⟩
   ·have hlr : (decs r).length ≠ 0 := fun h => hr0 (o_1k.1 (List.eq_nil_of_length_eq_zero h))
    have hlp : 0 < (decs r).length := by omega
    rw [show nD r = .sl (decs r).length ((decs r).map fun x : Nat => D.int .i64 x) from rfl]
    have hsb : ((decs r).length : Int) + 1 ≤ 17592186044416 := by unfold sizeD at sr; omega
    have hrl : ((decs r).map fun x : Nat => D.int .i64 x).length = (decs r).length := by simp
    generalize (decs r).map (fun x : Nat => D.int .i64 x) = RD at *
    generalize (decs r).length = L at *
    have htk : (D.int .i64 am :: RD).take (1 + L) = .int .i64 am :: RD := List.take_of_length_le (by simp; omega)
    rw [Nat.add_comm L 1, ← htk] at ht
    refine A10 (fs hm (fs ga (fs ewm (fs hlr (fs hlp (fs hsb hrl)))))) ?_; try with_reducible exact tt
    refine CallS.pf 2 1 ⟨3, ([D.int .i64 am] ++ RD).map V.d⟩ ([D.int .i64 am] ++ RD) (ht) (by first | rfl | (simp; done)) (R0 ?_); try with_reducible exact tt
    refine A00 ?_; try with_reducible exact tt
    refine AW.loopT (α := Nat × Nat) 3 (fun s => [(9, .d (.int .i64 (s.1 : Nat))), (10, .d (.int .i64 (s.2 : Nat)))]) (fun s => []) (fun s => s.1 < s.2 ∧ s.2 ≤ 10000 ∧ s.1 * y ≤ r2 ∧ r2 < s.2 * y) (fun s => s.2 - s.1) (0, 10000) ?_ ?_ ⟨by decide, by decide, by omega, hr2⟩ ?_ ?_ ?_
    ·simp
    ·simp
    ·simp
    ·simp
    rintro ⟨lo, hi⟩ ⟨h1, h2, h3, h4⟩
    simp only at h1 h2 h3 h4
    simp
    by_cases hs : 1 < hi - lo
    ·obtain ⟨mid, hmid⟩ : ∃ mid, mid = (lo + hi) / 2 := ⟨_, rfl⟩
     have w1 : IntKind.i64.wrap ((hi : Int) - lo) = ((hi - lo : Nat) : Int) := by rw [w64 (by omega) (by omega)]; omega
     have w2 : IntKind.i64.wrap ((lo : Int) + hi) = ((lo + hi : Nat) : Int) := by rw [w64 (by omega) (by omega)]; omega
     have w3 : ((lo : Int) + hi).tdiv 2 = (mid : Int) := by rw [Int.tdiv_eq_ediv_of_nonneg (by omega)]; omega
     have w4 : IntKind.i64.wrap (mid : Int) = (mid : Int) := w64 (by omega) (by omega)
     have hs' : (1 : Int) < ((hi - lo : Nat) : Int) := by omega
     have c1 := o_gz mid (by omega)
     have hym : y * mid < 10000 ^ (N + 1) := by
      refine Nat.lt_of_le_of_lt (Nat.mul_le_mul_left y (show mid ≤ 10000 by omega)) ?_
      rw [Nat.mul_comm]; exact hy1
     have c2 := o_jw y mid (by omega) (Nat.le_trans (o_jx (show mid < 10000 ^ 2 by omega)) (by omega))
     have c3 := o_h3 (y * mid) r2 (Nat.le_trans (o_jx hym) (by omega)) (Nat.le_trans (o_jx (Nat.lt_trans hr2' hy1)) (by omega))
     have d1 : lo < mid ∧ mid < hi := by omega
     clear hmid
     by_cases hle : y * mid ≤ r2
     ·have hz : ¬ 0 < cmpZ (y * mid) r2 := by unfold cmpZ; split <;> (try split) <;> omega
      have hz' : cmpZ (y * mid) r2 ≤ 0 := by omega
      generalize cmpZ (y * mid) r2 = z at *
      generalize hq : hi - lo = q at *
      refine A13 (fs w1 (fs hs (fs hs' (fs w2 (fs w3 (fs w4 (fs hz hz'))))))) c1 c2 c3 ?_; try with_reducible exact tt
      exact ⟨mid, hi, ⟨by omega, h2, by rw [Nat.mul_comm]; exact hle, h4⟩, by omega, ⟨Sub1.refl _, Sub1.refl _⟩⟩
     ·have hz : 0 < cmpZ (y * mid) r2 := by unfold cmpZ; rw [if_neg (by omega), if_pos (by omega)]; decide
      have hz' : ¬ cmpZ (y * mid) r2 ≤ 0 := by omega
      generalize cmpZ (y * mid) r2 = z at *
      generalize hq : hi - lo = q at *
      refine A13 (fs w1 (fs hs (fs hs' (fs w2 (fs w3 (fs w4 (fs hz hz'))))))) c1 c2 c3 ?_; try with_reducible exact tt
      exact ⟨lo, mid, ⟨by omega, by omega, h3, by rw [Nat.mul_comm]; omega⟩, by omega, ⟨Sub1.refl _, Sub1.refl _⟩⟩
    ·have hhi : hi = lo + 1 := by omega
     subst hhi
     have w1 : IntKind.i64.wrap (((lo + 1 : Nat) : Int) - lo) = 1 := by rw [w64 (by omega) (by omega)]; omega
     have w1' : IntKind.i64.wrap ((lo : Int) + 1 - lo) = 1 := by rw [w64 (by omega) (by omega)]; omega
     have w5 : (lo : Int) + 1 - lo = 1 := by omega
     have c1 := o_gz lo (by omega)
     have hyl : y * lo ≤ r2 := by rw [Nat.mul_comm]; exact h3
     have hylN : y * lo < 10000 ^ (N + 1) := Nat.lt_of_le_of_lt hyl (Nat.lt_trans hr2' hy1)
     have c2 := o_jw y lo (by omega) (Nat.le_trans (o_jx (show lo < 10000 ^ 2 by omega)) (by omega))
     have c3 := o_h4 r2 (y * lo) hyl (Nat.le_trans (o_jx (Nat.lt_trans hr2' hy1)) (by omega)) (Nat.le_trans (o_jx hylN) (by omega))
     have hset : (out.map fun x : Nat => V.d (D.int .i64 x)).set m (.d (.int .i64 (lo : Nat))) = (out.set m lo).map fun x : Nat => V.d (D.int .i64 x) := by rw [List.map_set]
     have hnr : r2 - y * lo < y := by
      rw [Nat.add_mul, Nat.one_mul, Nat.mul_comm lo y] at h4
      omega
     have hnv : dval ((out.set m lo).drop m) * y + (r2 - y * lo) = dval (a.drop m) := by
      rw [o_jz hmo, hda, ← hov, hr2d, Nat.add_mul, Nat.mul_add, Nat.mul_comm lo y, Nat.mul_assoc]
      generalize dval (List.drop (m + 1) out) * y = t at *
      omega
     have hs2 := hos.set m lo (by omega)
     have hl2 : (out.set m lo).length = a.length := by simpa using hol
     have w6 : IntKind.i64.wrap 1 = 1 := by decide
     generalize y * lo = yl at *
     generalize r2 - yl = r3 at *
     generalize out.set m lo = out2 at *
     refine A13 (fs w1 (fs w1' (fs w5 (fs w6 (fs hm (fs hmo (fs hol (fs hset ewm)))))))) c1 c2 c3 ?_; try with_reducible exact tt
     exact ⟨m, r3, out2, ⟨by omega, hnr, hl2, hs2, hnv⟩, by omega, ⟨Sub1.refl _, Sub1.refl _⟩, Subs.refl _⟩
end
end Go.Proofs.YtlelpbaeplcfiaaDoor.Am
