/- Parts of the proof: YuAt2, Yu2, Float2, Yu3, Chain2, Chain3, Chain4, Chain5, Chain6, ChainP, Chain7, Chain8, ChainA, ChainM, ChainB, ChainC, ChainD, ChainE, Chain9, ChainF, ThinM, Thin1, Thin2, Thin3, Reg1, BitsM, Bits1, Bits2, Bits3, Reg2, Reg3, Reg4, PackM, Pack1. -/
import Derived.Test.YtijbgbpjionfjaaGreatDoorPd
set_option linter.unusedVariables false
set_option linter.unusedSimpArgs false
set_option maxRecDepth 100000
namespace Go.Proofs.YtijbgbpjionfjaaGreatDoor.Am
section
open Go.RowKit
def atE (s k : Int) : Int := if 1 ≤ s ∧ s ≤ 5 then (if 0 ≤ k ∧ k ≤ 1023 then 0 else 2) else 10
def atP (s k : Int) : Pl := if atE s k = 0 then placeY s.toNat k.toNat else ⟨0, 0, 0, 0⟩

def Ta (s k : Nat) (x23 : V) : List V := [.d (.int .i64 s), .d (.int .i64 k), .junk, .p 0 0, .p 1 0, .d (.int .i64 0), .p 2 0] ++ List.replicate 16 .junk ++ [x23] ++ List.replicate 7 .junk
def Ta0 (s k : Nat) : List V := [.d (.int .i64 s), .d (.int .i64 k), .junk, .p 0 0, .p 1 0, .d (.int .i64 0)] ++ List.replicate 25 .junk
abbrev zO : Ob := plO (zD.map V.d)

theorem a_1 (s k : Nat) : AW Tryz.prog 0 o_9.l (thenQ (fun T H => wk 2 T (Ta0 s k) ∧ wkH 2 H [some (kO k), some zO]) noQ) ([.d (.int .i64 s), .d (.int .i64 k)] ++ List.replicate 29 .junk) [] := by
 simp only [o_9, C.l, Ta0]
 refine G0 ?_; try with_reducible exact tt
 exact ⟨Subs.refl _, rfl⟩
theorem a_2 (s k : Nat) (s1 : 1 ≤ s) (s5 : s ≤ 5) (hk : k ≤ 1023) : AW Tryz.prog 0 o_9.r.l (thenQ (fun T H => wk 2 T (Ta0 s k) ∧ wkH 2 H [some (kO k), some zO]) noQ) (Ta0 s k) [some (kO k), some zO] := by
 simp only [o_9, C.l, C.r, Ta0, zD]
 refine G0 ?_; try with_reducible exact tt
 refine CallS.pu (o_3w s) (R0 ?_); try with_reducible exact tt
 have h1 : (1 : Int) ≤ s ∧ (s : Int) ≤ 5 := by omega
 refine AW.cond rfl (fun h => ?_) (fun h => ?_)
 ·simp [h1] at h
 have h2 : ¬ (1023 : Int) < k := by omega
 refine G1 h2 ?_; try with_reducible exact tt
 refine AW.cond rfl (fun h => ?_) (fun h => ?_)
 ·simp at h
 refine G0 ?_; try with_reducible exact tt
 rfl
theorem a_3 (s k : Nat) : AW Tryz.prog 0 o_9.r.r.l (thenQ (fun T H => wk 3 T (Ta s k .junk) ∧ wkH 3 H [some (kO k), some zO, some zO]) noQ) (Ta0 s k) [some (kO k), some zO] := by
 simp only [o_9, C.l, C.r, Ta0, Ta]
 refine G0 ?_; try with_reducible exact tt
 exact ⟨Subs.refl _, rfl⟩
theorem a_4 (s k : Nat) : AW Tryz.prog 0 o_9.r.r.r.l.l (thenQ (fun T H => wk 4 T (Ta s k (.fn (.func o_h) [.p 3 0])) ∧ wkH 4 H [some (kO k), some zO, some zO, some (sO s)]) noQ) (Ta s k .junk) [some (kO k), some zO, some zO] := by
 simp only [o_9, C.l, C.r, Ta]
 refine G0 ?_; try with_reducible exact tt
 refine CallS.newX (o_r5 s) ⟨rfl, fun _ => rfl⟩ rfl (fun _ => rfl) (Subs.refl _) ?_
 simp [nameOf, V.ren, V.rens]
 rfl
theorem a_5 (s k : Nat) (x : V) (p : Pl) {K' : List V → List (Option Ob) → Prop} (h : ∀ T, T.getD 4 .junk = .p 1 0 → T.getD 5 .junk = .d (.int .i64 0) → K' T [none, some (plO ((plC p).map V.d)), some (plO ((plC p).map V.d)), none]) :
  vops Tryz.prog false K' o_9.r.r.r.r.l.os [] (Ta s k x) [none, some zO, some (plO ((plC p).map V.d)), none] := by
 simp only [o_9, C.l, C.r, C.os, Ta, zD]
 simp only [plC, List.map_cons, List.map_nil] at h ⊢
 simp
 exact need.of (by decide) (h _ rfl rfl)

theorem o_ht (l : List V) (n i : Nat) (h : l.length ≤ i) : (l ++ List.replicate n V.junk).getD i .junk = .junk := by
 rw [List.getD_eq_getElem?_getD, List.getElem?_append_right h, List.getElem?_replicate]; split <;> rfl
theorem o_rf {m : Mem} {H : List (Option Ob)} {a : Act} {l : Nat} {sv : Value} (hb : m.base) (hobj : ∀ n ob, H.getD n none = some ob → m.obj n ob) (hinj : ∀ n k b, live H n → live H k → m.ρ n = some b → m.ρ k = some b → n = k) (htop : ∀ n, H.length ≤ n → m.ρ n = none)
  (hv : (V.p 3 0).rep m sv) (ht : a.tmps = #[.func (.yield l) #[] #[], sv] ++ Array.replicate 21 undef) (hd : a.defers = []) : Sat m a ([fnY l, .p 3 0] ++ List.replicate 21 .junk) H := by
 refine ⟨hb, fun s => ?_, hobj, hinj, htop, by rw [ht]; simp, hd⟩
 rcases s with _ | _ | s
 ·rw [ht]
  show V.rep m (fnY l) _
  unfold V.rep
  exact ⟨[], by simp, by simp⟩
 ·rw [ht]
  show V.rep m (.p 3 0) _
  simpa using hv
 ·have : ([fnY l, .p 3 0] ++ List.replicate 21 V.junk).getD (s + 2) .junk = .junk := o_ht _ _ _ (by simp)
  rw [this]
  unfold V.rep
  trivial
def SC : Nat → Bool := fun n => n == 0 || n == 2 || n == 3

set_option maxHeartbeats 4000000 in
theorem o_7j (s k : Nat) (s1 : 1 ≤ s) (s5 : s ≤ 5) (hk : k ≤ 1023) : Eqn Tryz.prog o_3l [.d (.int .i64 s), .d (.int .i64 k)] [] (.tup [.d (plD (placeY s k)), .d (.int .i64 0)]) [] := by
 refine ⟨Nat.le_refl _, by simp, rfl, by simp, fun m vs mb hargs _ _ htop => .inr ⟨o_lb o_78 _ _, ?_⟩⟩
 obtain ⟨v0, _, rfl, hv0, hargs⟩ := V.reps_cons'.1 hargs
 obtain ⟨v1, _, rfl, hv1, hargs⟩ := V.reps_cons'.1 hargs
 simp at hargs; subst hargs
 have htop : ∀ n, 0 ≤ n → m.ρ n = none := fun n _ => htop n (Nat.zero_le _)
 obtain ⟨f10, a1, a2, a3, a4, asg, bd, g, ps, id, ops, hf, hb, e1, e2, e3, e4, eg, eps, easg, ebd, e5, ecalm, ers, ent⟩ := o_r8 at_s
 simp only at hb e1 e2 e3 e4 eg eps easg ebd e5 ecalm ers ent
 rw [Bool.and_eq_true, Bool.and_eq_true] at ecalm
 obtain ⟨calA, calB, calO⟩ := ecalm
 have eps : ps = #[24, 25] := by rw [← Array.toArray_toList (xs := ps), eps]
 subst eps
 refine (callsIn_wide (n := 1)).1 (callsIn_of_wp_marks hf hb trivial ?_ rfl)
 have hsize : f10.ntmps - 2 = 29 := by rw [ent]
 have sat0 : Sat m { tmps := #[v0, v1] ++ Array.replicate (f10.ntmps - #[v0, v1].size) undef, defers := [] } ([.d (.int .i64 s), .d (.int .i64 k)] ++ List.replicate 29 .junk) [] := by
  refine ⟨mb, fun i => ?_, by simp, fun n k b ln => by simp [live] at ln, fun n _ => htop n (Nat.zero_le _), by simp [ent], rfl⟩
  rcases i with _ | _ | i
  ·show V.rep m (.d (.int .i64 s)) _
   rw [Array.getD_eq_getD_getElem?, Array.getElem?_append_left (by simp)]
   exact hv0
  ·show V.rep m (.d (.int .i64 k)) _
   rw [Array.getD_eq_getD_getElem?, Array.getElem?_append_left (by simp)]
   exact hv1
  ·have : ([V.d (.int .i64 s), V.d (.int .i64 k)] ++ List.replicate 29 V.junk).getD (i + 2) .junk = .junk := o_ht _ _ _ (by simp)
   rw [this]
   unfold V.rep
   trivial
 refine AW.then (L := 0) e1 (a_1 s k) sat0 (Mem.le.refl _ _) htop (by simp) fun T1 H1 m1 w1 hq st1 le1 _ => ?_
 obtain ⟨m1', hw1, st1', le1', _⟩ := Sat.weaken (T1 := Ta0 s k) (H1 := [some (kO k), some zO]) (Weak.of hq.1 hq.2) st1 le1 htop (by simp)
 rw [← hw1]
 refine AW.then (L := 0) e2 (a_2 s k s1 s5 hk) st1' le1' htop (by simp) fun T2 H2 m2 w2 hq st2 le2 _ => ?_
 obtain ⟨m2', hw2, st2', le2', _⟩ := Sat.weaken (T1 := Ta0 s k) (H1 := [some (kO k), some zO]) (Weak.of hq.1 hq.2) st2 le2 htop (by simp)
 rw [← hw2]
 refine AW.then (L := 0) e3 (a_3 s k) st2' le2' htop (by simp) fun T3 H3 m3 w3 hq st3 le3 _ => ?_
 obtain ⟨m3', hw3, st3', le3', _⟩ := Sat.weaken (T1 := Ta s k .junk) (H1 := [some (kO k), some zO, some zO]) (Weak.of hq.1 hq.2) st3 le3 htop (by simp)
 rw [← hw3]
 refine wpIn_seq ?_
 refine AW.then (L := 0) e4 (a_4 s k) st3' le3' htop (by simp) fun T4 H4 m4' w4 hq st4 le4 _ => ?_
 obtain ⟨m4, hw4, st4', le4', _⟩ := Sat.weaken (T1 := Ta s k (.fn (.func o_h) [.p 3 0])) (H1 := [some (kO k), some zO, some zO, some (sO s)]) (Weak.of hq.1 hq.2) st4 le4 htop (by simp)
 rw [← hw4]
 clear hw1 hw2 hw3 hw4 st1 st2 st3 st4 st1' st2' st3' le1 le2 le3 le4 le1' le2' le3' hq sat0
 refine wpIn_block (wpIn_rangeFunc fun fn' _ => ?_)
 -- the function that is ranged over
 have gt3 : (V.p 0 0).rep m4 (w4.tmps.getD 3 undef) := o_1v st4' (s := 3) rfl
 have gt6 : (V.p 2 0).rep m4 (w4.tmps.getD 6 undef) := o_1v st4' (s := 6) rfl
 have gt23 : (V.fn (.func o_h) [.p 3 0]).rep m4 (w4.tmps.getD 23 undef) := o_1v st4' (s := 23) rfl
 unfold V.rep at gt23
 obtain ⟨cvs, hg23, hcv⟩ := gt23
 obtain ⟨sv, _, rfl, hsv, hcv⟩ := V.reps_cons'.1 hcv
 simp at hcv; subst hcv
 have hgt : g = .tmp 23 := by
  cases g <;> simp [X.of] at eg
  ·rw [eg]
  ·rename_i v; cases h : D.of1 v <;> simp [h] at eg
 have hgev : w4.eval g = .func (.func o_h) #[] #[sv] := by rw [hgt]; exact hg23
 obtain ⟨rec, hrec⟩ : ∃ rec : LoopState → Option Code → Loop, rec = fun st pe => { state := st, pending := pe, fn := fn', tmps := w4.tmps, params := #[24, 25], assign := asg, body := bd, defers := m4.w.heap.size } := ⟨_, rfl⟩
 obtain ⟨W1, hW1⟩ : ∃ W1, W1 = (m4.w.alloc (.deferred (some []))).alloc (.loop (rec .ready none)) := ⟨_, rfl⟩
 have hl1 : W1.heap[m4.w.heap.size + 1]? = some (.loop (rec .ready none)) := by
  rw [hW1]; have := World.alloc_heap_new (m4.w.alloc (.deferred (some []))) (.loop (rec .ready none)); rwa [World.size_alloc] at this
 have hd1 : W1.heap[m4.w.heap.size]? = some (.deferred (some [])) := by
  rw [hW1]; exact (Below.heap_alloc _ _ _ (by simp)).trans (World.alloc_heap_new m4.w _)
 have satw : Sat (m4.at W1) w4 (Ta s k (.fn (.func o_h) [.p 3 0])) [some (kO k), some zO, some zO, some (sO s)] := by
  rw [hW1]; exact (st4'.grow _).grow _
 have lew : m.le (m4.at W1) (· < 0) := by
  rw [hW1]; exact (le4'.grow st4'.base _).grow (st4'.grow _).base _
 have loD : (m4.at W1).loose m4.w.heap.size := by
  rw [hW1]; exact (o_a3 st4'.base _).grow _
 have loL : (m4.at W1).loose (m4.w.heap.size + 1) := by
  rw [hW1]
  have := o_a3 (st4'.grow (.deferred (some []))).base (.loop (rec .ready none))
  simpa using this
 have hb4 : m.w.heap.size ≤ m4.w.heap.size := le4'.size
 have hrep1 : ∀ x v, V.rep m4 x v → V.rep (m4.at W1) x v := fun x v h => by
  rw [hW1]
  exact V.rep_off (m := m4) (m' := m4.at ((m4.w.alloc (.deferred (some []))).alloc (.loop (rec .ready none)))) ⟨rfl, rfl, fun b hb => (Below.heap_alloc _ _ _ (by simp; have := st4'.base.imm b hb; omega)).trans (Below.heap_alloc _ _ _ (st4'.base.imm b hb)), fun n b hb => (Below.heap_alloc _ _ _ (by simp; have := st4'.base.dom n b hb; omega)).trans (Below.heap_alloc _ _ _ (st4'.base.dom n b hb))⟩ x v h
 generalize hLn : m4.w.heap.size + 1 = l at *
 generalize hDn : m4.w.heap.size = dd at *
 refine ⟨l, [{ target := .collected dd, args := #[] }], W1, { target := .fn (.func o_h) #[sv], args := #[.func (.yield l) #[] #[]] }, W1, o_h, #[.func (.yield l) #[] #[], sv], W1, ?_, ?_, fun _ _ => trivial, ?_, fun h => by simp [Fence.wide] at h, ?_⟩
 ·have := run_enterLoop_outer (P := Tryz.prog) (w := m4.w) fn' w4.tmps #[24, 25] asg bd
  rw [hW1, hrec, ← hLn, ← hDn]
  exact this
 ·simp only [Go.resolve, hgev]
  simp [go_sem, Deferred.ofValue]
 ·simp [invoke, go_sem]
 refine callsIn_wide.2 ?_
 -- the memory that the walk sees
 have cutr : ∀ n, SC n = true → ((m4.at W1).cut SC).ρ n = m4.ρ n := fun n h => by simp [h]
 have cobj : ∀ (n : Nat) (ty : TypeId) (ds : List D), SC n = true → (m4.at W1).obj n ⟨ty, ds.map V.d⟩ → ((m4.at W1).cut SC).obj n ⟨ty, ds.map V.d⟩ := by
  rintro n ty ds hn ⟨b, vs, more, h1, h2, h3, h4, h5⟩
  exact ⟨b, vs, more, by rw [cutr n hn]; exact h1, h2, h3, o_2o (m := m4.at W1) (m' := (m4.at W1).cut SC) rfl rfl (show V.reps (m4.at W1) (ds.map V.d) vs from h4), h5⟩
 have prep : ∀ n o v, SC n = true → (V.p n o).rep (m4.at W1) v → (V.p n o).rep ((m4.at W1).cut SC) v := by
  intro n o v hn h
  unfold V.rep at h ⊢
  obtain ⟨b, h1, h2⟩ := h
  exact ⟨b, by rw [cutr n hn]; exact h1, h2⟩
 have loC : ((m4.at W1).cut SC).loose l := by
  refine ⟨loL.lt, fun n h => ?_, loL.I⟩
  simp only at h
  split at h
  ·exact loL.ρ n h
  ·cases h
 have lv : ∀ n, live [some (kO k), none, some zO, some (sO s)] n → SC n = true := fun n h => by
  rcases n with _ | _ | _ | _ | n <;> first | rfl | (simp [live] at h)
 have hwalk := o_re (m := (m4.at W1).cut SC) (l := l) (sv := sv) easg ebd calA calB hrec s k s1 s5 hk
  (fun a ha hd => o_rf (H := [some (kO k), none, some zO, some (sO s)]) (Mem.cut_base satw.base SC) (fun n ob h => by
   rcases n with _ | _ | _ | _ | n
   ·simp at h; subst h; exact cobj 0 _ [.int .i64 k] rfl (satw.obj 0 _ rfl)
   ·simp at h
   ·simp at h; subst h; exact cobj 2 _ zD rfl (satw.obj 2 _ rfl)
   ·simp at h; subst h; exact cobj 3 _ [.int .i64 s] rfl (satw.obj 3 _ rfl)
   ·simp at h) (fun n k' b h1 h2 h3 h4 => by
    have l1 := lv n h1
    have l2 := lv k' h2
    rw [cutr n l1] at h3; rw [cutr k' l2] at h4
    refine satw.inj n k' b ?_ ?_ h3 h4
    ·rcases n with _ | _ | _ | _ | n <;> first | rfl | (simp [live] at h1)
    ·rcases k' with _ | _ | _ | _ | k' <;> first | rfl | (simp [live] at h2)) (fun n h => by
    have h4 : ¬ SC n = true := by simp [SC]; simp at h; omega
    simp [h4]) (prep 3 0 sv rfl (hrep1 _ _ hsv)) ha hd)
  (prep 0 0 _ rfl (hrep1 _ _ gt3)) (prep 2 0 _ rfl (hrep1 _ _ gt6)) (by rw [satw.size]; rfl) loC hl1
 refine hwalk.mono ?_
 rintro e w5 ⟨⟨v, rfl⟩, m5, rfl, b5, o5, le5⟩
 obtain ⟨loC5, hl5⟩ := (loC.put (.loop (rec .done (some (.exit 1))))).keep le5
 have hl5' := hl5.trans (World.putObj_heap_same loC.lt)
 have hrd : ∀ st pe, (rec st pe).state = st ∧ (rec st pe).pending = pe := fun st pe => by rw [hrec]; exact ⟨rfl, rfl⟩
 have hend := run_endLoop (P := Tryz.prog) hl5' (by rw [(hrd _ _).1]; simp)
 rw [(hrd _ _).2] at hend
 obtain ⟨o6, hend⟩ : ∃ o6, (Instr.endLoop l).run Tryz.prog m5.w = .ok (some (.exit 1)) (m5.w.putObj l o6) := ⟨_, hend⟩
 refine ⟨_, _, hend, wpIn_exit ?_⟩
 -- back in the asker
 have hu := Mem.uncut (m := (m4.at W1).at (W1.putObj l (.loop (rec .done (some (.exit 1)))))) (S := SC) le5 (fun n h => by simp [SC] at h; omega)
 have lo5 : (⟨m4.ρ, m5.I, m5.w⟩ : Mem).loose l := ((loL.put (.loop (rec .done (some (.exit 1))))).keep hu).1
 have loD5 := (Mem.loose.keep (m := (m4.at W1).at (W1.putObj l (.loop (rec .done (some (.exit 1)))))) (l := dd) ⟨by simpa using loD.lt, loD.ρ, loD.I⟩ hu)
 have hne : dd ≠ l := by omega
 have hd5 : m5.w.heap[dd]? = some (.deferred (some [])) := loD5.2.trans ((World.putObj_heap_other hne).trans hd1)
 have obj2 : (⟨m4.ρ, m5.I, m5.w⟩ : Mem).obj 2 (plO ((plC (placeY s k)).map V.d)) := by
  obtain ⟨b, vs, more, h1, h2, h3, h4, h5⟩ := o5
  obtain ⟨b', hb'⟩ := o_7i (satw.obj 2 _ rfl)
  have := le5.ρ 2 b' (by show (if SC 2 = true then m4.ρ 2 else none) = some b'; rw [if_pos (show SC 2 = true from rfl)]; exact hb')
  rw [h1] at this
  cases this
  exact ⟨b, vs, more, hb', h2, h3, o_2o (m := m5) (m' := ⟨m4.ρ, m5.I, m5.w⟩) rfl rfl (show V.reps m5 ((plC (placeY s k)).map V.d) vs from h4), h5⟩
 have sat5 : Sat ⟨m4.ρ, m5.I, m5.w⟩ w4 (Ta s k (.fn (.func o_h) [.p 3 0])) [none, some zO, some (plO ((plC (placeY s k)).map V.d)), none] := by
  refine Sat.uncut (m := (m4.at W1).at (W1.putObj l (.loop (rec .done (some (.exit 1)))))) (loL.sat (.loop (rec .done (some (.exit 1)))) satw) b5 hu (fun n h => ?_) rfl fun n ob h => ?_
  ·simp [SC] at h
   rcases h with (rfl | rfl) | rfl <;> rfl
  ·rcases n with _ | _ | _ | _ | n
   ·simp at h
   ·right; simp at h; subst h; exact ⟨rfl, rfl⟩
   ·left; simp at h; subst h; exact ⟨rfl, obj2⟩
   ·simp at h
   ·simp at h
 have le5' : m.le ⟨m4.ρ, m5.I, m5.w⟩ (· < 0) := by
  refine Mem.le.trans (lew.far mb (l := l) (by omega) (.loop (rec .done (some (.exit 1))))) hu fun n b h _ => ?_
  rw [htop n (Nat.zero_le _)] at h; cases h
 have sat6 := lo5.sat o6 sat5
 have le6 := le5'.far mb (l := l) (by omega) o6
 have hd6 : (m5.w.putObj l o6).heap[dd]? = some (.deferred (some [])) := (World.putObj_heap_other hne).trans hd5
 have loD6 : ((⟨m4.ρ, m5.I, m5.w⟩ : Mem).at (m5.w.putObj l o6)).loose dd := ⟨by simpa using loD5.1.lt, loD5.1.ρ, loD5.1.I⟩
 show (Code.seq (.region id ops false) .ret).wpIn Fence.wide 1 _ _ _ _
 refine wpIn_seq (o_a4 ?_)
 have hops : ops.toList = ops.toList ++ [] := (List.append_nil _).symm
 rw [hops]
 refine o_5k (D := [{ target := .collected dd, args := #[] }]) (Q := fun e a w => e = .normal ∧ ∃ T' H' m', m'.w = w ∧ Sat m' a T' H' ∧ T'.getD 4 .junk = .p 1 0 ∧ T'.getD 5 .junk = .d (.int .i64 0) ∧ H' = [none, some (plO ((plC (placeY s k)).map V.d)), some (plO ((plC (placeY s k)).map V.d)), none] ∧ m.le m' (· < 0) ∧ ((⟨m4.ρ, m5.I, m5.w⟩ : Mem).at (m5.w.putObj l o6)).le m' (· < 4)) ?_ _ w4 _ _ ⟨rfl, by rw [st4'.defers]; rfl⟩ ?_
 ·rintro e a a' w hbes ⟨rfl, T7, H7, m7, rfl, st7, h4, h5, rfl, le0, le7⟩
  refine wpIn_ret ?_
  have hdf : a'.defers = [{ target := .collected dd, args := #[] }] := by rw [hbes.defers, st7.defers]; rfl
  show LeavesInM _ _ _ _ _ _ a'.defers _ _
  rw [hdf, ← hbes.tmps]
  obtain ⟨lo7, hl7⟩ := loD6.keep le7
  have hd7 := hl7.trans hd6
  refine ⟨by simp, .inl ⟨dd, _, rfl, run_takeDeferred hd7, ?_⟩⟩
  have sat8 := lo7.sat (.deferred none) st7
  obtain ⟨v, hv1, hv2⟩ := o_9q (P := Tryz.prog) sat8 f10 (.tup [.d (plD (placeY s k)), .d (.int .i64 0)]) (by
   rw [ers]
   simp only [outV, outs, RV.out, h4, h5]
   rfl)
  refine ⟨v, hv1, v, ⟨fun _ => none, m7.I, m7.w.putObj dd (.deferred none)⟩, rfl, rfl, ?_⟩
  have lem := le0.far mb (l := dd) (by omega) (.deferred none)
  refine ⟨⟨sat8.base.imm, fun n b h => (by cases h)⟩, ⟨fun n b h => (by rw [htop n (Nat.zero_le _)] at h; cases h), lem.I, lem.os, lem.tape, lem.output, lem.size, lem.block, lem.shape, lem.imm, lem.newI, fun n b h => (by cases h)⟩, ?_, by simp, by simp, fun _ _ => rfl, fun n b _ h => (by cases h)⟩
  unfold V.rep at hv2 ⊢
  obtain ⟨us, h1, h2⟩ := hv2
  exact ⟨us, h1, o_2o (ds := [plD (placeY s k), .int .i64 0]) (m := m7.at (m7.w.putObj dd (.deferred none))) rfl rfl h2⟩
 ·refine o_2a (l := none) (L := 4) (m0 := (⟨m4.ρ, m5.I, m5.w⟩ : Mem).at (m5.w.putObj l o6)) (m := (⟨m4.ρ, m5.I, m5.w⟩ : Mem).at (m5.w.putObj l o6)) (K := fun T H => T.getD 4 .junk = .p 1 0 ∧ T.getD 5 .junk = .d (.int .i64 0) ∧ H = [none, some (plO ((plC (placeY s k)).map V.d)), some (plO ((plC (placeY s k)).map V.d)), none]) [] calO (by rw [e5]; exact a_5 s k _ _ fun T h1 h2 => ⟨h1, h2, rfl⟩) sat6 (Mem.le.refl _ _) sat6.top (by simp) fun T7 H7 a7 m7 hq st7 le7 _ => ?_
  refine wpListIn_nil ⟨rfl, T7, H7, m7, rfl, st7, hq.1, hq.2.1, hq.2.2, ?_, le7⟩
  refine Mem.le.trans le6 le7 fun n b h _ => ?_
  rw [htop n (Nat.zero_le _)] at h; cases h

theorem Sub1.aggd {l r : List D} (h : Subs (l.map V.d) (r.map V.d)) : Sub1 (.d (.agg l)) (.d (.agg r)) := fun m v k => by
 rw [V.rep_d] at k ⊢
 unfold D.rep at k ⊢
 obtain ⟨vs, h1, h2, h3⟩ := k
 exact ⟨vs, h1, h2, V.reps_map_d.1 (h m vs (V.reps_map_d.2 h3))⟩
theorem Sub1.pl0 (e : D) : Sub1 (.tup [.d (.agg [.int .i64 0, .int .i64 0, .nilsl, .nilsl]), .d e]) (.tup [.d (plD ⟨0, 0, 0, 0⟩), .d e]) :=
 Sub1.tup (Subs.cons (Sub1.aggd (Subs.cons (Sub1.refl _) (Subs.cons (Sub1.refl _) (Subs.cons Sub1.nil (Subs.cons Sub1.nil (Subs.refl _)))))) (Subs.refl _))

theorem o_rg (s k : Int) : Eqn Tryz.prog o_3l [.d (.int .i64 s), .d (.int .i64 k)] [] (.tup [.d (plD (atP s k)), .d (.int .i64 (atE s k))]) [] := by
 by_cases hs : 1 ≤ s ∧ s ≤ 5
 ·by_cases hk : 0 ≤ k ∧ k ≤ 1023
  ·have e : atE s k = 0 := by rw [atE, if_pos hs, if_pos hk]
   obtain ⟨s, rfl⟩ : ∃ n : Nat, s = n := ⟨s.toNat, by omega⟩
   obtain ⟨k, rfl⟩ : ∃ n : Nat, k = n := ⟨k.toNat, by omega⟩
   rw [atP, if_pos e, e]
   exact o_7j s k (by omega) (by omega) (by omega)
  ·have e : atE s k = 2 := by rw [atE, if_pos hs, if_neg hk]
   rw [atP, if_neg (by rw [e]; omega), e]
   refine Eqn.pure o_78 (o_1 _ _) ?_
   simp only [o_9]
   refine G0 ?_; try with_reducible exact tt
   refine CallS.pu (o_3w s) (R0 ?_); try with_reducible exact tt
   refine AW.cond rfl (fun h => ?_) (fun h => ?_)
   ·simp [hs] at h
   by_cases h0 : k < 0
   ·refine G1 h0 ?_; try with_reducible exact tt
    refine AW.cond rfl (fun h => ?_) (fun h => ?_)
    ·refine G0 ?_; try with_reducible exact tt
     exact Sub1.pl0 _
    ·simp [h0] at h
   ·have h1 : 1023 < k := by omega
    refine G1 (fs h0 h1) ?_; try with_reducible exact tt
    refine AW.cond rfl (fun h => ?_) (fun h => ?_)
    ·refine G0 ?_; try with_reducible exact tt
     exact Sub1.pl0 _
    ·simp [h0, h1] at h
 ·have e : atE s k = 10 := by rw [atE, if_neg hs]
  rw [atP, if_neg (by rw [e]; omega), e]
  refine Eqn.pure o_78 (o_1 _ _) ?_
  simp only [o_9]
  refine G0 ?_; try with_reducible exact tt
  refine CallS.pu (o_3w s) (R0 ?_); try with_reducible exact tt
  refine AW.cond rfl (fun h => ?_) (fun h => ?_)
  ·refine G0 ?_; try with_reducible exact tt
   exact Sub1.pl0 _
  ·simp at h
   omega
end
end Go.Proofs.YtijbgbpjionfjaaGreatDoor.Am
namespace Go.Proofs.YtijbgbpjionfjaaGreatDoor.Am
section
open Go.RowKit
end
end Go.Proofs.YtijbgbpjionfjaaGreatDoor.Am
namespace Go.Proofs.YtijbgbpjionfjaaGreatDoor.Am
section
open Go.RowKit
theorem o_rh {x m : Nat} (h : x < 18446744073709551616 ^ m) : size x ≤ m := o_2j (o_1b x) (by rwa [o_4])

theorem o_ri {a n u m : Nat} (h : a < 2 ^ n) (hm : n + u ≤ 64 * m) : size (a * 2 ^ u) ≤ m := by
 apply o_rh
 refine Nat.lt_of_lt_of_le (Nat.mul_lt_mul_of_pos_right h (Nat.two_pow_pos u)) ?_
 rw [← Nat.pow_add, show (18446744073709551616 : Nat) = 2 ^ 64 by rfl, ← Nat.pow_mul]
 exact Nat.pow_le_pow_right (by omega) hm

theorem o_rj {d k : Nat} (hd : d ≤ 8) (hk : k ≤ 1023) : wrongZ d [(k : Int)] = 0 := by
 rw [wrongZ, if_pos (by omega), if_pos]
 simp [okK]; omega

theorem o_rk (d k v : Nat) (hd : d ≤ 8) (hk : k ≤ 1023) (hv : partV d k = (v : Int)) (hv2 : v ≤ 255) :
  Eqn Tryz.prog o_73 [.d (.int .i64 d), .d (.int .i64 k)] [] (.tup [.d (.agg [natW ((2 ^ d + v) * 2 ^ (k / 2 ^ d) - 2 ^ d)]), .d (.int .i64 0)]) [] := by
 refine Eqn.pure o_op (o_1 _ _) ?_
 simp only [o_gg]
 refine G0 ?_; try with_reducible exact tt
 refine CallS.pf 1 1 ⟨3, _⟩ [.int .i64 k] (o_hh d k) (by first | rfl | (simp; done)) (R0 ?_); try with_reducible exact tt
 have hw := o_rj hd hk
 refine AW.cond rfl (fun h => ?_) (fun h => ?_)
 ·simp [hw] at h
 have hp := o_3t d k (by omega) (by omega)
 rw [hv] at hp
 have hu : k / 2 ^ d ≤ k := Nat.div_le_self _ _
 generalize k / 2 ^ d = u at hp hu ⊢
 have h2 : 2 ^ d ≤ 256 := Nat.pow_le_pow_right (n := 2) (by omega) hd
 have h2' : 0 < 2 ^ d := Nat.two_pow_pos d
 have e0 : (2 : Int) ^ d = (2 ^ d : Nat) := by rw [Int.natCast_pow]; rfl
 have hx : (2 : Nat) ^ d ≤ (2 ^ d + v) * 2 ^ u := Nat.le_trans (Nat.le_add_right _ v) (Nat.le_mul_of_pos_right _ (Nat.two_pow_pos u))
 have hsz : size ((2 ^ d + v) * 2 ^ u) ≤ 17 := o_ri (n := 10) (show 2 ^ d + v < 2 ^ 10 by omega) (by omega)
 generalize 2 ^ d = s at *
 have e1 : IntKind.i64.wrap (s : Int) = s := w64 (by omega) (by omega)
 have e2 : IntKind.i64.wrap ((s : Int) + v) = ((s + v : Nat) : Int) := w64 (by omega) (by omega)
 have e3 : IntKind.u64.wrap ((s + v : Nat) : Int) = ((s + v : Nat) : Int) := wu64 (by omega) (by omega)
 have e4 : IntKind.u64.wrap (s : Int) = s := wu64 (by omega) (by omega)
 have ht : s + v ≤ 511 := by omega
 generalize s + v = t at *
 refine G1 e0 ?_; try with_reducible exact tt
 refine CallS.pu (hp) (R1 (fs e0 (fs e1 (fs e2 e3))) ?_); try with_reducible exact tt
 refine CallS.pf 2 1 ⟨28, _⟩ [.int .u64 (t : Nat)] (o_1c [t] (o_12 (by omega)) (by simp)) (by first | rfl | (simp; done)) (R0 ?_); try with_reducible exact tt
 refine CallS.pu (o_7d t u (by have := o_2m (x := t) (by omega); omega) (by omega)) (R1 (fs e0 e4) ?_); try with_reducible exact tt
 refine CallS.pf 4 1 ⟨28, _⟩ [.int .u64 (s : Nat)] (o_1c [s] (o_12 (by omega)) (by simp)) (by first | rfl | (simp; done)) (R0 ?_); try with_reducible exact tt
 refine CallS.pu (o_hc (t * 2 ^ u) s (by omega) hx) (R0 ?_); try with_reducible exact tt

theorem o_3z (cs : List Bool) (h : cs.length ≤ 1048576) : Eqn Tryz.prog o_1o [.d (BL cs)] [] (.p 0 0) [tapeO cs 0 false] := by
 refine Eqn.new1 o_lg ⟨rfl, fun _ => rfl⟩ ?_
 simp only [o_ae, BL]
 have e : min (cs.length : Int) 1048576 = cs.length := by omega
 have e2 : List.take cs.length (cs.map D.bool) = cs.map D.bool := List.take_of_length_le (by simp)
 refine G1 (fs e e2) ?_; try with_reducible exact tt
 refine CallS.pu (o_q7 cs.length (cs.map .bool) (by simp) (by omega)) (R0 ?_); try with_reducible exact tt
 exact Subs.refl _

theorem o_40 (cs : List Bool) (p : Nat) (dd : Bool) : Eqn Tryz.prog o_aj [.p 0 0] [tapeO cs p dd] (.d (.int .i64 p)) [tapeO cs p dd] := by
 refine Eqn.obj1 o_lj (o_0 _) ⟨rfl, fun _ => rfl⟩ ?_
 simp only [o_ak, tapeO, BL]
 refine G0B ?_; try with_reducible exact tt

theorem o_rl (cs : List Bool) (n : Nat) (h : cs.length ≤ 9223372036854775807) (hn : n ≤ 1000000) : Eqn Tryz.prog o_az [.d (BL cs), .d (.int .i64 n)] [] (.d (BL (cs.take n))) [] := by
 refine Eqn.pure o_lr (o_0 _) ?_
 simp only [o_b0, BL]
 refine G0 ?_; try with_reducible exact tt
 refine AW.cond rfl (fun h => ?_) (fun h => ?_)
 ·have h' : (n : Int) ≤ cs.length := by simp at h; omega
  have h2 : n ≤ cs.length := by omega
  refine G1 (fs h' h2) ?_; try with_reducible exact tt
 ·have h2 : cs.length ≤ n := by simp at h; omega
  refine G0 ?_; try with_reducible exact tt
  refine Sub1.of ?_
  rw [Nat.min_eq_right h2, List.take_of_length_le (by simp; omega)]

def p2 (n : Nat) : Nat := 2 ^ n
/-- so many coins that are true, as the document tells it: is it, how many were taken, what is wrong -/
def halfO (cs : List Bool) : Nat → Nat → Bool × Nat × Int
 | 0, i => (true, i, 0)
 | r + 1, i => if i < cs.length then (if cs.getD i false then halfO cs r (i + 1) else (false, i + 1, 0)) else (false, i, 8)
end
end Go.Proofs.YtijbgbpjionfjaaGreatDoor.Am
namespace Go.Proofs.YtijbgbpjionfjaaGreatDoor.Am
section
open Go.RowKit
theorem o_rm {s k : Int} (h : atE s k = 0) : 1 ≤ s ∧ s ≤ 5 ∧ 0 ≤ k ∧ k ≤ 1023 := by
 unfold atE at h
 split at h
 ·split at h <;> omega
 ·omega
theorem o_rn {s k : Int} (h : atE s k = 0) : (atP s k).shift ≤ 8192 := by
 have h1 := o_rm h
 rw [atP, if_pos h]
 exact (o_3y (s := s.toNat) (k := k.toNat) (by omega) (by omega) (by omega)).2.1

/-- a step at a place -/
def stepY (cs : List Bool) (s k : Int) : Bool × Int × Nat × Bool := if atE s k = 0 then halfR cs (atP s k).shift 0 false else (false, atE s k, 0, false)
def againE (s k j : Int) : Int := if atE s k = 0 then atE s j else atE s k
/-- what a step at another place is here -/
def againY (cs : List Bool) (s k j : Int) : Bool × Int × Nat × Bool := if againE s k j = 0 then halfR cs ((atP s k).shift - (atP s j).shift) 0 false else (false, againE s k j, 0, false)
end
end Go.Proofs.YtijbgbpjionfjaaGreatDoor.Am
namespace Go.Proofs.YtijbgbpjionfjaaGreatDoor.Am
section
open Go.RowKit
theorem o_ro (x : Nat) (hx : x < 18446744073709551616) : Eqn Tryz.prog o_6p [.d (.int .u64 x)] [] (.d (.int .i64 (bitsN x))) [] := by
 refine Eqn.pure o_fg (o_0 _) ?_
 simp only [o_6q]
 refine G0 ?_; try with_reducible exact tt
 refine AW.cond rfl (fun h => ?_) (fun h => ?_)
 ·simp at h
 refine G0 ?_; try with_reducible exact tt
 refine CallS.pu (o_7g x hx) (R0 ?_); try with_reducible exact tt

theorem o_rp (a w : Nat) (h1 : 1 ≤ a) (h2 : a ≤ 4096) (w1 : 1 ≤ w) (w2 : w ≤ 10) (hm : bitsN (a + 1) * (2 ^ w - 1) ≤ 8192) : Eqn Tryz.prog o_b [.d (.agg [.int .i64 1, .int .i64 a, .int .i64 w])] [] (.d (.int .i64 0)) [] := by
 refine Eqn.pure o_6i (o_0 _) ?_
 simp only [o_3g]
 have hk := o_1u 1 a w
 rw [kindD, if_pos rfl] at hk
 have hg := o_qm a
 rw [show decide (1 ≤ (a : Int) ∧ (a : Int) ≤ 4096) = true by simp; omega] at hg
 have g1 : ¬ (w : Int) < 1 := by omega
 have g2 : ¬ (10 : Int) < w := by omega
 refine G0 ?_; try with_reducible exact tt
 refine CallS.pu (hk) (R1 (fs g1 g2) ?_); try with_reducible exact tt
 refine ⟨_, o_qg, ?_⟩
 refine CallS.pu (hg) (R1 (fs g1 g2) ?_); try with_reducible exact tt
 refine AW.cond rfl (fun h => ?_) (fun h => ?_)
 ·simp [g1, g2] at h
 clear h
 have e1 : IntKind.i64.wrap ((a : Int) + 1) = ((a + 1 : Nat) : Int) := w64 (by omega) (by omega)
 have e2 : IntKind.u64.wrap ((a + 1 : Nat) : Int) = ((a + 1 : Nat) : Int) := wu64 (by omega) (by omega)
 have hb := o_ro (a + 1) (by omega)
 have hbl : bitsN (a + 1) ≤ 8192 := by
  refine Nat.le_trans (Nat.le_mul_of_pos_right _ ?_) hm
  have := Nat.pow_le_pow_right (n := 2) (by omega) w1
  omega
 have h2' : 0 < 2 ^ w := Nat.two_pow_pos w
 have h2 : 2 ^ w ≤ 1024 := Nat.pow_le_pow_right (n := 2) (by omega) w2
 have e0 : (2 : Int) ^ w = (2 ^ w : Nat) := by rw [Int.natCast_pow]; rfl
 generalize 2 ^ w = S at *
 generalize bitsN (a + 1) = B at *
 generalize a + 1 = a1 at *
 have e3 : IntKind.i64.wrap (S : Int) = S := w64 (by omega) (by omega)
 have e4 : IntKind.i64.wrap ((S : Int) - 1) = ((S - 1 : Nat) : Int) := by rw [w64 (by omega) (by omega)]; omega
 have e5 : IntKind.i64.wrap ((B : Int) * ((S - 1 : Nat) : Int)) = ((B * (S - 1) : Nat) : Int) := by
  rw [← Int.natCast_mul]
  generalize B * (S - 1) = x at *
  exact w64 (by omega) (by omega)
 have g3 : ¬ (8192 : Int) < ((B * (S - 1) : Nat) : Int) := by omega
 generalize hS1 : S - 1 = S1 at *
 obtain ⟨x, hx⟩ : ∃ x, x = B * S1 := ⟨_, rfl⟩
 rw [← hx] at e5 g3
 refine G1 (fs e1 e2) ?_; try with_reducible exact tt
 refine CallS.pu (hb) (R1 (fs e0 (fs e3 (fs e4 (fs e5 g3)))) ?_); try with_reducible exact tt
 refine AW.cond rfl (fun h => ?_) (fun h => ?_)
 ·simp [g3] at h
 refine G0 ?_; try with_reducible exact tt

theorem o_rq (a : Int) : Eqn Tryz.prog o_75 [.d (.int .i64 a)] [] (.d (.bool (decide (1 ≤ a ∧ a ≤ 5)))) [] := by
 refine Eqn.pure o_ot (o_0 _) ?_
 simp only [o_gl]
 refine G0 ?_; try with_reducible exact tt
 refine CallS.pu (o_3w a) (R0 ?_); try with_reducible exact tt

theorem o_rr (a w : Nat) (h2 : a ≤ 8) (w1 : 1 ≤ w) (w2 : w ≤ 10) : Eqn Tryz.prog o_b [.d (.agg [.int .i64 2, .int .i64 a, .int .i64 w])] [] (.d (.int .i64 0)) [] := by
 refine Eqn.pure o_6i (o_0 _) ?_
 simp only [o_3g]
 have hk := o_1u 2 a w
 rw [kindD, if_neg (by omega), if_pos rfl] at hk
 have hg := o_qn a
 rw [show decide (0 ≤ (a : Int) ∧ (a : Int) ≤ 8) = true by simp; omega] at hg
 have g1 : ¬ (w : Int) < 1 := by omega
 have g2 : ¬ (10 : Int) < w := by omega
 refine G0 ?_; try with_reducible exact tt
 refine CallS.pu (hk) (R1 (fs g1 g2) ?_); try with_reducible exact tt
 refine ⟨_, o_qh, ?_⟩
 refine CallS.pu (hg) (R1 (fs g1 g2) ?_); try with_reducible exact tt
 refine AW.cond rfl (fun h => ?_) (fun h => ?_)
 ·simp [g1, g2] at h
 clear h
 refine G0 ?_; try with_reducible exact tt
 refine AW.cond rfl (fun h => ?_) (fun h => ?_)
 ·simp at h
 refine G0 ?_; try with_reducible exact tt
theorem o_rs (a w : Nat) (h1 : 1 ≤ a) (h2 : a ≤ 5) (w1 : 1 ≤ w) (w2 : w ≤ 10) : Eqn Tryz.prog o_b [.d (.agg [.int .i64 3, .int .i64 a, .int .i64 w])] [] (.d (.int .i64 0)) [] := by
 refine Eqn.pure o_6i (o_0 _) ?_
 simp only [o_3g]
 have hk := o_1u 3 a w
 rw [kindD, if_neg (by omega), if_neg (by omega), if_pos rfl] at hk
 have hg := o_rq a
 rw [show decide (1 ≤ (a : Int) ∧ (a : Int) ≤ 5) = true by simp; omega] at hg
 have g1 : ¬ (w : Int) < 1 := by omega
 have g2 : ¬ (10 : Int) < w := by omega
 refine G0 ?_; try with_reducible exact tt
 refine CallS.pu (hk) (R1 (fs g1 g2) ?_); try with_reducible exact tt
 refine ⟨_, o_qi, ?_⟩
 refine CallS.pu (hg) (R1 (fs g1 g2) ?_); try with_reducible exact tt
 refine AW.cond rfl (fun h => ?_) (fun h => ?_)
 ·simp [g1, g2] at h
 clear h
 refine G0 ?_; try with_reducible exact tt
 refine AW.cond rfl (fun h => ?_) (fun h => ?_)
 ·simp at h
 refine G0 ?_; try with_reducible exact tt
end
end Go.Proofs.YtijbgbpjionfjaaGreatDoor.Am
namespace Go.Proofs.YtijbgbpjionfjaaGreatDoor.Am
section
open Go.RowKit
def parD (k a w : Int) : D := .agg [.int .i64 k, .int .i64 a, .int .i64 w]
theorem o_14 (k a : Int) (w : Nat) (w2 : w ≤ 10) (hc : Eqn Tryz.prog o_b [.d (parD k a w)] [] (.d (.int .i64 0)) []) : Eqn Tryz.prog o_e8 [.d (parD k a w)] [] (.d (.int .i64 (2 ^ w - 1 : Nat))) [] := by
 refine Eqn.pure o_ng (o_0 _) ?_
 simp only [o_e9, parD] at hc ⊢
 have h2' : 0 < 2 ^ w := Nat.two_pow_pos w
 have h2 : 2 ^ w ≤ 1024 := Nat.pow_le_pow_right (n := 2) (by omega) w2
 have e0 : (2 : Int) ^ w = (2 ^ w : Nat) := by rw [Int.natCast_pow]; rfl
 generalize 2 ^ w = S at *
 have e3 : IntKind.i64.wrap (S : Int) = S := w64 (by omega) (by omega)
 have e4 : IntKind.i64.wrap ((S : Int) - 1) = ((S - 1 : Nat) : Int) := by rw [w64 (by omega) (by omega)]; omega
 generalize S - 1 = S1 at *
 refine G0 ?_; try with_reducible exact tt
 refine CallS.pu (hc) (R0 ?_); try with_reducible exact tt
 refine AW.cond rfl (fun h => ?_) (fun h => ?_)
 ·simp at h
 refine G1 (fs e0 (fs e3 e4)) ?_; try with_reducible exact tt

theorem o_hu (k a : Int) (w : Nat) (w2 : w ≤ 10) (x : Int) (h0 : 0 ≤ x) (h1 : x ≤ (2 ^ w - 1 : Nat)) (hc : Eqn Tryz.prog o_b [.d (parD k a w)] [] (.d (.int .i64 0)) []) : Eqn Tryz.prog o_6d [.d (parD k a w), .d (.sl 1 [.int .i64 x])] [] (.d (.int .i64 0)) [] := by
 refine Eqn.pure o_dy (o_0 _) ?_
 have ht := o_14 k a w w2 hc
 simp only [o_6e, parD] at hc ht ⊢
 generalize 2 ^ w - 1 = S at *
 refine G0 ?_; try with_reducible exact tt
 refine CallS.pu (hc) (R0 ?_); try with_reducible exact tt
 refine AW.cond rfl (fun h => ?_) (fun h => ?_)
 ·simp at h
 refine G0 ?_; try with_reducible exact tt
 refine AW.loopT (α := Nat) 1 (fun i => [(15, .d (.int .i64 (i : Int)))]) (fun i => []) (fun i => i ≤ 1) (fun i => 1 - i) 0 ?_ ?_ (Nat.zero_le _) ?_ ?_ ?_
 ·simp
 ·simp
 ·simp
 ·simp
 rintro i hi
 simp
 have g1 : ¬ x < 0 := by omega
 have g2 : ¬ (S : Int) < x := by omega
 by_cases h : i = 1
 ·subst h
  refine G0 ?_; try with_reducible exact tt
  refine AW.cond rfl (fun h => ?_) (fun h => ?_)
  ·simp at h
  refine AW.exit ?_
  (try (simp -implicitDefEqProofs; try simp (disch := omega) only [w64, wu64]))
  refine G0 ?_; try with_reducible exact tt
 ·obtain rfl : i = 0 := by omega
  refine G0 ?_; try with_reducible exact tt
  refine AW.cond rfl (fun h => ?_) (fun h => ?_)
  ·refine G1 (fs g1 g2) ?_; try with_reducible exact tt
   refine CallS.pu (ht) (R1 (fs g1 g2) ?_); try with_reducible exact tt
   refine AW.cond rfl (fun h => ?_) (fun h => ?_)
   ·simp [g1, g2] at h
   have ew : IntKind.i64.wrap 1 = 1 := w64 (by omega) (by omega)
   refine G1 ew ?_; try with_reducible exact tt
   exact ⟨1, by omega, by omega, by simp⟩
  ·simp at h
end
end Go.Proofs.YtijbgbpjionfjaaGreatDoor.Am
namespace Go.Proofs.YtijbgbpjionfjaaGreatDoor.Am
section
open Go.RowKit
theorem o_rt (cs : List Bool) (a k : Int) (p : Nat) (dd : Bool) (hp : p ≤ cs.length) (hn : cs.length ≤ 4000000) :
  Eqn Tryz.prog o_6t [.d (.int .i64 a), .p 0 0, .d (.int .i64 k)] [tapeO cs p dd] (.tup [.d (.bool (stepM cs a k p dd).1), .d (.int .i64 (stepM cs a k p dd).2.1)]) [tapeO cs (stepM cs a k p dd).2.2.1 (stepM cs a k p dd).2.2.2] := by
 refine Eqn.obj1 o_o8 (o_1 _ _) ⟨rfl, fun _ => rfl⟩ ?_
 simp only [o_fp]
 have hh := o_qf cs a k p dd hp hn
 generalize stepM cs a k p dd = R at *
 obtain ⟨R1, R2, R3, R4⟩ := R
 simp only at hh ⊢
 refine G0B ?_; try with_reducible exact tt
 refine CallS.o1 0 (hh) (R0B ?_); try with_reducible exact tt

/-- the closure that asks for a step -/
theorem o_ru {T1 t2 ti : TypeId} {d : D} {g : FuncId} {cs : List Bool} {k : Int} {p : Nat} {dd r1 : Bool} {r2 : Int} {r3 : Nat} {r4 : Bool} (hm : MethOK Tryz.prog ti "tallymark/chain.step" g)
  (E : Eqn Tryz.prog g [.d d, .p 0 0, .d (.int .i64 k)] [tapeO cs p dd] (.tup [.d (.bool r1), .d (.int .i64 r2)]) [tapeO cs r3 r4]) :
  Eqn Tryz.prog o_3f [.d (.int .i64 k), .p 1 0, .p 2 0] [tapeO cs p dd, ⟨T1, [.d (.ifc ti d)]⟩, ⟨t2, [.p 0 0]⟩] (.tup [.d (.bool r1), .d (.int .i64 r2)]) [tapeO cs r3 r4, ⟨T1, [.d (.ifc ti d)]⟩, ⟨t2, [.p 0 0]⟩] := by
 refine Eqn.obj3 o_nf (o_1 _ _) ⟨rfl, fun _ => rfl⟩ ⟨rfl, fun _ => rfl⟩ ?_
 simp only [o_e7]
 refine G0B ?_; try with_reducible exact tt
 refine ⟨_, hm, ?_⟩
 refine CallS.o1 0 (E) (R0B ?_); try with_reducible exact tt
end
end Go.Proofs.YtijbgbpjionfjaaGreatDoor.Am
namespace Go.Proofs.YtijbgbpjionfjaaGreatDoor.Am
section
open Go.RowKit
/-- one place on: at the top it is full -/
theorem o_rv {T1 t2 ti : TypeId} {d : D} {cs : List Bool} {p : Nat} {dd : Bool} (k a : Int) (w : Nat) (w2 : w ≤ 10) (full : Bool) (hc : Eqn Tryz.prog o_b [.d (parD k a w)] [] (.d (.int .i64 0)) []) :
  Eqn Tryz.prog o_2f [.d (parD k a w), .d (.agg [.int .i64 (2 ^ w - 1 : Nat), .bool full]), .fn (.func o_3f) [.p 1 0, .p 2 0]] [tapeO cs p dd, ⟨T1, [.d (.ifc ti d)]⟩, ⟨t2, [.p 0 0]⟩] (.tup [.d (.agg [.int .i64 (2 ^ w - 1 : Nat), .bool true]), .d (.int .i64 0)]) [tapeO cs p dd, ⟨T1, [.d (.ifc ti d)]⟩, ⟨t2, [.p 0 0]⟩] := by
 refine Eqn.obj3 o_3e (o_1 _ _) ⟨rfl, fun _ => rfl⟩ ⟨rfl, fun _ => rfl⟩ ?_
 have ht := o_14 k a w w2 hc
 simp only [o_2g, parD] at ht ⊢
 generalize 2 ^ w - 1 = S at *
 refine G0B ?_; try with_reducible exact tt
 refine CallS.pu (ht) (R0B ?_); try with_reducible exact tt
 refine AW.cond rfl (fun h => ?_) (fun h => ?_)
 ·clear h
  refine G0B ?_; try with_reducible exact tt
 ·simp at h

theorem o_rw {T1 t2 ti : TypeId} {d : D} {g : FuncId} {cs : List Bool} {x p : Nat} {dd r1 : Bool} {r2 : Int} {r3 : Nat} {r4 : Bool} (k a : Int) (w : Nat) (w2 : w ≤ 10) (full : Bool) (hx : x < 2 ^ w - 1) (hc : Eqn Tryz.prog o_b [.d (parD k a w)] [] (.d (.int .i64 0)) [])
  (hm : MethOK Tryz.prog ti "tallymark/chain.step" g) (E : Eqn Tryz.prog g [.d d, .p 0 0, .d (.int .i64 x)] [tapeO cs p dd] (.tup [.d (.bool r1), .d (.int .i64 r2)]) [tapeO cs r3 r4]) :
  Eqn Tryz.prog o_2f [.d (parD k a w), .d (.agg [.int .i64 x, .bool full]), .fn (.func o_3f) [.p 1 0, .p 2 0]] [tapeO cs p dd, ⟨T1, [.d (.ifc ti d)]⟩, ⟨t2, [.p 0 0]⟩] (.tup [.d (.agg [.int .i64 (if r1 then x + 1 else x : Nat), .bool full]), .d (.int .i64 r2)]) [tapeO cs r3 r4, ⟨T1, [.d (.ifc ti d)]⟩, ⟨t2, [.p 0 0]⟩] := by
 refine Eqn.obj3 o_3e (o_1 _ _) ⟨rfl, fun _ => rfl⟩ ⟨rfl, fun _ => rfl⟩ ?_
 have ht := o_14 k a w w2 hc
 have h2 : 2 ^ w - 1 ≤ 1023 := by have := Nat.pow_le_pow_right (n := 2) (by omega) w2; omega
 simp only [o_2g, parD] at ht ⊢
 generalize 2 ^ w - 1 = S at *
 have g1 : ¬ x = S := by omega
 have g2 : ¬ (x : Int) = S := by omega
 have ew : IntKind.i64.wrap ((x : Int) + 1) = (x : Int) + 1 := w64 (by omega) (by omega)
 have ha := o_ru (T1 := T1) (t2 := t2) hm E
 refine G0B ?_; try with_reducible exact tt
 refine CallS.pu (ht) (R0B ?_); try with_reducible exact tt
 refine AW.cond rfl (fun h => ?_) (fun h => ?_)
 ·simp [g1, g2] at h
 clear h
 refine G0B ?_; try with_reducible exact tt
 refine CallS.obj3 0 1 2 (ha) (by first | exact o_0 _ | exact o_1 _ _ | exact o_7c _ _ _) ⟨rfl, fun _ => rfl⟩ ⟨rfl, fun _ => rfl⟩ ⟨rfl, fun _ => rfl⟩ rfl (by rfl) (by rfl) (by rfl) (by decide) (Subs.of (by simp)) (R0B ?_); try with_reducible exact tt
 cases r1 with
 | true =>
  refine AW.cond rfl (fun h => ?_) (fun h => ?_)
  ·refine G1B ew ?_; try with_reducible exact tt
  ·simp at h
 | false =>
  refine AW.cond rfl (fun h => ?_) (fun h => ?_)
  ·simp at h
  ·refine G1B ew ?_; try with_reducible exact tt
end
end Go.Proofs.YtijbgbpjionfjaaGreatDoor.Am
namespace Go.Proofs.YtijbgbpjionfjaaGreatDoor.Am
section
open Go.RowKit
/-- a step at a place -/
def stepG (cs : List Bool) (d k : Int) (p : Nat) (dd : Bool) : Bool × Int × Nat × Bool := if wrongZ d [k] = 0 then halfR cs (k.toNat / 2 ^ d.toNat) p dd else (false, wrongZ d [k], p, dd)

theorem o_rx (cs : List Bool) (d k : Int) (p : Nat) (dd : Bool) (hp0 : p ≤ cs.length) (hn : cs.length ≤ 4000000) :
  Eqn Tryz.prog o_ge [.p 0 0, .d (.int .i64 d), .d (.int .i64 k)] [tapeO cs p dd] (.tup [.d (.bool (stepG cs d k p dd).1), .d (.int .i64 (stepG cs d k p dd).2.1)]) [tapeO cs (stepG cs d k p dd).2.2.1 (stepG cs d k p dd).2.2.2] := by
 refine Eqn.obj1 o_oo (o_1 _ _) ⟨rfl, fun _ => rfl⟩ ?_
 simp only [o_gf]
 refine G0B ?_; try with_reducible exact tt
 refine CallS.pf 1 1 ⟨3, _⟩ [.int .i64 k] (o_hh d k) (by first | rfl | (simp; done)) (R0 ?_); try with_reducible exact tt
 by_cases h : wrongZ d [k] = 0
 ·obtain ⟨h1, h2, h3, h4⟩ := o_q9 h
  obtain ⟨d, rfl⟩ : ∃ n : Nat, d = n := ⟨d.toNat, by omega⟩
  obtain ⟨k, rfl⟩ : ∃ n : Nat, k = n := ⟨k.toNat, by omega⟩
  simp only [stepG, h, if_true]
  have hpt := o_3t d k (by omega) (by omega)
  have hu : k / 2 ^ d ≤ k := Nat.div_le_self _ _
  simp only [Int.toNat_natCast]
  generalize k / 2 ^ d = u at hpt hu ⊢
  generalize partV d k = v at hpt
  refine AW.cond rfl (fun h => ?_) (fun h => ?_)
  ·simp [*] at h
  refine G0 ?_; try with_reducible exact tt
  refine CallS.pu (hpt) (R0 ?_); try with_reducible exact tt
  have hh := o_2n cs p dd u (by omega) hp0 hn
  rw [Int.toNat_natCast] at hh
  generalize halfR cs u p dd = r at hh ⊢
  obtain ⟨r1, r2, r3, r4⟩ := r
  simp only at hh ⊢
  refine CallS.o1 0 (hh) (R0 ?_); try with_reducible exact tt
 ·simp only [stepG, h, if_false]
  refine AW.cond rfl (fun h => ?_) (fun h => ?_)
  ·refine G0 ?_; try with_reducible exact tt
  ·simp [*] at h


theorem o_ry (cs : List Bool) (a k : Int) (p : Nat) (dd : Bool) (hp : p ≤ cs.length) (hn : cs.length ≤ 4000000) :
  Eqn Tryz.prog o_70 [.d (.int .i64 a), .p 0 0, .d (.int .i64 k)] [tapeO cs p dd] (.tup [.d (.bool (stepG cs a k p dd).1), .d (.int .i64 (stepG cs a k p dd).2.1)]) [tapeO cs (stepG cs a k p dd).2.2.1 (stepG cs a k p dd).2.2.2] := by
 refine Eqn.obj1 o_ok (o_1 _ _) ⟨rfl, fun _ => rfl⟩ ?_
 simp only [o_g9]
 have hh := o_rx cs a k p dd hp hn
 generalize stepG cs a k p dd = R at *
 obtain ⟨R1, R2, R3, R4⟩ := R
 simp only at hh ⊢
 refine G0B ?_; try with_reducible exact tt
 refine CallS.o1 0 (hh) (R0B ?_); try with_reducible exact tt
/-- a step at a place -/
def stepYG (cs : List Bool) (s k : Int) (q : Nat) (dd : Bool) : Bool × Int × Nat × Bool := if atE s k = 0 then halfR cs (atP s k).shift q dd else (false, atE s k, q, dd)
theorem o_rz (cs : List Bool) (s k : Int) (q : Nat) (dd : Bool) (hp0 : q ≤ cs.length) (hn : cs.length ≤ 4000000) :
  Eqn Tryz.prog o_gq [.p 0 0, .d (.int .i64 s), .d (.int .i64 k)] [tapeO cs q dd] (.tup [.d (.bool (stepYG cs s k q dd).1), .d (.int .i64 (stepYG cs s k q dd).2.1)]) [tapeO cs (stepYG cs s k q dd).2.2.1 (stepYG cs s k q dd).2.2.2] := by
 refine Eqn.obj1 o_ox (o_1 _ _) ⟨rfl, fun _ => rfl⟩ ?_
 simp only [o_gr]
 have ha := o_rg s k
 have hsh := o_rn (s := s) (k := k)
 have hst : stepYG cs s k q dd = if atE s k = 0 then halfR cs (atP s k).shift q dd else (false, atE s k, q, dd) := rfl
 rw [hst]
 clear hst
 generalize atP s k = p at *
 obtain ⟨px, ps, pv, pr⟩ := p
 simp only [plD] at ha hsh ⊢
 generalize atE s k = e at *
 refine G0 ?_; try with_reducible exact tt
 refine CallS.pu (ha) (R0 ?_); try with_reducible exact tt
 by_cases h : e = 0
 ·subst h
  refine AW.cond rfl (fun h => ?_) (fun h => ?_)
  ·simp at h
  have hh := o_2n cs q dd ps (by have := hsh rfl; omega) hp0 hn
  rw [Int.toNat_natCast] at hh
  simp only [if_true]
  generalize halfR cs ps q dd = r at hh ⊢
  obtain ⟨r1, r2, r3, r4⟩ := r
  simp only at hh ⊢
  refine G0B ?_; try with_reducible exact tt
  refine CallS.o1 0 (hh) (R0B ?_); try with_reducible exact tt
 ·simp only [if_neg h]
  refine AW.cond rfl (fun h => ?_) (fun h => ?_)
  ·refine G0 ?_; try with_reducible exact tt
  ·simp [*] at h


theorem o_s0 (cs : List Bool) (a k : Int) (p : Nat) (dd : Bool) (hp : p ≤ cs.length) (hn : cs.length ≤ 4000000) :
  Eqn Tryz.prog o_76 [.d (.int .i64 a), .p 0 0, .d (.int .i64 k)] [tapeO cs p dd] (.tup [.d (.bool (stepYG cs a k p dd).1), .d (.int .i64 (stepYG cs a k p dd).2.1)]) [tapeO cs (stepYG cs a k p dd).2.2.1 (stepYG cs a k p dd).2.2.2] := by
 refine Eqn.obj1 o_ou (o_1 _ _) ⟨rfl, fun _ => rfl⟩ ?_
 simp only [o_gm]
 have hh := o_rz cs a k p dd hp hn
 generalize stepYG cs a k p dd = R at *
 obtain ⟨R1, R2, R3, R4⟩ := R
 simp only at hh ⊢
 refine G0B ?_; try with_reducible exact tt
 refine CallS.o1 0 (hh) (R0B ?_); try with_reducible exact tt
end
end Go.Proofs.YtijbgbpjionfjaaGreatDoor.Am
namespace Go.Proofs.YtijbgbpjionfjaaGreatDoor.Am
section
/-- what a kind's step does: of a place, of the tape's place; is it, the error, the tape behind it -/
abbrev StepT := Nat → Nat → Bool → Bool × Int × Nat × Bool
/-- so many steps: error, place, full, tape -/
def addL (st : StepT) (top : Nat) : Nat → Nat → Bool → Nat → Bool → Int × Nat × Bool × Nat × Bool
 | 0, x, f, p, d => (0, x, f, p, d)
 | n + 1, x, f, p, d =>
  if x = top then (0, x, true, p, d)
  else if (st x p d).2.1 = 0 then
   if f = true ∧ (if (st x p d).1 then x + 1 else x) = top then (0, top, f, (st x p d).2.2.1, (st x p d).2.2.2)
   else addL st top n (if (st x p d).1 then x + 1 else x) f (st x p d).2.2.1 (st x p d).2.2.2
  else ((st x p d).2.1, x, f, (st x p d).2.2.1, (st x p d).2.2.2)

theorem o_hv {st : StepT} {top : Nat} {N : Nat} (hst : ∀ x p d, p ≤ N → (st x p d).2.2.1 ≤ N) : ∀ (n x : Nat) (f : Bool) (p : Nat) (d : Bool), x ≤ top → p ≤ N → x ≤ (addL st top n x f p d).2.1 ∧ (addL st top n x f p d).2.1 ≤ top ∧ (addL st top n x f p d).2.2.2.1 ≤ N
 | 0, x, f, p, d, hx, hp => by simp [addL, hx, hp]
 | n + 1, x, f, p, d, hx, hp => by
  rw [addL]
  have := hst x p d hp
  by_cases h : x = top
  ·simp [h, hp]
  ·simp only [if_neg h]
   by_cases he : (st x p d).2.1 = 0
   ·simp only [if_pos he]
    have hz : x ≤ (if (st x p d).1 then x + 1 else x) ∧ (if (st x p d).1 then x + 1 else x) ≤ top := by split <;> omega
    generalize (if (st x p d).1 then x + 1 else x) = z at *
    split
    ·exact ⟨hx, Nat.le_refl _, this⟩
    ·have := o_hv hst n z f _ (st x p d).2.2.2 hz.2 this
     exact ⟨by omega, this.2⟩
   ·simp only [if_neg he]
    exact ⟨Nat.le_refl _, hx, this⟩
end
end Go.Proofs.YtijbgbpjionfjaaGreatDoor.Am
namespace Go.Proofs.YtijbgbpjionfjaaGreatDoor.Am
section
open Go.RowKit
/-- a kind's steps are so -/
structure StepOf (cs : List Bool) (ti : TypeId) (d : D) (g : FuncId) (st : StepT) : Prop where
 meth : MethOK Tryz.prog ti "tallymark/chain.step" g
 run : ∀ (x p : Nat) (dd : Bool), p ≤ cs.length → Eqn Tryz.prog g [.d d, .p 0 0, .d (.int .i64 x)] [tapeO cs p dd] (.tup [.d (.bool (st x p dd).1), .d (.int .i64 (st x p dd).2.1)]) [tapeO cs (st x p dd).2.2.1 (st x p dd).2.2.2]
 le : ∀ (x p : Nat) (dd : Bool), p ≤ cs.length → (st x p dd).2.2.1 ≤ cs.length

theorem o_s1 (cs : List Bool) (k a : Int) (w : Nat) (w2 : w ≤ 10) (ti : TypeId) (d : D) (g : FuncId) (st : StepT) (hst : StepOf cs ti d g st) (hk : kindD k a = .ifc ti d) (hc : Eqn Tryz.prog o_b [.d (parD k a w)] [] (.d (.int .i64 0)) [])
  (x : Nat) (hx : x ≤ 2 ^ w - 1) (f : Bool) (n : Nat) (m : Int) (hmx : max 0 m = (n : Int)) (hn : m ≤ 1048576) (p : Nat) (dd : Bool) (hp : p ≤ cs.length) (S : Int × Nat × Bool × Nat × Bool) (hS : S = addL st (2 ^ w - 1) n x f p dd) :
  Eqn Tryz.prog o_60 [.d (parD k a w), .p 0 0, .d (.agg [.int .i64 x, .bool f]), .d (.int .i64 m)] [tapeO cs p dd] (.tup [.d (.agg [.int .i64 (if S.1 = 0 then S.2.1 else x : Nat), .bool (if S.1 = 0 then S.2.2.1 else f)]), .d (.int .i64 S.1)]) [tapeO cs S.2.2.2.1 S.2.2.2.2] := by
 refine Eqn.obj1 o_mm (o_1 _ _) ⟨rfl, fun _ => rfl⟩ ?_
 have hat := o_hu k a w w2 x (by omega) (by omega) hc
 have hkd := o_1u k a w
 rw [hk] at hkd
 simp only [o_cm, parD] at hat ⊢
 refine G0B ?_; try with_reducible exact tt
 refine CallS.pf 5 1 ⟨3, _⟩ [.int .i64 x] (hat) (by first | rfl | (simp [-Bool.exists_bool]; done)) (R0B ?_); try with_reducible exact tt
 refine AW.cond rfl (fun h => ?_) (fun h => ?_)
 ·simp at h
 clear h
 have g1 : ¬ (1048576 : Int) < m := by omega
 have hnn : n ≤ 1048576 := by omega
 refine G1B g1 ?_; try with_reducible exact tt
 refine AW.cond rfl (fun h => ?_) (fun h => ?_)
 ·simp [g1] at h
 clear h
 refine G0B ?_; try with_reducible exact tt
 refine CallS.pu (hkd) (R1B hmx ?_); try with_reducible exact tt
 refine AW.loopT (α := Nat × Nat × Nat × Bool) 8 (fun s => [(31, .d (.int .i64 (s.1 : Int)))]) (fun s => [(0, tapeO cs s.2.2.1 s.2.2.2), (7, ⟨155, [.d (.int .i64 (s.2.1 : Nat)), .d (.bool f)]⟩)]) (fun s => s.1 ≤ n ∧ s.2.1 ≤ 2 ^ w - 1 ∧ s.2.2.1 ≤ cs.length ∧ S = addL st (2 ^ w - 1) (n - s.1) s.2.1 f s.2.2.1 s.2.2.2) (fun s => n - s.1) (0, x, p, dd) ?_ ?_ ⟨Nat.zero_le _, hx, hp, hS⟩ ?_ ?_ ?_
 ·simp
 ·simp
 ·simp
 ·simp
 rintro ⟨i, z, q, b⟩ ⟨hi, hz, hq, hS⟩
 simp only at hi hz hq hS
 simp [-Bool.exists_bool]
 have htop := o_14 k a w w2 hc
 have ho1 := fun T1 t2 => o_rv (T1 := T1) (t2 := t2) (ti := ti) (d := d) (cs := cs) (p := q) (dd := b) k a w w2 f hc
 have ho2 := fun T1 t2 (hlt : z < 2 ^ w - 1) => o_rw (T1 := T1) (t2 := t2) k a w w2 f hlt hc hst.meth (hst.run z q b hq)
 have hle := hst.le z q b hq
 have h2 : 2 ^ w - 1 ≤ 1023 := by have := Nat.pow_le_pow_right (n := 2) (by omega) w2; omega
 simp only [parD] at ho1 ho2 htop
 generalize 2 ^ w - 1 = W at *
 by_cases h : i = n
 ·subst h
  rw [Nat.sub_self, addL] at hS
  refine G0B ?_; try with_reducible exact tt
  refine AW.cond rfl (fun h => ?_) (fun h => ?_)
  ·simp at h
  refine AW.exit ?_
  (try (simp -implicitDefEqProofs [-Bool.exists_bool]; try simp (disch := omega) only [w64, wu64]))
  refine G0B ?_; try with_reducible exact tt
  simp [hS]
 ·have hlt : (i : Int) < n := by omega
  have hlt' : i < n := by omega
  obtain ⟨r, hr⟩ : ∃ r, n - i = r + 1 := ⟨n - i - 1, by omega⟩
  have ew : IntKind.i64.wrap ((i : Int) + 1) = (i : Int) + 1 := w64 (by omega) (by omega)
  rw [hr, addL] at hS
  refine G1B (fs hlt hlt') ?_; try with_reducible exact tt
  refine AW.cond rfl (fun h => ?_) (fun h => ?_)
  ·clear h
   by_cases hzt : z = W
   ·subst hzt
    rw [if_pos rfl] at hS
    refine G0B ?_; try with_reducible exact tt
    refine CallS.obj3 0 6 2 (ho1 _ _) (by first | exact o_0 _ | exact o_1 _ _ | exact o_7c _ _ _) ⟨rfl, fun _ => rfl⟩ ⟨rfl, fun _ => rfl⟩ ⟨rfl, fun _ => rfl⟩ rfl (by rfl) (by rfl) (by rfl) (by decide) (Subs.of (by simp)) (R0B ?_); try with_reducible exact tt
    refine AW.cond rfl (fun h => ?_) (fun h => ?_)
    ·simp at h
    clear h
    refine G0B ?_; try with_reducible exact tt
    refine CallS.pu (htop) (R0B ?_); try with_reducible exact tt
    refine AW.cond rfl (fun h => ?_) (fun h => ?_)
    ·refine AW.exit ?_
     (try (simp -implicitDefEqProofs [-Bool.exists_bool]; try simp (disch := omega) only [w64, wu64]))
     refine G0B ?_; try with_reducible exact tt
     simp [hS]
    ·simp at h
   ·rw [if_neg hzt] at hS
    have ho2 := fun T1 t2 => ho2 T1 t2 (by omega)
    generalize st z q b = R at *
    obtain ⟨r1, r2, r3, r4⟩ := R
    simp only at hS ho2 hle
    have hz' : (if r1 = true then z + 1 else z) ≤ W := by split <;> omega
    generalize (if r1 = true then z + 1 else z) = z' at *
    refine G0B ?_; try with_reducible exact tt
    refine CallS.obj3 0 6 2 (ho2 _ _) (by first | exact o_0 _ | exact o_1 _ _ | exact o_7c _ _ _) ⟨rfl, fun _ => rfl⟩ ⟨rfl, fun _ => rfl⟩ ⟨rfl, fun _ => rfl⟩ rfl (by rfl) (by rfl) (by rfl) (by decide) (Subs.of (by simp)) (R0B ?_); try with_reducible exact tt
    by_cases hr2 : r2 = 0
    ·subst hr2
     rw [if_pos rfl] at hS
     refine AW.cond rfl (fun h => ?_) (fun h => ?_)
     ·simp at h
     clear h
     cases f with
     | false =>
      rw [if_neg (by simp)] at hS
      refine G0B ?_; try with_reducible exact tt
      refine AW.cond rfl (fun h => ?_) (fun h => ?_)
      ·simp at h
      refine G1B ew ?_; try with_reducible exact tt
      exact ⟨i + 1, z', r3, r4, ⟨by omega, hz', hle, by rw [hS]; congr 1; omega⟩, by omega, by simp⟩
     | true =>
      refine G0B ?_; try with_reducible exact tt
      refine CallS.pu (htop) (R0B ?_); try with_reducible exact tt
      by_cases hb : z' = W
      ·rw [if_pos ⟨rfl, hb⟩] at hS
       subst hb
       refine AW.cond rfl (fun h => ?_) (fun h => ?_)
       ·refine AW.exit ?_
        (try (simp -implicitDefEqProofs [-Bool.exists_bool]; try simp (disch := omega) only [w64, wu64]))
        refine G0B ?_; try with_reducible exact tt
        simp [hS]
       ·simp at h
      ·rw [if_neg (by simp [hb])] at hS
       have hb' : ¬ (z' : Int) = W := by omega
       refine AW.cond rfl (fun h => ?_) (fun h => ?_)
       ·simp [hb, hb'] at h
       refine G1B ew ?_; try with_reducible exact tt
       exact ⟨i + 1, z', r3, r4, ⟨by omega, hz', hle, by rw [hS]; congr 1; omega⟩, by omega, by simp⟩
    ·rw [if_neg hr2] at hS
     refine AW.cond rfl (fun h => ?_) (fun h => ?_)
     ·refine G0B ?_; try with_reducible exact tt
      simp [hS, hr2]
     ·simp [hr2] at h
  ·simp [hlt'] at h
end
end Go.Proofs.YtijbgbpjionfjaaGreatDoor.Am
namespace Go.Proofs.YtijbgbpjionfjaaGreatDoor.Am
section
open Go.RowKit
theorem o_1f {cs : List Bool} : ∀ (k p : Nat) (dd : Bool), p ≤ cs.length → (halfR cs k p dd).2.2.1 ≤ cs.length
 | 0, p, dd, h => h
 | k + 1, p, dd, h => by
  rw [halfR]
  split
  ·exact o_1f k _ _ (o_p h)
  ·exact o_p h
theorem o_41 {cs : List Bool} {a q : Nat} : ∀ (k p : Nat) (dd : Bool), p ≤ cs.length → (powerR cs a q k p dd).2.2.1 ≤ cs.length
 | 0, p, dd, h => h
 | k + 1, p, dd, h => by
  rw [powerR]
  split
  ·exact o_41 k _ _ (o_7f h)
  ·exact o_7f h
theorem o_s2 {cs : List Bool} {a k : Int} {p : Nat} {dd : Bool} (h : p ≤ cs.length) : (stepM cs a k p dd).2.2.1 ≤ cs.length := by
 unfold stepM; split
 ·exact o_41 _ _ _ h
 ·exact h
theorem o_s3 {cs : List Bool} {a k : Int} {p : Nat} {dd : Bool} (h : p ≤ cs.length) : (stepG cs a k p dd).2.2.1 ≤ cs.length := by
 unfold stepG; split
 ·exact o_1f _ _ _ h
 ·exact h
theorem o_s4 {cs : List Bool} {a k : Int} {p : Nat} {dd : Bool} (h : p ≤ cs.length) : (stepYG cs a k p dd).2.2.1 ≤ cs.length := by
 unfold stepYG; split
 ·exact o_1f _ _ _ h
 ·exact h

/-- what the kinds do -/
def stOf (cs : List Bool) (k a : Int) : StepT := fun x p dd => if k = 1 then stepM cs a x p dd else if k = 2 then stepG cs a x p dd else stepYG cs a x p dd
/-- a parameter of a few places that may be -/
def GoodS (k a w : Nat) : Prop := (k = 1 ∧ 1 ≤ a ∧ a ≤ 4 ∨ k = 2 ∧ a ≤ 1 ∨ k = 3 ∧ 1 ≤ a ∧ a ≤ 2) ∧ 1 ≤ w ∧ w ≤ 4

theorem o_s5 (k m : Int) (hm : 0 < m) : -m < k.tmod m ∧ k.tmod m < m := by
 refine ⟨?_, Int.tmod_lt_of_pos _ hm⟩
 rcases (by omega : k < 0 ∨ 0 ≤ k) with h | h
 ·have := Int.tmod_lt_of_pos (-k) hm
  rw [Int.neg_tmod] at this
  omega
 ·have := Int.tmod_nonneg m h
  omega
theorem o_s6 (k m : Int) (hm : 0 < m) (hm2 : m ≤ 4611686018427387904) : IntKind.i64.wrap (k.tmod m + m) = k.tmod m + m ∧ ∃ r : Nat, (k.tmod m + m).tmod m = r ∧ r < m ∧ IntKind.i64.wrap (1 + (r : Int)) = ((1 + r : Nat) : Int) := by
 have h := o_s5 k m hm
 have h0 : 0 ≤ k.tmod m + m := by omega
 refine ⟨w64 (by omega) (by omega), ?_⟩
 have h1 := Int.tmod_nonneg m h0
 have h2 := Int.tmod_lt_of_pos (k.tmod m + m) hm
 obtain ⟨r, hr⟩ : ∃ r : Nat, (k.tmod m + m).tmod m = r := ⟨((k.tmod m + m).tmod m).toNat, by omega⟩
 exact ⟨r, hr, by omega, by rw [w64 (by omega) (by omega)]; omega⟩
theorem o_v (k : Int) (m : Nat) (hm : m ≤ 4611686018427387904) : ∃ n : Nat, bits BinOp.and IntKind.i64 k (m : Int) = n ∧ n ≤ m ∧ IntKind.i64.wrap (1 + (n : Int)) = ((1 + n : Nat) : Int) := by
 refine ⟨(BitVec.ofInt 64 k).toNat &&& m, ?_, Nat.and_le_right, ?_⟩
 ·have hm' : m % 2 ^ 64 = m := Nat.mod_eq_of_lt (by omega)
  have hle : (BitVec.ofInt 64 k).toNat &&& m ≤ m := Nat.and_le_right
  show IntKind.i64.wrap (((BitVec.ofInt 64 k) &&& (BitVec.ofInt 64 (m : Int))).toNat : Int) = _
  rw [BitVec.toNat_and, BitVec.ofInt_natCast, BitVec.toNat_ofNat, hm']
  generalize (BitVec.ofInt 64 k).toNat &&& m = n at *
  exact w64 (by omega) (by omega)
 ·have hle : (BitVec.ofInt 64 k).toNat &&& m ≤ m := Nat.and_le_right
  generalize (BitVec.ofInt 64 k).toNat &&& m = n at *
  rw [w64 (by omega) (by omega)]; omega
end
end Go.Proofs.YtijbgbpjionfjaaGreatDoor.Am
namespace Go.Proofs.YtijbgbpjionfjaaGreatDoor.Am
section
open Go.RowKit
/-- what a step at r is at x, of a kind -/
abbrev AgT := Nat → Nat → Nat → Bool → Bool × Int × Nat × Bool
def agOf (cs : List Bool) (k a : Nat) : AgT := fun x r p dd => if k = 1 then powerR cs a (a + 1) (x - r) p dd else if k = 2 then halfR cs (x / 2 ^ a - r / 2 ^ a) p dd else halfR cs ((placeY a x).shift - (placeY a r).shift) p dd

theorem all2 {d k r : Nat} (hd : 1 ≤ d ∧ d ≤ 4096) (hk : k ≤ 1023) (hr : r ≤ 1023) : wrongM d [(k : Int), (r : Int)] = 0 := by
 unfold wrongM
 rw [if_pos (by omega)]
 simp [okK]; omega
theorem o_s7 (cs : List Bool) (a k r p : Nat) (dd : Bool) (h1 : 1 ≤ a) (h2 : a ≤ 4096) (hk : k ≤ 1023) (hr : r ≤ 1023) (hp : p ≤ cs.length) (hn : cs.length ≤ 4000000) :
  Eqn Tryz.prog o_6u [.p 0 0, .d (.int .i64 a), .d (.int .i64 k), .d (.int .i64 r)] [tapeO cs p dd] (.tup [.d (.bool (powerR cs a (a + 1) (k - r) p dd).1), .d (.int .i64 (powerR cs a (a + 1) (k - r) p dd).2.1)]) [tapeO cs (powerR cs a (a + 1) (k - r) p dd).2.2.1 (powerR cs a (a + 1) (k - r) p dd).2.2.2] := by
 refine Eqn.obj1 o_o9 (o_1 _ _) ⟨rfl, fun _ => rfl⟩ ?_
 simp only [o_fq]
 have hw := o_hl a [(k : Int), (r : Int)] (by simp)
 rw [all2 ⟨h1, h2⟩ hk hr] at hw
 have hh := o_hm cs a ((k : Int) - r) p dd h1 h2 (by omega) hp hn
 rw [show ((k : Int) - r).toNat = k - r by omega] at hh
 generalize powerR cs a (a + 1) (k - r) p dd = R at *
 obtain ⟨R1, R2, R3, R4⟩ := R
 simp only at hh ⊢
 have ew : IntKind.i64.wrap ((k : Int) - r) = (k : Int) - r := w64 (by omega) (by omega)
 refine G0B ?_; try with_reducible exact tt
 refine CallS.pf 1 1 ⟨3, _⟩ [.int .i64 k, .int .i64 r] (hw) (by first | rfl | (simp [-Bool.exists_bool]; done)) (R0B ?_); try with_reducible exact tt
 refine AW.cond rfl (fun h => ?_) (fun h => ?_)
 ·simp at h
 refine G1B ew ?_; try with_reducible exact tt
 try simp only [ew]
 refine CallS.o1 0 (hh) (R0B ?_); try with_reducible exact tt

theorem all2f {d k r : Nat} (hd : d ≤ 8) (hk : k ≤ 1023) (hr : r ≤ 1023) : wrongZ d [(k : Int), (r : Int)] = 0 := by
 unfold wrongZ
 rw [if_pos (by omega)]
 simp [okK]; omega
theorem o_s8 (cs : List Bool) (d k j p : Nat) (dd : Bool) (h1 : d ≤ 8) (hk : k ≤ 1023) (hr : j ≤ 1023) (hp0 : p ≤ cs.length) (hn : cs.length ≤ 4000000) (R : Bool × Int × Nat × Bool) (hR : R = halfR cs (k / 2 ^ d - j / 2 ^ d) p dd) :
  Eqn Tryz.prog o_72 [.p 0 0, .d (.int .i64 d), .d (.int .i64 k), .d (.int .i64 j)] [tapeO cs p dd] (.tup [.d (.bool R.1), .d (.int .i64 R.2.1)]) [tapeO cs R.2.2.1 R.2.2.2] := by
 refine Eqn.obj1 o_om (o_1 _ _) ⟨rfl, fun _ => rfl⟩ ?_
 simp only [o_gb]
 have hw := o_q8 d k j
 rw [all2f h1 hk hr] at hw
 have hq := o_3t d k (by omega) (by omega)
 have hq' := o_3t d j (by omega) (by omega)
 have hu : k / 2 ^ d ≤ k := Nat.div_le_self _ _
 have hu' : j / 2 ^ d ≤ j := Nat.div_le_self _ _
 generalize k / 2 ^ d = u at *
 generalize j / 2 ^ d = u' at *
 generalize partV d k = v at hq
 generalize partV d j = v' at hq'
 have ew : IntKind.i64.wrap ((u : Int) - u') = (u : Int) - u' := w64 (by omega) (by omega)
 have hh := o_2n cs p dd ((u : Int) - u') (by omega) hp0 hn
 rw [show ((u : Int) - u').toNat = u - u' by omega, ← hR] at hh
 clear hR
 obtain ⟨r1, r2, r3, r4⟩ := R
 simp only at hh ⊢
 refine G0B ?_; try with_reducible exact tt
 refine CallS.pf 1 1 ⟨3, _⟩ [.int .i64 k, .int .i64 j] (hw) (by first | rfl | (simp [-Bool.exists_bool]; done)) (R0B ?_); try with_reducible exact tt
 refine AW.cond rfl (fun h => ?_) (fun h => ?_)
 ·simp at h
 refine G0B ?_; try with_reducible exact tt
 refine CallS.pu (hq) (R0B ?_); try with_reducible exact tt
 refine CallS.pu (hq') (R0B ?_); try with_reducible exact tt
 try simp only [ew]
 refine CallS.o1 0 (hh) (R0B ?_); try with_reducible exact tt

theorem o_s9 (cs : List Bool) (s k j p : Nat) (dd : Bool) (h1 : 1 ≤ s) (h2 : s ≤ 5) (hk : k ≤ 1023) (hr : j ≤ 1023) (hp0 : p ≤ cs.length) (hn : cs.length ≤ 4000000) (R : Bool × Int × Nat × Bool) (hR : R = halfR cs ((placeY s k).shift - (placeY s j).shift) p dd) :
  Eqn Tryz.prog o_77 [.p 0 0, .d (.int .i64 s), .d (.int .i64 k), .d (.int .i64 j)] [tapeO cs p dd] (.tup [.d (.bool R.1), .d (.int .i64 R.2.1)]) [tapeO cs R.2.2.1 R.2.2.2] := by
 refine Eqn.obj1 o_ov (o_1 _ _) ⟨rfl, fun _ => rfl⟩ ?_
 simp only [o_gn]
 have ha := o_7j s k h1 h2 hk
 have hb := o_7j s j h1 h2 hr
 have b1 : (placeY s k).shift ≤ 8192 := (o_3y (s := s) (k := k) (by omega) (by omega) (by omega)).2.1
 have b2 : (placeY s j).shift ≤ 8192 := (o_3y (s := s) (k := j) (by omega) (by omega) (by omega)).2.1
 generalize placeY s k = P at *
 generalize placeY s j = q at *
 obtain ⟨px, ps, pv, pr⟩ := P
 obtain ⟨qx, qs, qv, qr⟩ := q
 simp only [plD] at ha hb b1 b2 hR
 have ew : IntKind.i64.wrap ((ps : Int) - qs) = (ps : Int) - qs := w64 (by omega) (by omega)
 have hh := o_2n cs p dd ((ps : Int) - qs) (by omega) hp0 hn
 rw [show ((ps : Int) - qs).toNat = ps - qs by omega, ← hR] at hh
 clear hR
 obtain ⟨r1, r2, r3, r4⟩ := R
 simp only at hh ⊢
 refine G0B ?_; try with_reducible exact tt
 refine CallS.pu (ha) (R0B ?_); try with_reducible exact tt
 refine AW.cond rfl (fun h => ?_) (fun h => ?_)
 ·simp at h
 refine G0B ?_; try with_reducible exact tt
 refine CallS.pu (hb) (R0B ?_); try with_reducible exact tt
 refine AW.cond rfl (fun h => ?_) (fun h => ?_)
 ·simp at h
 refine G1B ew ?_; try with_reducible exact tt
 try simp only [ew]
 refine CallS.o1 0 (hh) (R0B ?_); try with_reducible exact tt

/-- a kind's steps elsewhere are so -/
structure AgainOf (cs : List Bool) (ti : TypeId) (d : D) (g : FuncId) (ag : AgT) : Prop where
 meth : MethOK Tryz.prog ti "tallymark/chain.again" g
 run : ∀ (x r p : Nat) (dd : Bool), x ≤ 1023 → r ≤ 1023 → p ≤ cs.length → Eqn Tryz.prog g [.d d, .p 0 0, .d (.int .i64 x), .d (.int .i64 r)] [tapeO cs p dd] (.tup [.d (.bool (ag x r p dd).1), .d (.int .i64 (ag x r p dd).2.1)]) [tapeO cs (ag x r p dd).2.2.1 (ag x r p dd).2.2.2]
 le : ∀ (x r p : Nat) (dd : Bool), p ≤ cs.length → (ag x r p dd).2.2.1 ≤ cs.length

theorem o_sa : MethOK Tryz.prog 245 "tallymark/chain.again" o_6r := fun v w => by kernel_rfl
theorem o_sb : MethOK Tryz.prog 246 "tallymark/chain.again" o_6y := fun v w => by kernel_rfl
theorem o_sc : MethOK Tryz.prog 247 "tallymark/chain.again" o_74 := fun v w => by kernel_rfl

theorem o_sd (cs : List Bool) (a k r p : Nat) (dd : Bool) (R : Bool × Int × Nat × Bool) (hh : Eqn Tryz.prog o_6u [.p 0 0, .d (.int .i64 a), .d (.int .i64 k), .d (.int .i64 r)] [tapeO cs p dd] (.tup [.d (.bool R.1), .d (.int .i64 R.2.1)]) [tapeO cs R.2.2.1 R.2.2.2]) :
  Eqn Tryz.prog o_6r [.d (.int .i64 a), .p 0 0, .d (.int .i64 k), .d (.int .i64 r)] [tapeO cs p dd] (.tup [.d (.bool R.1), .d (.int .i64 R.2.1)]) [tapeO cs R.2.2.1 R.2.2.2] := by
 refine Eqn.obj1 o_o6 (o_1 _ _) ⟨rfl, fun _ => rfl⟩ ?_
 simp only [o_fn]
 obtain ⟨R1, R2, R3, R4⟩ := R
 simp only at hh ⊢
 refine G0B ?_; try with_reducible exact tt
 refine CallS.o1 0 (hh) (R0B ?_); try with_reducible exact tt
theorem o_se (cs : List Bool) (a k r p : Nat) (dd : Bool) (R : Bool × Int × Nat × Bool) (hh : Eqn Tryz.prog o_72 [.p 0 0, .d (.int .i64 a), .d (.int .i64 k), .d (.int .i64 r)] [tapeO cs p dd] (.tup [.d (.bool R.1), .d (.int .i64 R.2.1)]) [tapeO cs R.2.2.1 R.2.2.2]) :
  Eqn Tryz.prog o_6y [.d (.int .i64 a), .p 0 0, .d (.int .i64 k), .d (.int .i64 r)] [tapeO cs p dd] (.tup [.d (.bool R.1), .d (.int .i64 R.2.1)]) [tapeO cs R.2.2.1 R.2.2.2] := by
 refine Eqn.obj1 o_oi (o_1 _ _) ⟨rfl, fun _ => rfl⟩ ?_
 simp only [o_g7]
 obtain ⟨R1, R2, R3, R4⟩ := R
 simp only at hh ⊢
 refine G0B ?_; try with_reducible exact tt
 refine CallS.o1 0 (hh) (R0B ?_); try with_reducible exact tt
theorem o_sf (cs : List Bool) (a k r p : Nat) (dd : Bool) (R : Bool × Int × Nat × Bool) (hh : Eqn Tryz.prog o_77 [.p 0 0, .d (.int .i64 a), .d (.int .i64 k), .d (.int .i64 r)] [tapeO cs p dd] (.tup [.d (.bool R.1), .d (.int .i64 R.2.1)]) [tapeO cs R.2.2.1 R.2.2.2]) :
  Eqn Tryz.prog o_74 [.d (.int .i64 a), .p 0 0, .d (.int .i64 k), .d (.int .i64 r)] [tapeO cs p dd] (.tup [.d (.bool R.1), .d (.int .i64 R.2.1)]) [tapeO cs R.2.2.1 R.2.2.2] := by
 refine Eqn.obj1 o_os (o_1 _ _) ⟨rfl, fun _ => rfl⟩ ?_
 simp only [o_gk]
 obtain ⟨R1, R2, R3, R4⟩ := R
 simp only at hh ⊢
 refine G0B ?_; try with_reducible exact tt
 refine CallS.o1 0 (hh) (R0B ?_); try with_reducible exact tt
end
end Go.Proofs.YtijbgbpjionfjaaGreatDoor.Am
namespace Go.Proofs.YtijbgbpjionfjaaGreatDoor.Am
section
open Go.RowKit
/-- the closure that asks what a step is here -/
theorem o_sg {T1 t2 T3 ti : TypeId} {d : D} {g : FuncId} {cs : List Bool} {k r : Int} {p : Nat} {dd r1 : Bool} {r2 : Int} {r3 : Nat} {r4 : Bool} (hm : MethOK Tryz.prog ti "tallymark/chain.again" g)
  (E : Eqn Tryz.prog g [.d d, .p 0 0, .d (.int .i64 k), .d (.int .i64 r)] [tapeO cs p dd] (.tup [.d (.bool r1), .d (.int .i64 r2)]) [tapeO cs r3 r4]) :
  Eqn Tryz.prog o_3i [.d (.int .i64 k), .p 1 0, .p 2 0, .p 3 0] [tapeO cs p dd, ⟨T1, [.d (.ifc ti d)]⟩, ⟨t2, [.p 0 0]⟩, ⟨T3, [.d (.int .i64 r)]⟩] (.tup [.d (.bool r1), .d (.int .i64 r2)]) [tapeO cs r3 r4, ⟨T1, [.d (.ifc ti d)]⟩, ⟨t2, [.p 0 0]⟩, ⟨T3, [.d (.int .i64 r)]⟩] := by
 refine Eqn.gen [0, 1, 2, 3] o_nq (by simp) (by simp) (by rfl) (by decide) (by simp) (by simp) ?_
 simp only [o_es]
 refine G0B ?_; try with_reducible exact tt
 refine ⟨_, hm, ?_⟩
 refine CallS.o1 0 (E) (R0B ?_); try with_reducible exact tt

/-- one place on: at the top it is full -/
theorem o_sh {T1 t2 T3 ti : TypeId} {d : D} {cs : List Bool} {p : Nat} {dd : Bool} (k a r : Int) (w : Nat) (w2 : w ≤ 10) (full : Bool) (hc : Eqn Tryz.prog o_b [.d (parD k a w)] [] (.d (.int .i64 0)) []) :
  Eqn Tryz.prog o_2f [.d (parD k a w), .d (.agg [.int .i64 (2 ^ w - 1 : Nat), .bool full]), .fn (.func o_3i) [.p 1 0, .p 2 0, .p 3 0]] [tapeO cs p dd, ⟨T1, [.d (.ifc ti d)]⟩, ⟨t2, [.p 0 0]⟩, ⟨T3, [.d (.int .i64 r)]⟩] (.tup [.d (.agg [.int .i64 (2 ^ w - 1 : Nat), .bool true]), .d (.int .i64 0)]) [tapeO cs p dd, ⟨T1, [.d (.ifc ti d)]⟩, ⟨t2, [.p 0 0]⟩, ⟨T3, [.d (.int .i64 r)]⟩] := by
 refine Eqn.gen [0, 1, 2, 3] o_3e (by simp) (by simp) (by rfl) (by decide) (by simp) (by simp) ?_
 have ht := o_14 k a w w2 hc
 simp only [o_2g, parD] at ht ⊢
 generalize 2 ^ w - 1 = S at *
 refine G0B ?_; try with_reducible exact tt
 refine CallS.pu (ht) (R0B ?_); try with_reducible exact tt
 refine AW.cond rfl (fun h => ?_) (fun h => ?_)
 ·clear h
  refine G0B ?_; try with_reducible exact tt
 ·simp at h

theorem o_si {T1 t2 T3 ti : TypeId} {d : D} {g : FuncId} {cs : List Bool} {x p : Nat} {dd r1 : Bool} {r2 : Int} {r3 : Nat} {r4 : Bool} (k a r : Int) (w : Nat) (w2 : w ≤ 10) (full : Bool) (hx : x < 2 ^ w - 1) (hc : Eqn Tryz.prog o_b [.d (parD k a w)] [] (.d (.int .i64 0)) [])
  (hm : MethOK Tryz.prog ti "tallymark/chain.again" g) (E : Eqn Tryz.prog g [.d d, .p 0 0, .d (.int .i64 x), .d (.int .i64 r)] [tapeO cs p dd] (.tup [.d (.bool r1), .d (.int .i64 r2)]) [tapeO cs r3 r4]) :
  Eqn Tryz.prog o_2f [.d (parD k a w), .d (.agg [.int .i64 x, .bool full]), .fn (.func o_3i) [.p 1 0, .p 2 0, .p 3 0]] [tapeO cs p dd, ⟨T1, [.d (.ifc ti d)]⟩, ⟨t2, [.p 0 0]⟩, ⟨T3, [.d (.int .i64 r)]⟩] (.tup [.d (.agg [.int .i64 (if r1 then x + 1 else x : Nat), .bool full]), .d (.int .i64 r2)]) [tapeO cs r3 r4, ⟨T1, [.d (.ifc ti d)]⟩, ⟨t2, [.p 0 0]⟩, ⟨T3, [.d (.int .i64 r)]⟩] := by
 refine Eqn.gen [0, 1, 2, 3] o_3e (by simp) (by simp) (by rfl) (by decide) (by simp) (by simp) ?_
 have ht := o_14 k a w w2 hc
 have h2 : 2 ^ w - 1 ≤ 1023 := by have := Nat.pow_le_pow_right (n := 2) (by omega) w2; omega
 simp only [o_2g, parD] at ht ⊢
 generalize 2 ^ w - 1 = S at *
 have g1 : ¬ x = S := by omega
 have g2 : ¬ (x : Int) = S := by omega
 have ew : IntKind.i64.wrap ((x : Int) + 1) = (x : Int) + 1 := w64 (by omega) (by omega)
 have ha := o_sg (T1 := T1) (t2 := t2) (T3 := T3) hm E
 refine G0B ?_; try with_reducible exact tt
 refine CallS.pu (ht) (R0B ?_); try with_reducible exact tt
 refine AW.cond rfl (fun h => ?_) (fun h => ?_)
 ·simp [g1, g2] at h
 clear h
 refine G0B ?_; try with_reducible exact tt
 refine CallS.g [0, 1, 2, 3] (ha) (R0B ?_); try with_reducible exact tt
 cases r1 with
 | true =>
  refine AW.cond rfl (fun h => ?_) (fun h => ?_)
  ·refine G1B ew ?_; try with_reducible exact tt
  ·simp at h
 | false =>
  refine AW.cond rfl (fun h => ?_) (fun h => ?_)
  ·simp at h
  ·refine G1B ew ?_; try with_reducible exact tt

/-- so many steps asked again: error, place, full, tape -/
def mergeL (ag : AgT) (top : Nat) : Nat → Nat → Nat → Bool → Nat → Bool → Int × Nat × Bool × Nat × Bool
 | 0, _, x, f, p, d => (0, x, f, p, d)
 | n + 1, r, x, f, p, d =>
  if x = top then mergeL ag top n (r + 1) x true p d
  else if (ag x r p d).2.1 = 0 then mergeL ag top n (r + 1) (if (ag x r p d).1 then x + 1 else x) f (ag x r p d).2.2.1 (ag x r p d).2.2.2
  else ((ag x r p d).2.1, x, f, (ag x r p d).2.2.1, (ag x r p d).2.2.2)

theorem o_sj (k a : Int) (w : Nat) (w2 : w ≤ 10) (x y : Int) (h0 : 0 ≤ x) (h1 : x ≤ (2 ^ w - 1 : Nat)) (h2 : 0 ≤ y) (h3 : y ≤ (2 ^ w - 1 : Nat)) (hc : Eqn Tryz.prog o_b [.d (parD k a w)] [] (.d (.int .i64 0)) []) : Eqn Tryz.prog o_6d [.d (parD k a w), .d (.sl 2 [.int .i64 x, .int .i64 y])] [] (.d (.int .i64 0)) [] := by
 refine Eqn.pure o_dy (o_0 _) ?_
 have ht := o_14 k a w w2 hc
 simp only [o_6e, parD] at hc ht ⊢
 generalize 2 ^ w - 1 = S at *
 refine G0 ?_; try with_reducible exact tt
 refine CallS.pu (hc) (R0 ?_); try with_reducible exact tt
 refine AW.cond rfl (fun h => ?_) (fun h => ?_)
 ·simp at h
 refine G0 ?_; try with_reducible exact tt
 refine AW.loopT (α := Nat) 1 (fun i => [(15, .d (.int .i64 (i : Int)))]) (fun i => []) (fun i => i ≤ 2) (fun i => 2 - i) 0 ?_ ?_ (Nat.zero_le _) ?_ ?_ ?_
 ·simp
 ·simp
 ·simp
 ·simp
 rintro i hi
 simp
 have g1 : ¬ x < 0 := by omega
 have g2 : ¬ (S : Int) < x := by omega
 have g3 : ¬ y < 0 := by omega
 have g4 : ¬ (S : Int) < y := by omega
 by_cases h : i = 2
 ·subst h
  refine G0 ?_; try with_reducible exact tt
  refine AW.cond rfl (fun h => ?_) (fun h => ?_)
  ·simp at h
  refine AW.exit ?_
  (try (simp -implicitDefEqProofs; try simp (disch := omega) only [w64, wu64]))
  refine G0 ?_; try with_reducible exact tt
 ·have hi' : i = 0 ∨ i = 1 := by omega
  rcases hi' with rfl | rfl
  ·refine G0 ?_; try with_reducible exact tt
   refine AW.cond rfl (fun h => ?_) (fun h => ?_)
   ·refine G1 (fs g1 g2) ?_; try with_reducible exact tt
    refine CallS.pu (ht) (R1 (fs g1 g2) ?_); try with_reducible exact tt
    refine AW.cond rfl (fun h => ?_) (fun h => ?_)
    ·simp [g1, g2] at h
    have ew : IntKind.i64.wrap 1 = 1 := w64 (by omega) (by omega)
    refine G1 ew ?_; try with_reducible exact tt
    exact ⟨1, by omega, by omega, by simp⟩
   ·simp at h
  ·refine G0 ?_; try with_reducible exact tt
   refine AW.cond rfl (fun h => ?_) (fun h => ?_)
   ·refine G1 (fs g3 g4) ?_; try with_reducible exact tt
    refine CallS.pu (ht) (R1 (fs g3 g4) ?_); try with_reducible exact tt
    refine AW.cond rfl (fun h => ?_) (fun h => ?_)
    ·simp [g3, g4] at h
    have ew : IntKind.i64.wrap 2 = 2 := w64 (by omega) (by omega)
    refine G1 ew ?_; try with_reducible exact tt
    exact ⟨2, by omega, by omega, by simp⟩
   ·simp at h

theorem o_sk (cs : List Bool) (k a : Int) (w : Nat) (w2 : w ≤ 10) (ti : TypeId) (d : D) (g : FuncId) (ag : AgT) (hst : AgainOf cs ti d g ag) (hk : kindD k a = .ifc ti d) (hc : Eqn Tryz.prog o_b [.d (parD k a w)] [] (.d (.int .i64 0)) [])
  (x : Nat) (hx : x ≤ 2 ^ w - 1) (f : Bool) (n : Nat) (hn : n ≤ 2 ^ w - 1) (fo : Bool) (p : Nat) (dd : Bool) (hp : p ≤ cs.length) (S : Int × Nat × Bool × Nat × Bool) (hS : S = mergeL ag (2 ^ w - 1) n 0 x f p dd) :
  Eqn Tryz.prog o_66 [.d (parD k a w), .p 0 0, .d (.agg [.int .i64 x, .bool f]), .d (.agg [.int .i64 n, .bool fo])] [tapeO cs p dd] (.tup [.d (.agg [.int .i64 (if S.1 = 0 then S.2.1 else x : Nat), .bool (if S.1 = 0 then S.2.2.1 || fo else f)]), .d (.int .i64 S.1)]) [tapeO cs S.2.2.2.1 S.2.2.2.2] := by
 refine Eqn.obj1 o_mt (o_1 _ _) ⟨rfl, fun _ => rfl⟩ ?_
 have hat := o_sj k a w w2 x n (by omega) (by omega) (by omega) (by omega) hc
 have hkd := o_1u k a w
 rw [hk] at hkd
 simp only [o_cz, parD] at hat ⊢
 have hmx : ∀ (T1 t2 T3 : TypeId) (i z q : Nat) (b y : Bool), z < 2 ^ w - 1 → i ≤ 1023 → q ≤ cs.length → _ := fun T1 t2 T3 i z q b y hz hi hq => o_si (T1 := T1) (t2 := t2) (T3 := T3) k a i w w2 y hz hc hst.meth (hst.run z i q b (by have := Nat.pow_le_pow_right (n := 2) (by omega) w2; omega) hi hq)
 have hmt := fun (T1 t2 T3 : TypeId) (i q : Nat) (b y : Bool) => o_sh (T1 := T1) (t2 := t2) (T3 := T3) (ti := ti) (d := d) (cs := cs) (p := q) (dd := b) k a i w w2 y hc
 have hle := hst.le
 have h2 : 2 ^ w - 1 ≤ 1023 := by have := Nat.pow_le_pow_right (n := 2) (by omega) w2; omega
 simp only [parD] at hmx hmt
 generalize 2 ^ w - 1 = W at *
 refine G0B ?_; try with_reducible exact tt
 refine CallS.pf 6 1 ⟨3, _⟩ [.int .i64 x, .int .i64 n] (hat) (by first | rfl | (simp [-Bool.exists_bool]; done)) (R0B ?_); try with_reducible exact tt
 refine AW.cond rfl (fun h => ?_) (fun h => ?_)
 ·simp at h
 clear h
 refine G0B ?_; try with_reducible exact tt
 refine CallS.pu (hkd) (R0B ?_); try with_reducible exact tt
 refine AW.loopT (α := Nat × Nat × Bool × Nat × Bool) 9 (fun s => [(31, .d (.int .i64 (s.1 : Int)))]) (fun s => [(0, tapeO cs s.2.2.2.1 s.2.2.2.2), (8, ⟨155, [.d (.int .i64 (s.2.1 : Nat)), .d (.bool s.2.2.1)]⟩)]) (fun s => s.1 ≤ n ∧ s.2.1 ≤ W ∧ s.2.2.2.1 ≤ cs.length ∧ S = mergeL ag W (n - s.1) s.1 s.2.1 s.2.2.1 s.2.2.2.1 s.2.2.2.2) (fun s => n - s.1) (0, x, f, p, dd) ?_ ?_ ⟨Nat.zero_le _, hx, hp, hS⟩ ?_ ?_ ?_
 ·simp
 ·simp
 ·simp
 ·simp
 rintro ⟨i, z, y, q, b⟩ ⟨hi, hz, hq, hS⟩
 simp only at hi hz hq hS
 simp [-Bool.exists_bool]
 by_cases h : i = n
 ·subst h
  rw [Nat.sub_self, mergeL] at hS
  refine G0B ?_; try with_reducible exact tt
  refine AW.cond rfl (fun h => ?_) (fun h => ?_)
  ·simp at h
  refine AW.exit ?_
  (try (simp -implicitDefEqProofs [-Bool.exists_bool]; try simp (disch := omega) only [w64, wu64]))
  cases y with
  | true =>
   refine G0B ?_; try with_reducible exact tt
   simp [hS]
  | false =>
   refine G0B ?_; try with_reducible exact tt
   simp [hS]
 ·have hlt : (i : Int) < n := by omega
  have hlt' : i < n := by omega
  obtain ⟨r, hr⟩ : ∃ r, n - i = r + 1 := ⟨n - i - 1, by omega⟩
  have ew : IntKind.i64.wrap ((i : Int) + 1) = (i : Int) + 1 := w64 (by omega) (by omega)
  rw [hr, mergeL] at hS
  refine G1B (fs hlt hlt') ?_; try with_reducible exact tt
  refine AW.cond rfl (fun h => ?_) (fun h => ?_)
  ·clear h
   by_cases hzt : z = W
   ·subst hzt
    rw [if_pos rfl] at hS
    have hmt := fun T1 t2 T3 => hmt T1 t2 T3 i q b y
    refine G0B ?_; try with_reducible exact tt
    refine CallS.g [0, 7, 2, 9] (hmt _ _ _) (R0B ?_); try with_reducible exact tt
    refine AW.cond rfl (fun h => ?_) (fun h => ?_)
    ·simp at h
    refine G1B ew ?_; try with_reducible exact tt
    exact ⟨i + 1, z, true, q, b, ⟨by omega, hz, hq, by rw [hS]; congr 1; omega⟩, by omega, by simp⟩
   ·rw [if_neg hzt] at hS
    have hmx := fun T1 t2 T3 => hmx T1 t2 T3 i z q b y (by omega) (by omega) hq
    have hle := hle z i q b hq
    generalize ag z i q b = R at *
    obtain ⟨r1, r2, r3, r4⟩ := R
    simp only at hS hmx hle
    have hz' : (if r1 = true then z + 1 else z) ≤ W := by split <;> omega
    generalize (if r1 = true then z + 1 else z) = z' at *
    refine G0B ?_; try with_reducible exact tt
    refine CallS.g [0, 7, 2, 9] (hmx _ _ _) (R0B ?_); try with_reducible exact tt
    by_cases hr2 : r2 = 0
    ·subst hr2
     rw [if_pos rfl] at hS
     refine AW.cond rfl (fun h => ?_) (fun h => ?_)
     ·simp at h
     refine G1B ew ?_; try with_reducible exact tt
     exact ⟨i + 1, z', y, r3, r4, ⟨by omega, hz', hle, by rw [hS]; congr 1; omega⟩, by omega, by simp⟩
    ·rw [if_neg hr2] at hS
     refine AW.cond rfl (fun h => ?_) (fun h => ?_)
     ·refine G0B ?_; try with_reducible exact tt
      simp [hS, hr2]
     ·simp [hr2] at h
  ·simp [hlt'] at h
end
end Go.Proofs.YtijbgbpjionfjaaGreatDoor.Am
namespace Go.Proofs.YtijbgbpjionfjaaGreatDoor.Am
section
open Go.RowKit
/-- the document's answer, as data -/
def outD (p : Nat) (R : Bool × Int × Nat × Bool) : D := .agg [.bool R.1, .int .i64 (R.2.2.1 - p : Nat), .int .i64 R.2.1]
end
end Go.Proofs.YtijbgbpjionfjaaGreatDoor.Am
namespace Go.Proofs.YtijbgbpjionfjaaGreatDoor.Am
section
open Go.RowKit
end
end Go.Proofs.YtijbgbpjionfjaaGreatDoor.Am
namespace Go.Proofs.YtijbgbpjionfjaaGreatDoor.Am
section
open Go.RowKit
/-- with an error the tape is dead, and the answer no; else it isn't -/
structure Live (p : Nat) (R : Bool × Int × Nat × Bool) : Prop where
 err : R.2.1 = 0 ∨ R.2.1 = 8
 dead : R.2.2.2 = true ↔ R.2.1 ≠ 0
 no : R.2.1 ≠ 0 → R.1 = false
 le : p ≤ R.2.2.1

theorem Live.mono {p q : Nat} {R : Bool × Int × Nat × Bool} (h : Live q R) (hq : p ≤ q) : Live p R := ⟨h.err, h.dead, h.no, Nat.le_trans hq h.le⟩
theorem Live.ok {p : Nat} {R : Bool × Int × Nat × Bool} (h : Live p R) (h1 : R.2.1 = 0) : R.2.2.2 = false := by
 cases hd : R.2.2.2 with
 | false => rfl
 | true => exact absurd h1 (h.dead.1 hd)
end
end Go.Proofs.YtijbgbpjionfjaaGreatDoor.Am
namespace Go.Proofs.YtijbgbpjionfjaaGreatDoor.Am
section
open Go.RowKit
/-- 1 by 2 to the e -/
def halfD (e : Nat) : D := .agg [natW 1, .bool false, natW (2 ^ e - 1)]
/-- how small a chance is, of halves -/
def expOf (k a x : Nat) : Nat := if k = 2 then x / 2 ^ a else (placeY a x).shift
end
end Go.Proofs.YtijbgbpjionfjaaGreatDoor.Am
namespace Go.Proofs.YtijbgbpjionfjaaGreatDoor.Am
section
open Go.RowKit
end
end Go.Proofs.YtijbgbpjionfjaaGreatDoor.Am
namespace Go.Proofs.YtijbgbpjionfjaaGreatDoor.Am
section
open Go.RowKit
theorem o_sl (cs : List Bool) (k a x p : Nat) (dd : Bool) : (agOf cs k a x x p dd).1 = true := by
 unfold agOf
 split
 ·rw [Nat.sub_self]; rfl
 ·split
  ·rw [Nat.sub_self]; rfl
  ·rw [Nat.sub_self]; rfl
theorem o_sm {cs : List Bool} {k a x r p : Nat} {dd : Bool} (hp : p ≤ cs.length) : (agOf cs k a x r p dd).2.2.1 ≤ cs.length := by
 unfold agOf
 split
 ·exact o_41 _ _ _ hp
 ·split
  ·exact o_1f _ _ _ hp
  ·exact o_1f _ _ _ hp
end
end Go.Proofs.YtijbgbpjionfjaaGreatDoor.Am
namespace Go.Proofs.YtijbgbpjionfjaaGreatDoor.Am
section
/-- what an act of a counter comes to: error, counter, how often thinned, is it full; the tape's place, is it dead -/
structure TR where
 e : Int
 y : Nat
 t : Nat
 f : Bool
 p : Nat
 d : Bool
end
end Go.Proofs.YtijbgbpjionfjaaGreatDoor.Am
namespace Go.Proofs.YtijbgbpjionfjaaGreatDoor.Am
section
open Go.RowKit
theorem o_7k {cs : List Bool} : ∀ (k p : Nat) (dd : Bool), p ≤ cs.length → (halfR cs k p dd).2.2.1 ≤ cs.length
 | 0, p, dd, h => h
 | k + 1, p, dd, h => by
  rw [halfR]
  split
  ·exact o_7k k _ _ (o_p h)
  ·exact o_p h

/-- of n coins as many as are true -/
def binM (cs : List Bool) : Nat → Nat → Nat → Bool → Int × Nat × Nat × Bool
 | 0, c, p, d => (0, c, p, d)
 | n + 1, c, p, d => if flipE cs p d = 0 then binM cs n (if flipB cs p d then c + 1 else c) (flipP cs p d) (flipD cs p d) else (flipE cs p d, 0, flipP cs p d, flipD cs p d)
theorem o_7l (cs : List Bool) : ∀ (n c p : Nat) (d : Bool), p ≤ cs.length → (binM cs n c p d).2.2.1 ≤ cs.length ∧ (binM cs n c p d).2.1 ≤ c + n ∧ p ≤ (binM cs n c p d).2.2.1
 | 0, c, p, d, h => by simp [binM, h]
 | n + 1, c, p, d, h => by
  have hp := o_p (dd := d) h
  have hp2 : p ≤ flipP cs p d := by unfold flipP; split <;> omega
  rw [binM]
  split
  ·have := o_7l cs n (if flipB cs p d then c + 1 else c) (flipP cs p d) (flipD cs p d) hp
   refine ⟨this.1, ?_, by omega⟩
   have h2 := this.2.1
   revert h2
   split <;> omega
  ·exact ⟨hp, Nat.zero_le _, hp2⟩

/-- so many times thinned -/
def thinM (cs : List Bool) (f : Bool) : Nat → Nat → Nat → Nat → Bool → TR
 | 0, y, t, p, d => ⟨0, y, t, f, p, d⟩
 | n + 1, y, t, p, d => if (binM cs y 0 p d).1 = 0 then thinM cs f n (binM cs y 0 p d).2.1 (t + 1) (binM cs y 0 p d).2.2.1 (binM cs y 0 p d).2.2.2 else ⟨(binM cs y 0 p d).1, y, t, f, (binM cs y 0 p d).2.2.1, (binM cs y 0 p d).2.2.2⟩
theorem o_1g (cs : List Bool) (f : Bool) : ∀ (n y t p : Nat) (d : Bool), p ≤ cs.length → (thinM cs f n y t p d).p ≤ cs.length ∧ (thinM cs f n y t p d).y ≤ y ∧ t ≤ (thinM cs f n y t p d).t ∧ (thinM cs f n y t p d).t ≤ t + n ∧ ((thinM cs f n y t p d).e = 0 → (thinM cs f n y t p d).t = t + n) ∧ (thinM cs f n y t p d).f = f ∧ p ≤ (thinM cs f n y t p d).p
 | 0, y, t, p, d, h => by simp [thinM, h]
 | n + 1, y, t, p, d, h => by
  have hb := o_7l cs y 0 p d h
  rw [thinM]
  split
  ·have := o_1g cs f n (binM cs y 0 p d).2.1 (t + 1) (binM cs y 0 p d).2.2.1 (binM cs y 0 p d).2.2.2 hb.1
   refine ⟨this.1, by omega, by omega, by omega, fun h => by have := this.2.2.2.2.1 h; omega, this.2.2.2.2.2.1, by omega⟩
  ·rename_i he
   refine ⟨hb.1, by simp, by simp, by simp, fun h => absurd h he, rfl, hb.2.2⟩
/-- till it isn't too great -/
def downM (cs : List Bool) (most times : Nat) : Nat → Nat → Nat → Bool → Nat → Bool → TR
 | 0, y, t, f, p, d => ⟨0, y, t, f, p, d⟩
 | k + 1, y, t, f, p, d =>
  if most < y then
   if t = times then ⟨0, most, t, true, p, d⟩
   else if (thinM cs f 1 y t p d).e = 0 then downM cs most times k (thinM cs f 1 y t p d).y (thinM cs f 1 y t p d).t f (thinM cs f 1 y t p d).p (thinM cs f 1 y t p d).d
   else ⟨(thinM cs f 1 y t p d).e, y, t, f, (thinM cs f 1 y t p d).p, (thinM cs f 1 y t p d).d⟩
  else ⟨0, y, t, f, p, d⟩
theorem o_7m (cs : List Bool) (most times : Nat) : ∀ (k y t : Nat) (f : Bool) (p : Nat) (d : Bool), p ≤ cs.length → t ≤ times → times < t + k →
  (downM cs most times k y t f p d).p ≤ cs.length ∧ (downM cs most times k y t f p d).t ≤ times ∧ t ≤ (downM cs most times k y t f p d).t ∧ ((downM cs most times k y t f p d).e = 0 → (downM cs most times k y t f p d).y ≤ most) ∧ ((f = true → t = times) → (downM cs most times k y t f p d).f = true → (downM cs most times k y t f p d).t = times) ∧ p ≤ (downM cs most times k y t f p d).p
 | 0, y, t, f, p, d, h, h1, h2 => by omega
 | k + 1, y, t, f, p, d, h, h1, h2 => by
  rw [downM]
  have hb := o_1g cs f 1 y t p d h
  generalize thinM cs f 1 y t p d = B at *
  split
  ·split
   ·rename_i ht; exact ⟨h, h1, Nat.le_refl _, fun _ => Nat.le_refl _, fun _ _ => ht, Nat.le_refl _⟩
   ·split
    ·rename_i ht he
     have ht2 := hb.2.2.2.2.1 he
     have := o_7m cs most times k B.y B.t f B.p B.d hb.1 (by omega) (by omega)
     refine ⟨this.1, this.2.1, by omega, this.2.2.2.1, fun hf => this.2.2.2.2.1 (fun h => absurd (hf h) ht), by omega⟩
    ·rename_i ht he
     exact ⟨hb.1, h1, Nat.le_refl _, fun h => absurd h he, fun hf h => hf h, hb.2.2.2.2.2.2⟩
  ·rename_i hy
   exact ⟨h, h1, Nat.le_refl _, fun _ => by show y ≤ most; omega, fun hf h => hf h, Nat.le_refl _⟩
/-- one more -/
def oneM (cs : List Bool) (most times y t : Nat) (f : Bool) (p : Nat) (d : Bool) : TR :=
 if (halfR cs t p d).1 then downM cs most times (times - t + 1) (y + 1) t f (halfR cs t p d).2.2.1 (halfR cs t p d).2.2.2
 else ⟨(halfR cs t p d).2.1, y, t, f, (halfR cs t p d).2.2.1, (halfR cs t p d).2.2.2⟩
/-- n more -/
def addTM (cs : List Bool) (most times : Nat) : Nat → Nat → Nat → Bool → Nat → Bool → TR
 | 0, y, t, f, p, d => ⟨0, y, t, f, p, d⟩
 | n + 1, y, t, f, p, d => if (oneM cs most times y t f p d).e = 0 then addTM cs most times n (oneM cs most times y t f p d).y (oneM cs most times y t f p d).t (oneM cs most times y t f p d).f (oneM cs most times y t f p d).p (oneM cs most times y t f p d).d else oneM cs most times y t f p d
/-- both in one -/
def mergeTM (cs : List Bool) (most times y t : Nat) (f : Bool) (z u : Nat) (g : Bool) (p : Nat) (d : Bool) : TR :=
 let A := thinM cs f (u - t) y t p d
 if A.e = 0 then
  let B := thinM cs g (t - u) z u A.p A.d
  if B.e = 0 then downM cs most times (times - A.t + 1) (A.y + B.y) A.t (f || g) B.p B.d else B
 else A

theorem o_sn (cs : List Bool) (n p : Nat) (d : Bool) (hn : n ≤ 4000000) (hp : p ≤ cs.length) (hc : cs.length ≤ 4000000) :
  Eqn Tryz.prog o_fh [.p 0 0, .d (.int .i64 n)] [tapeO cs p d] (.tup [.d (.int .i64 (binM cs n 0 p d).2.1), .d (.int .i64 (binM cs n 0 p d).1)]) [tapeO cs (binM cs n 0 p d).2.2.1 (binM cs n 0 p d).2.2.2] := by
 refine Eqn.obj1 o_o3 Plain.ok ⟨rfl, fun _ => rfl⟩ ?_
 obtain ⟨R, hR⟩ : ∃ R, R = binM cs n 0 p d := ⟨_, rfl⟩
 rw [← hR]
 have e0 : max 0 (n : Int) = n := by omega
 simp only [o_fi]
 refine G1B e0 ?_; try with_reducible exact tt
 refine AW.loopT (α := Nat × Nat × Nat × Bool) 1 (fun s => [(11, .d (.int .i64 (s.1 : Int))), (6, .d (.int .i64 (s.2.1 : Int)))]) (fun s => [(0, tapeO cs s.2.2.1 s.2.2.2)]) (fun s => s.1 ≤ n ∧ s.2.1 ≤ s.1 ∧ s.2.2.1 ≤ cs.length ∧ R = binM cs (n - s.1) s.2.1 s.2.2.1 s.2.2.2) (fun s => n - s.1) (0, 0, p, d) ?_ ?_ ⟨Nat.zero_le _, Nat.le_refl _, hp, hR⟩ ?_ ?_ ?_
 ·simp
 ·simp
 ·simp
 ·simp
 clear hR
 rintro ⟨i, c, q, dd⟩ ⟨hi, hci, hq, hR⟩
 simp only at hi hci hq hR
 simp [-Bool.exists_bool]
 by_cases h : i = n
 ·subst h
  rw [Nat.sub_self, binM] at hR
  refine G0B ?_; try with_reducible exact tt
  refine AW.cond rfl (fun h => ?_) (fun h => ?_)
  ·simp at h
  refine G0B ?_; try with_reducible exact tt
  simp [hR]
 ·have h1 : i < n := by omega
  have h2 : (i : Int) < n := by omega
  obtain ⟨r, hr⟩ : ∃ r, n - i = r + 1 := ⟨n - i - 1, by omega⟩
  rw [hr, binM] at hR
  have hf := o_7e cs q dd hq hc
  have hle := o_p (dd := dd) hq
  have e1 : IntKind.i64.wrap ((i : Int) + 1) = ((i + 1 : Nat) : Int) := by rw [w64 (by omega) (by omega)]; omega
  have e2 : IntKind.i64.wrap ((c : Int) + 1) = ((c + 1 : Nat) : Int) := by rw [w64 (by omega) (by omega)]; omega
  generalize flipE cs q dd = E at *
  generalize flipB cs q dd = B at *
  generalize flipP cs q dd = Q at *
  generalize flipD cs q dd = dd2 at *
  refine G1B (fs h1 h2) ?_; try with_reducible exact tt
  refine AW.cond rfl (fun h => ?_) (fun h => ?_)
  ·clear h
   refine G0B ?_; try with_reducible exact tt
   refine CallS.o1 0 (hf) (R0B ?_); try with_reducible exact tt
   by_cases hE : E = 0
   ·subst hE
    rw [if_pos rfl] at hR
    refine AW.cond rfl (fun h => ?_) (fun h => ?_)
    ·simp at h
    refine G0B ?_; try with_reducible exact tt
    cases B with
    | true =>
     refine AW.cond rfl (fun h => ?_) (fun h => ?_)
     ·refine G1B (fs e1 e2) ?_; try with_reducible exact tt
      exact ⟨i + 1, c + 1, Q, dd2, ⟨by omega, by omega, hle, by rw [hR, if_pos rfl]; congr 1; omega⟩, by omega, by simp, by simp⟩
     ·simp at h
    | false =>
     refine AW.cond rfl (fun h => ?_) (fun h => ?_)
     ·simp at h
     ·refine G1B e1 ?_; try with_reducible exact tt
      exact ⟨i + 1, c, Q, dd2, ⟨by omega, by omega, hle, by rw [hR, if_neg (by simp)]; congr 1; omega⟩, by omega, by simp, by simp⟩
   ·rw [if_neg hE] at hR
    refine AW.cond rfl (fun h => ?_) (fun h => ?_)
    ·refine G0B ?_; try with_reducible exact tt
     simp [hR]
    ·simp [hE] at h
  ·simp [h1] at h

/-- a counter, as data -/
def tsD (y t : Nat) (f : Bool) : D := .agg [.int .i64 y, .int .i64 t, .bool f]

theorem o_7n (cs : List Bool) (y t : Nat) (f : Bool) (k : Int) (p : Nat) (d : Bool) (hk : k ≤ 100) (hy : y ≤ 100000) (ht : t ≤ 100000) (hp : p ≤ cs.length) (hc : cs.length ≤ 4000000) :
  Eqn Tryz.prog o_eo [.p 0 0, .d (tsD y t f), .d (.int .i64 k)] [tapeO cs p d] (.tup [.d (tsD (thinM cs f k.toNat y t p d).y (thinM cs f k.toNat y t p d).t f), .d (.int .i64 (thinM cs f k.toNat y t p d).e)]) [tapeO cs (thinM cs f k.toNat y t p d).p (thinM cs f k.toNat y t p d).d] := by
 refine Eqn.obj1 o_no Plain.ok ⟨rfl, fun _ => rfl⟩ ?_
 obtain ⟨n, hn, e0⟩ : ∃ n : Nat, n = k.toNat ∧ max 0 k = (n : Int) := ⟨k.toNat, rfl, by omega⟩
 rw [← hn]
 obtain ⟨R, hR⟩ : ∃ R, R = thinM cs f n y t p d := ⟨_, rfl⟩
 rw [← hR]
 simp only [o_ep, tsD]
 refine G1B e0 ?_; try with_reducible exact tt
 refine AW.loopT (α := Nat × Nat × Nat × Nat × Bool) 3 (fun s => [(12, .d (.int .i64 (s.1 : Int)))]) (fun s => [(0, tapeO cs s.2.2.2.1 s.2.2.2.2), (1, ⟨139, [.d (.int .i64 (s.2.1 : Nat)), .d (.int .i64 (s.2.2.1 : Nat)), .d (.bool f)]⟩)]) (fun s => s.1 ≤ n ∧ s.2.1 ≤ 100000 ∧ s.2.2.1 ≤ 100000 + s.1 ∧ s.2.2.2.1 ≤ cs.length ∧ R = thinM cs f (n - s.1) s.2.1 s.2.2.1 s.2.2.2.1 s.2.2.2.2) (fun s => n - s.1) (0, y, t, p, d) ?_ ?_ ⟨Nat.zero_le _, hy, ht, hp, hR⟩ ?_ ?_ ?_
 ·simp
 ·simp
 ·simp
 ·simp
 clear hR
 rintro ⟨i, z, u, q, dd⟩ ⟨hi, hz, hu, hq, hR⟩
 simp only at hi hz hu hq hR
 simp [-Bool.exists_bool]
 by_cases h : i = n
 ·subst h
  rw [Nat.sub_self, thinM] at hR
  refine G0B ?_; try with_reducible exact tt
  refine AW.cond rfl (fun h => ?_) (fun h => ?_)
  ·simp at h
  refine G0B ?_; try with_reducible exact tt
  simp [hR]
 ·have h1 : i < n := by omega
  have h2 : (i : Int) < n := by omega
  obtain ⟨r, hr⟩ : ∃ r, n - i = r + 1 := ⟨n - i - 1, by omega⟩
  rw [hr, thinM] at hR
  have hb := o_sn cs z q dd (by omega) hq hc
  have hle := o_7l cs z 0 q dd hq
  have e1 : IntKind.i64.wrap ((i : Int) + 1) = ((i + 1 : Nat) : Int) := by rw [w64 (by omega) (by omega)]; omega
  have e2 : IntKind.i64.wrap ((u : Int) + 1) = ((u + 1 : Nat) : Int) := by rw [w64 (by omega) (by omega)]; omega
  generalize binM cs z 0 q dd = B at *
  obtain ⟨B1, B2, B3, B4⟩ := B
  simp only at hb hle hR
  refine G1B (fs h1 h2) ?_; try with_reducible exact tt
  refine AW.cond rfl (fun h => ?_) (fun h => ?_)
  ·clear h
   refine G0B ?_; try with_reducible exact tt
   refine CallS.o1 0 (hb) (R0B ?_); try with_reducible exact tt
   by_cases hE : B1 = 0
   ·subst hE
    rw [if_pos rfl] at hR
    refine AW.cond rfl (fun h => ?_) (fun h => ?_)
    ·simp at h
    refine G1B (fs e1 e2) ?_; try with_reducible exact tt
    exact ⟨i + 1, B2, u + 1, B3, B4, ⟨by omega, by omega, by omega, hle.1, by rw [hR]; congr 1; omega⟩, by omega, by simp, by simp⟩
   ·rw [if_neg hE] at hR
    refine AW.cond rfl (fun h => ?_) (fun h => ?_)
    ·refine G0B ?_; try with_reducible exact tt
     simp [hR]
    ·simp [hE] at h
  ·simp [h1] at h
end
end Go.Proofs.YtijbgbpjionfjaaGreatDoor.Am
namespace Go.Proofs.YtijbgbpjionfjaaGreatDoor.Am
section
open Go.RowKit
/-- a parameter of Thin, as data -/
def tpD (a b : Int) : D := .agg [.int .i64 a, .int .i64 b]

theorem o_hw (cs : List Bool) (most times : Nat) (y t : Nat) (f : Bool) (p : Nat) (d : Bool) (hm : most ≤ 1023) (hts : times ≤ 20) (hy : y ≤ 100000) (ht : t ≤ times) (hp : p ≤ cs.length) (hc : cs.length ≤ 4000000) (R : TR) (hR : R = downM cs most times (times - t + 1) y t f p d) :
  Eqn Tryz.prog o_eq [.d (tpD most times), .p 0 0, .d (tsD y t f)] [tapeO cs p d] (.tup [.d (tsD R.y R.t R.f), .d (.int .i64 R.e)]) [tapeO cs R.p R.d] := by
 refine Eqn.obj1 o_np Plain.ok ⟨rfl, fun _ => rfl⟩ ?_
 simp only [o_er, tsD, tpD]
 refine G0B ?_; try with_reducible exact tt
 refine AW.loopT (α := Nat × Nat × Nat × Bool) 4 (fun s => []) (fun s => [(0, tapeO cs s.2.2.1 s.2.2.2), (2, ⟨139, [.d (.int .i64 (s.1 : Nat)), .d (.int .i64 (s.2.1 : Nat)), .d (.bool f)]⟩)]) (fun s => s.1 ≤ 100000 ∧ s.2.1 ≤ times ∧ s.2.2.1 ≤ cs.length ∧ R = downM cs most times (times - s.2.1 + 1) s.1 s.2.1 f s.2.2.1 s.2.2.2) (fun s => times - s.2.1) (y, t, p, d) ?_ ?_ ⟨hy, ht, hp, hR⟩ ?_ ?_ ?_
 ·simp
 ·simp
 ·simp
 ·simp
 clear hR
 rintro ⟨z, u, q, dd⟩ ⟨hz, hu, hq, hR⟩
 simp only at hz hu hq hR
 rw [downM] at hR
 simp [-Bool.exists_bool]
 by_cases h : most < z
 ·rw [if_pos h] at hR
  have h' : (most : Int) < z := by omega
  refine G1B (fs h h') ?_; try with_reducible exact tt
  refine AW.cond rfl (fun hh => ?_) (fun hh => ?_)
  ·by_cases hut : u = times
   ·subst hut
    rw [if_pos rfl] at hR
    refine G0B ?_; try with_reducible exact tt
    refine AW.cond rfl (fun hh => ?_) (fun hh => ?_)
    ·refine G0B ?_; try with_reducible exact tt
     simp [hR]
    ·simp at hh
   ·rw [if_neg hut] at hR
    have hut' : ¬ (u : Int) = times := by omega
    have hb := o_7n cs z u f 1 q dd (by omega) hz (by omega) hq hc
    have hle := o_1g cs f 1 z u q dd hq
    rw [show (1 : Int).toNat = 1 by rfl] at hb
    generalize thinM cs f 1 z u q dd = B at *
    obtain ⟨be, bz, bu, bf, bp, bd⟩ := B
    simp only [tsD] at hb hle hR
    refine G1B (fs hut hut') ?_; try with_reducible exact tt
    refine AW.cond rfl (fun hh => ?_) (fun hh => ?_)
    ·simp [hut, hut'] at hh
    refine G0B ?_; try with_reducible exact tt
    refine CallS.o1 0 (hb) (R0B ?_); try with_reducible exact tt
    by_cases hE : be = 0
    ·subst hE
     rw [if_pos rfl] at hR
     have := hle.2.2.2.2.1 rfl
     refine AW.cond rfl (fun hh => ?_) (fun hh => ?_)
     ·simp at hh
     refine G0B ?_; try with_reducible exact tt
     exact ⟨bz, bu, bp, bd, ⟨by omega, by omega, hle.1, by rw [hR]; congr 1; omega⟩, by omega, by simp, by simp⟩
    ·rw [if_neg hE] at hR
     refine AW.cond rfl (fun hh => ?_) (fun hh => ?_)
     ·refine G0B ?_; try with_reducible exact tt
      simp [hR]
     ·simp [hE] at hh
  ·simp [h] at hh
 ·rw [if_neg h] at hR
  have h' : ¬ (most : Int) < z := by omega
  refine G1B (fs h h') ?_; try with_reducible exact tt
  refine AW.cond rfl (fun hh => ?_) (fun hh => ?_)
  ·simp [h'] at hh
  refine G0B ?_; try with_reducible exact tt
  simp [hR]

theorem o_so (cs : List Bool) (most times : Nat) (y t : Nat) (f : Bool) (p : Nat) (d : Bool) (hm : most ≤ 1023) (hts : times ≤ 20) (hy : y ≤ 90000) (ht : t ≤ times) (hp : p ≤ cs.length) (hc : cs.length ≤ 4000000) (R : TR) (hR : R = oneM cs most times y t f p d) :
  Eqn Tryz.prog o_e6 [.d (tpD most times), .p 0 0, .d (tsD y t f)] [tapeO cs p d] (.tup [.d (tsD R.y R.t R.f), .d (.int .i64 R.e)]) [tapeO cs R.p R.d] := by
 refine Eqn.obj1 o_ne Plain.ok ⟨rfl, fun _ => rfl⟩ ?_
 have hh := o_2n cs p d t (by omega) hp hc
 have hle := o_7k (cs := cs) t p d hp
 rw [show (t : Int).toNat = t by omega] at hh
 unfold oneM at hR
 generalize halfR cs t p d = H at *
 obtain ⟨h1, h2, h3, h4⟩ := H
 simp only at hh hR hle
 have e1 : IntKind.i64.wrap ((y : Int) + 1) = ((y + 1 : Nat) : Int) := by rw [w64 (by omega) (by omega)]; omega
 cases h1 with
 | true =>
  rw [if_pos rfl] at hR
  have hd := o_hw cs most times (y + 1) t f h3 h4 hm hts (by omega) ht hle hc R hR
  clear hR
  obtain ⟨re, ry, rt, rf, rp, rd⟩ := R
  simp only [o_6h, tsD, tpD] at hd ⊢
  refine G0B ?_; try with_reducible exact tt
  refine CallS.o1 0 (hh) (R0B ?_); try with_reducible exact tt
  refine AW.cond rfl (fun h => ?_) (fun h => ?_)
  ·simp at h
  refine G1B e1 ?_; try with_reducible exact tt
  refine CallS.o1 0 (hd) (R0B ?_); try with_reducible exact tt
 | false =>
  rw [if_neg (by simp)] at hR
  subst hR
  simp only [o_6h, tsD, tpD]
  refine G0B ?_; try with_reducible exact tt
  refine CallS.o1 0 (hh) (R0B ?_); try with_reducible exact tt
  refine AW.cond rfl (fun h => ?_) (fun h => ?_)
  ·refine G0B ?_; try with_reducible exact tt
  ·simp at h

theorem o_hx {cs : List Bool} {most times y t : Nat} {f : Bool} {p : Nat} {d : Bool} (hp : p ≤ cs.length) (ht : t ≤ times) (hy : y ≤ most) :
  (oneM cs most times y t f p d).p ≤ cs.length ∧ (oneM cs most times y t f p d).t ≤ times ∧ ((oneM cs most times y t f p d).e = 0 → (oneM cs most times y t f p d).y ≤ most) ∧ ((f = true → t = times) → (oneM cs most times y t f p d).f = true → (oneM cs most times y t f p d).t = times) := by
 unfold oneM
 have hle := o_7k (cs := cs) t p d hp
 split
 ·have := o_7m cs most times (times - t + 1) (y + 1) t f (halfR cs t p d).2.2.1 (halfR cs t p d).2.2.2 hle ht (by omega)
  exact ⟨this.1, this.2.1, this.2.2.2.1, this.2.2.2.2.1⟩
 ·exact ⟨hle, ht, fun _ => hy, fun hf h => hf h⟩
theorem o_hy {cs : List Bool} {most times : Nat} : ∀ (n y t : Nat) (f : Bool) (p : Nat) (d : Bool), p ≤ cs.length → t ≤ times → y ≤ most → (f = true → t = times) →
  (addTM cs most times n y t f p d).p ≤ cs.length ∧ (addTM cs most times n y t f p d).t ≤ times ∧ ((addTM cs most times n y t f p d).e = 0 → (addTM cs most times n y t f p d).y ≤ most) ∧ ((addTM cs most times n y t f p d).f = true → (addTM cs most times n y t f p d).t = times)
 | 0, y, t, f, p, d, hp, ht, hy, hf => ⟨hp, ht, fun _ => hy, hf⟩
 | n + 1, y, t, f, p, d, hp, ht, hy, hf => by
  have := o_hx (cs := cs) (most := most) (times := times) (y := y) (t := t) (f := f) (p := p) (d := d) hp ht hy
  rw [addTM]
  split
  ·rename_i he
   exact o_hy n _ _ _ _ _ this.1 this.2.1 (this.2.2.1 he) (this.2.2.2 hf)
  ·exact ⟨this.1, this.2.1, this.2.2.1, this.2.2.2 hf⟩
theorem o_sp {cs : List Bool} {most times y t : Nat} {f : Bool} {z u : Nat} {g : Bool} {p : Nat} {d : Bool} (hp : p ≤ cs.length) (ht : t ≤ times) (hu : u ≤ times) (hf : f = true → t = times) (hg : g = true → u = times) :
  (mergeTM cs most times y t f z u g p d).p ≤ cs.length ∧ ((mergeTM cs most times y t f z u g p d).e = 0 → (mergeTM cs most times y t f z u g p d).y ≤ most ∧ (mergeTM cs most times y t f z u g p d).t ≤ times ∧ ((mergeTM cs most times y t f z u g p d).f = true → (mergeTM cs most times y t f z u g p d).t = times)) := by
 have hA := o_1g cs f (u - t) y t p d hp
 have hB := o_1g cs g (t - u) z u (thinM cs f (u - t) y t p d).p (thinM cs f (u - t) y t p d).d hA.1
 unfold mergeTM
 generalize thinM cs f (u - t) y t p d = A at *
 simp only
 generalize thinM cs g (t - u) z u A.p A.d = B at *
 by_cases h1 : A.e = 0
 ·rw [if_pos h1]
  have hAt := hA.2.2.2.2.1 h1
  by_cases h2 : B.e = 0
  ·rw [if_pos h2]
   have := o_7m cs most times (times - A.t + 1) (A.y + B.y) A.t (f || g) B.p B.d hB.1 (by omega) (by omega)
   refine ⟨this.1, fun he => ⟨this.2.2.2.1 he, this.2.1, this.2.2.2.2.1 ?_⟩⟩
   intro h
   simp at h
   rcases h with h | h
   ·have := hf h; omega
   ·have := hg h; omega
  ·rw [if_neg h2]; exact ⟨hB.1, fun h => absurd h h2⟩
 ·rw [if_neg h1]; exact ⟨hA.1, fun h => absurd h h1⟩

/-- may a parameter of Thin be -/
def GoodT (a b : Nat) : Prop := 1 ≤ a ∧ a ≤ 1023 ∧ b ≤ 20
/-- may a counter be -/
def WellT (a b y t : Nat) (f : Bool) : Prop := y ≤ a ∧ t ≤ b ∧ (f = true → t = b)

theorem o_2p {a b : Nat} (h : GoodT a b) : Eqn Tryz.prog o_ee [.d (tpD a b)] [] (.d (.int .i64 0)) [] := by
 refine Eqn.pure o_nj Plain.ok ?_
 obtain ⟨h1, h2, h3⟩ := h
 have g1 : ¬ (a : Int) < 1 := by omega
 have g2 : ¬ (1023 : Int) < a := by omega
 have g3 : ¬ (b : Int) < 0 := by omega
 have g4 : ¬ (20 : Int) < b := by omega
 simp only [o_ef, tpD]
 refine G1 (fs g1 (fs g2 (fs g3 g4))) ?_; try with_reducible exact tt
 refine AW.cond rfl (fun h => ?_) (fun h => ?_)
 ·simp at h
 ·refine G0 ?_; try with_reducible exact tt
theorem o_7o {a b y t : Nat} {f : Bool} (h : GoodT a b) (hw : WellT a b y t f) : Eqn Tryz.prog o_6n [.d (tpD a b), .d (tsD y t f)] [] (.d (.bool true)) [] := by
 refine Eqn.pure o_f9 Plain.ok ?_
 have hc := o_2p h
 obtain ⟨h1, h2, h3⟩ := hw
 have g1 : (y : Int) ≤ a := by omega
 have g2 : (t : Int) ≤ b := by omega
 have g3 : (0 : Int) ≤ y := by omega
 have g4 : (0 : Int) ≤ t := by omega
 simp only [o_6o, tpD, tsD] at hc ⊢
 cases f with
 | true =>
  obtain rfl := h3 rfl
  refine G1 (fs g1 (fs g2 (fs g3 (fs g4 h1)))) ?_; try with_reducible exact tt
  refine CallS.pu (hc) (R1 (fs g1 (fs g2 (fs g3 (fs g4 h1)))) ?_); try with_reducible exact tt
 | false =>
  refine G1 (fs g1 (fs g2 (fs g3 (fs g4 (fs h1 h2))))) ?_; try with_reducible exact tt
  refine CallS.pu (hc) (R1 (fs g1 (fs g2 (fs g3 (fs g4 (fs h1 h2))))) ?_); try with_reducible exact tt

theorem o_sq {a b y t : Nat} {f : Bool} (h : GoodT a b) (hw : WellT a b y t f) : Eqn Tryz.prog o_6b [.d (tpD a b), .d (.sl 1 [.int .i64 y, .int .i64 t, .bool f])] [] (.d (.int .i64 0)) [] := by
 refine Eqn.pure o_dv Plain.ok ?_
 have hc := o_2p h
 have hw := o_7o h hw
 simp only [o_6c, tpD, tsD] at hc hw ⊢
 refine G0 ?_; try with_reducible exact tt
 refine CallS.pu (hc) (R0 ?_); try with_reducible exact tt
 refine AW.cond rfl (fun h => ?_) (fun h => ?_)
 ·simp at h
 refine G0 ?_; try with_reducible exact tt
 refine AW.loopT (α := Nat) 1 (fun i => [(15, .d (.int .i64 (i : Int)))]) (fun i => []) (fun i => i ≤ 1) (fun i => 1 - i) 0 ?_ ?_ (Nat.zero_le _) ?_ ?_ ?_
 ·simp
 ·simp
 ·simp
 ·simp
 rintro i hi
 simp
 have hi' : i = 0 ∨ i = 1 := by omega
 rcases hi' with rfl | rfl
 ·refine G0 ?_; try with_reducible exact tt
  refine AW.cond rfl (fun h => ?_) (fun h => ?_)
  ·refine G0 ?_; try with_reducible exact tt
   refine CallS.pu (hw) (R0 ?_); try with_reducible exact tt
   refine AW.cond rfl (fun h => ?_) (fun h => ?_)
   ·simp at h
   have ew : IntKind.i64.wrap 1 = 1 := w64 (by omega) (by omega)
   refine G1 ew ?_; try with_reducible exact tt
   exact ⟨1, by omega, by omega, by simp⟩
  ·simp at h
 ·refine G0 ?_; try with_reducible exact tt
  refine AW.cond rfl (fun h => ?_) (fun h => ?_)
  ·simp at h
  refine AW.exit ?_
  (try (simp -implicitDefEqProofs; try simp (disch := omega) only [w64, wu64]))
  refine G0 ?_; try with_reducible exact tt

theorem o_sr {a b y t z u : Nat} {f g : Bool} (h : GoodT a b) (hw : WellT a b y t f) (hv : WellT a b z u g) : Eqn Tryz.prog o_6b [.d (tpD a b), .d (.sl 2 [.int .i64 y, .int .i64 t, .bool f, .int .i64 z, .int .i64 u, .bool g])] [] (.d (.int .i64 0)) [] := by
 refine Eqn.pure o_dv Plain.ok ?_
 have hc := o_2p h
 have hw := o_7o h hw
 have hv := o_7o h hv
 simp only [o_6c, tpD, tsD] at hc hw hv ⊢
 refine G0 ?_; try with_reducible exact tt
 refine CallS.pu (hc) (R0 ?_); try with_reducible exact tt
 refine AW.cond rfl (fun h => ?_) (fun h => ?_)
 ·simp at h
 refine G0 ?_; try with_reducible exact tt
 refine AW.loopT (α := Nat) 1 (fun i => [(15, .d (.int .i64 (i : Int)))]) (fun i => []) (fun i => i ≤ 2) (fun i => 2 - i) 0 ?_ ?_ (Nat.zero_le _) ?_ ?_ ?_
 ·simp
 ·simp
 ·simp
 ·simp
 rintro i hi
 simp
 have hi' : i = 0 ∨ i = 1 ∨ i = 2 := by omega
 rcases hi' with rfl | rfl | rfl
 ·refine G0 ?_; try with_reducible exact tt
  refine AW.cond rfl (fun h => ?_) (fun h => ?_)
  ·refine G0 ?_; try with_reducible exact tt
   refine CallS.pu (hw) (R0 ?_); try with_reducible exact tt
   refine AW.cond rfl (fun h => ?_) (fun h => ?_)
   ·simp at h
   have ew : IntKind.i64.wrap 1 = 1 := w64 (by omega) (by omega)
   refine G1 ew ?_; try with_reducible exact tt
   exact ⟨1, by omega, by omega, by simp⟩
  ·simp at h
 ·refine G0 ?_; try with_reducible exact tt
  refine AW.cond rfl (fun h => ?_) (fun h => ?_)
  ·refine G0 ?_; try with_reducible exact tt
   refine CallS.pu (hv) (R0 ?_); try with_reducible exact tt
   refine AW.cond rfl (fun h => ?_) (fun h => ?_)
   ·simp at h
   have ew : IntKind.i64.wrap 2 = 2 := w64 (by omega) (by omega)
   refine G1 ew ?_; try with_reducible exact tt
   exact ⟨2, by omega, by omega, by simp⟩
  ·simp at h
 ·refine G0 ?_; try with_reducible exact tt
  refine AW.cond rfl (fun h => ?_) (fun h => ?_)
  ·simp at h
  refine AW.exit ?_
  (try (simp -implicitDefEqProofs; try simp (disch := omega) only [w64, wu64]))
  refine G0 ?_; try with_reducible exact tt
end
end Go.Proofs.YtijbgbpjionfjaaGreatDoor.Am
namespace Go.Proofs.YtijbgbpjionfjaaGreatDoor.Am
section
open Go.RowKit
theorem o_ss (cs : List Bool) (a b y t : Nat) (f : Bool) (k : Int) (p : Nat) (d : Bool) (hgt : GoodT a b) (hw : WellT a b y t f) (hk : k ≤ 1048576) (hp : p ≤ cs.length) (hc : cs.length ≤ 4000000) (R : TR) (hR : R = addTM cs a b k.toNat y t f p d) :
  Eqn Tryz.prog o_ci [.d (tpD a b), .p 0 0, .d (tsD y t f), .d (.int .i64 k)] [tapeO cs p d] (.tup [.d (if R.e = 0 then tsD R.y R.t R.f else tsD y t f), .d (.int .i64 R.e)]) [tapeO cs R.p R.d] := by
 refine Eqn.obj1 o_mk Plain.ok ⟨rfl, fun _ => rfl⟩ ?_
 have hwr := o_sq hgt hw
 obtain ⟨n, hn, e0⟩ : ∃ n : Nat, n = k.toNat ∧ max 0 k = (n : Int) := ⟨k.toNat, rfl, by omega⟩
 rw [← hn] at hR
 have g1 : ¬ (1048576 : Int) < k := by omega
 simp only [o_cj, tsD, tpD] at hwr ⊢
 refine G0B ?_; try with_reducible exact tt
 refine CallS.pf 4 3 ⟨139, _⟩ [.int .i64 y, .int .i64 t, .bool f] (hwr) (by first | rfl | (simp [-Bool.exists_bool]; done)) (R0B ?_); try with_reducible exact tt
 refine AW.cond rfl (fun h => ?_) (fun h => ?_)
 ·simp at h
 refine G1B g1 ?_; try with_reducible exact tt
 refine AW.cond rfl (fun h => ?_) (fun h => ?_)
 ·simp [g1] at h
 refine G1B e0 ?_; try with_reducible exact tt
 refine AW.loopT (α := Nat × Nat × Nat × Bool × Nat × Bool) 6 (fun s => [(28, .d (.int .i64 (s.1 : Int)))]) (fun s => [(0, tapeO cs s.2.2.2.2.1 s.2.2.2.2.2), (5, ⟨139, [.d (.int .i64 (s.2.1 : Nat)), .d (.int .i64 (s.2.2.1 : Nat)), .d (.bool s.2.2.2.1)]⟩)]) (fun s => s.1 ≤ n ∧ WellT a b s.2.1 s.2.2.1 s.2.2.2.1 ∧ s.2.2.2.2.1 ≤ cs.length ∧ R = addTM cs a b (n - s.1) s.2.1 s.2.2.1 s.2.2.2.1 s.2.2.2.2.1 s.2.2.2.2.2) (fun s => n - s.1) (0, y, t, f, p, d) ?_ ?_ ⟨Nat.zero_le _, hw, hp, hR⟩ ?_ ?_ ?_
 ·simp
 ·simp
 ·simp
 ·simp
 clear hR
 rintro ⟨i, z, u, g, q, dd⟩ ⟨hi, hz, hq, hR⟩
 simp only at hi hz hq hR
 simp [-Bool.exists_bool]
 by_cases hin : i = n
 ·subst hin
  rw [Nat.sub_self, addTM] at hR
  refine G0B ?_; try with_reducible exact tt
  refine AW.cond rfl (fun h => ?_) (fun h => ?_)
  ·simp at h
  refine G0B ?_; try with_reducible exact tt
  simp [hR]
 ·have h1 : i < n := by omega
  have h2 : (i : Int) < n := by omega
  obtain ⟨r, hr⟩ : ∃ r, n - i = r + 1 := ⟨n - i - 1, by omega⟩
  rw [hr, addTM] at hR
  have hb := o_so cs a b z u g q dd hgt.2.1 hgt.2.2 (by have := hz.1; have := hgt.2.1; omega) hz.2.1 hq hc _ rfl
  have hle := o_hx (cs := cs) (most := a) (times := b) (y := z) (t := u) (f := g) (p := q) (d := dd) hq hz.2.1 hz.1
  have e1 : IntKind.i64.wrap ((i : Int) + 1) = ((i + 1 : Nat) : Int) := by rw [w64 (by omega) (by omega)]; omega
  generalize oneM cs a b z u g q dd = B at *
  obtain ⟨be, bz, bu, bf, bp, bd⟩ := B
  simp only [tsD, tpD] at hb hle hR
  refine G1B (fs h1 h2) ?_; try with_reducible exact tt
  refine AW.cond rfl (fun h => ?_) (fun h => ?_)
  ·clear h
   refine G0B ?_; try with_reducible exact tt
   refine CallS.o1 0 (hb) (R0B ?_); try with_reducible exact tt
   by_cases hE : be = 0
   ·subst hE
    rw [if_pos rfl] at hR
    refine AW.cond rfl (fun h => ?_) (fun h => ?_)
    ·simp at h
    refine G1B e1 ?_; try with_reducible exact tt
    exact ⟨i + 1, bz, bu, bf, bp, bd, ⟨by omega, ⟨hle.2.2.1 rfl, hle.2.1, hle.2.2.2 hz.2.2⟩, hle.1, by rw [hR]; congr 1; omega⟩, by omega, by simp, by simp⟩
   ·rw [if_neg hE] at hR
    refine AW.cond rfl (fun h => ?_) (fun h => ?_)
    ·refine G0B ?_; try with_reducible exact tt
     simp [hR, hE]
    ·simp [hE] at h
  ·simp [h1] at h

theorem o_st (cs : List Bool) (a b y t : Nat) (f : Bool) (z u : Nat) (g : Bool) (p : Nat) (d : Bool) (h : GoodT a b) (hw : WellT a b y t f) (hv : WellT a b z u g) (hp : p ≤ cs.length) (hc : cs.length ≤ 4000000) (R : TR) (hR : R = mergeTM cs a b y t f z u g p d) :
  Eqn Tryz.prog o_cx [.d (tpD a b), .p 0 0, .d (tsD y t f), .d (tsD z u g)] [tapeO cs p d] (.tup [.d (if R.e = 0 then tsD R.y R.t R.f else tsD y t f), .d (.int .i64 R.e)]) [tapeO cs R.p R.d] := by
 refine Eqn.obj1 o_ms Plain.ok ⟨rfl, fun _ => rfl⟩ ?_
 have hwr := o_sr h hw hv
 obtain ⟨y1, t1, f1⟩ := hw
 obtain ⟨z1, u1, g1⟩ := hv
 obtain ⟨a1, a2, a3⟩ := h
 have hA := o_7n cs y t f ((u : Int) - t) p d (by omega) (by omega) (by omega) hp hc
 rw [show ((u : Int) - t).toNat = u - t by omega] at hA
 have hAle := o_1g cs f (u - t) y t p d hp
 unfold mergeTM at hR
 generalize thinM cs f (u - t) y t p d = A at *
 obtain ⟨ae, ay, at_, af, ap, ad⟩ := A
 simp only at hA hAle hR
 have hB := o_7n cs z u g ((t : Int) - u) ap ad (by omega) (by omega) (by omega) hAle.1 hc
 rw [show ((t : Int) - u).toNat = t - u by omega] at hB
 have hBle := o_1g cs g (t - u) z u ap ad hAle.1
 generalize thinM cs g (t - u) z u ap ad = B at *
 obtain ⟨be, bz, bu, bf, bp, bd⟩ := B
 simp only at hB hBle hR
 have e1 : IntKind.i64.wrap ((u : Int) - t) = (u : Int) - t := w64 (by omega) (by omega)
 have e2 : IntKind.i64.wrap ((t : Int) - u) = (t : Int) - u := w64 (by omega) (by omega)
 have e3 : IntKind.i64.wrap ((ay : Int) + bz) = ((ay + bz : Nat) : Int) := by rw [w64 (by omega) (by omega)]; omega
 simp only [o_cy, tsD, tpD] at hwr hA hB ⊢
 refine G0B ?_; try with_reducible exact tt
 refine CallS.pf 5 3 ⟨139, _⟩ [.int .i64 y, .int .i64 t, .bool f, .int .i64 z, .int .i64 u, .bool g] (hwr) (by first | rfl | (simp [-Bool.exists_bool]; done)) (R0B ?_); try with_reducible exact tt
 refine AW.cond rfl (fun h => ?_) (fun h => ?_)
 ·simp at h
 refine G1B e1 ?_; try with_reducible exact tt
 try simp only [e1]
 refine CallS.o1 0 (hA) (R0B ?_); try with_reducible exact tt
 by_cases hE : ae = 0
 ·subst hE
  rw [if_pos rfl] at hR
  have hat := hAle.2.2.2.2.1 rfl
  refine AW.cond rfl (fun h => ?_) (fun h => ?_)
  ·simp at h
  refine G1B e2 ?_; try with_reducible exact tt
  try simp only [e2]
  refine CallS.o1 0 (hB) (R1B e3 ?_); try with_reducible exact tt
  by_cases hF : be = 0
  ·subst hF
   rw [if_pos rfl] at hR
   have hD := o_hw cs a b (ay + bz) at_ (f || g) bp bd a2 a3 (by omega) (by omega) hBle.1 hc R hR
   clear hR
   obtain ⟨re, ry, rt, rf, rp, rd⟩ := R
   simp only [tsD, tpD] at hD
   refine AW.cond rfl (fun h => ?_) (fun h => ?_)
   ·simp at h
   cases f with
   | true =>
    simp only [Bool.true_or] at hD
    refine G1B e3 ?_; try with_reducible exact tt
    refine CallS.o1 0 (hD) (R0B ?_); try with_reducible exact tt
    by_cases hG : re = 0
    ·subst hG
     refine AW.cond rfl (fun h => ?_) (fun h => ?_)
     ·simp at h
     refine G0B ?_; try with_reducible exact tt
    ·refine AW.cond rfl (fun h => ?_) (fun h => ?_)
     ·refine G0B ?_; try with_reducible exact tt
      simp [hG]
     ·simp [hG] at h
   | false =>
    simp only [Bool.false_or] at hD
    refine G1B e3 ?_; try with_reducible exact tt
    refine CallS.o1 0 (hD) (R0B ?_); try with_reducible exact tt
    by_cases hG : re = 0
    ·subst hG
     refine AW.cond rfl (fun h => ?_) (fun h => ?_)
     ·simp at h
     refine G0B ?_; try with_reducible exact tt
    ·refine AW.cond rfl (fun h => ?_) (fun h => ?_)
     ·refine G0B ?_; try with_reducible exact tt
      simp [hG]
     ·simp [hG] at h
  ·rw [if_neg hF] at hR
   subst hR
   refine AW.cond rfl (fun h => ?_) (fun h => ?_)
   ·refine G0B ?_; try with_reducible exact tt
    simp [hF]
   ·simp [hF] at h
 ·rw [if_neg hE] at hR
  subst hR
  refine AW.cond rfl (fun h => ?_) (fun h => ?_)
  ·refine G0B ?_; try with_reducible exact tt
   simp [hE]
  ·simp [hE] at h
end
end Go.Proofs.YtijbgbpjionfjaaGreatDoor.Am
namespace Go.Proofs.YtijbgbpjionfjaaGreatDoor.Am
section
open Go.RowKit
/-- a chain's parameter that may be -/
def GoodC (k a w : Nat) : Prop := (k = 1 ∧ 1 ≤ a ∧ a ≤ 4096 ∧ bitsN (a + 1) * (2 ^ w - 1) ≤ 8192 ∨ k = 2 ∧ a ≤ 8 ∨ k = 3 ∧ 1 ≤ a ∧ a ≤ 5) ∧ 1 ≤ w ∧ w ≤ 10
theorem o_su {k a w : Nat} (h : GoodS k a w) : GoodC k a w := by
 obtain ⟨h, h1, h2⟩ := h
 refine ⟨?_, h1, by omega⟩
 rcases h with ⟨rfl, h3, h4⟩ | ⟨rfl, h3⟩ | ⟨rfl, h3, h4⟩
 ·refine .inl ⟨rfl, h3, by omega, ?_⟩
  have ha : a = 1 ∨ a = 2 ∨ a = 3 ∨ a = 4 := by omega
  have hw : w = 1 ∨ w = 2 ∨ w = 3 ∨ w = 4 := by omega
  rcases ha with rfl | rfl | rfl | rfl <;> rcases hw with rfl | rfl | rfl | rfl <;> decide
 ·exact .inr (.inl ⟨rfl, by omega⟩)
 ·exact .inr (.inr ⟨rfl, h3, by omega⟩)
theorem o_2q {k a w : Nat} (h : GoodC k a w) : Eqn Tryz.prog o_b [.d (parD k a w)] [] (.d (.int .i64 0)) [] := by
 obtain ⟨h, h1, h2⟩ := h
 rcases h with ⟨rfl, h3, h4, h5⟩ | ⟨rfl, h3⟩ | ⟨rfl, h3, h4⟩
 ·exact o_rp a w h3 h4 h1 h2 h5
 ·exact o_rr a w h3 h1 h2
 ·exact o_rs a w h3 h4 h1 h2
theorem o_hz {k a w : Nat} (h : GoodC k a w) (cs : List Bool) (hn : cs.length ≤ 4000000) : ∃ ti d g, StepOf cs ti d g (stOf cs k a) ∧ kindD k a = .ifc ti d := by
 obtain ⟨h, -⟩ := h
 rcases h with ⟨rfl, -⟩ | ⟨rfl, -⟩ | ⟨rfl, -⟩
 ·exact ⟨_, _, _, ⟨o_qj, fun x p dd hp => o_rt cs a x p dd hp hn, fun x p dd hp => o_s2 hp⟩, rfl⟩
 ·exact ⟨_, _, _, ⟨o_qk, fun x p dd hp => o_ry cs a x p dd hp hn, fun x p dd hp => o_s3 hp⟩, rfl⟩
 ·exact ⟨_, _, _, ⟨o_ql, fun x p dd hp => o_s0 cs a x p dd hp hn, fun x p dd hp => o_s4 hp⟩, rfl⟩
theorem o_sv {k a w : Nat} (h : GoodC k a w) (cs : List Bool) (hn : cs.length ≤ 4000000) : ∃ ti d g, AgainOf cs ti d g (agOf cs k a) ∧ kindD k a = .ifc ti d := by
 obtain ⟨h, -⟩ := h
 rcases h with ⟨rfl, h1, h2, -⟩ | ⟨rfl, h1⟩ | ⟨rfl, h1, h2⟩
 ·exact ⟨_, _, _, ⟨o_sa, fun x r p dd hx hr hp => o_sd cs a x r p dd _ (o_s7 cs a x r p dd h1 h2 hx hr hp hn), fun x r p dd hp => o_41 _ _ _ hp⟩, rfl⟩
 ·exact ⟨_, _, _, ⟨o_sb, fun x r p dd hx hr hp => o_se cs a x r p dd _ (o_s8 cs a x r p dd h1 hx hr hp hn _ rfl), fun x r p dd hp => o_1f _ _ _ hp⟩, rfl⟩
 ·exact ⟨_, _, _, ⟨o_sc, fun x r p dd hx hr hp => o_sf cs a x r p dd _ (o_s9 cs a x r p dd h1 h2 hx hr hp hn _ rfl), fun x r p dd hp => o_1f _ _ _ hp⟩, rfl⟩
theorem o_sw {k a w : Nat} (h : GoodC k a w) (cs : List Bool) (hcs : cs.length ≤ 4000000) (x : Nat) (hx : x ≤ 2 ^ w - 1) (f : Bool) (n : Nat) (m : Int) (hmx : max 0 m = (n : Int)) (hn : m ≤ 1048576) (p : Nat) (dd : Bool) (hp : p ≤ cs.length) (S : Int × Nat × Bool × Nat × Bool) (hS : S = addL (stOf cs k a) (2 ^ w - 1) n x f p dd) :
  Eqn Tryz.prog o_60 [.d (parD k a w), .p 0 0, .d (.agg [.int .i64 x, .bool f]), .d (.int .i64 m)] [tapeO cs p dd] (.tup [.d (.agg [.int .i64 (if S.1 = 0 then S.2.1 else x : Nat), .bool (if S.1 = 0 then S.2.2.1 else f)]), .d (.int .i64 S.1)]) [tapeO cs S.2.2.2.1 S.2.2.2.2] := by
 obtain ⟨ti, d, g, h1, h2⟩ := o_hz h cs hcs
 exact o_s1 cs k a w h.2.2 ti d g _ h1 h2 (o_2q h) x hx f n m hmx hn p dd hp S hS
theorem o_sx {k a w : Nat} (h : GoodC k a w) (cs : List Bool) (hcs : cs.length ≤ 4000000) (x : Nat) (hx : x ≤ 2 ^ w - 1) (f : Bool) (n : Nat) (hn : n ≤ 2 ^ w - 1) (fo : Bool) (p : Nat) (dd : Bool) (hp : p ≤ cs.length) (S : Int × Nat × Bool × Nat × Bool) (hS : S = mergeL (agOf cs k a) (2 ^ w - 1) n 0 x f p dd) :
  Eqn Tryz.prog o_66 [.d (parD k a w), .p 0 0, .d (.agg [.int .i64 x, .bool f]), .d (.agg [.int .i64 n, .bool fo])] [tapeO cs p dd] (.tup [.d (.agg [.int .i64 (if S.1 = 0 then S.2.1 else x : Nat), .bool (if S.1 = 0 then S.2.2.1 || fo else f)]), .d (.int .i64 S.1)]) [tapeO cs S.2.2.2.1 S.2.2.2.2] := by
 obtain ⟨ti, d, g, h1, h2⟩ := o_sv h cs hcs
 exact o_sk cs k a w h.2.2 ti d g _ h1 h2 (o_2q h) x hx f n hn fo p dd hp S hS

theorem o_sy {k a w : Nat} (h : GoodC k a w) (cs : List Bool) (hn : cs.length ≤ 4000000) : ∀ x p d, p ≤ cs.length → (stOf cs k a x p d).2.2.1 ≤ cs.length := by
 obtain ⟨ti, d, g, h1, h2⟩ := o_hz h cs hn
 exact h1.le
theorem o_i0 {st : StepT} {top : Nat} : ∀ (n x : Nat) (f : Bool) (p : Nat) (d : Bool), (f = true → x = top) → (addL st top n x f p d).2.2.1 = true → (addL st top n x f p d).2.1 = top
 | 0, x, f, p, d, hf, h => hf h
 | n + 1, x, f, p, d, hf, h => by
  rw [addL] at h ⊢
  by_cases hx : x = top
  ·simp only [if_pos hx]; exact hx
  ·simp only [if_neg hx] at h ⊢
   have hff : f = false := by cases f with | false => rfl | true => exact absurd (hf rfl) hx
   subst hff
   by_cases he : (st x p d).2.1 = 0
   ·simp only [if_pos he] at h ⊢
    simp only [Bool.false_eq_true, false_and, if_false] at h ⊢
    exact o_i0 n _ _ _ _ (by simp) h
   ·simp only [if_neg he] at h; cases h
theorem o_7p {ag : AgT} {top N : Nat} (hag : ∀ x r p d, p ≤ N → (ag x r p d).2.2.1 ≤ N) (hs : ∀ x p d, (ag x x p d).1 = true) : ∀ (n r x : Nat) (f : Bool) (p : Nat) (d : Bool), x ≤ top → p ≤ N → r ≤ x → r + n ≤ top → (f = true → x = top) →
  (mergeL ag top n r x f p d).2.2.2.1 ≤ N ∧ (mergeL ag top n r x f p d).2.1 ≤ top ∧ ((mergeL ag top n r x f p d).1 = 0 → r + n ≤ (mergeL ag top n r x f p d).2.1 ∧ ((mergeL ag top n r x f p d).2.2.1 = true → (mergeL ag top n r x f p d).2.1 = top))
 | 0, r, x, f, p, d, hx, hp, hr, hn, hf => ⟨hp, hx, fun _ => ⟨hr, hf⟩⟩
 | n + 1, r, x, f, p, d, hx, hp, hr, hn, hf => by
  rw [mergeL]
  by_cases hxt : x = top
  ·rw [if_pos hxt]
   have := o_7p hag hs n (r + 1) x true p d hx hp (by omega) (by omega) (fun _ => hxt)
   exact ⟨this.1, this.2.1, fun h => by have := this.2.2 h; exact ⟨by omega, this.2⟩⟩
  ·rw [if_neg hxt]
   have ha := hag x r p d hp
   have hx2 := hs x p d
   by_cases he : (ag x r p d).2.1 = 0
   ·rw [if_pos he]
    have hz : (if (ag x r p d).1 = true then x + 1 else x) ≤ top ∧ r + 1 ≤ (if (ag x r p d).1 = true then x + 1 else x) := by
     by_cases hxr : x = r
     ·subst hxr; rw [if_pos hx2]; omega
     ·split <;> omega
    generalize (if (ag x r p d).1 = true then x + 1 else x) = z at *
    have := o_7p hag hs n (r + 1) z f _ (ag x r p d).2.2.2 hz.1 ha hz.2 (by omega) (fun h => absurd (hf h) hxt)
    exact ⟨this.1, this.2.1, fun h => by have := this.2.2 h; exact ⟨by omega, this.2⟩⟩
   ·rw [if_neg he]
    exact ⟨ha, hx, fun h => absurd h he⟩

/-- a register's parameter that may be -/
def GoodR (k a b : Nat) : Prop := k = 4 ∧ GoodT a b ∨ k ≠ 4 ∧ GoodC k a b
/-- may a register be -/
def WellR (k a b y t : Nat) (f : Bool) : Prop := k = 4 ∧ WellT a b y t f ∨ k ≠ 4 ∧ t = 0 ∧ y ≤ 2 ^ b - 1 ∧ (f = true → y = 2 ^ b - 1)
/-- n more -/
def addRM (cs : List Bool) (k a b n y t : Nat) (f : Bool) (p : Nat) (d : Bool) : TR :=
 if k = 4 then addTM cs a b n y t f p d
 else ⟨(addL (stOf cs k a) (2 ^ b - 1) n y f p d).1, (addL (stOf cs k a) (2 ^ b - 1) n y f p d).2.1, 0, (addL (stOf cs k a) (2 ^ b - 1) n y f p d).2.2.1, (addL (stOf cs k a) (2 ^ b - 1) n y f p d).2.2.2.1, (addL (stOf cs k a) (2 ^ b - 1) n y f p d).2.2.2.2⟩
/-- both in one -/
def mergeRM (cs : List Bool) (k a b y t : Nat) (f : Bool) (z u : Nat) (g : Bool) (p : Nat) (d : Bool) : TR :=
 if k = 4 then mergeTM cs a b y t f z u g p d
 else ⟨(mergeL (agOf cs k a) (2 ^ b - 1) z 0 y f p d).1, (mergeL (agOf cs k a) (2 ^ b - 1) z 0 y f p d).2.1, 0, (mergeL (agOf cs k a) (2 ^ b - 1) z 0 y f p d).2.2.1 || g, (mergeL (agOf cs k a) (2 ^ b - 1) z 0 y f p d).2.2.2.1, (mergeL (agOf cs k a) (2 ^ b - 1) z 0 y f p d).2.2.2.2⟩

theorem o_k {cs : List Bool} {k a b n y t : Nat} {f : Bool} {p : Nat} {d : Bool} (h : GoodR k a b) (hw : WellR k a b y t f) (hp : p ≤ cs.length) (hc : cs.length ≤ 4000000) :
  (addRM cs k a b n y t f p d).p ≤ cs.length ∧ ((addRM cs k a b n y t f p d).e = 0 → WellR k a b (addRM cs k a b n y t f p d).y (addRM cs k a b n y t f p d).t (addRM cs k a b n y t f p d).f) := by
 unfold addRM
 rcases hw with ⟨rfl, hw⟩ | ⟨hk, rfl, hy, hf⟩
 ·rw [if_pos rfl]
  have := o_hy (cs := cs) n y t f p d hp hw.2.1 hw.1 hw.2.2
  exact ⟨this.1, fun he => .inl ⟨rfl, this.2.2.1 he, this.2.1, this.2.2.2⟩⟩
 ·rw [if_neg hk]
  rcases h with ⟨rfl, -⟩ | ⟨-, hg⟩
  ·exact absurd rfl hk
  have h1 := o_hv (top := 2 ^ b - 1) (o_sy hg cs hc) n y f p d hy hp
  exact ⟨h1.2.2, fun _ => .inr ⟨hk, rfl, h1.2.1, o_i0 n y f p d hf⟩⟩
theorem o_7q {cs : List Bool} {k a b y t : Nat} {f : Bool} {z u : Nat} {g : Bool} {p : Nat} {d : Bool} (h : GoodR k a b) (hw : WellR k a b y t f) (hv : WellR k a b z u g) (hp : p ≤ cs.length) :
  (mergeRM cs k a b y t f z u g p d).p ≤ cs.length ∧ ((mergeRM cs k a b y t f z u g p d).e = 0 → WellR k a b (mergeRM cs k a b y t f z u g p d).y (mergeRM cs k a b y t f z u g p d).t (mergeRM cs k a b y t f z u g p d).f) := by
 unfold mergeRM
 rcases hw with ⟨rfl, hw⟩ | ⟨hk, rfl, hy, hf⟩
 ·rw [if_pos rfl]
  rcases hv with ⟨-, hv⟩ | ⟨hk, -⟩
  ·have := o_sp (cs := cs) (most := a) (times := b) (y := y) (t := t) (f := f) (z := z) (u := u) (g := g) (p := p) (d := d) hp hw.2.1 hv.2.1 hw.2.2 hv.2.2
   exact ⟨this.1, fun he => .inl ⟨rfl, this.2 he⟩⟩
  ·exact absurd rfl hk
 ·rw [if_neg hk]
  rcases hv with ⟨rfl, -⟩ | ⟨-, rfl, hz, hg⟩
  ·exact absurd rfl hk
  have h1 := o_7p (ag := agOf cs k a) (top := 2 ^ b - 1) (N := cs.length) (fun x r p d h => o_sm h) (fun x p d => o_sl cs k a x p d) z 0 y f p d hy hp (Nat.zero_le _) (by omega) hf
  refine ⟨h1.1, fun he => .inr ⟨hk, rfl, h1.2.1, fun hfg => ?_⟩⟩
  have h2 := h1.2.2 he
  simp at hfg
  rcases hfg with hfg | hfg
  ·exact h2.2 hfg
  ·have := hg hfg; have := h1.2.1; simp only; omega
end
end Go.Proofs.YtijbgbpjionfjaaGreatDoor.Am
namespace Go.Proofs.YtijbgbpjionfjaaGreatDoor.Am
section
def b2n (b : Bool) : Nat := if b then 1 else 0
@[simp] theorem o_42 (b : Bool) : b2n b ≤ 1 := by cases b <;> decide
/-- a number of bits, the highest first -/
def numB : List Bool → Nat → Nat
 | [], n => n
 | b :: l, n => numB l (2 * n + b2n b)
theorem o_1w : ∀ (l k : List Bool) (n : Nat), numB (l ++ k) n = numB k (numB l n)
 | [], k, n => rfl
 | b :: l, k, n => o_1w l k _
theorem o_7r : ∀ (l : List Bool) (n : Nat), numB l n = n * 2 ^ l.length + numB l 0
 | [], n => by simp [numB]
 | b :: l, n => by
  rw [numB, o_7r l, numB, o_7r l (2 * 0 + b2n b), List.length_cons, Nat.pow_succ, Nat.add_mul, Nat.mul_zero, Nat.zero_add, ← Nat.add_assoc, Nat.mul_comm 2 n, Nat.mul_assoc, Nat.mul_comm 2]
theorem o_7s : ∀ l : List Bool, numB l 0 < 2 ^ l.length
 | [] => by simp [numB]
 | b :: l => by
  rw [numB, o_7r, List.length_cons, Nat.pow_succ]
  have := o_7s l
  have := o_42 b
  generalize 2 ^ l.length = v at *
  cases b <;> simp [b2n] <;> omega
/-- so many bits of a number -/
def bitsW (n w : Nat) : List Bool := (List.range w).map fun i => decide (n / 2 ^ (w - 1 - i) % 2 = 1)
@[simp] theorem o_1h (n w : Nat) : (bitsW n w).length = w := by simp [bitsW]
theorem o_i1 (n w : Nat) : bitsW n (w + 1) = bitsW (n / 2) w ++ [decide (n % 2 = 1)] := by
 simp only [bitsW, List.range_succ, List.map_append, List.map_cons, List.map_nil]
 congr 1
 ·apply List.map_congr_left
  intro i hi
  have := List.mem_range.1 hi
  rw [Nat.div_div_eq_div_mul, ← Nat.pow_succ', show w + 1 - 1 - i = (w - 1 - i).succ by omega]
 ·simp
theorem o_7t : ∀ (w n : Nat), numB (bitsW n w) 0 = n % 2 ^ w
 | 0, n => by simp [bitsW, numB, Nat.mod_one]
 | w + 1, n => by
  rw [o_i1, o_1w, o_7t w]
  simp only [numB]
  rw [Nat.pow_succ, Nat.mul_comm (2 ^ w) 2, Nat.mod_mul]
  have h2 : b2n (decide (n % 2 = 1)) = n % 2 := by
   rcases Nat.mod_two_eq_zero_or_one n with h | h <;> simp [h, b2n]
  rw [h2]; omega

def bit (bs : List Bool) (i : Nat) : Nat := b2n (bs.getD i false)
/-- the byte at a place -/
def byteAt (bs : List Bool) (i : Nat) : Nat := bit bs (8 * i) * 128 + bit bs (8 * i + 1) * 64 + bit bs (8 * i + 2) * 32 + bit bs (8 * i + 3) * 16 + bit bs (8 * i + 4) * 8 + bit bs (8 * i + 5) * 4 + bit bs (8 * i + 6) * 2 + bit bs (8 * i + 7)
theorem o_a (bs : List Bool) (i : Nat) : bit bs i ≤ 1 := o_42 _
theorem o_i2 (bs : List Bool) (i : Nat) : byteAt bs i < 256 := by
 unfold byteAt
 have h0 := o_a bs (8 * i); have h1 := o_a bs (8 * i + 1); have h2 := o_a bs (8 * i + 2); have h3 := o_a bs (8 * i + 3)
 have h4 := o_a bs (8 * i + 4); have h5 := o_a bs (8 * i + 5); have h6 := o_a bs (8 * i + 6); have h7 := o_a bs (8 * i + 7)
 omega
/-- bytes of bits -/
def bytesOf (bs : List Bool) : List Nat := (List.range ((bs.length + 7) / 8)).map (byteAt bs)
@[simp] theorem o_f (bs : List Bool) : (bytesOf bs).length = (bs.length + 7) / 8 := by simp [bytesOf]
theorem o_w {bs : List Bool} {i : Nat} (h : bs.length ≤ i) : bit bs i = 0 := by
 unfold bit; rw [List.getD_eq_getElem?_getD, List.getElem?_eq_none h]; rfl
theorem o_x {bs : List Bool} {b : Bool} {i : Nat} (h : i ≠ bs.length) : bit (bs ++ [b]) i = bit bs i := by
 unfold bit
 rw [List.getD_eq_getElem?_getD, List.getD_eq_getElem?_getD]
 rcases Nat.lt_or_gt_of_ne h with h' | h'
 ·rw [List.getElem?_append_left h']
 ·rw [List.getElem?_eq_none (by simp; omega), List.getElem?_eq_none (by omega)]
theorem o_sz {bs : List Bool} {b : Bool} : bit (bs ++ [b]) bs.length = b2n b := by
 unfold bit; rw [List.getD_eq_getElem?_getD]; simp
theorem o_i3 {bs : List Bool} {b : Bool} {i : Nat} (h : i ≠ bs.length / 8) : byteAt (bs ++ [b]) i = byteAt bs i := by
 unfold byteAt
 rw [o_x (by omega), o_x (by omega), o_x (by omega), o_x (by omega), o_x (by omega), o_x (by omega), o_x (by omega), o_x (by omega)]
/-- one bit more: it is added at its place, where there is none yet -/
theorem o_i4 {bs : List Bool} {b : Bool} : ∃ c, byteAt bs (bs.length / 8) = c * 2 ^ (8 - bs.length % 8) ∧ byteAt (bs ++ [b]) (bs.length / 8) = c * 2 ^ (8 - bs.length % 8) + b2n b * 2 ^ (7 - bs.length % 8) := by
 have hs : ∀ k, k ≠ bs.length % 8 → k < 8 → bit (bs ++ [b]) (8 * (bs.length / 8) + k) = bit bs (8 * (bs.length / 8) + k) := fun k hk h8 => o_x (by omega)
 have ho : ∀ k, bs.length % 8 ≤ k → bit bs (8 * (bs.length / 8) + k) = 0 := fun k hk => o_w (by omega)
 have hl : bit (bs ++ [b]) (8 * (bs.length / 8) + bs.length % 8) = b2n b := by rw [show 8 * (bs.length / 8) + bs.length % 8 = bs.length by omega]; exact o_sz
 have hr : bs.length % 8 < 8 := Nat.mod_lt _ (by omega)
 unfold byteAt
 rw [show 8 * (bs.length / 8) = 8 * (bs.length / 8) + 0 by rfl]
 generalize 8 * (bs.length / 8) = q at *
 generalize bs.length % 8 = r at *
 generalize hL : bs ++ [b] = L at *
 have hr' : r = 0 ∨ r = 1 ∨ r = 2 ∨ r = 3 ∨ r = 4 ∨ r = 5 ∨ r = 6 ∨ r = 7 := by omega
 simp only [Nat.add_zero] at *
 rcases hr' with rfl | rfl | rfl | rfl | rfl | rfl | rfl | rfl
 ·refine ⟨0, ?_, ?_⟩
  ·have := ho 0; have := ho 1; have := ho 2; have := ho 3; have := ho 4; have := ho 5; have := ho 6; have := ho 7; simp_all
  ·have := ho 0; have := ho 1; have := ho 2; have := ho 3; have := ho 4; have := ho 5; have := ho 6; have := ho 7; have := hs 1; have := hs 2; have := hs 3; have := hs 4; have := hs 5; have := hs 6; have := hs 7; simp_all
 ·refine ⟨bit bs q, ?_, ?_⟩
  ·have := ho 1; have := ho 2; have := ho 3; have := ho 4; have := ho 5; have := ho 6; have := ho 7; simp_all
  ·have := ho 1; have := ho 2; have := ho 3; have := ho 4; have := ho 5; have := ho 6; have := ho 7; have := hs 0; have := hs 2; have := hs 3; have := hs 4; have := hs 5; have := hs 6; have := hs 7; simp_all
 ·refine ⟨bit bs q * 2 + bit bs (q + 1), ?_, ?_⟩
  ·have := ho 2; have := ho 3; have := ho 4; have := ho 5; have := ho 6; have := ho 7; simp_all; omega
  ·have := ho 2; have := ho 3; have := ho 4; have := ho 5; have := ho 6; have := ho 7; have := hs 0; have := hs 1; have := hs 3; have := hs 4; have := hs 5; have := hs 6; have := hs 7; simp_all; omega
 ·refine ⟨bit bs q * 4 + bit bs (q + 1) * 2 + bit bs (q + 2), ?_, ?_⟩
  ·have := ho 3; have := ho 4; have := ho 5; have := ho 6; have := ho 7; simp_all; omega
  ·have := ho 3; have := ho 4; have := ho 5; have := ho 6; have := ho 7; have := hs 0; have := hs 1; have := hs 2; have := hs 4; have := hs 5; have := hs 6; have := hs 7; simp_all; omega
 ·refine ⟨bit bs q * 8 + bit bs (q + 1) * 4 + bit bs (q + 2) * 2 + bit bs (q + 3), ?_, ?_⟩
  ·have := ho 4; have := ho 5; have := ho 6; have := ho 7; simp_all; omega
  ·have := ho 4; have := ho 5; have := ho 6; have := ho 7; have := hs 0; have := hs 1; have := hs 2; have := hs 3; have := hs 5; have := hs 6; have := hs 7; simp_all; omega
 ·refine ⟨bit bs q * 16 + bit bs (q + 1) * 8 + bit bs (q + 2) * 4 + bit bs (q + 3) * 2 + bit bs (q + 4), ?_, ?_⟩
  ·have := ho 5; have := ho 6; have := ho 7; simp_all; omega
  ·have := ho 5; have := ho 6; have := ho 7; have := hs 0; have := hs 1; have := hs 2; have := hs 3; have := hs 4; have := hs 6; have := hs 7; simp_all; omega
 ·refine ⟨bit bs q * 32 + bit bs (q + 1) * 16 + bit bs (q + 2) * 8 + bit bs (q + 3) * 4 + bit bs (q + 4) * 2 + bit bs (q + 5), ?_, ?_⟩
  ·have := ho 6; have := ho 7; simp_all; omega
  ·have := ho 6; have := ho 7; have := hs 0; have := hs 1; have := hs 2; have := hs 3; have := hs 4; have := hs 5; have := hs 7; simp_all; omega
 ·refine ⟨bit bs q * 64 + bit bs (q + 1) * 32 + bit bs (q + 2) * 16 + bit bs (q + 3) * 8 + bit bs (q + 4) * 4 + bit bs (q + 5) * 2 + bit bs (q + 6), ?_, ?_⟩
  ·have := ho 7; simp_all; omega
  ·have := ho 7; have := hs 0; have := hs 1; have := hs 2; have := hs 3; have := hs 4; have := hs 5; have := hs 6; simp_all; omega

theorem o_t0 {bs : List Bool} {b : Bool} (h : bs.length % 8 = 0) : bytesOf (bs ++ [b]) = bytesOf bs ++ [b2n b * 128] := by
 unfold bytesOf
 rw [List.length_append, List.length_singleton, show (bs.length + 1 + 7) / 8 = (bs.length + 7) / 8 + 1 by omega, List.range_succ, List.map_append]
 congr 1
 ·apply List.map_congr_left
  intro i hi
  have := List.mem_range.1 hi
  exact o_i3 (by omega)
 ·obtain ⟨c, h1, h2⟩ := o_i4 (bs := bs) (b := b)
  have h3 : byteAt bs (bs.length / 8) = 0 := by
   unfold byteAt
   rw [o_w (by omega), o_w (by omega), o_w (by omega), o_w (by omega), o_w (by omega), o_w (by omega), o_w (by omega), o_w (by omega)]
  rw [h3, h, Nat.sub_zero] at h1
  rw [h, Nat.sub_zero, Nat.sub_zero] at h2
  rw [List.map_singleton, show (bs.length + 7) / 8 = bs.length / 8 by omega, h2, ← h1]
  simp
theorem o_t1 {bs : List Bool} {b : Bool} (h : bs.length % 8 ≠ 0) : ∃ c, (bytesOf bs).getD (bs.length / 8) 0 = c * 2 ^ (8 - bs.length % 8) ∧ bytesOf (bs ++ [b]) = (bytesOf bs).set (bs.length / 8) (c * 2 ^ (8 - bs.length % 8) + b2n b * 2 ^ (7 - bs.length % 8)) := by
 obtain ⟨c, h1, h2⟩ := o_i4 (bs := bs) (b := b)
 refine ⟨c, ?_, ?_⟩
 ·unfold bytesOf
  rw [List.getD_eq_getElem?_getD, List.getElem?_map, List.getElem?_range (by omega)]
  exact h1
 ·apply List.ext_getElem?
  intro i
  rw [List.getElem?_set]
  unfold bytesOf
  simp only [List.getElem?_map, List.length_map, List.length_range, List.length_append, List.length_singleton]
  rw [show (bs.length + 1 + 7) / 8 = (bs.length + 7) / 8 by omega]
  by_cases hi : bs.length / 8 = i
  ·subst hi
   rw [if_pos rfl, if_pos (by omega), List.getElem?_range (by omega), Option.map_some, h2]
  ·rw [if_neg hi]
   by_cases hl : i < (bs.length + 7) / 8
   ·rw [List.getElem?_range hl, Option.map_some, Option.map_some, o_i3 (fun h => hi h.symm)]
   ·rw [List.getElem?_eq_none (by simp; omega)]; rfl

/-- bits of bytes -/
def bitsOf1 (x : Nat) : List Bool := bitsW x 8
def bitsOf : List Nat → List Bool
 | [] => []
 | x :: l => bitsOf1 x ++ bitsOf l
@[simp] theorem o_t2 : ∀ l : List Nat, (bitsOf l).length = 8 * l.length
 | [] => rfl
 | x :: l => by simp [bitsOf, bitsOf1, o_t2 l]; omega
theorem o_t3 : ∀ l k : List Nat, bitsOf (l ++ k) = bitsOf l ++ bitsOf k
 | [], k => rfl
 | x :: l, k => by simp [bitsOf, o_t3 l k]
theorem o_7u : ∀ (l : List Nat) (i : Nat), i < 8 * l.length → (bitsOf l).getD i false = decide (l.getD (i / 8) 0 / 2 ^ (7 - i % 8) % 2 = 1)
 | [], i, h => by simp at h
 | x :: l, i, h => by
  rw [bitsOf, List.getD_eq_getElem?_getD]
  by_cases h8 : i < 8
  ·rw [List.getElem?_append_left (by simp [bitsOf1]; omega), bitsOf1, bitsW, List.getElem?_map, List.getElem?_range h8, show i / 8 = 0 by omega, show i % 8 = i by omega]
   rfl
  ·rw [List.getElem?_append_right (by simp [bitsOf1]; omega), ← List.getD_eq_getElem?_getD]
   have := o_7u l (i - 8) (by simp at h; omega)
   simp only [bitsOf1, o_1h]
   rw [this, show i / 8 = (i - 8) / 8 + 1 by omega, show (i - 8) % 8 = i % 8 by omega]
   simp
theorem o_t4 (bs : List Bool) : (bitsOf (bytesOf bs)).take bs.length = bs := by
 apply List.ext_getElem?
 intro i
 rw [List.getElem?_take]
 by_cases h : i < bs.length
 ·rw [if_pos h, List.getElem?_eq_getElem (by simp; omega), List.getElem?_eq_getElem h]
  congr 1
  have h1 := o_7u (bytesOf bs) i (by simp; omega)
  rw [List.getD_eq_getElem?_getD, List.getElem?_eq_getElem (by simp; omega), Option.getD_some] at h1
  rw [h1]
  have h2 : (bytesOf bs).getD (i / 8) 0 = byteAt bs (i / 8) := by
   unfold bytesOf
   rw [List.getD_eq_getElem?_getD, List.getElem?_map, List.getElem?_range (by omega)]; rfl
  rw [h2]
  have h3 : bit bs i = b2n bs[i] := by unfold bit; rw [List.getD_eq_getElem?_getD, List.getElem?_eq_getElem h]; rfl
  have h4 : byteAt bs (i / 8) / 2 ^ (7 - i % 8) % 2 = bit bs i := by
   have e : i = 8 * (i / 8) + i % 8 := by omega
   have hr : i % 8 < 8 := Nat.mod_lt _ (by omega)
   conv => rhs; rw [e]
   unfold byteAt
   generalize i / 8 = q at *
   generalize i % 8 = r at *
   have g0 := o_a bs (8 * q); have g1 := o_a bs (8 * q + 1); have g2 := o_a bs (8 * q + 2); have g3 := o_a bs (8 * q + 3)
   have g4 := o_a bs (8 * q + 4); have g5 := o_a bs (8 * q + 5); have g6 := o_a bs (8 * q + 6); have g7 := o_a bs (8 * q + 7)
   have hr' : r = 0 ∨ r = 1 ∨ r = 2 ∨ r = 3 ∨ r = 4 ∨ r = 5 ∨ r = 6 ∨ r = 7 := by omega
   rcases hr' with rfl | rfl | rfl | rfl | rfl | rfl | rfl | rfl <;> simp only [Nat.add_zero, Nat.sub_zero, Nat.reducePow, Nat.reduceSub] <;> omega
  rw [h4, h3]
  cases bs[i] <;> rfl
 ·rw [if_neg h, List.getElem?_eq_none (by omega)]
end
end Go.Proofs.YtijbgbpjionfjaaGreatDoor.Am
namespace Go.Proofs.YtijbgbpjionfjaaGreatDoor.Am
section
open Go.RowKit
/-- bytes in cells -/
def u8s (ws : List Nat) : List V := ws.map fun x : Nat => V.d (.int .u8 x)
/-- bytes, as data -/
def BY (ws : List Nat) : D := .sl ws.length (ws.map fun x : Nat => .int .u8 x)
theorem o_43 (ws : List Nat) : (u8s ws).length = ws.length := by simp [u8s]
theorem o_i5 {ws : List Nat} {j : Nat} (h : j < ws.length) : (u8s ws)[j]? = some (.d (.int .u8 (ws.getD j 0 : Nat))) := by simp [u8s, h]
theorem o_t5 (ws : List Nat) (j v : Nat) : (u8s ws).set j (.d (.int .u8 v)) = u8s (ws.set j v) := by simp [u8s, List.map_set]
theorem o_i6 (ws : List Nat) (v : Nat) : u8s ws ++ [.d (.int .u8 v)] = u8s (ws ++ [v]) := by simp [u8s]
@[simp] theorem o_7v (n : Nat) (ws : List Nat) : V.lowl n (u8s ws) = true := by induction ws <;> simp_all [u8s]
@[simp] theorem o_t6 (θ : Nat → Nat) (ws : List Nat) : V.rens θ (u8s ws) = u8s ws := by induction ws <;> simp_all [u8s]
/-- a writer's variable, its bytes -/
def wrO (m : Nat) (bs : List Bool) : Ob := ⟨85, [.own m 1 ((bs.length + 7) / 8), .d (.int .i64 bs.length)]⟩
def wrB (bs : List Bool) : Ob := ⟨5, u8s (bytesOf bs)⟩

theorem o_t7 (x y : Nat) (hx : x < 256) (hy : y < 256) : bits BinOp.or IntKind.u8 (x : Int) (y : Int) = ((x ||| y : Nat) : Int) := by
 show IntKind.u8.wrap (((BitVec.ofInt 8 (x : Int)) ||| (BitVec.ofInt 8 (y : Int))).toNat : Int) = _
 rw [BitVec.toNat_or, BitVec.ofInt_natCast, BitVec.ofInt_natCast, BitVec.toNat_ofNat, BitVec.toNat_ofNat, Nat.mod_eq_of_lt (by omega), Nat.mod_eq_of_lt (by omega)]
 have := Nat.or_lt_two_pow (n := 8) (x := x) (y := y) hx hy
 rw [IntKind.wrap_u8]
 omega
theorem o_t8 {c r : Nat} (hr : r < 8) (h : c * 2 ^ (8 - r) < 256) : bits BinOp.or IntKind.u8 ((c * 2 ^ (8 - r) : Nat) : Int) ((2 ^ (7 - r) : Nat) : Int) = ((c * 2 ^ (8 - r) + 2 ^ (7 - r) : Nat) : Int) := by
 have h2 : 2 ^ (7 - r) < 2 ^ (8 - r) := Nat.pow_lt_pow_right (by omega) (by omega)
 have h3 : 2 ^ (7 - r) ≤ 2 ^ 7 := Nat.pow_le_pow_right (by omega) (by omega)
 rw [o_t7 _ _ h (by omega), Nat.mul_comm c, Nat.two_pow_add_eq_or_of_lt h2]

theorem o_t9 (b : Bool) : Eqn Tryz.prog o_6j [.p 0 0, .d (.bool b)] [⟨85, [.d .nilsl, .d (.int .i64 0)]⟩] (.tup []) [wrO 1 [b], wrB [b]] := by
 refine Eqn.gen [0, 2] o_6k (by simp) (by simp) (by rfl) (by decide) (by simp) (by simp [wrO, wrB, o_7v]) ?_
 simp only [o_3h]
 have e1 : IntKind.i64.wrap 1 = 1 := w64 (by omega) (by omega)
 have e2 : bits BinOp.or IntKind.u8 0 (IntKind.u8.wrap 128) = 128 := by decide
 refine G0 ?_; try with_reducible exact tt
 refine AW.cond rfl (fun h => ?_) (fun h => ?_)
 ·refine G0 ?_; try with_reducible exact tt
  cases b with
  | true =>
   refine AW.cond rfl (fun h => ?_) (fun h => ?_)
   ·refine G1 (fs e1 e2) ?_; try with_reducible exact tt
    simp [wrO, wrB, u8s, bytesOf, byteAt, bit, b2n, List.range_succ]
   ·simp at h
  | false =>
   refine AW.cond rfl (fun h => ?_) (fun h => ?_)
   ·simp at h
   ·refine G1 (fs e1 e2) ?_; try with_reducible exact tt
    simp [wrO, wrB, u8s, bytesOf, byteAt, bit, b2n, List.range_succ]
 ·simp at h

theorem o_7w (bs : List Bool) (b : Bool) (h0 : bs ≠ []) (hn : bs.length ≤ 1000000) : EqnD Tryz.prog o_6j [.p 0 0, .d (.bool b)] [wrO 1 bs, wrB bs] (.tup []) [wrO 2 (bs ++ [b]), wrB bs, wrB (bs ++ [b])] [1] := by
 have e1 : IntKind.i64.wrap ((bs.length : Int) + 1) = (bs.length : Int) + 1 := w64 (by omega) (by omega)
 have e2 : ((bs.length : Nat) : Int).tmod 8 = ((bs.length % 8 : Nat) : Int) := by rw [Int.tmod_eq_emod_of_nonneg (by omega)]; rfl
 have e2' : ((bs.length : Nat) : Int) % 8 = ((bs.length % 8 : Nat) : Int) := rfl
 have e3 : IntKind.i64.wrap (((bs.length : Nat) : Int) / 8) = ((bs.length / 8 : Nat) : Int) := by rw [w64 (by omega) (by omega)]; rfl
 by_cases hr : bs.length % 8 = 0
 ·refine Eqn.gen [0, 1, 3] o_6k (by simp) (by simp) (by rfl) (by decide) (by simp) (by simp [wrO, wrB, o_7v]) ?_
  have hb := o_t0 (b := b) hr
  have hl : (bytesOf bs).length = bs.length / 8 := by rw [o_f]; omega
  simp only [o_3h, wrO, wrB, hb, List.length_append, List.length_singleton]
  rw [show (bs.length + 7) / 8 = bs.length / 8 by omega, show (bs.length + 1 + 7) / 8 = bs.length / 8 + 1 by omega]
  rw [hr] at e2 e2'
  have hg : (u8s (bytesOf bs ++ [0]))[bs.length / 8]? = some (.d (.int .u8 0)) := by rw [o_i5 (by simp; omega)]; simp [List.getD, ← hl]
  have hs : ∀ v, (u8s (bytesOf bs ++ [0])).set (bs.length / 8) (.d (.int .u8 v)) = u8s (bytesOf bs) ++ [.d (.int .u8 v)] := fun v => by simp [u8s, ← hl]
  have hu := o_i6 (bytesOf bs) 0
  have hu2 := o_i6 (bytesOf bs) (b2n b * 128)
  have hlen := o_43 (bytesOf bs)
  rw [hl] at hlen
  generalize bytesOf bs = ws at *
  have hq : bs.length / 8 ≤ 1000000 := by omega
  generalize bs.length / 8 = q at *
  generalize bs.length = n at *
  have e4 : bits BinOp.or IntKind.u8 0 (IntKind.u8.wrap 128) = 128 := by decide
  simp at hu
  have hlen2 : (u8s (ws ++ [0])).length = q + 1 := by rw [o_43]; simp; omega
  refine G1 (fs e2 (fs e2' hu)) ?_; try with_reducible exact tt
  refine AW.cond rfl (fun h => ?_) (fun h => ?_)
  ·refine G1 (fs e2 (fs e2' hu)) ?_; try with_reducible exact tt
   cases b with
   | true =>
    simp [b2n] at hu2
    refine AW.cond rfl (fun h => ?_) (fun h => ?_)
    ·refine G1 (fs e1 (fs e2 (fs e2' (fs e3 (fs e4 (fs hg hs)))))) ?_; try with_reducible exact tt
     simp [hu2, b2n]
    ·simp at h
   | false =>
    simp [b2n] at hu2
    refine AW.cond rfl (fun h => ?_) (fun h => ?_)
    ·simp at h
    ·refine G1 e1 ?_; try with_reducible exact tt
     simp [hu2, b2n]
  ·simp at h
 ·refine Eqn.gen [0, 1, 1] o_6k (by simp) (by simp) (by rfl) (by decide) (by simp) (by simp [wrO, wrB, o_7v]) ?_
  obtain ⟨c, hc, hb⟩ := o_t1 (b := b) hr
  have hlt : c * 2 ^ (8 - bs.length % 8) < 256 := by
   rw [← hc]
   have : (bytesOf bs).getD (bs.length / 8) 0 = byteAt bs (bs.length / 8) := by
    unfold bytesOf
    rw [List.getD_eq_getElem?_getD, List.getElem?_map, List.getElem?_range (by omega)]; rfl
   rw [this]; exact o_i2 _ _
  have hor := o_t8 (r := bs.length % 8) (Nat.mod_lt _ (by omega)) hlt
  have hR : bs.length % 8 < 8 := Nat.mod_lt _ (by omega)
  have hl : (bytesOf bs).length = bs.length / 8 + 1 := by rw [o_f]; omega
  have hg := o_i5 (ws := bytesOf bs) (j := bs.length / 8) (by omega)
  rw [hc] at hg
  have hs := o_t5 (bytesOf bs) (bs.length / 8)
  have hset : c * 2 ^ (8 - bs.length % 8) = (bytesOf bs).getD (bs.length / 8) 0 := hc.symm
  have hkeep : (bytesOf bs).set (bs.length / 8) (c * 2 ^ (8 - bs.length % 8)) = bytesOf bs := by
   rw [hset]
   apply List.ext_getElem?
   intro i
   rw [List.getElem?_set]
   split
   ·rename_i h; subst h
    rw [if_pos (by omega), List.getD_eq_getElem?_getD, List.getElem?_eq_getElem (by omega)]; rfl
   ·rfl
  have h7 : 2 ^ (7 - bs.length % 8) ≤ 2 ^ 7 := Nat.pow_le_pow_right (by omega) (by omega)
  simp only [o_3h, wrO, wrB, hb, List.length_append, List.length_singleton]
  rw [show (bs.length + 7) / 8 = bs.length / 8 + 1 by omega, show (bs.length + 1 + 7) / 8 = bs.length / 8 + 1 by omega]
  have e5 : IntKind.i64.wrap (7 - ((bs.length % 8 : Nat) : Int)) = ((7 - bs.length % 8 : Nat) : Int) := by rw [w64 (by omega) (by omega)]; omega
  have e6 : IntKind.u8.wrap (2 ^ (7 - bs.length % 8)) = ((2 ^ (7 - bs.length % 8) : Nat) : Int) := by
   have : ((2 : Int) ^ (7 - bs.length % 8)) = ((2 ^ (7 - bs.length % 8) : Nat) : Int) := by rw [Int.natCast_pow]; rfl
   rw [IntKind.wrap_u8, this]
   exact Int.emod_eq_of_lt (Int.natCast_nonneg _) (by exact_mod_cast Nat.lt_of_le_of_lt h7 (by decide))
  have e7 : 7 - bs.length % 8 ≤ 7 := by omega
  have hlen := o_43 (bytesOf bs)
  rw [hl] at hlen
  clear hset hc hl hb
  generalize bytesOf bs = ws at *
  generalize bs.length / 8 = q at *
  generalize bs.length % 8 = r at *
  generalize bs.length = n at *
  generalize 2 ^ (7 - r) = P at *
  generalize c * 2 ^ (8 - r) = C at *
  have hCP : C + b2n b * P = if b then C + P else C := by cases b <;> simp [b2n]
  rw [hCP]
  have hr' : ¬ (r : Int) = 0 := by omega
  refine G1 (fs e2 (fs e2' (fs hr hr'))) ?_; try with_reducible exact tt
  refine AW.cond rfl (fun h => ?_) (fun h => ?_)
  ·simp [hr, hr'] at h
  ·refine G0 ?_; try with_reducible exact tt
   cases b with
   | true =>
    refine AW.cond rfl (fun h => ?_) (fun h => ?_)
    ·refine G1 (fs e1 (fs e2 (fs e2' (fs e3 (fs e5 (fs e6 (fs e7 (fs hg (fs hor hs))))))))) ?_; try with_reducible exact tt
     exact Subs.of (by rw [← hs]; simp)
    ·simp at h
   | false =>
    refine AW.cond rfl (fun h => ?_) (fun h => ?_)
    ·simp at h
    ·refine G1 e1 ?_; try with_reducible exact tt
     simp [hkeep]

theorem o_7x (bs : List Bool) (h0 : bs ≠ []) (hn : bs.length ≤ 1000000) : Eqn Tryz.prog o_b7 [.p 0 0] [wrO 1 bs, wrB bs] (.own 2 1 (bytesOf bs).length) [wrO 1 bs, wrB bs, wrB bs] := by
 refine Eqn.gen [0, 1, 2] o_lw (by simp) (by simp) (by rfl) (by decide) (by simp) (by simp [wrO, wrB]) ?_
 have hl : 0 < bs.length := by cases bs with | nil => exact absurd rfl h0 | cons _ _ => simp
 simp only [o_b8, wrO, wrB, o_f]
 have hlen := o_43 (bytesOf bs)
 rw [o_f] at hlen
 have hq : (bs.length + 7) / 8 ≤ 1000000 := by omega
 have hset : setMany (List.replicate ((bs.length + 7) / 8) (V.d (.int .u8 0))) 0 (u8s (bytesOf bs)) = u8s (bytesOf bs) := by
  rw [o_51 _ _ _ (by simp [hlen])]
  simp [hlen]
 have htake : (u8s (bytesOf bs)).take ((bs.length + 7) / 8) = u8s (bytesOf bs) := List.take_of_length_le (by omega)
 have hren : ∀ θ, V.rens θ (u8s (bytesOf bs)) = u8s (bytesOf bs) := fun θ => o_t6 θ _
 generalize u8s (bytesOf bs) = C at *
 generalize (bs.length + 7) / 8 = q at *
 generalize bs.length = n at *
 have e1 : IntKind.i64.wrap (q : Int) = q := w64 (by omega) (by omega)
 refine G1 (fs e1 (fs hset (fs htake hren))) ?_; try with_reducible exact tt

theorem o_7y (w : Int) : Eqn Tryz.prog o_eg [.d (.int .i64 w)] [] (.d (.bool (decide (0 ≤ w ∧ w ≤ 64)))) [] := by
 refine Eqn.pure o_nk (o_0 _) ?_
 simp only [o_eh]
 by_cases h : 0 ≤ w
 ·refine G1 h ?_; try with_reducible exact tt
 ·have h' : w < 0 := by omega
  refine G1 (fs h h') ?_; try with_reducible exact tt

/-- it fits into so many bits -/
theorem o_7z (n w : Nat) (hw : w ≤ 64) (h : n < 2 ^ w) : Eqn Tryz.prog o_ei [.d (.int .u64 n), .d (.int .i64 w)] [] (.d (.bool true)) [] := by
 refine Eqn.pure o_nl (o_0 _) ?_
 simp only [o_ej]
 by_cases h64 : w = 64
 ·subst h64
  refine G0 ?_; try with_reducible exact tt
 ·have h1 : ¬ (w : Int) = 64 := by omega
  have h2 : ((n : Int) / 2 ^ w) = 0 := by
   have : ((2 : Int) ^ w) = ((2 ^ w : Nat) : Int) := by rw [Int.natCast_pow]; rfl
   rw [this, ← Int.natCast_ediv, Nat.div_eq_of_lt h]; rfl
  have h3 : w < 64 := by omega
  refine G1 (fs h64 (fs h1 (fs h2 h3))) ?_; try with_reducible exact tt

theorem o_i7 (x : Nat) (hx : x < 18446744073709551616) : bits BinOp.and IntKind.u64 (x : Int) 1 = ((x % 2 : Nat) : Int) := by
 show IntKind.u64.wrap (((BitVec.ofInt 64 (x : Int)) &&& (BitVec.ofInt 64 (1 : Int))).toNat : Int) = _
 have h1 : (BitVec.ofInt 64 (1 : Int)).toNat = 1 := by decide
 rw [BitVec.toNat_and, h1, BitVec.ofInt_natCast, BitVec.toNat_ofNat, Nat.mod_eq_of_lt (by omega), Nat.and_one_is_mod, IntKind.wrap_u64]
 omega

theorem o_i8 (n w i : Nat) (h : i < w) : (bitsW n w).take (i + 1) = (bitsW n w).take i ++ [decide (n / 2 ^ (w - 1 - i) % 2 = 1)] := by
 rw [List.take_add_one, List.getElem?_eq_getElem (by simpa using h)]
 simp [bitsW]

set_option maxHeartbeats 1000000 in
theorem o_80 (n w : Nat) (h0 : 0 < w) (hw : w ≤ 64) (h : n < 2 ^ w) (hn : n < 18446744073709551616) : Eqn Tryz.prog o_62 [.p 0 0, .d (.int .u64 n), .d (.int .i64 w)] [⟨85, [.d .nilsl, .d (.int .i64 0)]⟩] (.d (.int .i64 0)) [wrO 1 (bitsW n w), wrB (bitsW n w)] := by
 refine Eqn.gen [0, 1] o_63 (by simp) (by simp) (by rfl) (by decide) (by simp) (by simp [wrO, wrB]) ?_
 simp only [o_3d]
 have hg := o_7y w
 rw [show decide (0 ≤ (w : Int) ∧ (w : Int) ≤ 64) = true by simp; omega] at hg
 refine G0 ?_; try with_reducible exact tt
 refine CallS.pu (hg) (R0 ?_); try with_reducible exact tt
 refine CallS.pu (o_7z n w hw h) (R0 ?_); try with_reducible exact tt
 refine AW.cond rfl (fun h => ?_) (fun h => ?_)
 ·simp at h
 clear h
 refine G0 ?_; try with_reducible exact tt
 refine AW.loopG (α := Nat) (fun i => [.p 0 0, .d (.int .u64 n), .d (.int .i64 w)] ++ List.replicate 3 .junk ++ [.d (.int .i64 0)] ++ List.replicate 10 .junk ++ [.d (.int .i64 w), .d (.int .i64 (i : Int))] ++ List.replicate 13 .junk) (fun i => if i = 0 then [some ⟨85, [.d .nilsl, .d (.int .i64 0)]⟩] else [some (wrO 1 ((bitsW n w).take i)), some (wrB ((bitsW n w).take i))]) (fun i => i ≤ w) (fun i => w - i) 0 ?_ (Nat.zero_le _) ?_ ?_ ?_
 ·intro i hi; split <;> simp
 ·simp
 ·simp
 rintro i hi
 obtain ⟨W, hW⟩ : ∃ W, W = w - 1 := ⟨_, rfl⟩
 have e2 : IntKind.i64.wrap ((w : Int) - 1) = (W : Int) := by rw [w64 (by omega) (by omega)]; omega
 have hnum : i < w → ∃ (S X : Nat) (b : Bool), IntKind.i64.wrap ((W : Int) - i) = (S : Int) ∧ S = W - i ∧ (n : Int) / 2 ^ S = (X : Int) ∧ bits BinOp.and IntKind.u64 (X : Int) 1 = (X : Int) % 2 ∧ ((X : Int) % 2 == 1) = b ∧ (bitsW n w).take (i + 1) = (bitsW n w).take i ++ [b] := by
  intro h
  refine ⟨W - i, n / 2 ^ (W - i), decide (n / 2 ^ (W - i) % 2 = 1), by rw [w64 (by omega) (by omega)]; omega, rfl, ?_, ?_, ?_, by rw [hW]; exact o_i8 n w i h⟩
  ·rw [Int.natCast_ediv, Int.natCast_pow]; rfl
  ·exact o_i7 _ (Nat.lt_of_le_of_lt (Nat.div_le_self _ _) hn)
  ·generalize n / 2 ^ (W - i) = z; rw [Bool.eq_iff_iff]; simp; omega
 have hend : (bitsW n w).take w = bitsW n w := List.take_of_length_le (by simp)
 have htl : ∀ k, k ≤ w → ((bitsW n w).take k).length = k := fun k h => by rw [List.length_take, o_1h]; omega
 have e1 : IntKind.i64.wrap ((i : Int) + 1) = ((i + 1 : Nat) : Int) := by rw [w64 (by omega) (by omega)]; omega
 by_cases hiw : i = w
 ·subst hiw
  rw [if_neg (by omega), hend]
  generalize bitsW n i = bs at *
  simp [wrO, wrB]
  refine G0 ?_; try with_reducible exact tt
  refine AW.cond rfl (fun h => ?_) (fun h => ?_)
  ·simp at h
  refine G0 ?_; try with_reducible exact tt
 ·have hlt : i < w := by omega
  have hlt' : (i : Int) < w := by omega
  obtain ⟨S, X, b, e3, e4, e5, e6, e7, e8⟩ := hnum hlt
  have e4' : (S : Int) ≤ 64 := by omega
  have e4w : (W : Int) ≤ 64 := by omega
  by_cases hi0 : i = 0
  ·subst hi0
   rw [if_pos rfl]
   rw [Nat.sub_zero] at e4
   subst e4
   simp
   refine G1 (fs hlt hlt') ?_; try with_reducible exact tt
   refine AW.cond rfl (fun h => ?_) (fun h => ?_)
   ·refine G1 (fs e2 (fs e4w (fs e5 (fs e6 e7)))) ?_; try with_reducible exact tt
    simp only [Int.toNat_natCast, e5, e6, e7]
    refine CallS.g [0] (o_t9 b) (R0 ?_); try with_reducible exact tt
    refine ⟨1, 1, 1, by simp, by omega, by omega, ?_, ?_⟩
    ·simp [swT, sw, V.ren, V.rens]
    ·simp at e8
     simp [swH, sw, Ob.sw, V.ren, V.rens, e8, wrO, wrB]
   ·simp [hlt'] at h
  ·rw [if_neg hi0]
   have hne : (bitsW n w).take i ≠ [] := fun h => by have := htl i hi; rw [h] at this; simp at this; omega
   have hB := o_7w ((bitsW n w).take i) b hne (by have := htl i hi; omega)
   rw [← e8] at hB
   have hk := htl (i + 1) (by omega)
   have hk0 := htl i hi
   simp only [wrO, wrB, hk, hk0] at hB ⊢
   simp
   refine G1 (fs hlt hlt') ?_; try with_reducible exact tt
   refine AW.cond rfl (fun h => ?_) (fun h => ?_)
   ·refine G1 (fs e2 (fs e3 (fs e4' (fs e5 (fs e6 e7))))) ?_; try with_reducible exact tt
    refine CallS.g [0, 1] (hB) (R1 e1 ?_); try with_reducible exact tt
    refine ⟨i + 1, 1, 2, by simp, by omega, by omega, ?_, ?_⟩
    ·simp [swT, sw, V.ren, V.rens, e1]
    ·have hmin : min (i + 1) w = i + 1 := Nat.min_eq_left (by omega)
     simp [swH, sw, Ob.sw, V.ren, V.rens, hk, hmin]
   ·simp [hlt'] at h
end
end Go.Proofs.YtijbgbpjionfjaaGreatDoor.Am
namespace Go.Proofs.YtijbgbpjionfjaaGreatDoor.Am
section
open Go.RowKit
set_option maxHeartbeats 1000000 in
theorem o_ta (bs : List Bool) (n w : Nat) (hbs : bs ≠ []) (hbl : bs.length ≤ 900000) (hw : w ≤ 64) (h : n < 2 ^ w) (hn : n < 18446744073709551616) : EqnD Tryz.prog o_62 [.p 0 0, .d (.int .u64 n), .d (.int .i64 w)] [wrO 1 bs, wrB bs] (.d (.int .i64 0)) [wrO 2 (bs ++ bitsW n w), wrB bs, wrB (bs ++ bitsW n w)] [1] := by
 have hg := o_7y w
 rw [show decide (0 ≤ (w : Int) ∧ (w : Int) ≤ 64) = true by simp; omega] at hg
 by_cases hw0 : w = 0
 ·subst hw0
  refine Eqn.gen [0, 1, 1] o_63 (by simp) (by simp) (by rfl) (by decide) (by simp) (by simp [wrO, wrB]) ?_
  rw [show bitsW n 0 = [] by rfl, List.append_nil]
  simp only [o_3d, wrO, wrB]
  have hf := o_7z n 0 hw h
  simp at hg hf
  refine G0 ?_; try with_reducible exact tt
  refine CallS.pu (hg) (R0 ?_); try with_reducible exact tt
  refine CallS.pu (hf) (R0 ?_); try with_reducible exact tt
  refine AW.cond rfl (fun h => ?_) (fun h => ?_)
  ·simp at h
  clear h
  refine G0 ?_; try with_reducible exact tt
  refine AW.loopT (α := Nat) 2 (fun i => [(18, .d (.int .i64 0))]) (fun i => []) (fun i => i = 0) (fun i => i) 0 ?_ ?_ rfl ?_ ?_ ?_
  ·simp
  ·simp
  ·simp
  ·simp
  rintro i rfl
  simp
  refine G0 ?_; try with_reducible exact tt
  refine AW.cond rfl (fun h => ?_) (fun h => ?_)
  ·simp at h
  refine G0 ?_; try with_reducible exact tt
 have h0 : 0 < w := by omega
 refine Eqn.gen [0, 1, 2] o_63 (by simp) (by simp) (by rfl) (by decide) (by simp) (by simp [wrO, wrB]) ?_
 simp only [o_3d]
 refine G0 ?_; try with_reducible exact tt
 refine CallS.pu (hg) (R0 ?_); try with_reducible exact tt
 refine CallS.pu (o_7z n w hw h) (R0 ?_); try with_reducible exact tt
 refine AW.cond rfl (fun h => ?_) (fun h => ?_)
 ·simp at h
 clear h
 refine G0 ?_; try with_reducible exact tt
 refine AW.loopG (α := Nat) (fun i => [.p 0 0, .d (.int .u64 n), .d (.int .i64 w)] ++ List.replicate 3 .junk ++ [.d (.int .i64 0)] ++ List.replicate 10 .junk ++ [.d (.int .i64 w), .d (.int .i64 (i : Int))] ++ List.replicate 13 .junk) (fun i => if i = 0 then [some (wrO 1 bs), some (wrB bs)] else [some (wrO 2 (bs ++ (bitsW n w).take i)), none, some (wrB (bs ++ (bitsW n w).take i))]) (fun i => i ≤ w) (fun i => w - i) 0 ?_ (Nat.zero_le _) ?_ ?_ ?_
 ·intro i hi; split <;> simp
 ·simp
 ·simp [wrO, wrB]
 rintro i hi
 obtain ⟨W, hW⟩ : ∃ W, W = w - 1 := ⟨_, rfl⟩
 have e2 : IntKind.i64.wrap ((w : Int) - 1) = (W : Int) := by rw [w64 (by omega) (by omega)]; omega
 have hnum : i < w → ∃ (S X : Nat) (b : Bool), IntKind.i64.wrap ((W : Int) - i) = (S : Int) ∧ S = W - i ∧ (n : Int) / 2 ^ S = (X : Int) ∧ bits BinOp.and IntKind.u64 (X : Int) 1 = (X : Int) % 2 ∧ ((X : Int) % 2 == 1) = b ∧ bs ++ (bitsW n w).take (i + 1) = (bs ++ (bitsW n w).take i) ++ [b] := by
  intro h
  refine ⟨W - i, n / 2 ^ (W - i), decide (n / 2 ^ (W - i) % 2 = 1), by rw [w64 (by omega) (by omega)]; omega, rfl, ?_, ?_, ?_, by rw [hW, List.append_assoc]; congr 1; exact o_i8 n w i h⟩
  ·rw [Int.natCast_ediv, Int.natCast_pow]; rfl
  ·exact o_i7 _ (Nat.lt_of_le_of_lt (Nat.div_le_self _ _) hn)
  ·generalize n / 2 ^ (W - i) = z; rw [Bool.eq_iff_iff]; simp; omega
 have hend : (bitsW n w).take w = bitsW n w := List.take_of_length_le (by simp)
 have htl : ∀ k, k ≤ w → (bs ++ (bitsW n w).take k).length = bs.length + k := fun k h => by rw [List.length_append, List.length_take, o_1h]; omega
 have e1 : IntKind.i64.wrap ((i : Int) + 1) = ((i + 1 : Nat) : Int) := by rw [w64 (by omega) (by omega)]; omega
 by_cases hiw : i = w
 ·subst hiw
  rw [if_neg (by omega), hend]
  generalize bs ++ bitsW n i = cs at *
  simp [wrO, wrB]
  refine G0 ?_; try with_reducible exact tt
  refine AW.cond rfl (fun h => ?_) (fun h => ?_)
  ·simp at h
  refine G0 ?_; try with_reducible exact tt
 ·have hlt : i < w := by omega
  have hlt' : (i : Int) < w := by omega
  obtain ⟨S, X, b, e3, e4, e5, e6, e7, e8⟩ := hnum hlt
  have e4' : (S : Int) ≤ 64 := by omega
  have e4w : (W : Int) ≤ 64 := by omega
  have hne : bs ++ (bitsW n w).take i ≠ [] := fun h => hbs (List.append_eq_nil_iff.1 h).1
  have hB := o_7w (bs ++ (bitsW n w).take i) b hne (by have := htl i hi; omega)
  rw [← e8] at hB
  have hk := htl (i + 1) (by omega)
  have hk0 := htl i hi
  have hmin : min (i + 1) w = i + 1 := Nat.min_eq_left (by omega)
  generalize hX1 : bs ++ (bitsW n w).take (i + 1) = X1 at *
  by_cases hi0 : i = 0
  ·subst hi0
   rw [if_pos rfl]
   rw [Nat.sub_zero] at e4
   subst e4
   simp only [List.take_zero, List.append_nil] at hB
   simp only [wrO, wrB, hk] at hB ⊢
   simp
   refine G1 (fs hlt hlt') ?_; try with_reducible exact tt
   refine AW.cond rfl (fun h => ?_) (fun h => ?_)
   ·refine G1 (fs e2 (fs e4w (fs e5 (fs e6 e7)))) ?_; try with_reducible exact tt
    simp only [Int.toNat_natCast, e5, e6, e7]
    refine CallS.g [0, 1] (hB) (R1 e1 ?_); try with_reducible exact tt
    refine ⟨1, 2, 2, by simp, by omega, by omega, ?_, ?_⟩
    ·simp [swT, sw, V.ren, V.rens]
    ·simp at hX1
     have hmin1 : min 1 w = 1 := Nat.min_eq_left (by omega)
     simp [swH, sw, Ob.sw, V.ren, V.rens, hX1, hk, hmin1]
   ·simp [hlt'] at h
  ·rw [if_neg hi0]
   simp only [wrO, wrB, hk, hk0] at hB ⊢
   simp
   refine G1 (fs hlt hlt') ?_; try with_reducible exact tt
   refine AW.cond rfl (fun h => ?_) (fun h => ?_)
   ·refine G1 (fs e2 (fs e3 (fs e4' (fs e5 (fs e6 e7))))) ?_; try with_reducible exact tt
    refine CallS.g [0, 2] (hB) (R1 e1 ?_); try with_reducible exact tt
    refine ⟨i + 1, 2, 3, by simp, by omega, by omega, ?_, ?_⟩
    ·simp [swT, sw, V.ren, V.rens, e1]
    ·simp [swH, sw, Ob.sw, V.ren, V.rens, hX1, hk, hmin]
   ·simp [hlt'] at h

/-- a reader's variable -/
def rdO (ws : List Nat) (at_ : Nat) : Ob := ⟨174, [.d (BY ws), .d (.int .i64 at_)]⟩

theorem o_tb (n : Nat) (l : List D) (hl : l.length = n) (hn : n ≤ 4000000) : Eqn Tryz.prog o_cu [.d (.sl n l)] [] (.d (.sl n l)) [] := by
 refine Eqn.pure o_mr (o_0 _) ?_
 simp only [o_cv]
 rcases Nat.eq_zero_or_pos n with rfl | h0
 ·have : l = [] := List.eq_nil_of_length_eq_zero hl
  subst this
  refine AW.empty 0 rfl ?_ ?_
  ·simp
   refine G0 ?_; try with_reducible exact tt
   refine AW.cond rfl (fun h => ?_) (fun h => ?_)
   ·refine G0 ?_; try with_reducible exact tt
    exact Sub1.nil
   ·simp at h
  ·simp
   refine G0 ?_; try with_reducible exact tt
   refine AW.cond rfl (fun h => ?_) (fun h => ?_)
   ·simp at h
   ·refine G0 ?_; try with_reducible exact tt
    exact Sub1.sl0
 ·refine G1 h0 ?_; try with_reducible exact tt
  refine AW.cond rfl (fun h => ?_) (fun h => ?_)
  ·simp at h
  ·refine G0 ?_; try with_reducible exact tt
   have h1 : ¬ n = 0 := by omega
   simp [h1, hl]
   refine need.of (by omega) ?_
   refine AW.freeze 0 1 ⟨5, l.map .d⟩ l (by simp) rfl ?_
   simp
   refine G0 ?_; try with_reducible exact tt
   have : l.take n = l := List.take_of_length_le (by omega)
   simp [this]

theorem o_81 (ws : List Nat) (hn : ws.length ≤ 4000000) : Eqn Tryz.prog o_2c [.d (BY ws)] [] (.p 0 0) [rdO ws 0] := by
 refine Eqn.new1 o_lv ⟨rfl, fun _ => rfl⟩ ?_
 simp only [o_b6, BY, rdO]
 refine G0 ?_; try with_reducible exact tt
 refine CallS.pu (o_tb _ (ws.map fun x : Nat => .int .u8 x) (by simp) hn) (R0 ?_); try with_reducible exact tt

theorem o_i9 (ws : List Nat) (a : Nat) (hn : ws.length ≤ 4000000) (ha : a ≤ 8 * ws.length) : Eqn Tryz.prog o_bb [.p 0 0] [rdO ws a] (.d (.int .i64 (8 * ws.length - a : Nat))) [rdO ws a] := by
 refine Eqn.obj1 o_ly (o_0 _) ⟨rfl, fun _ => rfl⟩ ?_
 simp only [o_bc, BY, rdO]
 have e1 : IntKind.i64.wrap (8 * (ws.length : Int)) = 8 * (ws.length : Int) := w64 (by omega) (by omega)
 have e2 : IntKind.i64.wrap (8 * (ws.length : Int) - a) = ((8 * ws.length - a : Nat) : Int) := by rw [w64 (by omega) (by omega)]; omega
 refine G1 (fs e1 e2) ?_; try with_reducible exact tt

theorem o_tc (x : Nat) (hx : x < 256) : bits BinOp.and IntKind.u8 (x : Int) 1 = (x : Int) % 2 := by
 show IntKind.u8.wrap (((BitVec.ofInt 8 (x : Int)) &&& (BitVec.ofInt 8 (1 : Int))).toNat : Int) = _
 have h1 : (BitVec.ofInt 8 (1 : Int)).toNat = 1 := by decide
 rw [BitVec.toNat_and, h1, BitVec.ofInt_natCast, BitVec.toNat_ofNat, Nat.mod_eq_of_lt (by omega), Nat.and_one_is_mod, IntKind.wrap_u8]
 omega

def smallB (ws : List Nat) : Prop := ∀ x ∈ ws, x < 256
theorem o_td (ws : List Nat) (a : Nat) (hs : smallB ws) (hn : ws.length ≤ 4000000) (ha : a < 8 * ws.length) : Eqn Tryz.prog o_ek [.p 0 0] [rdO ws a] (.d (.int .u64 (b2n ((bitsOf ws).getD a false)))) [rdO ws (a + 1)] := by
 refine Eqn.obj1 o_nm (o_0 _) ⟨rfl, fun _ => rfl⟩ ?_
 rw [o_7u ws a ha]
 have hq : a / 8 < ws.length := by omega
 have hx : ws.getD (a / 8) 0 < 256 := by
  rw [List.getD_eq_getElem?_getD, List.getElem?_eq_getElem hq]; exact hs _ (List.getElem_mem hq)
 have hg : ∀ z : D, (ws.map fun x : Nat => D.int .u8 x)[a / 8]?.getD z = .int .u8 (ws.getD (a / 8) 0 : Nat) := fun z => by simp [hq]
 have e1 : IntKind.i64.wrap ((a : Int) / 8) = ((a / 8 : Nat) : Int) := by rw [w64 (by omega) (by omega)]; rfl
 have e2 : (a : Int).tmod 8 = ((a % 8 : Nat) : Int) := by rw [Int.tmod_eq_emod_of_nonneg (by omega)]; rfl
 have e2' : (a : Int) % 8 = ((a % 8 : Nat) : Int) := rfl
 have e3 : IntKind.i64.wrap (7 - ((a % 8 : Nat) : Int)) = ((7 - a % 8 : Nat) : Int) := by rw [w64 (by omega) (by omega)]; omega
 have e4 : ((7 - a % 8 : Nat) : Int) ≤ 8 := by omega
 have e7 : IntKind.i64.wrap ((a : Int) + 1) = ((a + 1 : Nat) : Int) := by rw [w64 (by omega) (by omega)]; omega
 simp only [o_el, BY, rdO]
 generalize a % 8 = r at *
 generalize 7 - r = S at *
 generalize hb : ws.getD (a / 8) 0 = x at *
 have e5 : (x : Int) / 2 ^ S = ((x / 2 ^ S : Nat) : Int) := by rw [Int.natCast_ediv, Int.natCast_pow]; rfl
 have hxS : x / 2 ^ S < 256 := Nat.lt_of_le_of_lt (Nat.div_le_self _ _) hx
 generalize x / 2 ^ S = X at *
 have e6 := o_tc X hxS
 have e8 : IntKind.u64.wrap ((X : Int) % 2) = (b2n (decide (X % 2 = 1)) : Nat) := by
  rcases Nat.mod_two_eq_zero_or_one X with h | h
  ·rw [show (X : Int) % 2 = 0 by omega]; simp [h, b2n]; exact wu64 (by omega) (by omega)
  ·rw [show (X : Int) % 2 = 1 by omega]; simp [h, b2n]; exact wu64 (by omega) (by omega)
 generalize b2n (decide (X % 2 = 1)) = B at *
 generalize a / 8 = q at *
 have hq' : q < (ws.map fun x : Nat => D.int .u8 x).length := by simpa using hq
 generalize (ws.map fun x : Nat => D.int .u8 x) = l at *
 generalize ws.length = n at *
 refine G1 (fs e1 (fs e2 (fs e2' (fs e3 (fs e4 (fs e5 (fs e6 (fs e7 (fs e8 hg))))))))) ?_; try with_reducible exact tt
end
end Go.Proofs.YtijbgbpjionfjaaGreatDoor.Am
namespace Go.Proofs.YtijbgbpjionfjaaGreatDoor.Am
section
open Go.RowKit
theorem o_44 (x y : Nat) (hx : x < 18446744073709551616) (hy : y < 18446744073709551616) : bits BinOp.or IntKind.u64 (x : Int) (y : Int) = ((x ||| y : Nat) : Int) := by
 show IntKind.u64.wrap (((BitVec.ofInt 64 (x : Int)) ||| (BitVec.ofInt 64 (y : Int))).toNat : Int) = _
 rw [BitVec.toNat_or, BitVec.ofInt_natCast, BitVec.ofInt_natCast, BitVec.toNat_ofNat, BitVec.toNat_ofNat, Nat.mod_eq_of_lt (by omega), Nat.mod_eq_of_lt (by omega)]
 have := Nat.or_lt_two_pow (n := 64) (x := x) (y := y) hx hy
 rw [IntKind.wrap_u64]
 omega
theorem o_te (n b : Nat) (hb : b ≤ 1) : (n * 2) ||| b = n * 2 + b := by
 have := Nat.two_pow_add_eq_or_of_lt (i := 1) (b := b) (by omega) n
 rw [Nat.pow_one, Nat.mul_comm] at this
 exact this.symm

/-- so many bits from a place on, as a number -/
def numAt (ws : List Nat) (a w : Nat) : Nat := numB (((bitsOf ws).drop a).take w) 0
theorem o_ia (ws : List Nat) (a : Nat) : numAt ws a 0 = 0 := by simp [numAt, numB]
theorem o_ib (ws : List Nat) (a i : Nat) (h : a + i < 8 * ws.length) : numAt ws a (i + 1) = 2 * numAt ws a i + b2n ((bitsOf ws).getD (a + i) false) := by
 unfold numAt
 rw [List.take_add_one, o_1w, List.getElem?_drop, List.getD_eq_getElem?_getD, List.getElem?_eq_getElem (by simpa using h)]
 rfl
theorem o_82 (ws : List Nat) (a w : Nat) : numAt ws a w < 2 ^ w := by
 unfold numAt
 refine Nat.lt_of_lt_of_le (o_7s _) (Nat.pow_le_pow_right (by omega) ?_)
 rw [List.length_take]; omega

theorem o_45 (ws : List Nat) (a w : Nat) (hs : smallB ws) (hw : w ≤ 64) (hn : ws.length ≤ 4000000) (h : a + w ≤ 8 * ws.length) : Eqn Tryz.prog o_cs [.p 0 0, .d (.int .i64 w)] [rdO ws a] (.tup [.d (.int .u64 (numAt ws a w)), .d (.int .i64 0)]) [rdO ws (a + w)] := by
 refine Eqn.obj1 o_mq Plain.ok ⟨rfl, fun _ => rfl⟩ ?_
 have hg := o_7y w
 rw [show decide (0 ≤ (w : Int) ∧ (w : Int) ≤ 64) = true by simp; omega] at hg
 have hl := o_i9 ws a hn (by omega)
 have hnx := fun i (hi : i < w) => o_td ws (a + i) hs hn (by omega)
 obtain ⟨F, hF⟩ : ∃ F, F = a + w := ⟨_, rfl⟩
 rw [← hF]
 simp only [o_ct, rdO] at hl hnx ⊢
 have hL : ¬ 8 * ws.length - a < w := by omega
 have hB := fun i (hi : i < w) => o_ib ws a i (by omega)
 have hlt := fun i => o_82 ws a i
 have hz := o_ia ws a
 have hbl : ∀ x, b2n ((bitsOf ws).getD x false) ≤ 1 := fun x => o_42 _
 generalize 8 * ws.length - a = L at *
 generalize BY ws = B at *
 generalize numAt ws a = N at *
 generalize bitsOf ws = bs at *
 have h' : ¬ (L : Int) < w := by omega
 refine G0 ?_; try with_reducible exact tt
 refine CallS.pu (hg) (R0 ?_); try with_reducible exact tt
 refine AW.cond rfl (fun h => ?_) (fun h => ?_)
 ·simp at h
 refine G0 ?_; try with_reducible exact tt
 refine CallS.o1 0 (hl) (R1 h' ?_); try with_reducible exact tt
 refine AW.cond rfl (fun h => ?_) (fun h => ?_)
 ·simp [h'] at h
 clear h
 refine G0 ?_; try with_reducible exact tt
 refine AW.loopT (α := Nat) 1 (fun i => [(6, .d (.int .u64 (N i : Nat))), (17, .d (.int .i64 (i : Int)))]) (fun i => [(0, ⟨174, [.d B, .d (.int .i64 (a + i : Nat))]⟩)]) (fun i => i ≤ w) (fun i => w - i) 0 ?_ ?_ (Nat.zero_le _) ?_ ?_ ?_
 ·simp
 ·simp
 ·simp [hz]
 ·simp
 rintro i hi
 obtain ⟨Q, hQ⟩ : ∃ Q, Q = a + i := ⟨_, rfl⟩
 rw [← hQ]
 simp
 by_cases hiw : i = w
 ·subst hiw
  obtain rfl : Q = F := by omega
  refine G0 ?_; try with_reducible exact tt
  refine AW.cond rfl (fun h => ?_) (fun h => ?_)
  ·simp at h
  refine G0 ?_; try with_reducible exact tt
 ·have hlt1 : i < w := by omega
  have hlt2 : (i : Int) < w := by omega
  have hb := hB i hlt1
  have hx := hnx i hlt1
  rw [← hQ] at hb hx
  have e1 : IntKind.i64.wrap ((i : Int) + 1) = ((i + 1 : Nat) : Int) := by rw [w64 (by omega) (by omega)]; omega
  have hp : (2 : Nat) ^ (i + 1) ≤ 2 ^ 64 := Nat.pow_le_pow_right (by omega) (by omega)
  have hN := hlt (i + 1)
  have hb1 := hbl Q
  generalize b2n (bs.getD Q false) = b at *
  have e2 : IntKind.u64.wrap ((N i : Int) * 2) = ((N i * 2 : Nat) : Int) := by rw [wu64 (by omega) (by omega)]; omega
  have e3 : bits BinOp.or IntKind.u64 ((N i * 2 : Nat) : Int) (b : Int) = (N (i + 1) : Nat) := by
   rw [o_44 _ _ (by omega) (by omega), o_te _ _ hb1, hb]; omega
  have eQ : Q + 1 = a + (i + 1) := by omega
  rw [eQ] at hx
  generalize N i * 2 = N2 at *
  refine G1 (fs hlt1 hlt2) ?_; try with_reducible exact tt
  refine AW.cond rfl (fun h => ?_) (fun h => ?_)
  ·refine G1 e2 ?_; try with_reducible exact tt
   refine CallS.o1 0 (hx) (R1 (fs e1 (fs e2 e3)) ?_); try with_reducible exact tt
   exact ⟨i + 1, by omega, by omega, by simp [e1, e3]; try omega⟩
  ·simp [hlt2] at h
end
end Go.Proofs.YtijbgbpjionfjaaGreatDoor.Am
namespace Go.Proofs.YtijbgbpjionfjaaGreatDoor.Am
section
open Go.RowKit
def wellTB (a b y t : Nat) (f : Bool) : Bool := decide (y ≤ a) && (decide (t ≤ b) && (!f || t == b))
theorem o_tf {a b : Nat} (h : GoodT a b) (y t : Nat) (f : Bool) : Eqn Tryz.prog o_6n [.d (tpD a b), .d (tsD y t f)] [] (.d (.bool (wellTB a b y t f))) [] := by
 refine Eqn.pure o_f9 Plain.ok ?_
 have hc := o_2p h
 have g3 : (0 : Int) ≤ y := by omega
 have g4 : (0 : Int) ≤ t := by omega
 simp only [o_6o, tpD, tsD, wellTB] at hc ⊢
 by_cases h1 : y ≤ a
 ·have h1' : (y : Int) ≤ a := by omega
  by_cases h2 : t ≤ b
  ·have h2' : (t : Int) ≤ b := by omega
   cases f with
   | true =>
    by_cases h3 : t = b
    ·subst h3
     refine G1 (fs g3 (fs g4 (fs h1 (fs h1' (fs h2 h2'))))) ?_; try with_reducible exact tt
     refine CallS.pu (hc) (R1 (fs g3 (fs g4 (fs h1 (fs h1' (fs h2 h2'))))) ?_); try with_reducible exact tt
    ·have h3' : ¬ (t : Int) = b := by omega
     refine G1 (fs g3 (fs g4 (fs h1 (fs h1' (fs h2 (fs h2' (fs h3 h3'))))))) ?_; try with_reducible exact tt
     refine CallS.pu (hc) (R1 (fs g3 (fs g4 (fs h1 (fs h1' (fs h2 (fs h2' (fs h3 h3'))))))) ?_); try with_reducible exact tt
     exact Sub1.bool (by rw [Bool.eq_iff_iff]; simp; omega)
   | false =>
    refine G1 (fs g3 (fs g4 (fs h1 (fs h1' (fs h2 h2'))))) ?_; try with_reducible exact tt
    refine CallS.pu (hc) (R1 (fs g3 (fs g4 (fs h1 (fs h1' (fs h2 h2'))))) ?_); try with_reducible exact tt
  ·have h2' : ¬ (t : Int) ≤ b := by omega
   refine G1 (fs g3 (fs g4 (fs h1 (fs h1' (fs h2 h2'))))) ?_; try with_reducible exact tt
   refine CallS.pu (hc) (R1 (fs g3 (fs g4 (fs h1 (fs h1' (fs h2 h2'))))) ?_); try with_reducible exact tt
 ·have h1' : ¬ (y : Int) ≤ a := by omega
  refine G1 (fs g3 (fs g4 (fs h1 h1'))) ?_; try with_reducible exact tt
  refine CallS.pu (hc) (R1 (fs g3 (fs g4 (fs h1 h1'))) ?_); try with_reducible exact tt

theorem o_46 (k a b : Int) : Eqn Tryz.prog o_by [.d (parD k a b)] [] (.d (tpD a b)) [] := by
 refine Eqn.pure o_ma Plain.ok ?_
 simp only [o_bz, parD, tpD]
 refine G0 ?_; try with_reducible exact tt
theorem o_2r (k a b : Int) : Eqn Tryz.prog o_c4 [.d (parD k a b)] [] (.d (parD k a b)) [] := by
 refine Eqn.pure o_md Plain.ok ?_
 simp only [o_c5, parD]
 refine G0 ?_; try with_reducible exact tt
theorem o_47 (y t : Int) (f : Bool) : Eqn Tryz.prog o_c0 [.d (.agg [.int .i64 y, .int .i64 t, .bool f])] [] (.d (.agg [.int .i64 y, .int .i64 t, .bool f])) [] := by
 refine Eqn.pure o_mb Plain.ok ?_
 simp only [o_c1]
 refine G0 ?_; try with_reducible exact tt
theorem o_ic (y t : Int) (f : Bool) : Eqn Tryz.prog o_ck [.d (.agg [.int .i64 y, .int .i64 t, .bool f])] [] (.d (.agg [.int .i64 y, .int .i64 t, .bool f])) [] := by
 refine Eqn.pure o_ml Plain.ok ?_
 simp only [o_cl]
 refine G0 ?_; try with_reducible exact tt
theorem o_83 (y t : Int) (f : Bool) : Eqn Tryz.prog o_cn [.d (.agg [.int .i64 y, .int .i64 t, .bool f])] [] (.d (.agg [.int .i64 y, .bool f])) [] := by
 refine Eqn.pure o_mn Plain.ok ?_
 simp only [o_co]
 refine G0 ?_; try with_reducible exact tt
theorem o_id (y : Int) (f : Bool) : Eqn Tryz.prog o_cp [.d (.agg [.int .i64 y, .bool f])] [] (.d (.agg [.int .i64 y, .int .i64 0, .bool f])) [] := by
 refine Eqn.pure o_mo Plain.ok ?_
 simp only [o_cq]
 refine G0 ?_; try with_reducible exact tt

theorem o_1i {k a b : Nat} (h : GoodR k a b) : Eqn Tryz.prog o_cr [.d (parD k a b)] [] (.d (.int .i64 0)) [] := by
 refine Eqn.pure o_mp Plain.ok ?_
 rcases h with ⟨rfl, h⟩ | ⟨hk, h⟩
 ·have h1 := o_46 4 a b
  have h2 := o_2p h
  simp only [o_61, parD, tpD] at h1 h2 ⊢
  refine G0 ?_; try with_reducible exact tt
  refine AW.cond rfl (fun h => ?_) (fun h => ?_)
  ·refine G0 ?_; try with_reducible exact tt
   refine CallS.pu (h1) (R0 ?_); try with_reducible exact tt
   refine CallS.pu (h2) (R0 ?_); try with_reducible exact tt
  ·simp at h
 ·have h1 := o_2r k a b
  have h2 := o_2q h
  have hk' : ¬ (k : Int) = 4 := by omega
  simp only [o_61, parD] at h1 h2 ⊢
  refine G1 (fs hk hk') ?_; try with_reducible exact tt
  refine AW.cond rfl (fun h => ?_) (fun h => ?_)
  ·simp [hk'] at h
  ·refine G0 ?_; try with_reducible exact tt
   refine CallS.pu (h1) (R0 ?_); try with_reducible exact tt
   refine CallS.pu (h2) (R0 ?_); try with_reducible exact tt

def wellRB (k a b y t : Nat) (f : Bool) : Bool := if k = 4 then wellTB a b y t f else (t == 0) && (decide (y ≤ 2 ^ b - 1) && (!f || y == 2 ^ b - 1))
theorem o_48 {k a b y t : Nat} {f : Bool} : wellRB k a b y t f = true ↔ WellR k a b y t f := by
 unfold wellRB WellR wellTB WellT
 by_cases hk : k = 4
 ·subst hk
  simp
  intro _ _
  cases f <;> simp
 ·simp [hk]
  intro _ _
  cases f <;> simp

theorem o_49 {k a b : Nat} (h : GoodR k a b) (y t : Nat) (f : Bool) : Eqn Tryz.prog o_du [.d (parD k a b), .d (tsD y t f)] [] (.d (.bool (wellRB k a b y t f))) [] := by
 refine Eqn.pure o_n9 Plain.ok ?_
 have hc := o_1i h
 rcases h with ⟨rfl, h⟩ | ⟨hk, h⟩
 ·have h1 := o_46 4 a b
  have h2 := o_tf h y t f
  have h3 := o_47 y t f
  simp only [o_6a, parD, tpD, tsD, wellRB, if_true] at hc h1 h2 h3 ⊢
  generalize wellTB a b y t f = w at *
  refine G0 ?_; try with_reducible exact tt
  refine CallS.pu (hc) (R0 ?_); try with_reducible exact tt
  refine AW.cond rfl (fun h => ?_) (fun h => ?_)
  ·simp at h
  refine G0 ?_; try with_reducible exact tt
  refine AW.cond rfl (fun h => ?_) (fun h => ?_)
  ·refine G0 ?_; try with_reducible exact tt
   refine CallS.pu (h1) (R0 ?_); try with_reducible exact tt
   refine CallS.pu (h3) (R0 ?_); try with_reducible exact tt
   refine CallS.pu (h2) (R0 ?_); try with_reducible exact tt
  ·simp at h
 ·have h1 := o_2r k a b
  have h2 := o_14 k a b h.2.2 (o_2q h)
  have hk' : ¬ (k : Int) = 4 := by omega
  have g : (0 : Int) ≤ y := by omega
  simp only [o_6a, parD, tsD, wellRB, if_neg hk] at hc h1 h2 ⊢
  generalize 2 ^ b - 1 = S at *
  by_cases ht : t = 0
  ·subst ht
   by_cases hy : y ≤ S
   ·have hy' : (y : Int) ≤ S := by omega
    cases f with
    | true =>
     by_cases hs : y = S
     ·subst hs
      refine G1 (fs g (fs hk hk')) ?_; try with_reducible exact tt
      refine CallS.pu (hc) (R1 (fs g (fs hk hk')) ?_); try with_reducible exact tt
      refine AW.cond rfl (fun h => ?_) (fun h => ?_)
      ·simp at h
      refine G1 (fs g (fs hk hk')) ?_; try with_reducible exact tt
      refine AW.cond rfl (fun h => ?_) (fun h => ?_)
      ·simp [hk'] at h
      refine G1 g ?_; try with_reducible exact tt
      refine CallS.pu (h1) (R1 g ?_); try with_reducible exact tt
      refine CallS.pu (h2) (R1 g ?_); try with_reducible exact tt
     ·have hs' : ¬ (y : Int) = S := by omega
      refine G1 (fs g (fs hk (fs hk' (fs hy (fs hy' (fs hs hs')))))) ?_; try with_reducible exact tt
      refine CallS.pu (hc) (R1 (fs g (fs hk (fs hk' (fs hy (fs hy' (fs hs hs')))))) ?_); try with_reducible exact tt
      refine AW.cond rfl (fun h => ?_) (fun h => ?_)
      ·simp at h
      refine G1 (fs g (fs hk (fs hk' (fs hy (fs hy' (fs hs hs')))))) ?_; try with_reducible exact tt
      refine AW.cond rfl (fun h => ?_) (fun h => ?_)
      ·simp [hk'] at h
      refine G1 g ?_; try with_reducible exact tt
      refine CallS.pu (h1) (R1 g ?_); try with_reducible exact tt
      refine CallS.pu (h2) (R1 (fs g (fs hy (fs hy' (fs hs hs')))) ?_); try with_reducible exact tt
      exact Sub1.bool (by rw [Bool.eq_iff_iff]; simp; omega)
    | false =>
     refine G1 (fs g (fs hk (fs hk' (fs hy hy')))) ?_; try with_reducible exact tt
     refine CallS.pu (hc) (R1 (fs g (fs hk (fs hk' (fs hy hy')))) ?_); try with_reducible exact tt
     refine AW.cond rfl (fun h => ?_) (fun h => ?_)
     ·simp at h
     refine G1 (fs g (fs hk (fs hk' (fs hy hy')))) ?_; try with_reducible exact tt
     refine AW.cond rfl (fun h => ?_) (fun h => ?_)
     ·simp [hk'] at h
     refine G1 g ?_; try with_reducible exact tt
     refine CallS.pu (h1) (R1 g ?_); try with_reducible exact tt
     refine CallS.pu (h2) (R1 (fs g (fs hy hy')) ?_); try with_reducible exact tt
   ·have hy' : ¬ (y : Int) ≤ S := by omega
    refine G1 (fs g (fs hk (fs hk' (fs hy hy')))) ?_; try with_reducible exact tt
    refine CallS.pu (hc) (R1 (fs g (fs hk (fs hk' (fs hy hy')))) ?_); try with_reducible exact tt
    refine AW.cond rfl (fun h => ?_) (fun h => ?_)
    ·simp at h
    refine G1 (fs g (fs hk (fs hk' (fs hy hy')))) ?_; try with_reducible exact tt
    refine AW.cond rfl (fun h => ?_) (fun h => ?_)
    ·simp [hk'] at h
    refine G1 g ?_; try with_reducible exact tt
    refine CallS.pu (h1) (R1 g ?_); try with_reducible exact tt
    refine CallS.pu (h2) (R1 (fs g (fs hy hy')) ?_); try with_reducible exact tt
  ·have ht' : ¬ (t : Int) = 0 := by omega
   refine G1 (fs g (fs hk (fs hk' (fs ht ht')))) ?_; try with_reducible exact tt
   refine CallS.pu (hc) (R1 (fs g (fs hk (fs hk' (fs ht ht')))) ?_); try with_reducible exact tt
   refine AW.cond rfl (fun h => ?_) (fun h => ?_)
   ·simp at h
   refine G1 (fs g (fs hk (fs hk' (fs ht ht')))) ?_; try with_reducible exact tt
   refine AW.cond rfl (fun h => ?_) (fun h => ?_)
   ·simp [hk'] at h
   refine G1 g ?_; try with_reducible exact tt
   refine CallS.pu (h1) (R1 g ?_); try with_reducible exact tt
   refine CallS.pu (h2) (R1 (fs g (fs ht ht')) ?_); try with_reducible exact tt
   exact Sub1.bool (by simp [ht])

theorem o_84 {k a b y t : Nat} {f : Bool} (h : GoodR k a b) (hw : WellR k a b y t f) : Eqn Tryz.prog o_5v [.d (parD k a b), .d (.sl 1 [.int .i64 y, .int .i64 t, .bool f])] [] (.d (.int .i64 0)) [] := by
 refine Eqn.pure o_bx Plain.ok ?_
 have hc := o_1i h
 have hw1 := o_49 h y t f
 rw [o_48.2 hw] at hw1
 simp only [o_5w, parD, tsD] at hc hw1 ⊢
 refine G0 ?_; try with_reducible exact tt
 refine CallS.pu (hc) (R0 ?_); try with_reducible exact tt
 refine AW.cond rfl (fun h => ?_) (fun h => ?_)
 ·simp at h
 refine G0 ?_; try with_reducible exact tt
 refine AW.loopT (α := Nat) 1 (fun i => [(15, .d (.int .i64 (i : Int)))]) (fun i => []) (fun i => i ≤ 1) (fun i => 1 - i) 0 ?_ ?_ (Nat.zero_le _) ?_ ?_ ?_
 ·simp
 ·simp
 ·simp
 ·simp
 rintro i hi
 simp
 have hi' : i = 0 ∨ i = 1 := by omega
 rcases hi' with rfl | rfl
 ·refine G0 ?_; try with_reducible exact tt
  refine AW.cond rfl (fun h => ?_) (fun h => ?_)
  ·refine G0 ?_; try with_reducible exact tt
   refine CallS.pu (hw1) (R0 ?_); try with_reducible exact tt
   refine AW.cond rfl (fun h => ?_) (fun h => ?_)
   ·simp at h
   have ew : IntKind.i64.wrap 1 = 1 := w64 (by omega) (by omega)
   refine G1 ew ?_; try with_reducible exact tt
   exact ⟨1, by omega, by omega, by simp⟩
  ·simp at h
 ·refine G0 ?_; try with_reducible exact tt
  refine AW.cond rfl (fun h => ?_) (fun h => ?_)
  ·simp at h
  refine AW.exit ?_
  (try (simp -implicitDefEqProofs; try simp (disch := omega) only [w64, wu64]))
  refine G0 ?_; try with_reducible exact tt

theorem o_tg {k a b y t z u : Nat} {f g : Bool} (h : GoodR k a b) (hw : WellR k a b y t f) (hv : WellR k a b z u g) : Eqn Tryz.prog o_5v [.d (parD k a b), .d (.sl 2 [.int .i64 y, .int .i64 t, .bool f, .int .i64 z, .int .i64 u, .bool g])] [] (.d (.int .i64 0)) [] := by
 refine Eqn.pure o_bx Plain.ok ?_
 have hc := o_1i h
 have hw1 := o_49 h y t f
 have hw2 := o_49 h z u g
 rw [o_48.2 hw] at hw1
 rw [o_48.2 hv] at hw2
 simp only [o_5w, parD, tsD] at hc hw1 hw2 ⊢
 refine G0 ?_; try with_reducible exact tt
 refine CallS.pu (hc) (R0 ?_); try with_reducible exact tt
 refine AW.cond rfl (fun h => ?_) (fun h => ?_)
 ·simp at h
 refine G0 ?_; try with_reducible exact tt
 refine AW.loopT (α := Nat) 1 (fun i => [(15, .d (.int .i64 (i : Int)))]) (fun i => []) (fun i => i ≤ 2) (fun i => 2 - i) 0 ?_ ?_ (Nat.zero_le _) ?_ ?_ ?_
 ·simp
 ·simp
 ·simp
 ·simp
 rintro i hi
 simp
 have hi' : i = 0 ∨ i = 1 ∨ i = 2 := by omega
 rcases hi' with rfl | rfl | rfl
 ·refine G0 ?_; try with_reducible exact tt
  refine AW.cond rfl (fun h => ?_) (fun h => ?_)
  ·refine G0 ?_; try with_reducible exact tt
   refine CallS.pu (hw1) (R0 ?_); try with_reducible exact tt
   refine AW.cond rfl (fun h => ?_) (fun h => ?_)
   ·simp at h
   have ew : IntKind.i64.wrap 1 = 1 := w64 (by omega) (by omega)
   refine G1 ew ?_; try with_reducible exact tt
   exact ⟨1, by omega, by omega, by simp⟩
  ·simp at h
 ·refine G0 ?_; try with_reducible exact tt
  refine AW.cond rfl (fun h => ?_) (fun h => ?_)
  ·refine G0 ?_; try with_reducible exact tt
   refine CallS.pu (hw2) (R0 ?_); try with_reducible exact tt
   refine AW.cond rfl (fun h => ?_) (fun h => ?_)
   ·simp at h
   have ew : IntKind.i64.wrap 2 = 2 := w64 (by omega) (by omega)
   refine G1 ew ?_; try with_reducible exact tt
   exact ⟨2, by omega, by omega, by simp⟩
  ·simp at h
 ·refine G0 ?_; try with_reducible exact tt
  refine AW.cond rfl (fun h => ?_) (fun h => ?_)
  ·simp at h
  refine AW.exit ?_
  (try (simp -implicitDefEqProofs; try simp (disch := omega) only [w64, wu64]))
  refine G0 ?_; try with_reducible exact tt
end
end Go.Proofs.YtijbgbpjionfjaaGreatDoor.Am
namespace Go.Proofs.YtijbgbpjionfjaaGreatDoor.Am
section
open Go.RowKit
/-- what is handed back: with an error it is what it was -/
def stR (R : TR) (y t : Nat) (f : Bool) : D := if R.e = 0 then tsD R.y R.t R.f else tsD y t f

theorem o_th (cs : List Bool) (k a b y t : Nat) (f : Bool) (n : Nat) (m : Int) (hmx : max 0 m = (n : Int)) (p : Nat) (d : Bool) (h : GoodR k a b) (hw : WellR k a b y t f) (hn : m ≤ 1048576) (hp : p ≤ cs.length) (hc : cs.length ≤ 4000000) (R : TR) (hR : R = addRM cs k a b n y t f p d) :
  Eqn Tryz.prog o_b3 [.d (parD k a b), .p 0 0, .d (tsD y t f), .d (.int .i64 m)] [tapeO cs p d] (.tup [.d (stR R y t f), .d (.int .i64 R.e)]) [tapeO cs R.p R.d] := by
 refine Eqn.obj1 o_lt Plain.ok ⟨rfl, fun _ => rfl⟩ ?_
 have hwr := o_84 h hw
 rcases hw with ⟨rfl, hw⟩ | ⟨hk, rfl, hy, hf⟩
 ·replace h : GoodT a b := by
   rcases h with ⟨-, h⟩ | ⟨hk, -⟩
   ·exact h
   ·exact absurd rfl hk
  rw [addRM, if_pos rfl] at hR
  have h1 := o_46 4 a b
  have h2 := o_47 y t f
  have h3 := o_ss cs a b y t f m p d h hw (by omega) hp hc R (by rw [hR]; congr 1; omega)
  clear hR
  obtain ⟨e, ry, rt, rf, rp, rd⟩ := R
  have h4 : ∀ y t f, _ := o_ic
  simp only [o_5o, parD, tpD, tsD, stR, show ((4 : Nat) : Int) = 4 from rfl] at hwr h1 h2 h3 ⊢
  obtain ⟨Y, T, F, hS⟩ : ∃ (Y T : Nat) (F : Bool), (if e = 0 then D.agg [.int .i64 ry, .int .i64 rt, .bool rf] else D.agg [.int .i64 y, .int .i64 t, .bool f]) = D.agg [.int .i64 Y, .int .i64 T, .bool F] := by
   split
   ·exact ⟨ry, rt, rf, rfl⟩
   ·exact ⟨y, t, f, rfl⟩
  rw [hS] at h3 ⊢
  refine G0B ?_; try with_reducible exact tt
  refine CallS.pf 4 3 ⟨64, _⟩ [.int .i64 y, .int .i64 t, .bool f] (hwr) (by first | rfl | (simp [-Bool.exists_bool]; done)) (R0B ?_); try with_reducible exact tt
  refine AW.cond rfl (fun h => ?_) (fun h => ?_)
  ·simp at h
  refine G0B ?_; try with_reducible exact tt
  refine AW.cond rfl (fun h => ?_) (fun h => ?_)
  ·refine G0B ?_; try with_reducible exact tt
   refine CallS.pu (h1) (R0B ?_); try with_reducible exact tt
   refine CallS.pu (h2) (R0B ?_); try with_reducible exact tt
   refine CallS.o1 0 (h3) (R0B ?_); try with_reducible exact tt
   refine CallS.pu (h4 Y T F) (R0B ?_); try with_reducible exact tt
  ·simp at h
 ·rcases h with ⟨rfl, -⟩ | ⟨-, h⟩
  ·exact absurd rfl hk
  rw [addRM, if_neg hk] at hR
  have h1 := o_2r k a b
  have h2 := o_83 y 0 f
  have h3 := o_sw h cs hc y hy f n m hmx hn p d hp _ rfl
  have hk' : ¬ (k : Int) = 4 := by omega
  generalize addL (stOf cs k a) (2 ^ b - 1) n y f p d = S at *
  subst hR
  obtain ⟨e, sx, sf, sp, sd⟩ := S
  have h4 : ∀ y f, _ := o_id
  simp only [o_5o, parD, tsD, stR] at hwr h1 h2 h3 ⊢
  obtain ⟨Y, F, hS1, hS2, hS⟩ : ∃ (Y : Nat) (F : Bool), (if e = 0 then sx else y) = Y ∧ (if e = 0 then sf else f) = F ∧ (if e = 0 then D.agg [.int .i64 sx, .int .i64 (0 : Nat), .bool sf] else D.agg [.int .i64 y, .int .i64 (0 : Nat), .bool f]) = D.agg [.int .i64 Y, .int .i64 0, .bool F] := by
   by_cases he : e = 0
   ·simp only [if_pos he]; exact ⟨sx, sf, rfl, rfl, rfl⟩
   ·simp only [if_neg he]; exact ⟨y, f, rfl, rfl, rfl⟩
  rw [hS1, hS2] at h3
  rw [hS]
  simp only [Int.natCast_zero, show ((0 : Nat) : Int) = 0 by rfl] at hwr
  refine G0B ?_; try with_reducible exact tt
  refine CallS.pf 4 3 ⟨64, _⟩ [.int .i64 y, .int .i64 0, .bool f] (hwr) (by first | rfl | (simp [-Bool.exists_bool]; done)) (R0B ?_); try with_reducible exact tt
  refine AW.cond rfl (fun h => ?_) (fun h => ?_)
  ·simp at h
  refine G1B (fs hk hk') ?_; try with_reducible exact tt
  refine AW.cond rfl (fun h => ?_) (fun h => ?_)
  ·simp [hk'] at h
  ·refine G0B ?_; try with_reducible exact tt
   refine CallS.pu (h1) (R0B ?_); try with_reducible exact tt
   refine CallS.pu (h2) (R0B ?_); try with_reducible exact tt
   refine CallS.o1 0 (h3) (R0B ?_); try with_reducible exact tt
   refine CallS.pu (h4 Y F) (R0B ?_); try with_reducible exact tt


theorem o_4a (cs : List Bool) (k a b y t : Nat) (f : Bool) (z u : Nat) (g : Bool) (p : Nat) (d : Bool) (h : GoodR k a b) (hw : WellR k a b y t f) (hv : WellR k a b z u g) (hp : p ≤ cs.length) (hc : cs.length ≤ 4000000) (R : TR) (hR : R = mergeRM cs k a b y t f z u g p d) :
  Eqn Tryz.prog o_bd [.d (parD k a b), .p 0 0, .d (tsD y t f), .d (tsD z u g)] [tapeO cs p d] (.tup [.d (stR R y t f), .d (.int .i64 R.e)]) [tapeO cs R.p R.d] := by
 refine Eqn.obj1 o_lz Plain.ok ⟨rfl, fun _ => rfl⟩ ?_
 have hwr := o_tg h hw hv
 rcases hw with ⟨rfl, hw⟩ | ⟨hk, rfl, hy, hf⟩
 ·replace h : GoodT a b := by
   rcases h with ⟨-, h⟩ | ⟨hk, -⟩
   ·exact h
   ·exact absurd rfl hk
  replace hv : WellT a b z u g := by
   rcases hv with ⟨-, h⟩ | ⟨hk, -⟩
   ·exact h
   ·exact absurd rfl hk
  rw [mergeRM, if_pos rfl] at hR
  have h1 := o_46 4 a b
  have h2 := o_47 y t f
  have h2' := o_47 z u g
  have h3 := o_st cs a b y t f z u g p d h hw hv hp hc R hR
  clear hR
  obtain ⟨e, ry, rt, rf, rp, rd⟩ := R
  have h4 : ∀ y t f, _ := o_ic
  simp only [o_5p, parD, tpD, tsD, stR, show ((4 : Nat) : Int) = 4 from rfl] at hwr h1 h2 h2' h3 ⊢
  obtain ⟨Y, T, F, hS⟩ : ∃ (Y T : Nat) (F : Bool), (if e = 0 then D.agg [.int .i64 ry, .int .i64 rt, .bool rf] else D.agg [.int .i64 y, .int .i64 t, .bool f]) = D.agg [.int .i64 Y, .int .i64 T, .bool F] := by
   split
   ·exact ⟨ry, rt, rf, rfl⟩
   ·exact ⟨y, t, f, rfl⟩
  rw [hS] at h3 ⊢
  refine G0B ?_; try with_reducible exact tt
  refine CallS.pf 5 3 ⟨64, _⟩ [.int .i64 y, .int .i64 t, .bool f, .int .i64 z, .int .i64 u, .bool g] (hwr) (by first | rfl | (simp [-Bool.exists_bool]; done)) (R0B ?_); try with_reducible exact tt
  refine AW.cond rfl (fun h => ?_) (fun h => ?_)
  ·simp at h
  refine G0B ?_; try with_reducible exact tt
  refine AW.cond rfl (fun h => ?_) (fun h => ?_)
  ·refine G0B ?_; try with_reducible exact tt
   refine CallS.pu (h1) (R0B ?_); try with_reducible exact tt
   refine CallS.pu (h2) (R0B ?_); try with_reducible exact tt
   refine CallS.pu (h2') (R0B ?_); try with_reducible exact tt
   refine CallS.o1 0 (h3) (R0B ?_); try with_reducible exact tt
   refine CallS.pu (h4 Y T F) (R0B ?_); try with_reducible exact tt
  ·simp at h
 ·rcases h with ⟨rfl, -⟩ | ⟨-, h⟩
  ·exact absurd rfl hk
  rcases hv with ⟨rfl, -⟩ | ⟨-, rfl, hz, hg⟩
  ·exact absurd rfl hk
  rw [mergeRM, if_neg hk] at hR
  have h1 := o_2r k a b
  have h2 := o_83 y 0 f
  have h2' := o_83 z 0 g
  have h3 := o_sx h cs hc y hy f z hz g p d hp _ rfl
  have hk' : ¬ (k : Int) = 4 := by omega
  generalize mergeL (agOf cs k a) (2 ^ b - 1) z 0 y f p d = S at *
  subst hR
  obtain ⟨e, sx, sf, sp, sd⟩ := S
  have h4 : ∀ y f, _ := o_id
  simp only [o_5p, parD, tsD, stR] at hwr h1 h2 h2' h3 ⊢
  obtain ⟨Y, F, hS1, hS2, hS⟩ : ∃ (Y : Nat) (F : Bool), (if e = 0 then sx else y) = Y ∧ (if e = 0 then sf || g else f) = F ∧ (if e = 0 then D.agg [.int .i64 sx, .int .i64 (0 : Nat), .bool (sf || g)] else D.agg [.int .i64 y, .int .i64 (0 : Nat), .bool f]) = D.agg [.int .i64 Y, .int .i64 0, .bool F] := by
   by_cases he : e = 0
   ·simp only [if_pos he]; exact ⟨sx, _, rfl, rfl, rfl⟩
   ·simp only [if_neg he]; exact ⟨y, f, rfl, rfl, rfl⟩
  rw [hS1, hS2] at h3
  rw [hS]
  simp only [Int.natCast_zero, show ((0 : Nat) : Int) = 0 by rfl] at hwr
  refine G0B ?_; try with_reducible exact tt
  refine CallS.pf 5 3 ⟨64, _⟩ [.int .i64 y, .int .i64 0, .bool f, .int .i64 z, .int .i64 0, .bool g] (hwr) (by first | rfl | (simp [-Bool.exists_bool]; done)) (R0B ?_); try with_reducible exact tt
  refine AW.cond rfl (fun h => ?_) (fun h => ?_)
  ·simp at h
  refine G1B (fs hk hk') ?_; try with_reducible exact tt
  refine AW.cond rfl (fun h => ?_) (fun h => ?_)
  ·simp [hk'] at h
  ·refine G0B ?_; try with_reducible exact tt
   refine CallS.pu (h1) (R0B ?_); try with_reducible exact tt
   refine CallS.pu (h2) (R0B ?_); try with_reducible exact tt
   refine CallS.pu (h2') (R0B ?_); try with_reducible exact tt
   refine CallS.o1 0 (h3) (R0B ?_); try with_reducible exact tt
   refine CallS.pu (h4 Y F) (R0B ?_); try with_reducible exact tt
end
end Go.Proofs.YtijbgbpjionfjaaGreatDoor.Am
namespace Go.Proofs.YtijbgbpjionfjaaGreatDoor.Am
section
open Go.RowKit
/-- widths of the two numbers -/
def kwR (k a b : Nat) : Nat := if k = 4 then bitsN a else b
def twR (k b : Nat) : Nat := if k = 4 then bitsN b else 0
theorem o_4b {k a b : Nat} (h : GoodR k a b) : 0 < kwR k a b ∧ kwR k a b ≤ 10 := by
 unfold kwR
 rcases h with ⟨rfl, h⟩ | ⟨hk, h⟩
 ·rw [if_pos rfl]
  refine ⟨?_, o_1e (by have := h.2.1; omega)⟩
  unfold bitsN; rw [if_neg (by have := h.1; omega)]; omega
 ·rw [if_neg hk]; exact ⟨h.2.1, h.2.2⟩
theorem o_4c {k a b : Nat} (h : GoodR k a b) : twR k b ≤ 5 := by
 unfold twR
 rcases h with ⟨rfl, h⟩ | ⟨hk, h⟩
 ·rw [if_pos rfl]; exact o_1e (by have := h.2.2; omega)
 ·rw [if_neg hk]; omega
theorem o_ie {k a b y t : Nat} {f : Bool} (hg : GoodR k a b) (h : WellR k a b y t f) : y < 2 ^ kwR k a b ∧ t < 2 ^ twR k b := by
 unfold kwR twR
 rcases h with ⟨rfl, h1, h2, -⟩ | ⟨hk, rfl, h1, -⟩
 ·rw [if_pos rfl, if_pos rfl]
  exact ⟨Nat.lt_of_le_of_lt h1 (o_3u a), Nat.lt_of_le_of_lt h2 (o_3u b)⟩
 ·rw [if_neg hk, if_neg hk]
  have := Nat.two_pow_pos b
  omega

theorem o_if (x : Nat) (hx : x < 18446744073709551616) : Eqn Tryz.prog o_6p [.d (.int .u64 x)] [] (.d (.int .i64 (bitsN x))) [] := by
 refine Eqn.pure o_fg Plain.ok ?_
 have hl := o_7g x hx
 simp only [o_6q]
 refine G0 ?_; try with_reducible exact tt
 refine AW.cond rfl (fun h => ?_) (fun h => ?_)
 ·simp at h
 ·refine G0 ?_; try with_reducible exact tt
  refine CallS.pu (hl) (R0 ?_); try with_reducible exact tt

theorem o_85 {k a b : Nat} (h : GoodR k a b) : Eqn Tryz.prog o_et [.d (parD k a b)] [] (.tup [.d (.int .i64 (kwR k a b)), .d (.int .i64 (twR k b))]) [] := by
 refine Eqn.pure o_nr Plain.ok ?_
 unfold kwR twR
 rcases h with ⟨rfl, h⟩ | ⟨hk, h⟩
 ·rw [if_pos rfl, if_pos rfl]
  have h1 := o_if a (by have := h.2.1; omega)
  have h2 := o_if b (by have := h.2.2; omega)
  have e1 : IntKind.u64.wrap (a : Int) = a := wu64 (by omega) (by have := h.2.1; omega)
  have e2 : IntKind.u64.wrap (b : Int) = b := wu64 (by omega) (by have := h.2.2; omega)
  simp only [o_6l, parD]
  refine G0 ?_; try with_reducible exact tt
  refine AW.cond rfl (fun h => ?_) (fun h => ?_)
  ·refine G1 (fs e1 e2) ?_; try with_reducible exact tt
   refine CallS.pu (h1) (R1 (fs e1 e2) ?_); try with_reducible exact tt
   refine CallS.pu (h2) (R0 ?_); try with_reducible exact tt
  ·simp at h
 ·rw [if_neg hk, if_neg hk]
  have hk' : ¬ (k : Int) = 4 := by omega
  simp only [o_6l, parD]
  refine G1 (fs hk hk') ?_; try with_reducible exact tt
  refine AW.cond rfl (fun h => ?_) (fun h => ?_)
  ·simp [hk'] at h
  ·refine G0 ?_; try with_reducible exact tt

theorem o_ig {k a b : Nat} (h : GoodR k a b) : Eqn Tryz.prog o_d4 [.d (parD k a b)] [] (.d (.int .i64 (kwR k a b + twR k b + 1 : Nat))) [] := by
 refine Eqn.pure o_mv Plain.ok ?_
 have h1 := o_1i h
 have h2 := o_85 h
 have b1 := (o_4b h).2
 have b2 := o_4c h
 simp only [o_d5, parD] at h1 h2 ⊢
 generalize kwR k a b = K at *
 generalize twR k b = T at *
 have e1 : IntKind.i64.wrap ((K : Int) + T) = (K : Int) + T := w64 (by omega) (by omega)
 have e2 : IntKind.i64.wrap ((K : Int) + T + 1) = (K : Int) + T + 1 := w64 (by omega) (by omega)
 refine G0 ?_; try with_reducible exact tt
 refine CallS.pu (h1) (R0 ?_); try with_reducible exact tt
 refine AW.cond rfl (fun h => ?_) (fun h => ?_)
 ·simp at h
 refine G0 ?_; try with_reducible exact tt
 refine CallS.pu (h2) (R1 (fs e1 e2) ?_); try with_reducible exact tt

/-- a register's bits -/
def encR (k a b y t : Nat) (f : Bool) : List Bool := bitsW y (kwR k a b) ++ bitsW t (twR k b) ++ [f]
theorem o_1x (k a b y t : Nat) (f : Bool) : (encR k a b y t f).length = kwR k a b + twR k b + 1 := by simp [encR]; omega

theorem o_ti {k a b y t : Nat} {f : Bool} (h : GoodR k a b) (hw : WellR k a b y t f) : Eqn Tryz.prog o_ew [.d (parD k a b), .p 0 0, .d (tsD y t f)] [⟨85, [.d .nilsl, .d (.int .i64 0)]⟩] (.d (.int .i64 0)) [wrO 1 (encR k a b y t f), wrB (encR k a b y t f)] := by
 refine Eqn.gen [0, 6] o_nt (by simp) (by simp) (by rfl) (by decide) (by simp) (by simp [wrO, wrB]) ?_
 have hwr := o_84 h hw
 have h2 := o_85 h
 have hkp := o_4b h
 have htl := o_4c h
 have hfit := o_ie h hw
 have h2k : 2 ^ kwR k a b ≤ 2 ^ 10 := Nat.pow_le_pow_right (by omega) hkp.2
 have h2t : 2 ^ twR k b ≤ 2 ^ 5 := Nat.pow_le_pow_right (by omega) htl
 have h3 := o_80 y (kwR k a b) hkp.1 (by omega) hfit.1 (by omega)
 have hne : bitsW y (kwR k a b) ≠ [] := fun he => by have := o_1h y (kwR k a b); rw [he] at this; simp at this; omega
 have h4 := o_ta (bitsW y (kwR k a b)) t (twR k b) hne (by rw [o_1h]; omega) (by omega) hfit.2 (by omega)
 have h5 := o_7w (bitsW y (kwR k a b) ++ bitsW t (twR k b)) f (fun he => hne (List.append_eq_nil_iff.1 he).1) (by rw [List.length_append, o_1h, o_1h]; omega)
 have e1 : IntKind.u64.wrap (y : Int) = y := wu64 (by omega) (by omega)
 have e2 : IntKind.u64.wrap (t : Int) = t := wu64 (by omega) (by omega)
 simp only [o_ex, parD, tsD, encR] at hwr h2 ⊢
 generalize bitsW y (kwR k a b) = X1 at *
 generalize X1 ++ bitsW t (twR k b) = X2 at *
 generalize hX3 : X2 ++ [f] = X3 at *
 generalize kwR k a b = K at *
 generalize twR k b = T at *
 simp only [wrO, wrB] at h3 h4 h5 ⊢
 refine G0 ?_; try with_reducible exact tt
 refine CallS.pf 3 3 ⟨64, _⟩ [.int .i64 y, .int .i64 t, .bool f] (hwr) (by first | rfl | (simp; done)) (R0 ?_); try with_reducible exact tt
 refine AW.cond rfl (fun h => ?_) (fun h => ?_)
 ·simp at h
 refine G0 ?_; try with_reducible exact tt
 refine CallS.pu (h2) (R1 (fs e1 e2) ?_); try with_reducible exact tt
 refine CallS.g [0] (h3) (R1 (fs e1 e2) ?_); try with_reducible exact tt
 refine CallS.g [0, 4] (h4) (R1 (fs e1 e2) ?_); try with_reducible exact tt
 refine CallS.g [0, 5] (h5) (R1 (fs e1 e2) ?_); try with_reducible exact tt

theorem o_tj (ws : List Nat) (a : Nat) (hs : smallB ws) (hn : ws.length ≤ 4000000) (h : a < 8 * ws.length) : Eqn Tryz.prog o_b9 [.p 0 0] [rdO ws a] (.tup [.d (.bool ((bitsOf ws).getD a false)), .d (.int .i64 0)]) [rdO ws (a + 1)] := by
 refine Eqn.obj1 o_lx Plain.ok ⟨rfl, fun _ => rfl⟩ ?_
 have h1 := o_45 ws a 1 hs (by omega) hn (by omega)
 have h2 : numAt ws a 1 = b2n ((bitsOf ws).getD a false) := by
  have := o_ib ws a 0 (by omega)
  rw [o_ia] at this
  simpa using this
 rw [h2] at h1
 generalize (bitsOf ws).getD a false = b at *
 have hb : (((b2n b : Nat) : Int) == 1) = b := by cases b <;> rfl
 generalize b2n b = B at *
 simp only [o_ba, rdO] at h1 ⊢
 generalize a + 1 = a1 at *
 refine G0 ?_; try with_reducible exact tt
 simp at h1
 refine CallS.o1 0 (h1) (R1 hb ?_); try with_reducible exact tt

/-- what is read: state, error, the place behind -/
def readR (ws : List Nat) (k a b at_ : Nat) : (Nat × Nat × Bool) × Int × Nat :=
 if 8 * ws.length - at_ < kwR k a b + twR k b + 1 then ((0, 0, false), 5, at_)
 else if wellRB k a b (numAt ws at_ (kwR k a b)) (numAt ws (at_ + kwR k a b) (twR k b)) ((bitsOf ws).getD (at_ + kwR k a b + twR k b) false) then ((numAt ws at_ (kwR k a b), numAt ws (at_ + kwR k a b) (twR k b), (bitsOf ws).getD (at_ + kwR k a b + twR k b) false), 0, at_ + kwR k a b + twR k b + 1)
 else ((0, 0, false), 4, at_ + kwR k a b + twR k b + 1)

theorem o_ih (ws : List Nat) {k a b : Nat} (at_ : Nat) (h : GoodR k a b) (hs : smallB ws) (hn : ws.length ≤ 400000) (hat : at_ ≤ 8 * ws.length) (R : (Nat × Nat × Bool) × Int × Nat) (hR : R = readR ws k a b at_) :
  Eqn Tryz.prog o_de [.d (parD k a b), .p 0 0] [rdO ws at_] (.tup [.d (tsD R.1.1 R.1.2.1 R.1.2.2), .d (.int .i64 R.2.1)]) [rdO ws R.2.2] := by
 refine Eqn.obj1 o_n0 Plain.ok ⟨rfl, fun _ => rfl⟩ ?_
 have hc := o_1i h
 have hb := o_ig h
 have hl := o_i9 ws at_ (by omega) hat
 have h2 := o_85 h
 have hkp := o_4b h
 have htl := o_4c h
 unfold readR at hR
 by_cases hend : 8 * ws.length - at_ < kwR k a b + twR k b + 1
 ·rw [if_pos hend] at hR
  subst hR
  have hi : ((8 * ws.length - at_ : Nat) : Int) < (kwR k a b + twR k b + 1 : Nat) := by omega
  simp only [o_68, parD, tsD, rdO] at hc hb hl ⊢
  generalize kwR k a b + twR k b + 1 = N at *
  generalize 8 * ws.length - at_ = L at *
  refine G0 ?_; try with_reducible exact tt
  refine CallS.pu (hc) (R0 ?_); try with_reducible exact tt
  refine AW.cond rfl (fun h => ?_) (fun h => ?_)
  ·simp at h
  refine G0 ?_; try with_reducible exact tt
  refine CallS.o1 0 (hl) (R0 ?_); try with_reducible exact tt
  refine CallS.pu (hb) (R1 (fs hi hend) ?_); try with_reducible exact tt
  refine AW.cond rfl (fun h => ?_) (fun h => ?_)
  ·refine G0 ?_; try with_reducible exact tt
  ·simp [hend] at h
 ·rw [if_neg hend] at hR
  have n1 := o_45 ws at_ (kwR k a b) hs (by omega) (by omega) (by omega)
  have n2 := o_45 ws (at_ + kwR k a b) (twR k b) hs (by omega) (by omega) (by omega)
  have n3 := o_tj ws (at_ + kwR k a b + twR k b) hs (by omega) (by omega)
  have lt1 := o_82 ws at_ (kwR k a b)
  have lt2 := o_82 ws (at_ + kwR k a b) (twR k b)
  have h2k : 2 ^ kwR k a b ≤ 2 ^ 10 := Nat.pow_le_pow_right (by omega) hkp.2
  have h2t : 2 ^ twR k b ≤ 2 ^ 5 := Nat.pow_le_pow_right (by omega) htl
  have hi : ¬ ((8 * ws.length - at_ : Nat) : Int) < (kwR k a b + twR k b + 1 : Nat) := by omega
  have hwl := o_49 h (numAt ws at_ (kwR k a b)) (numAt ws (at_ + kwR k a b) (twR k b)) ((bitsOf ws).getD (at_ + kwR k a b + twR k b) false)
  generalize numAt ws at_ (kwR k a b) = Y at *
  generalize numAt ws (at_ + kwR k a b) (twR k b) = T at *
  generalize (bitsOf ws).getD (at_ + kwR k a b + twR k b) false = F at *
  generalize hW : wellRB k a b Y T F = W at *
  have e1 : IntKind.i64.wrap (Y : Int) = Y := w64 (by omega) (by omega)
  have e2 : IntKind.i64.wrap (T : Int) = T := w64 (by omega) (by omega)
  simp only [o_68, parD, tsD, rdO] at hc hb hl h2 n1 n2 n3 hwl ⊢
  generalize at_ + kwR k a b + twR k b + 1 = a3 at *
  generalize at_ + kwR k a b + twR k b = a2 at *
  generalize at_ + kwR k a b = a1 at *
  generalize kwR k a b + twR k b + 1 = N at *
  generalize kwR k a b = K at *
  generalize twR k b = TT at *
  generalize 8 * ws.length - at_ = L at *
  refine G0 ?_; try with_reducible exact tt
  refine CallS.pu (hc) (R0 ?_); try with_reducible exact tt
  refine AW.cond rfl (fun h => ?_) (fun h => ?_)
  ·simp at h
  refine G0 ?_; try with_reducible exact tt
  refine CallS.o1 0 (hl) (R0 ?_); try with_reducible exact tt
  refine CallS.pu (hb) (R1 (fs hi hend) ?_); try with_reducible exact tt
  refine AW.cond rfl (fun h => ?_) (fun h => ?_)
  ·simp [hend] at h
  refine G0 ?_; try with_reducible exact tt
  refine CallS.pu (h2) (R0 ?_); try with_reducible exact tt
  refine CallS.o1 0 (n1) (R0 ?_); try with_reducible exact tt
  refine CallS.o1 0 (n2) (R0 ?_); try with_reducible exact tt
  refine CallS.o1 0 (n3) (R1 (fs e1 e2) ?_); try with_reducible exact tt
  refine CallS.pu (hwl) (R0 ?_); try with_reducible exact tt
  cases W with
  | true =>
   rw [if_pos rfl] at hR
   subst hR
   refine AW.cond rfl (fun h => ?_) (fun h => ?_)
   ·simp at h
   ·refine G0 ?_; try with_reducible exact tt
  | false =>
   rw [if_neg (by simp)] at hR
   subst hR
   refine AW.cond rfl (fun h => ?_) (fun h => ?_)
   ·refine G0 ?_; try with_reducible exact tt
   ·simp at h
end
end Go.Proofs.YtijbgbpjionfjaaGreatDoor.Am
namespace Go.Proofs.YtijbgbpjionfjaaGreatDoor.Am
section
/-- a number of bits, the lowest first -/
def ofB (f : Nat → Bool) : Nat → Nat
 | 0 => 0
 | n + 1 => ofB f n + (if f n then 2 ^ n else 0)
theorem o_4d (f : Nat → Bool) : ∀ n, ofB f n < 2 ^ n
 | 0 => by simp [ofB]
 | n + 1 => by
  have := o_4d f n
  rw [ofB, Nat.pow_succ]
  split <;> omega
theorem o_4e (f : Nat → Bool) : ∀ n i, i < n → (ofB f n).testBit i = f i
 | 0, i, h => by omega
 | n + 1, i, h => by
  have hl := o_4d f n
  rw [ofB]
  by_cases hi : i = n
  ·subst hi
   split
   ·rename_i hf
    rw [Nat.add_comm, Nat.testBit_two_pow_add_eq, Nat.testBit_lt_two_pow hl, hf]; rfl
   ·rename_i hf
    rw [Nat.add_zero, Nat.testBit_lt_two_pow hl]; simpa using hf
  ·split
   ·rw [Nat.add_comm, Nat.testBit_two_pow_add_gt (by omega), o_4e f n i (by omega)]
   ·rw [Nat.add_zero, o_4e f n i (by omega)]
theorem o_ii {f g : Nat → Bool} : ∀ n, (∀ i, i < n → f i = g i) → ofB f n = ofB g n
 | 0, _ => rfl
 | n + 1, h => by rw [ofB, ofB, o_ii n (fun i hi => h i (by omega)), h n (by omega)]
/-- bits of numbers of one width, one behind the other -/
def bitX (w : Nat) (xs : List Nat) (k : Nat) : Bool := (xs.getD (k / w) 0).testBit (k % w)
def nwP (n w : Nat) : Nat := (n * w + 63) / 64
/-- words that hold them -/
def wordsP (w : Nat) (xs : List Nat) : List Nat := (List.range (nwP xs.length w)).map fun j => ofB (fun b => bitX w xs (64 * j + b)) 64
@[simp] theorem o_1y (w : Nat) (xs : List Nat) : (wordsP w xs).length = nwP xs.length w := by simp [wordsP]
theorem o_4f {w : Nat} {xs : List Nat} {j : Nat} (h : j < nwP xs.length w) : (wordsP w xs).getD j 0 = ofB (fun b => bitX w xs (64 * j + b)) 64 := by
 unfold wordsP; rw [List.getD_eq_getElem?_getD, List.getElem?_map, List.getElem?_range h]; rfl
theorem o_y {w : Nat} {xs : List Nat} (j : Nat) : (wordsP w xs).getD j 0 < 2 ^ 64 := by
 by_cases h : j < nwP xs.length w
 ·rw [o_4f h]; exact o_4d _ _
 ·rw [List.getD_eq_getElem?_getD, List.getElem?_eq_none (by simp; omega)]; simp
theorem o_1j {w : Nat} {xs : List Nat} {j b : Nat} (h : j < nwP xs.length w) (hb : b < 64) : ((wordsP w xs).getD j 0).testBit b = bitX w xs (64 * j + b) := by rw [o_4f h, o_4e _ _ _ hb]
theorem o_2s {w : Nat} {xs : List Nat} {i b : Nat} (hb : b < w) : bitX w xs (i * w + b) = (xs.getD i 0).testBit b := by
 unfold bitX
 rw [Nat.mul_comm, Nat.mul_add_div (by omega), Nat.div_eq_of_lt hb, Nat.add_zero, Nat.mul_add_mod, Nat.mod_eq_of_lt hb]
theorem o_86 {w : Nat} {xs : List Nat} {i v k : Nat} (hw : 0 < w) (hi : i < xs.length) : bitX w (xs.set i v) k = if i * w ≤ k ∧ k < i * w + w then v.testBit (k - i * w) else bitX w xs k := by
 unfold bitX
 have e := Nat.div_add_mod k w
 have hm := Nat.mod_lt k hw
 rw [List.getD_eq_getElem?_getD, List.getD_eq_getElem?_getD, List.getElem?_set]
 by_cases h : i = k / w
 ·subst h
  have e2 : k / w * w = w * (k / w) := Nat.mul_comm _ _
  rw [if_pos rfl, if_pos hi, if_pos (by omega), show k - k / w * w = k % w by omega]
  rfl
 ·rw [if_neg h, if_neg]
  rintro ⟨h1, h2⟩
  apply h
  have h3 : i ≤ k / w := (Nat.le_div_iff_mul_le hw).2 h1
  have h4 : k / w < i + 1 := (Nat.div_lt_iff_lt_mul hw).2 (by rw [Nat.add_mul]; omega)
  omega

def smallP (w : Nat) (xs : List Nat) : Prop := ∀ x ∈ xs, x < 2 ^ w
theorem o_2t {w : Nat} {xs : List Nat} (h : smallP w xs) (i : Nat) : xs.getD i 0 < 2 ^ w := by
 rw [List.getD_eq_getElem?_getD]
 cases hx : xs[i]? with
 | none => simp [Nat.two_pow_pos]
 | some x => exact h x (List.mem_of_getElem? hx)

theorem o_4g (x r b : Nat) : (x / 2 ^ r).testBit b = x.testBit (r + b) := by rw [Nat.testBit_div_two_pow, Nat.add_comm]
theorem o_87 (x s b : Nat) : (x * 2 ^ s % 2 ^ 64).testBit b = (decide (b < 64) && (decide (s ≤ b) && x.testBit (b - s))) := by rw [Nat.testBit_mod_two_pow, Nat.testBit_mul_two_pow]
theorem o_4h (w b : Nat) : (2 ^ w - 1).testBit b = decide (b < w) := Nat.testBit_two_pow_sub_one w b

/-- what is read, when it lies in one word -/
theorem pget1 {w : Nat} {xs : List Nat} {i : Nat} (hs : smallP w xs) (hw : w ≤ 32) (hi : i < xs.length) (hr : i * w % 64 + w ≤ 64) : (wordsP w xs).getD (i * w / 64) 0 / 2 ^ (i * w % 64) &&& (2 ^ w - 1) = xs.getD i 0 := by
 have e := Nat.div_add_mod (i * w) 64
 by_cases hw0 : w = 0
 ·subst hw0
  have := o_2t hs i
  simp at this ⊢; omega
 have hle : i * w + w ≤ xs.length * w := by rw [← Nat.succ_mul]; exact Nat.mul_le_mul_right w hi
 apply Nat.eq_of_testBit_eq
 intro b
 rw [Nat.testBit_and, o_4h, o_4g]
 by_cases hb : b < w
 ·rw [o_1j (by unfold nwP; omega) (by omega), show 64 * (i * w / 64) + (i * w % 64 + b) = i * w + b by omega, o_2s hb]
  simp [hb]
 ·have : (xs.getD i 0).testBit b = false := Nat.testBit_lt_two_pow (Nat.lt_of_lt_of_le (o_2t hs i) (Nat.pow_le_pow_right (by omega) (by omega)))
  rw [this]; simp [hb]
/-- in two words -/
theorem pget2 {w : Nat} {xs : List Nat} {i : Nat} (hs : smallP w xs) (hw : w ≤ 32) (hi : i < xs.length) (hr : 64 < i * w % 64 + w) : ((wordsP w xs).getD (i * w / 64) 0 / 2 ^ (i * w % 64) ||| (wordsP w xs).getD (i * w / 64 + 1) 0 * 2 ^ (64 - i * w % 64) % 2 ^ 64) &&& (2 ^ w - 1) = xs.getD i 0 := by
 have e := Nat.div_add_mod (i * w) 64
 have hle : i * w + w ≤ xs.length * w := by rw [← Nat.succ_mul]; exact Nat.mul_le_mul_right w hi
 apply Nat.eq_of_testBit_eq
 intro b
 rw [Nat.testBit_and, o_4h, Nat.testBit_or, o_4g, o_87]
 by_cases hb : b < w
 ·by_cases h64 : i * w % 64 + b < 64
  ·rw [o_1j (by unfold nwP; omega) h64, show 64 * (i * w / 64) + (i * w % 64 + b) = i * w + b by omega, o_2s hb]
   have : ¬ 64 - i * w % 64 ≤ b := by omega
   simp [hb, this]
  ·have h1 : ((wordsP w xs).getD (i * w / 64) 0).testBit (i * w % 64 + b) = false := Nat.testBit_lt_two_pow (Nat.lt_of_lt_of_le (o_y _) (Nat.pow_le_pow_right (by omega) (by omega)))
   rw [h1, o_1j (j := i * w / 64 + 1) (by unfold nwP; omega) (by omega), show 64 * (i * w / 64 + 1) + (b - (64 - i * w % 64)) = i * w + b by omega, o_2s hb]
   have h2 : 64 - i * w % 64 ≤ b := by omega
   have h3 : b < 64 := by omega
   simp [hb, h2, h3]
 ·have : (xs.getD i 0).testBit b = false := Nat.testBit_lt_two_pow (Nat.lt_of_lt_of_le (o_2t hs i) (Nat.pow_le_pow_right (by omega) (by omega)))
  rw [this]; simp [hb]

/-- bits taken out -/
def andN (x y : Nat) : Nat := x &&& (2 ^ 64 - 1 - y)
theorem o_ij {x y : Nat} (hx : x < 2 ^ 64) (hy : y < 2 ^ 64) (b : Nat) : (andN x y).testBit b = (x.testBit b && !y.testBit b) := by
 unfold andN
 rw [Nat.testBit_and, Nat.sub_sub, Nat.add_comm 1 y, Nat.testBit_two_pow_sub_succ hy]
 by_cases hb : b < 64
 ·simp [hb]
 ·have : x.testBit b = false := Nat.testBit_lt_two_pow (Nat.lt_of_lt_of_le hx (Nat.pow_le_pow_right (by omega) (by omega)))
  simp [this]

theorem o_ik {x : Nat} {f : Nat → Bool} (hx : x < 2 ^ 64) (h : ∀ b, b < 64 → x.testBit b = f b) : x = ofB f 64 := by
 apply Nat.eq_of_testBit_eq
 intro b
 by_cases hb : b < 64
 ·rw [h b hb, o_4e _ _ _ hb]
 ·have h2 : 2 ^ 64 ≤ 2 ^ b := Nat.pow_le_pow_right (by omega) (by omega)
  rw [Nat.testBit_lt_two_pow (Nat.lt_of_lt_of_le hx h2), Nat.testBit_lt_two_pow (Nat.lt_of_lt_of_le (o_4d f 64) h2)]

/-- the first word -/
def setW1 (w : Nat) (x v r : Nat) : Nat := andN x ((2 ^ w - 1) * 2 ^ r % 2 ^ 64) ||| v * 2 ^ r % 2 ^ 64
/-- the second one -/
def setW2 (w : Nat) (x v s : Nat) : Nat := andN x ((2 ^ w - 1) / 2 ^ s) ||| v / 2 ^ s
theorem o_4i {x y : Nat} (hx : x < 2 ^ 64) : andN x y < 2 ^ 64 := Nat.lt_of_le_of_lt Nat.and_le_left hx
theorem o_il {w : Nat} {xs : List Nat} {i v : Nat} (hw : w ≤ 32) (hw0 : 0 < w) (hi : i < xs.length) (hv : v < 2 ^ w) : setW1 w ((wordsP w xs).getD (i * w / 64) 0) v (i * w % 64) = (wordsP w (xs.set i v)).getD (i * w / 64) 0 := by
 have e := Nat.div_add_mod (i * w) 64
 have hle : i * w + w ≤ xs.length * w := by rw [← Nat.succ_mul]; exact Nat.mul_le_mul_right w hi
 have hm : i * w % 64 < 64 := Nat.mod_lt _ (by omega)
 rw [o_4f (xs := xs.set i v) (by simp only [List.length_set]; unfold nwP; omega)]
 apply o_ik
 ·exact Nat.or_lt_two_pow (o_4i (o_y _)) (Nat.mod_lt _ (by omega))
 ·intro b hb
  unfold setW1
  rw [Nat.testBit_or, o_ij (o_y _) (Nat.mod_lt _ (by omega)), o_87, o_87, o_4h, o_1j (by unfold nwP; omega) hb, o_86 hw0 hi]
  by_cases h1 : i * w % 64 ≤ b
  ·by_cases h2 : b < i * w % 64 + w
   ·rw [if_pos (by omega), show 64 * (i * w / 64) + b - i * w = b - i * w % 64 by omega]
    have h3 : b - i * w % 64 < w := by omega
    simp [hb, h1, h3]
   ·rw [if_neg (by omega)]
    have h3 : ¬ b - i * w % 64 < w := by omega
    have h4 : v.testBit (b - i * w % 64) = false := Nat.testBit_lt_two_pow (Nat.lt_of_lt_of_le hv (Nat.pow_le_pow_right (by omega) (by omega)))
    simp [hb, h1, h3, h4]
  ·rw [if_neg (by omega)]
   simp [hb, h1]
theorem o_tk {w : Nat} {xs : List Nat} {i v : Nat} (hw : w ≤ 32) (hi : i < xs.length) (hv : v < 2 ^ w) (hr : 64 < i * w % 64 + w) : setW2 w ((wordsP w xs).getD (i * w / 64 + 1) 0) v (64 - i * w % 64) = (wordsP w (xs.set i v)).getD (i * w / 64 + 1) 0 := by
 have e := Nat.div_add_mod (i * w) 64
 have hle : i * w + w ≤ xs.length * w := by rw [← Nat.succ_mul]; exact Nat.mul_le_mul_right w hi
 have hm : i * w % 64 < 64 := Nat.mod_lt _ (by omega)
 have h32 : 2 ^ w ≤ 2 ^ 32 := Nat.pow_le_pow_right (by omega) hw
 have hv64 : v / 2 ^ (64 - i * w % 64) < 2 ^ 64 := Nat.lt_of_le_of_lt (Nat.div_le_self _ _) (by omega)
 have hm64 : (2 ^ w - 1) / 2 ^ (64 - i * w % 64) < 2 ^ 64 := Nat.lt_of_le_of_lt (Nat.div_le_self _ _) (by omega)
 rw [o_4f (xs := xs.set i v) (by simp only [List.length_set]; unfold nwP; omega)]
 apply o_ik
 ·exact Nat.or_lt_two_pow (o_4i (o_y _)) hv64
 ·intro b hb
  unfold setW2
  rw [Nat.testBit_or, o_ij (o_y _) hm64, o_4g, o_4g, o_4h, o_1j (by unfold nwP; omega) hb, o_86 (by omega) hi]
  by_cases h2 : 64 - i * w % 64 + b < w
  ·rw [if_pos (by omega), show 64 * (i * w / 64 + 1) + b - i * w = 64 - i * w % 64 + b by omega]
   simp [h2]
  ·rw [if_neg (by omega)]
   have h4 : v.testBit (64 - i * w % 64 + b) = false := Nat.testBit_lt_two_pow (Nat.lt_of_lt_of_le hv (Nat.pow_le_pow_right (by omega) (by omega)))
   simp [h2, h4]
theorem o_im {w : Nat} {xs : List Nat} {i v j : Nat} (hw0 : 0 < w) (hi : i < xs.length) (h1 : j ≠ i * w / 64) (h2 : i * w % 64 + w ≤ 64 ∨ j ≠ i * w / 64 + 1) (hw : w ≤ 32) : (wordsP w (xs.set i v))[j]? = (wordsP w xs)[j]? := by
 have e := Nat.div_add_mod (i * w) 64
 have hm : i * w % 64 < 64 := Nat.mod_lt _ (by omega)
 unfold wordsP
 simp only [List.length_set, List.getElem?_map]
 cases hj : (List.range (nwP xs.length w))[j]? with
 | none => rfl
 | some j' =>
  have : j' = j := by
   have := List.getElem?_eq_some_iff.1 hj
   obtain ⟨h, rfl⟩ := this
   simp
  subst this
  simp only [Option.map_some, Option.some.injEq]
  apply o_ii
  intro b hb
  rw [o_86 hw0 hi, if_neg]
  omega
/-- a number is put into its place -/
theorem pset1 {w : Nat} {xs : List Nat} {i v : Nat} (hw : w ≤ 32) (hw0 : 0 < w) (hi : i < xs.length) (hv : v < 2 ^ w) (hr : i * w % 64 + w ≤ 64) : (wordsP w xs).set (i * w / 64) (setW1 w ((wordsP w xs).getD (i * w / 64) 0) v (i * w % 64)) = wordsP w (xs.set i v) := by
 have e := Nat.div_add_mod (i * w) 64
 have hle : i * w + w ≤ xs.length * w := by rw [← Nat.succ_mul]; exact Nat.mul_le_mul_right w hi
 have hq : i * w / 64 < nwP xs.length w := by unfold nwP; omega
 rw [o_il hw hw0 hi hv]
 apply List.ext_getElem?
 intro j
 rw [List.getElem?_set]
 by_cases h : i * w / 64 = j
 ·subst h
  rw [if_pos rfl, if_pos (by simpa using hq), List.getD_eq_getElem?_getD, List.getElem?_eq_getElem (by simpa using hq)]; rfl
 ·rw [if_neg h, o_im hw0 hi (fun h' => h h'.symm) (.inl hr) hw]
theorem pset2 {w : Nat} {xs : List Nat} {i v : Nat} (hw : w ≤ 32) (hi : i < xs.length) (hv : v < 2 ^ w) (hr : 64 < i * w % 64 + w) :
  ((wordsP w xs).set (i * w / 64) (setW1 w ((wordsP w xs).getD (i * w / 64) 0) v (i * w % 64))).set (i * w / 64 + 1) (setW2 w ((wordsP w xs).getD (i * w / 64 + 1) 0) v (64 - i * w % 64)) = wordsP w (xs.set i v) := by
 have e := Nat.div_add_mod (i * w) 64
 have hle : i * w + w ≤ xs.length * w := by rw [← Nat.succ_mul]; exact Nat.mul_le_mul_right w hi
 have hq : i * w / 64 + 1 < nwP xs.length w := by unfold nwP; omega
 rw [o_il hw (by omega) hi hv, o_tk hw hi hv hr]
 apply List.ext_getElem?
 intro j
 rw [List.getElem?_set, List.getElem?_set]
 by_cases h2 : i * w / 64 + 1 = j
 ·subst h2
  rw [if_pos rfl, if_pos (by simpa using hq), List.getD_eq_getElem?_getD, List.getElem?_eq_getElem (by simpa using hq)]; rfl
 ·rw [if_neg h2]
  by_cases h : i * w / 64 = j
  ·subst h
   rw [if_pos rfl, if_pos (by simp; omega), List.getD_eq_getElem?_getD, List.getElem?_eq_getElem (by simp; omega)]; rfl
  ·rw [if_neg h, o_im (by omega) hi (fun h' => h h'.symm) (.inr fun h' => h2 h'.symm) hw]
theorem o_tl (n w : Nat) : wordsP w (List.replicate n 0) = List.replicate (nwP n w) 0 := by
 apply List.ext_getElem?
 intro j
 unfold wordsP
 simp only [List.getElem?_map, List.length_replicate, List.getElem?_replicate]
 by_cases h : j < nwP n w
 ·rw [List.getElem?_range h, if_pos h]
  simp only [Option.map_some, Option.some.injEq]
  have h0 : ∀ k, bitX w (List.replicate n 0) k = false := by
   intro k
   unfold bitX
   have : (List.replicate n 0).getD (k / w) 0 = 0 := by
    rw [List.getD_eq_getElem?_getD, List.getElem?_replicate]; split <;> rfl
   rw [this]; simp
  simp only [h0]
  decide
 ·rw [List.getElem?_eq_none (by simp; omega), if_neg h]; rfl
end
end Go.Proofs.YtijbgbpjionfjaaGreatDoor.Am
namespace Go.Proofs.YtijbgbpjionfjaaGreatDoor.Am
section
open Go.RowKit
/-- words in cells -/
def u64s (ws : List Nat) : List V := ws.map fun x : Nat => V.d (.int .u64 x)
theorem o_1z (ws : List Nat) : (u64s ws).length = ws.length := by simp [u64s]
theorem o_in {ws : List Nat} {j : Nat} (h : j < ws.length) : (u64s ws)[j]? = some (.d (.int .u64 (ws.getD j 0 : Nat))) := by simp [u64s, h]
theorem o_20 (ws : List Nat) (j v : Nat) : (u64s ws).set j (.d (.int .u64 v)) = u64s (ws.set j v) := by simp [u64s, List.map_set]
@[simp] theorem o_we (n : Nat) (ws : List Nat) : V.lowl n (u64s ws) = true := by induction ws <;> simp_all [u64s]
@[simp] theorem o_tm (θ : Nat → Nat) (ws : List Nat) : V.rens θ (u64s ws) = u64s ws := by induction ws <;> simp_all [u64s]
/-- a vector's variable, its words -/
def vecO (m n w : Nat) : Ob := ⟨218, [.own m 1 (nwP n w), .d (.int .i64 n), .d (.int .i64 w)]⟩
def vecB (w : Nat) (xs : List Nat) : Ob := ⟨28, u64s (wordsP w xs)⟩

theorem o_io (x y : Nat) (hx : x < 18446744073709551616) (hy : y < 18446744073709551616) : bits BinOp.and IntKind.u64 (x : Int) (y : Int) = ((x &&& y : Nat) : Int) := by
 show IntKind.u64.wrap (((BitVec.ofInt 64 (x : Int)) &&& (BitVec.ofInt 64 (y : Int))).toNat : Int) = _
 rw [BitVec.toNat_and, BitVec.ofInt_natCast, BitVec.ofInt_natCast, BitVec.toNat_ofNat, BitVec.toNat_ofNat, Nat.mod_eq_of_lt (by omega), Nat.mod_eq_of_lt (by omega)]
 have : x &&& y ≤ x := Nat.and_le_left
 rw [IntKind.wrap_u64]
 omega
theorem o_ip (x y : Nat) (hx : x < 18446744073709551616) (hy : y < 18446744073709551616) : bits BinOp.andNot IntKind.u64 (x : Int) (y : Int) = ((andN x y : Nat) : Int) := by
 show IntKind.u64.wrap (((BitVec.ofInt 64 (x : Int)) &&& ~~~(BitVec.ofInt 64 (y : Int))).toNat : Int) = _
 rw [BitVec.toNat_and, BitVec.toNat_not, BitVec.ofInt_natCast, BitVec.ofInt_natCast, BitVec.toNat_ofNat, BitVec.toNat_ofNat, Nat.mod_eq_of_lt (by omega), Nat.mod_eq_of_lt (by omega)]
 have : x &&& (2 ^ 64 - 1 - y) ≤ x := Nat.and_le_left
 rw [IntKind.wrap_u64]
 unfold andN
 omega

theorem o_tn (n w : Nat) (hn : n ≤ 256) (hw0 : 0 < w) (hw : w ≤ 32) : Eqn Tryz.prog o_d2 [.d (.int .i64 n), .d (.int .i64 w)] [] (.tup [.p 0 0, .d (.int .i64 0)]) [vecO 1 n w, vecB w (List.replicate n 0)] := by
 refine Eqn.gen [1, 0] o_mu (by simp) (by simp) (by rfl) (by decide) (by simp) (by simp [vecO, vecB]) ?_
 have hb : n * w ≤ 256 * 32 := Nat.mul_le_mul hn hw
 have g1 : ¬ (n : Int) < 0 := by omega
 have g2 : ¬ (256 : Int) < n := by omega
 have g3 : ¬ (w : Int) < 1 := by omega
 have g4 : ¬ (32 : Int) < w := by omega
 have e1 : IntKind.i64.wrap ((n : Int) * w) = ((n * w : Nat) : Int) := by rw [w64 (by rw [← Int.natCast_mul]; omega) (by rw [← Int.natCast_mul]; omega), Int.natCast_mul]
 simp only [o_d3, vecO, vecB, o_tl]
 unfold nwP
 generalize n * w = Z at *
 have e2 : IntKind.i64.wrap ((Z : Int) + 64) = ((Z + 64 : Nat) : Int) := by rw [w64 (by omega) (by omega)]; omega
 have e3 : IntKind.i64.wrap ((Z + 64 : Nat) - 1 : Int) = ((Z + 63 : Nat) : Int) := by rw [w64 (by omega) (by omega)]; omega
 have e4 : IntKind.i64.wrap (((Z + 63 : Nat) : Int) / 64) = (((Z + 63) / 64 : Nat) : Int) := by rw [w64 (by omega) (by omega)]; rfl
 have hq : (Z + 63) / 64 ≤ 1000 := by omega
 generalize (Z + 63) / 64 = q at *
 generalize Z + 63 = Z1 at *
 generalize Z + 64 = Z2 at *
 have hrep : u64s (List.replicate q 0) = List.replicate q (V.d (.int .u64 0)) := by simp [u64s]
 have hren : ∀ θ, V.rens θ (u64s (List.replicate q 0)) = u64s (List.replicate q 0) := fun θ => o_tm θ _
 rw [hrep] at hren ⊢
 refine G1 (fs g1 (fs g2 (fs g3 g4))) ?_; try with_reducible exact tt
 refine AW.cond rfl (fun h => ?_) (fun h => ?_)
 ·simp at h
 ·refine G1 (fs e1 (fs e2 (fs e3 (fs e4 hren)))) ?_; try with_reducible exact tt

/-- a vector that stays as it is -/
def vecD (w : Nat) (xs : List Nat) : List D := [.sl (nwP xs.length w) ((wordsP w xs).map fun x : Nat => D.int .u64 x), .int .i64 xs.length, .int .i64 w]

theorem o_iq (w : Nat) (xs : List Nat) (i : Nat) (hi : i < xs.length) (hn : xs.length ≤ 256) (hw : w ≤ 32) : Eqn Tryz.prog o_f0 [.ia (vecD w xs) 0, .d (.int .i64 i)] [] (.tup [.d (.int .i64 (i * w / 64 : Nat)), .d (.int .i64 (i * w % 64 : Nat))]) [] := by
 refine Eqn.pure o_nv Plain.ok ?_
 have hb : i * w ≤ 256 * 32 := Nat.mul_le_mul (by omega) hw
 have e1 : IntKind.i64.wrap ((i : Int) * w) = ((i * w : Nat) : Int) := by rw [w64 (by rw [← Int.natCast_mul]; omega) (by rw [← Int.natCast_mul]; omega), Int.natCast_mul]
 simp only [o_f1, vecD]
 generalize i * w = Z at *
 have e2 : IntKind.i64.wrap ((Z : Int) / 64) = ((Z / 64 : Nat) : Int) := by rw [w64 (by omega) (by omega)]; rfl
 have e3 : (Z : Int).tmod 64 = ((Z % 64 : Nat) : Int) := by rw [Int.tmod_eq_emod_of_nonneg (by omega)]; rfl
 generalize Z / 64 = q at *
 generalize Z % 64 = r at *
 refine G1 (fs e1 (fs e2 e3)) ?_; try with_reducible exact tt

theorem o_ir (w : Nat) (N : Nat) (L : List D) (n : Int) (hw : w ≤ 32) : Eqn Tryz.prog o_6m [.ia [.sl N L, .int .i64 n, .int .i64 w] 0] [] (.d (.int .u64 (2 ^ w - 1 : Nat))) [] := by
 refine Eqn.pure o_nw Plain.ok ?_
 have h32 : 2 ^ w ≤ 2 ^ 32 := Nat.pow_le_pow_right (by omega) hw
 have h0 : 0 < 2 ^ w := Nat.two_pow_pos w
 have e0 : (2 : Int) ^ w = (2 ^ w : Nat) := by rw [Int.natCast_pow]; rfl
 have hw64 : w ≤ 64 := by omega
 simp only [o_f2]
 generalize 2 ^ w = S at *
 have e3 : IntKind.u64.wrap (S : Int) = S := wu64 (by omega) (by omega)
 have e4 : IntKind.u64.wrap ((S : Int) - 1) = ((S - 1 : Nat) : Int) := by rw [wu64 (by omega) (by omega)]; omega
 refine G1 (fs e0 (fs e3 (fs e4 hw64))) ?_; try with_reducible exact tt

theorem o_to (w : Nat) (xs : List Nat) (hw : w ≤ 32) : Eqn Tryz.prog o_6m [.ia (vecD w xs) 0] [] (.d (.int .u64 (2 ^ w - 1 : Nat))) [] := o_ir w _ _ _ hw

theorem o_88 (w : Nat) (xs : List Nat) : Eqn Tryz.prog o_dc [.ia (vecD w xs) 0] [] (.d (.int .i64 w)) [] := by
 refine Eqn.pure o_mz Plain.ok ?_
 simp only [o_dd, vecD]
 refine G0 ?_; try with_reducible exact tt

theorem o_89 (w : Nat) (xs : List Nat) (i : Nat) (hi : i < xs.length) (hn : xs.length ≤ 256) (hw0 : 0 < w) (hw : w ≤ 32) (hs : smallP w xs) : Eqn Tryz.prog o_da [.ia (vecD w xs) 0, .d (.int .i64 i)] [] (.tup [.d (.int .u64 (xs.getD i 0 : Nat)), .d (.int .i64 0)]) [] := by
 refine Eqn.pure o_my Plain.ok ?_
 have hpl := o_iq w xs i hi hn hw
 have hma := o_to w xs hw
 have g1 : ¬ (i : Int) < 0 := by omega
 have g2 : ¬ (xs.length : Int) ≤ i := by omega
 have e := Nat.div_add_mod (i * w) 64
 have hm64 : i * w % 64 < 64 := Nat.mod_lt _ (by omega)
 have hle : i * w + w ≤ xs.length * w := by rw [← Nat.succ_mul]; exact Nat.mul_le_mul_right w hi
 have hq : i * w / 64 < nwP xs.length w := by unfold nwP; omega
 have hq2 : 64 < i * w % 64 + w → i * w / 64 + 1 < nwP xs.length w := by intro h; unfold nwP; omega
 have hx1 := o_y (w := w) (xs := xs) (i * w / 64)
 have hx2 := o_y (w := w) (xs := xs) (i * w / 64 + 1)
 have hp1 := pget1 (i := i) hs hw hi
 have hp2 := pget2 (i := i) hs hw hi
 have hqb : i * w / 64 ≤ 1000 := by have : i * w ≤ 256 * 32 := Nat.mul_le_mul (by omega) hw; omega
 have hg1 : ∀ z : D, ((wordsP w xs).map fun x : Nat => D.int .u64 x)[i * w / 64]?.getD z = .int .u64 ((wordsP w xs).getD (i * w / 64) 0 : Nat) := fun z => by simp [hq]
 have hg2 : 64 < i * w % 64 + w → ∀ z : D, ((wordsP w xs).map fun x : Nat => D.int .u64 x)[i * w / 64 + 1]?.getD z = .int .u64 ((wordsP w xs).getD (i * w / 64 + 1) 0 : Nat) := fun h z => by simp [hq2 h]
 have h32 : 2 ^ w ≤ 2 ^ 32 := Nat.pow_le_pow_right (by omega) hw
 have hlen : ((wordsP w xs).map fun x : Nat => D.int .u64 x).length = nwP xs.length w := by simp
 simp only [o_db, vecD] at hpl hma ⊢
 generalize (wordsP w xs).getD (i * w / 64) 0 = x1 at *
 generalize (wordsP w xs).getD (i * w / 64 + 1) 0 = x2 at *
 generalize xs.getD i 0 = res at *
 generalize i * w / 64 = q at *
 generalize i * w % 64 = r at *
 generalize ((wordsP w xs).map fun x : Nat => D.int .u64 x) = L at *
 generalize nwP xs.length w = NW at *
 have e1 : (x1 : Int) / 2 ^ r = ((x1 / 2 ^ r : Nat) : Int) := by rw [Int.natCast_ediv, Int.natCast_pow]; rfl
 have e2 : IntKind.i64.wrap ((r : Int) + w) = ((r + w : Nat) : Int) := by rw [w64 (by omega) (by omega)]; omega
 have hx1r : x1 / 2 ^ r ≤ x1 := Nat.div_le_self _ _
 have hr64 : (r : Int) ≤ 64 := by omega
 by_cases hrw : r + w ≤ 64
 ·replace hp1 := hp1 hrw
  have e3 := o_io (x1 / 2 ^ r) (2 ^ w - 1) (by omega) (by omega)
  rw [hp1] at e3
  generalize x1 / 2 ^ r = X1 at *
  generalize 2 ^ w - 1 = M at *
  have g3 : ¬ (64 : Int) < (r : Int) + w := by omega
  have g3' : ¬ (64 : Int) < (r + w : Nat) := by omega
  have g3'' : ¬ 64 < r + w := by omega
  generalize r + w = rw_ at *
  refine G1 (fs g1 g2) ?_; try with_reducible exact tt
  refine AW.cond rfl (fun h => ?_) (fun h => ?_)
  ·simp [g1, g2] at h
  refine G0B ?_; try with_reducible exact tt
  refine CallS.pu (hpl) (R0 ?_); try with_reducible exact tt
  repeat (first | refine AW.seq ?_ | refine AW.block ?_ | (refine AW.reg mix ?_; simp -implicitDefEqProofs [hg1, e1, e2, hr64, g3, g3', g3'']; try simp (disch := omega) only [w64, wu64]) | (refine need.of (by first | omega | kernel_rfl) ?_) | (refine AW.fin ?_; try simp -implicitDefEqProofs [hg1, e1, e2, hr64, g3, g3', g3'']))
  (try (simp -implicitDefEqProofs [hg1, e1, e2, hr64, g3, g3', g3'']; try simp (disch := omega) only [w64, wu64]))
  repeat (first | refine AW.seq ?_ | refine AW.block ?_ | (refine AW.reg mix ?_; simp -implicitDefEqProofs [hg1, e1, e2, hr64, g3, g3', g3'']; try simp (disch := omega) only [w64, wu64]) | (refine need.of (by first | omega | kernel_rfl) ?_) | (refine AW.fin ?_; try simp -implicitDefEqProofs [hg1, e1, e2, hr64, g3, g3', g3'']))
  refine AW.cond rfl (fun h => ?_) (fun h => ?_)
  ·simp [g3''] at h
  refine G0 ?_; try with_reducible exact tt
  refine CallS.pu (hma) (R1 e3 ?_); try with_reducible exact tt
 ·have hr2 : 64 < r + w := by omega
  replace hp2 := hp2 hr2
  replace hg2 := hg2 hr2
  replace hq2 := hq2 hr2
  have e4 : IntKind.i64.wrap (64 - (r : Int)) = ((64 - r : Nat) : Int) := by rw [w64 (by omega) (by omega)]; omega
  have e5 : IntKind.u64.wrap ((x2 : Int) * 2 ^ (64 - r)) = ((x2 * 2 ^ (64 - r) % 2 ^ 64 : Nat) : Int) := by
   rw [IntKind.wrap_u64, Int.natCast_emod, Int.natCast_mul, Int.natCast_pow]; rfl
  have hx2m : x2 * 2 ^ (64 - r) % 2 ^ 64 < 2 ^ 64 := Nat.mod_lt _ (by omega)
  have e6 := o_44 (x1 / 2 ^ r) (x2 * 2 ^ (64 - r) % 2 ^ 64) (by omega) (by omega)
  have hor := Nat.or_lt_two_pow (n := 64) (x := x1 / 2 ^ r) (y := x2 * 2 ^ (64 - r) % 2 ^ 64) (by omega) hx2m
  have e7 := o_io (x1 / 2 ^ r ||| x2 * 2 ^ (64 - r) % 2 ^ 64) (2 ^ w - 1) (by omega) (by omega)
  rw [hp2] at e7
  have hs64 : ((64 - r : Nat) : Int) ≤ 64 := by omega
  generalize x1 / 2 ^ r = X1 at *
  generalize x2 * 2 ^ (64 - r) % 2 ^ 64 = X2 at *
  generalize X1 ||| X2 = X3 at *
  generalize 2 ^ w - 1 = M at *
  generalize 64 - r = s at *
  have g3 : (64 : Int) < (r + w : Nat) := by omega
  have e8 : IntKind.i64.wrap ((q : Int) + 1) = ((q + 1 : Nat) : Int) := by rw [w64 (by omega) (by omega)]; omega
  generalize r + w = rw_ at *
  obtain ⟨q1, hq1⟩ : ∃ q1, q1 = q + 1 := ⟨_, rfl⟩
  rw [← hq1] at hg2 hq2 e8
  refine G1 (fs g1 g2) ?_; try with_reducible exact tt
  refine AW.cond rfl (fun h => ?_) (fun h => ?_)
  ·simp [g1, g2] at h
  refine G0B ?_; try with_reducible exact tt
  refine CallS.pu (hpl) (R0 ?_); try with_reducible exact tt
  repeat (first | refine AW.seq ?_ | refine AW.block ?_ | (refine AW.reg mix ?_; simp -implicitDefEqProofs [hg1, e1, e2, hr64, g3, hr2]; try simp (disch := omega) only [w64, wu64]) | (refine need.of (by first | omega | kernel_rfl) ?_) | (refine AW.fin ?_; try simp -implicitDefEqProofs [hg1, e1, e2, hr64, g3, hr2]))
  (try (simp -implicitDefEqProofs [hg1, e1, e2, hr64, g3, hr2]; try simp (disch := omega) only [w64, wu64]))
  repeat (first | refine AW.seq ?_ | refine AW.block ?_ | (refine AW.reg mix ?_; simp -implicitDefEqProofs [hg1, e1, e2, hr64, g3, hr2]; try simp (disch := omega) only [w64, wu64]) | (refine need.of (by first | omega | kernel_rfl) ?_) | (refine AW.fin ?_; try simp -implicitDefEqProofs [hg1, e1, e2, hr64, g3, hr2]))
  refine AW.cond rfl (fun h => ?_) (fun h => ?_)
  ·repeat (first | refine AW.seq ?_ | refine AW.block ?_ | (refine AW.reg mix ?_; simp -implicitDefEqProofs [hg2, e4, e5, e6, e8, hs64]; try simp (disch := omega) only [w64, wu64]) | (refine need.of (by first | omega | kernel_rfl) ?_) | (refine AW.fin ?_; try simp -implicitDefEqProofs [hg2, e4, e5, e6, e8, hs64]))
   (try (simp -implicitDefEqProofs [hg2, e4, e5, e6, e8, hs64]; try simp (disch := omega) only [w64, wu64]))
   repeat (first | refine AW.seq ?_ | refine AW.block ?_ | (refine AW.reg mix ?_; simp -implicitDefEqProofs [hg2, e4, e5, e6, e8, hs64]; try simp (disch := omega) only [w64, wu64]) | (refine need.of (by first | omega | kernel_rfl) ?_) | (refine AW.fin ?_; try simp -implicitDefEqProofs [hg2, e4, e5, e6, e8, hs64]))
   refine CallS.pu (hma) (R1 e7 ?_); try with_reducible exact tt
  ·simp [hr2] at h
end
end Go.Proofs.YtijbgbpjionfjaaGreatDoor.Am
