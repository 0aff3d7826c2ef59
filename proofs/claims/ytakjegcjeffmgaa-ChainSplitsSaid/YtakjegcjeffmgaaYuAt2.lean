import Derived.Test.YtakjegcjeffmgaaYuAt
namespace Go.Proofs.Ytakjegcjeffmgaa.Am
open Go.RowKit
set_option maxRecDepth 100000
set_option linter.unusedSimpArgs false
set_option linter.unusedVariables false

def atE (s k : Int) : Int := if 1 ≤ s ∧ s ≤ 5 then (if 0 ≤ k ∧ k ≤ 1023 then 0 else 2) else 10
def atP (s k : Int) : Pl := if atE s k = 0 then placeY s.toNat k.toNat else ⟨0, 0, 0, 0⟩

def Ta (s k : Nat) (x23 : V) : List V := [.d (.int .i64 s), .d (.int .i64 k), .junk, .p 0 0, .p 1 0, .d (.int .i64 0), .p 2 0] ++ List.replicate 16 .junk ++ [x23] ++ List.replicate 7 .junk
def Ta0 (s k : Nat) : List V := [.d (.int .i64 s), .d (.int .i64 k), .junk, .p 0 0, .p 1 0, .d (.int .i64 0)] ++ List.replicate 25 .junk
abbrev zO : Ob := plO (zD.map V.d)

theorem a_1 (s k : Nat) : AW Try.prog 0 c_yu_At.l (thenQ (fun T H => wk 2 T (Ta0 s k) ∧ wkH 2 H [some (kO k), some zO]) noQ) ([.d (.int .i64 s), .d (.int .i64 k)] ++ List.replicate 29 .junk) [] := by
  simp only [c_yu_At, C.l, Ta0]
  repeat (first | refine AW.seq ?_ | refine AW.block ?_ | (refine AW.reg mix ?_; (simp; try simp (disch := omega) only [w64, wu64])) | (refine need.of (by first | omega | kernel_rfl) ?_) | (refine AW.skip ?_; (try simp)) | (refine AW.ret ?_; (try simp)) | (refine AW.exit ?_; (try simp)))
  exact ⟨Subs.refl _, rfl⟩
theorem a_2 (s k : Nat) (s1 : 1 ≤ s) (s5 : s ≤ 5) (hk : k ≤ 1023) : AW Try.prog 0 c_yu_At.r.l (thenQ (fun T H => wk 2 T (Ta0 s k) ∧ wkH 2 H [some (kO k), some zO]) noQ) (Ta0 s k) [some (kO k), some zO] := by
  simp only [c_yu_At, C.l, C.r, Ta0, zD]
  repeat (first | refine AW.seq ?_ | refine AW.block ?_ | (refine AW.reg mix ?_; (simp; try simp (disch := omega) only [w64, wu64])) | (refine need.of (by first | omega | kernel_rfl) ?_) | (refine AW.skip ?_; (try simp)) | (refine AW.ret ?_; (try simp)) | (refine AW.exit ?_; (try simp)))
  refine CallS.pure (ygood_ok s) (by first | exact plain_d _ | exact plain_tup2 _ _ | exact plain_tup3 _ _ _) rfl (fun _ => rfl) (Subs.refl _) ?_
  (try simp; try simp (disch := omega) only [w64, wu64])
  repeat (first | refine AW.seq ?_ | refine AW.block ?_ | (refine AW.reg mix ?_; (simp; try simp (disch := omega) only [w64, wu64])) | (refine need.of (by first | omega | kernel_rfl) ?_) | (refine AW.skip ?_; (try simp)) | (refine AW.ret ?_; (try simp)) | (refine AW.exit ?_; (try simp)))
  have h1 : (1 : Int) ≤ s ∧ (s : Int) ≤ 5 := by omega
  refine AW.cond rfl (fun h => ?_) (fun h => ?_)
  · simp [h1] at h
  have h2 : ¬ (1023 : Int) < k := by omega
  repeat (first | refine AW.seq ?_ | refine AW.block ?_ | (refine AW.reg mix ?_; (simp [h2]; try simp (disch := omega) only [w64, wu64])) | (refine need.of (by first | omega | kernel_rfl) ?_) | (refine AW.skip ?_; (try simp [h2])) | (refine AW.ret ?_; (try simp [h2])) | (refine AW.exit ?_; (try simp [h2])))
  refine AW.cond rfl (fun h => ?_) (fun h => ?_)
  · simp at h
  repeat (first | refine AW.seq ?_ | refine AW.block ?_ | (refine AW.reg mix ?_; (simp; try simp (disch := omega) only [w64, wu64])) | (refine need.of (by first | omega | kernel_rfl) ?_) | (refine AW.skip ?_; (try simp)) | (refine AW.ret ?_; (try simp)) | (refine AW.exit ?_; (try simp)))
  rfl
theorem a_3 (s k : Nat) : AW Try.prog 0 c_yu_At.r.r.l (thenQ (fun T H => wk 3 T (Ta s k .junk) ∧ wkH 3 H [some (kO k), some zO, some zO]) noQ) (Ta0 s k) [some (kO k), some zO] := by
  simp only [c_yu_At, C.l, C.r, Ta0, Ta]
  repeat (first | refine AW.seq ?_ | refine AW.block ?_ | (refine AW.reg mix ?_; (simp; try simp (disch := omega) only [w64, wu64])) | (refine need.of (by first | omega | kernel_rfl) ?_) | (refine AW.skip ?_; (try simp)) | (refine AW.ret ?_; (try simp)) | (refine AW.exit ?_; (try simp)))
  exact ⟨Subs.refl _, rfl⟩
theorem a_4 (s k : Nat) : AW Try.prog 0 c_yu_At.r.r.r.l.l (thenQ (fun T H => wk 4 T (Ta s k (.fn (.func n_yu_walk_1) [.p 3 0])) ∧ wkH 4 H [some (kO k), some zO, some zO, some (sO s)]) noQ) (Ta s k .junk) [some (kO k), some zO, some zO] := by
  simp only [c_yu_At, C.l, C.r, Ta]
  repeat (first | refine AW.seq ?_ | refine AW.block ?_ | (refine AW.reg mix ?_; (simp; try simp (disch := omega) only [w64, wu64])) | (refine need.of (by first | omega | kernel_rfl) ?_) | (refine AW.skip ?_; (try simp)) | (refine AW.ret ?_; (try simp)) | (refine AW.exit ?_; (try simp)))
  refine CallS.newX (walk_ok s) ⟨rfl, fun _ => rfl⟩ rfl (fun _ => rfl) (Subs.refl _) ?_
  simp [nameOf, V.ren, V.rens]
  rfl
theorem a_5 (s k : Nat) (x : V) (p : Pl) {K' : List V → List (Option Ob) → Prop} (h : ∀ T, T.getD 4 .junk = .p 1 0 → T.getD 5 .junk = .d (.int .i64 0) → K' T [none, some (plO ((plC p).map V.d)), some (plO ((plC p).map V.d)), none]) :
    vops Try.prog false K' c_yu_At.r.r.r.r.l.os [] (Ta s k x) [none, some zO, some (plO ((plC p).map V.d)), none] := by
  simp only [c_yu_At, C.l, C.r, C.os, Ta, zD]
  simp only [plC, List.map_cons, List.map_nil] at h ⊢
  simp
  exact need.of (by decide) (h _ rfl rfl)

theorem getD_junk (l : List V) (n i : Nat) (h : l.length ≤ i) : (l ++ List.replicate n V.junk).getD i .junk = .junk := by
  rw [List.getD_eq_getElem?_getD, List.getElem?_append_right h, List.getElem?_replicate]; split <;> rfl
theorem sat_two {m : Mem} {H : List (Option Ob)} {a : Act} {l : Nat} {sv : Value} (hb : m.base) (hobj : ∀ n ob, H.getD n none = some ob → m.obj n ob) (hinj : ∀ n k b, live H n → live H k → m.ρ n = some b → m.ρ k = some b → n = k) (htop : ∀ n, H.length ≤ n → m.ρ n = none)
    (hv : (V.p 3 0).rep m sv) (ht : a.tmps = #[.func (.yield l) #[] #[], sv] ++ Array.replicate 21 undef) (hd : a.defers = []) : Sat m a ([fnY l, .p 3 0] ++ List.replicate 21 .junk) H := by
  refine ⟨hb, fun s => ?_, hobj, hinj, htop, by rw [ht]; simp, hd⟩
  rcases s with _ | _ | s
  · rw [ht]
    show V.rep m (fnY l) _
    unfold V.rep
    exact ⟨[], by simp, by simp⟩
  · rw [ht]
    show V.rep m (.p 3 0) _
    simpa using hv
  · have : ([fnY l, .p 3 0] ++ List.replicate 21 V.junk).getD (s + 2) .junk = .junk := getD_junk _ _ _ (by simp)
    rw [this]
    unfold V.rep
    trivial
def SC : Nat → Bool := fun n => n == 0 || n == 2 || n == 3

set_option maxHeartbeats 4000000 in
theorem at_good (s k : Nat) (s1 : 1 ≤ s) (s5 : s ≤ 5) (hk : k ≤ 1023) : Eqn Try.prog n_yu_At [.d (.int .i64 s), .d (.int .i64 k)] [] (.tup [.d (plD (placeY s k)), .d (.int .i64 0)]) [] := by
  refine ⟨Nat.le_refl _, by simp, rfl, by simp, fun m vs mb hargs _ _ htop => .inr ⟨fnOf_enters r_yu_At _ _, ?_⟩⟩
  obtain ⟨v0, _, rfl, hv0, hargs⟩ := V.reps_cons'.1 hargs
  obtain ⟨v1, _, rfl, hv1, hargs⟩ := V.reps_cons'.1 hargs
  simp at hargs; subst hargs
  have htop : ∀ n, 0 ≤ n → m.ρ n = none := fun n _ => htop n (Nat.zero_le _)
  obtain ⟨f10, a1, a2, a3, a4, asg, bd, g, ps, id, ops, hf, hb, e1, e2, e3, e4, eg, eps, easg, ebd, e5, ecalm, ers, ent⟩ := atS_spec at_s
  simp only at hb e1 e2 e3 e4 eg eps easg ebd e5 ecalm ers ent
  rw [Bool.and_eq_true, Bool.and_eq_true] at ecalm
  obtain ⟨calA, calB, calO⟩ := ecalm
  have eps : ps = #[24, 25] := by rw [← Array.toArray_toList (xs := ps), eps]
  subst eps
  refine (callsIn_wide (n := 1)).1 (callsIn_of_wp_marks hf hb trivial ?_ rfl)
  have hsize : f10.ntmps - 2 = 29 := by rw [ent]
  have sat0 : Sat m { tmps := #[v0, v1] ++ Array.replicate (f10.ntmps - #[v0, v1].size) undef, defers := [] } ([.d (.int .i64 s), .d (.int .i64 k)] ++ List.replicate 29 .junk) [] := by
    refine ⟨mb, fun i => ?_, by simp, fun n k b ln => by simp [live] at ln, fun n _ => htop n (Nat.zero_le _), by simp [ent], rfl⟩
    rcases i with _ | _ | i
    · show V.rep m (.d (.int .i64 s)) _
      rw [Array.getD_eq_getD_getElem?, Array.getElem?_append_left (by simp)]
      exact hv0
    · show V.rep m (.d (.int .i64 k)) _
      rw [Array.getD_eq_getD_getElem?, Array.getElem?_append_left (by simp)]
      exact hv1
    · have : ([V.d (.int .i64 s), V.d (.int .i64 k)] ++ List.replicate 29 V.junk).getD (i + 2) .junk = .junk := getD_junk _ _ _ (by simp)
      rw [this]
      unfold V.rep
      trivial
  refine AW.then (L := 0) e1 (a_1 s k) sat0 (Mem.le.refl _ _) htop (by simp) fun T1 H1 m1 w1 hq st1 le1 _ => ?_
  obtain ⟨m1', hw1, st1', le1', _⟩ := Sat.weaken (T1 := Ta0 s k) (H1 := [some (kO k), some zO]) (Weak.of hq.1 hq.2) st1 le1 htop (by simp)
  rw [← hw1]
  refine AW.then (L := 0) e2 (a_2 s k s1 s5 hk) st1' le1' htop (by simp) fun T2 H2 m2 w2 hq st2 le2 _ => ?_
  obtain ⟨m2', hw2, st2', le2', _⟩ := Sat.weaken (T1 := Ta0 s k) (H1 := [some (kO k), some zO]) (Weak.of hq.1 hq.2) st2 le2 htop (by simp)
  rw [← hw2]
  refine AW.then (L := 0) e3 (a_3 s k) st2' le2' htop (by simp) fun T3 H3 m3 w3 hq st3 le3 _ => ?_
  obtain ⟨m3', hw3, st3', le3', _⟩ := Sat.weaken (T1 := Ta s k .junk) (H1 := [some (kO k), some zO, some zO]) (Weak.of hq.1 hq.2) st3 le3 htop (by simp)
  rw [← hw3]
  refine wpIn_seq ?_
  refine AW.then (L := 0) e4 (a_4 s k) st3' le3' htop (by simp) fun T4 H4 m4' w4 hq st4 le4 _ => ?_
  obtain ⟨m4, hw4, st4', le4', _⟩ := Sat.weaken (T1 := Ta s k (.fn (.func n_yu_walk_1) [.p 3 0])) (H1 := [some (kO k), some zO, some zO, some (sO s)]) (Weak.of hq.1 hq.2) st4 le4 htop (by simp)
  rw [← hw4]
  clear hw1 hw2 hw3 hw4 st1 st2 st3 st4 st1' st2' st3' le1 le2 le3 le4 le1' le2' le3' hq sat0
  refine wpIn_block (wpIn_rangeFunc fun fn' _ => ?_)
  -- the function that is ranged over
  have gt3 : (V.p 0 0).rep m4 (w4.tmps.getD 3 undef) := getD_of_rep st4' (s := 3) rfl
  have gt6 : (V.p 2 0).rep m4 (w4.tmps.getD 6 undef) := getD_of_rep st4' (s := 6) rfl
  have gt23 : (V.fn (.func n_yu_walk_1) [.p 3 0]).rep m4 (w4.tmps.getD 23 undef) := getD_of_rep st4' (s := 23) rfl
  unfold V.rep at gt23
  obtain ⟨cvs, hg23, hcv⟩ := gt23
  obtain ⟨sv, _, rfl, hsv, hcv⟩ := V.reps_cons'.1 hcv
  simp at hcv; subst hcv
  have hgt : g = .tmp 23 := by
    cases g <;> simp [X.of] at eg
    · rw [eg]
    · rename_i v; cases h : D.of1 v <;> simp [h] at eg
  have hgev : w4.eval g = .func (.func n_yu_walk_1) #[] #[sv] := by rw [hgt]; exact hg23
  obtain ⟨rec, hrec⟩ : ∃ rec : LoopState → Option Code → Loop, rec = fun st pe => { state := st, pending := pe, fn := fn', tmps := w4.tmps, params := #[24, 25], assign := asg, body := bd, defers := m4.w.heap.size } := ⟨_, rfl⟩
  obtain ⟨W1, hW1⟩ : ∃ W1, W1 = (m4.w.alloc (.deferred (some []))).alloc (.loop (rec .ready none)) := ⟨_, rfl⟩
  have hl1 : W1.heap[m4.w.heap.size + 1]? = some (.loop (rec .ready none)) := by
    rw [hW1]; have := World.alloc_heap_new (m4.w.alloc (.deferred (some []))) (.loop (rec .ready none)); rwa [World.size_alloc] at this
  have hd1 : W1.heap[m4.w.heap.size]? = some (.deferred (some [])) := by
    rw [hW1]; exact (Below.heap_alloc _ _ _ (by simp)).trans (World.alloc_heap_new m4.w _)
  have satw : Sat (m4.at W1) w4 (Ta s k (.fn (.func n_yu_walk_1) [.p 3 0])) [some (kO k), some zO, some zO, some (sO s)] := by
    rw [hW1]; exact (st4'.grow _).grow _
  have lew : m.le (m4.at W1) (· < 0) := by
    rw [hW1]; exact (le4'.grow st4'.base _).grow (st4'.grow _).base _
  have loD : (m4.at W1).loose m4.w.heap.size := by
    rw [hW1]; exact (loose_new st4'.base _).grow _
  have loL : (m4.at W1).loose (m4.w.heap.size + 1) := by
    rw [hW1]
    have := loose_new (st4'.grow (.deferred (some []))).base (.loop (rec .ready none))
    simpa using this
  have hb4 : m.w.heap.size ≤ m4.w.heap.size := le4'.size
  have hrep1 : ∀ x v, V.rep m4 x v → V.rep (m4.at W1) x v := fun x v h => by
    rw [hW1]
    exact V.rep_off (m := m4) (m' := m4.at ((m4.w.alloc (.deferred (some []))).alloc (.loop (rec .ready none)))) ⟨rfl, rfl, fun b hb => (Below.heap_alloc _ _ _ (by simp; have := st4'.base.imm b hb; omega)).trans (Below.heap_alloc _ _ _ (st4'.base.imm b hb)), fun n b hb => (Below.heap_alloc _ _ _ (by simp; have := st4'.base.dom n b hb; omega)).trans (Below.heap_alloc _ _ _ (st4'.base.dom n b hb))⟩ x v h
  generalize hLn : m4.w.heap.size + 1 = l at *
  generalize hDn : m4.w.heap.size = dd at *
  refine ⟨l, [{ target := .collected dd, args := #[] }], W1, { target := .fn (.func n_yu_walk_1) #[sv], args := #[.func (.yield l) #[] #[]] }, W1, n_yu_walk_1, #[.func (.yield l) #[] #[], sv], W1, ?_, ?_, fun _ _ => trivial, ?_, fun h => by simp [Fence.wide] at h, ?_⟩
  · have := run_enterLoop_outer (P := Try.prog) (w := m4.w) fn' w4.tmps #[24, 25] asg bd
    rw [hW1, hrec, ← hLn, ← hDn]
    exact this
  · simp only [Go.resolve, hgev]
    simp [go_sem, Deferred.ofValue]
  · simp [invoke, go_sem]
  refine callsIn_wide.2 ?_
  -- the memory that the walk sees
  have cutr : ∀ n, SC n = true → ((m4.at W1).cut SC).ρ n = m4.ρ n := fun n h => by simp [h]
  have cobj : ∀ (n : Nat) (ty : TypeId) (ds : List D), SC n = true → (m4.at W1).obj n ⟨ty, ds.map V.d⟩ → ((m4.at W1).cut SC).obj n ⟨ty, ds.map V.d⟩ := by
    rintro n ty ds hn ⟨b, vs, more, h1, h2, h3, h4, h5⟩
    exact ⟨b, vs, more, by rw [cutr n hn]; exact h1, h2, h3, reps_data (m := m4.at W1) (m' := (m4.at W1).cut SC) rfl rfl (show V.reps (m4.at W1) (ds.map V.d) vs from h4), h5⟩
  have prep : ∀ n o v, SC n = true → (V.p n o).rep (m4.at W1) v → (V.p n o).rep ((m4.at W1).cut SC) v := by
    intro n o v hn h
    unfold V.rep at h ⊢
    obtain ⟨b, h1, h2⟩ := h
    exact ⟨b, by rw [cutr n hn]; exact h1, h2⟩
  have loC : ((m4.at W1).cut SC).loose l := by
    refine ⟨loL.lt, fun n h => ?_, loL.I⟩
    simp only at h
    split at h
    · exact loL.ρ n h
    · cases h
  have lv : ∀ n, live [some (kO k), none, some zO, some (sO s)] n → SC n = true := fun n h => by
    rcases n with _ | _ | _ | _ | n <;> first | rfl | (simp [live] at h)
  have hwalk := walk1_ok (m := (m4.at W1).cut SC) (l := l) (sv := sv) easg ebd calA calB hrec s k s1 s5 hk
    (fun a ha hd => sat_two (H := [some (kO k), none, some zO, some (sO s)]) (Mem.cut_base satw.base SC) (fun n ob h => by
      rcases n with _ | _ | _ | _ | n
      · simp at h; subst h; exact cobj 0 _ [.int .i64 k] rfl (satw.obj 0 _ rfl)
      · simp at h
      · simp at h; subst h; exact cobj 2 _ zD rfl (satw.obj 2 _ rfl)
      · simp at h; subst h; exact cobj 3 _ [.int .i64 s] rfl (satw.obj 3 _ rfl)
      · simp at h) (fun n k' b h1 h2 h3 h4 => by
        have l1 := lv n h1
        have l2 := lv k' h2
        rw [cutr n l1] at h3; rw [cutr k' l2] at h4
        refine satw.inj n k' b ?_ ?_ h3 h4
        · rcases n with _ | _ | _ | _ | n <;> first | rfl | (simp [live] at h1)
        · rcases k' with _ | _ | _ | _ | k' <;> first | rfl | (simp [live] at h2)) (fun n h => by
        have h4 : ¬ SC n = true := by simp [SC]; simp at h; omega
        simp [h4]) (prep 3 0 sv rfl (hrep1 _ _ hsv)) ha hd)
    (prep 0 0 _ rfl (hrep1 _ _ gt3)) (prep 2 0 _ rfl (hrep1 _ _ gt6)) (by rw [satw.size]; rfl) loC hl1
  refine hwalk.mono ?_
  rintro e w5 ⟨⟨v, rfl⟩, m5, rfl, b5, o5, le5⟩
  obtain ⟨loC5, hl5⟩ := (loC.put (.loop (rec .done (some (.exit 1))))).keep le5
  have hl5' := hl5.trans (World.putObj_heap_same loC.lt)
  have hrd : ∀ st pe, (rec st pe).state = st ∧ (rec st pe).pending = pe := fun st pe => by rw [hrec]; exact ⟨rfl, rfl⟩
  have hend := run_endLoop (P := Try.prog) hl5' (by rw [(hrd _ _).1]; simp)
  rw [(hrd _ _).2] at hend
  obtain ⟨o6, hend⟩ : ∃ o6, (Instr.endLoop l).run Try.prog m5.w = .ok (some (.exit 1)) (m5.w.putObj l o6) := ⟨_, hend⟩
  refine ⟨_, _, hend, wpIn_exit ?_⟩
  -- back in the asker
  have hu := Mem.uncut (m := (m4.at W1).at (W1.putObj l (.loop (rec .done (some (.exit 1)))))) (S := SC) le5 (fun n h => by simp [SC] at h; omega)
  have lo5 : (⟨m4.ρ, m5.I, m5.w⟩ : Mem).loose l := ((loL.put (.loop (rec .done (some (.exit 1))))).keep hu).1
  have loD5 := (Mem.loose.keep (m := (m4.at W1).at (W1.putObj l (.loop (rec .done (some (.exit 1)))))) (l := dd) ⟨by simpa using loD.lt, loD.ρ, loD.I⟩ hu)
  have hne : dd ≠ l := by omega
  have hd5 : m5.w.heap[dd]? = some (.deferred (some [])) := loD5.2.trans ((World.putObj_heap_other hne).trans hd1)
  have obj2 : (⟨m4.ρ, m5.I, m5.w⟩ : Mem).obj 2 (plO ((plC (placeY s k)).map V.d)) := by
    obtain ⟨b, vs, more, h1, h2, h3, h4, h5⟩ := o5
    obtain ⟨b', hb'⟩ := obj_rho (satw.obj 2 _ rfl)
    have := le5.ρ 2 b' (by show (if SC 2 = true then m4.ρ 2 else none) = some b'; rw [if_pos (show SC 2 = true from rfl)]; exact hb')
    rw [h1] at this
    cases this
    exact ⟨b, vs, more, hb', h2, h3, reps_data (m := m5) (m' := ⟨m4.ρ, m5.I, m5.w⟩) rfl rfl (show V.reps m5 ((plC (placeY s k)).map V.d) vs from h4), h5⟩
  have sat5 : Sat ⟨m4.ρ, m5.I, m5.w⟩ w4 (Ta s k (.fn (.func n_yu_walk_1) [.p 3 0])) [none, some zO, some (plO ((plC (placeY s k)).map V.d)), none] := by
    refine Sat.uncut (m := (m4.at W1).at (W1.putObj l (.loop (rec .done (some (.exit 1)))))) (loL.sat (.loop (rec .done (some (.exit 1)))) satw) b5 hu (fun n h => ?_) rfl fun n ob h => ?_
    · simp [SC] at h
      rcases h with (rfl | rfl) | rfl <;> rfl
    · rcases n with _ | _ | _ | _ | n
      · simp at h
      · right; simp at h; subst h; exact ⟨rfl, rfl⟩
      · left; simp at h; subst h; exact ⟨rfl, obj2⟩
      · simp at h
      · simp at h
  have le5' : m.le ⟨m4.ρ, m5.I, m5.w⟩ (· < 0) := by
    refine Mem.le.trans (lew.far mb (l := l) (by omega) (.loop (rec .done (some (.exit 1))))) hu fun n b h _ => ?_
    rw [htop n (Nat.zero_le _)] at h; cases h
  have sat6 := lo5.sat o6 sat5
  have le6 := le5'.far mb (l := l) (by omega) o6
  have hd6 : (m5.w.putObj l o6).heap[dd]? = some (.deferred (some [])) := (World.putObj_heap_other hne).trans hd5
  have loD6 : ((⟨m4.ρ, m5.I, m5.w⟩ : Mem).at (m5.w.putObj l o6)).loose dd := ⟨by simpa using loD5.1.lt, loD5.1.ρ, loD5.1.I⟩
  show (Code.seq (.region id ops false) .ret).wpIn Fence.wide 1 _ _ _ _
  refine wpIn_seq (wpIn_regops ?_)
  have hops : ops.toList = ops.toList ++ [] := (List.append_nil _).symm
  rw [hops]
  refine wpListIn_beside (D := [{ target := .collected dd, args := #[] }]) (Q := fun e a w => e = .normal ∧ ∃ T' H' m', m'.w = w ∧ Sat m' a T' H' ∧ T'.getD 4 .junk = .p 1 0 ∧ T'.getD 5 .junk = .d (.int .i64 0) ∧ H' = [none, some (plO ((plC (placeY s k)).map V.d)), some (plO ((plC (placeY s k)).map V.d)), none] ∧ m.le m' (· < 0) ∧ ((⟨m4.ρ, m5.I, m5.w⟩ : Mem).at (m5.w.putObj l o6)).le m' (· < 4)) ?_ _ w4 _ _ ⟨rfl, by rw [st4'.defers]; rfl⟩ ?_
  · rintro e a a' w hbes ⟨rfl, T7, H7, m7, rfl, st7, h4, h5, rfl, le0, le7⟩
    refine wpIn_ret ?_
    have hdf : a'.defers = [{ target := .collected dd, args := #[] }] := by rw [hbes.defers, st7.defers]; rfl
    show LeavesInM _ _ _ _ _ _ a'.defers _ _
    rw [hdf, ← hbes.tmps]
    obtain ⟨lo7, hl7⟩ := loD6.keep le7
    have hd7 := hl7.trans hd6
    refine ⟨by simp, .inl ⟨dd, _, rfl, run_takeDeferred hd7, ?_⟩⟩
    have sat8 := lo7.sat (.deferred none) st7
    obtain ⟨v, hv1, hv2⟩ := outV_run (P := Try.prog) sat8 f10 (.tup [.d (plD (placeY s k)), .d (.int .i64 0)]) (by
      rw [ers]
      simp only [outV, outs, RV.out, h4, h5]
      rfl)
    refine ⟨v, hv1, v, ⟨fun _ => none, m7.I, m7.w.putObj dd (.deferred none)⟩, rfl, rfl, ?_⟩
    have lem := le0.far mb (l := dd) (by omega) (.deferred none)
    refine ⟨⟨sat8.base.imm, fun n b h => (by cases h)⟩, ⟨fun n b h => (by rw [htop n (Nat.zero_le _)] at h; cases h), lem.I, lem.os, lem.tape, lem.output, lem.size, lem.block, lem.shape, lem.imm, lem.newI, fun n b h => (by cases h)⟩, ?_, by simp, by simp, fun _ _ => rfl, fun n b _ h => (by cases h)⟩
    unfold V.rep at hv2 ⊢
    obtain ⟨us, h1, h2⟩ := hv2
    exact ⟨us, h1, reps_data (ds := [plD (placeY s k), .int .i64 0]) (m := m7.at (m7.w.putObj dd (.deferred none))) rfl rfl h2⟩
  · refine vops_listIn (l := none) (L := 4) (m0 := (⟨m4.ρ, m5.I, m5.w⟩ : Mem).at (m5.w.putObj l o6)) (m := (⟨m4.ρ, m5.I, m5.w⟩ : Mem).at (m5.w.putObj l o6)) (K := fun T H => T.getD 4 .junk = .p 1 0 ∧ T.getD 5 .junk = .d (.int .i64 0) ∧ H = [none, some (plO ((plC (placeY s k)).map V.d)), some (plO ((plC (placeY s k)).map V.d)), none]) [] calO (by rw [e5]; exact a_5 s k _ _ fun T h1 h2 => ⟨h1, h2, rfl⟩) sat6 (Mem.le.refl _ _) sat6.top (by simp) fun T7 H7 a7 m7 hq st7 le7 _ => ?_
    refine wpListIn_nil ⟨rfl, T7, H7, m7, rfl, st7, hq.1, hq.2.1, hq.2.2, ?_, le7⟩
    refine Mem.le.trans le6 le7 fun n b h _ => ?_
    rw [htop n (Nat.zero_le _)] at h; cases h

theorem Sub1.aggd {l r : List D} (h : Subs (l.map V.d) (r.map V.d)) : Sub1 (.d (.agg l)) (.d (.agg r)) := fun m v k => by
  rw [V.rep_d] at k ⊢
  unfold D.rep at k ⊢
  obtain ⟨vs, h1, h2, h3⟩ := k
  exact ⟨vs, h1, h2, V.reps_map_d.1 (h m vs (V.reps_map_d.2 h3))⟩
theorem Sub1.pl0 (e : D) : Sub1 (.tup [.d (.agg [.int .i64 0, .int .i64 0, .nilsl, .nilsl]), .d e]) (.tup [.d (plD ⟨0, 0, 0, 0⟩), .d e]) :=
  Sub1.tup (Subs.cons (Sub1.aggd (Subs.cons (Sub1.refl _) (Subs.cons (Sub1.refl _) (Subs.cons Sub1.nil (Subs.cons Sub1.nil (Subs.refl _)))))) (Subs.refl _))

theorem at_ok (s k : Int) : Eqn Try.prog n_yu_At [.d (.int .i64 s), .d (.int .i64 k)] [] (.tup [.d (plD (atP s k)), .d (.int .i64 (atE s k))]) [] := by
  by_cases hs : 1 ≤ s ∧ s ≤ 5
  · by_cases hk : 0 ≤ k ∧ k ≤ 1023
    · have e : atE s k = 0 := by rw [atE, if_pos hs, if_pos hk]
      obtain ⟨s, rfl⟩ : ∃ n : Nat, s = n := ⟨s.toNat, by omega⟩
      obtain ⟨k, rfl⟩ : ∃ n : Nat, k = n := ⟨k.toNat, by omega⟩
      rw [atP, if_pos e, e]
      exact at_good s k (by omega) (by omega) (by omega)
    · have e : atE s k = 2 := by rw [atE, if_pos hs, if_neg hk]
      rw [atP, if_neg (by rw [e]; omega), e]
      refine Eqn.pure r_yu_At (plain_tup2 _ _) ?_
      simp only [c_yu_At]
      repeat (first | refine AW.seq ?_ | refine AW.block ?_ | (refine AW.reg mix ?_; (simp; try simp (disch := omega) only [w64, wu64])) | (refine need.of (by first | omega | kernel_rfl) ?_) | (refine AW.skip ?_; (try simp)) | (refine AW.ret ?_; (try simp)) | (refine AW.exit ?_; (try simp)))
      refine CallS.pure (ygood_ok s) (by first | exact plain_d _ | exact plain_tup2 _ _ | exact plain_tup3 _ _ _) rfl (fun _ => rfl) (Subs.refl _) ?_
      (try simp; try simp (disch := omega) only [w64, wu64])
      repeat (first | refine AW.seq ?_ | refine AW.block ?_ | (refine AW.reg mix ?_; (simp; try simp (disch := omega) only [w64, wu64])) | (refine need.of (by first | omega | kernel_rfl) ?_) | (refine AW.skip ?_; (try simp)) | (refine AW.ret ?_; (try simp)) | (refine AW.exit ?_; (try simp)))
      refine AW.cond rfl (fun h => ?_) (fun h => ?_)
      · simp [hs] at h
      by_cases h0 : k < 0
      · repeat (first | refine AW.seq ?_ | refine AW.block ?_ | (refine AW.reg mix ?_; (simp [h0]; try simp (disch := omega) only [w64, wu64])) | (refine need.of (by first | omega | kernel_rfl) ?_) | (refine AW.skip ?_; (try simp [h0])) | (refine AW.ret ?_; (try simp [h0])) | (refine AW.exit ?_; (try simp [h0])))
        refine AW.cond rfl (fun h => ?_) (fun h => ?_)
        · repeat (first | refine AW.seq ?_ | refine AW.block ?_ | (refine AW.reg mix ?_; (simp; try simp (disch := omega) only [w64, wu64])) | (refine need.of (by first | omega | kernel_rfl) ?_) | (refine AW.skip ?_; (try simp)) | (refine AW.ret ?_; (try simp)) | (refine AW.exit ?_; (try simp)))
          exact Sub1.pl0 _
        · simp [h0] at h
      · have h1 : 1023 < k := by omega
        repeat (first | refine AW.seq ?_ | refine AW.block ?_ | (refine AW.reg mix ?_; (simp [h0, h1]; try simp (disch := omega) only [w64, wu64])) | (refine need.of (by first | omega | kernel_rfl) ?_) | (refine AW.skip ?_; (try simp [h0, h1])) | (refine AW.ret ?_; (try simp [h0, h1])) | (refine AW.exit ?_; (try simp [h0, h1])))
        refine AW.cond rfl (fun h => ?_) (fun h => ?_)
        · repeat (first | refine AW.seq ?_ | refine AW.block ?_ | (refine AW.reg mix ?_; (simp; try simp (disch := omega) only [w64, wu64])) | (refine need.of (by first | omega | kernel_rfl) ?_) | (refine AW.skip ?_; (try simp)) | (refine AW.ret ?_; (try simp)) | (refine AW.exit ?_; (try simp)))
          exact Sub1.pl0 _
        · simp [h0, h1] at h
  · have e : atE s k = 10 := by rw [atE, if_neg hs]
    rw [atP, if_neg (by rw [e]; omega), e]
    refine Eqn.pure r_yu_At (plain_tup2 _ _) ?_
    simp only [c_yu_At]
    repeat (first | refine AW.seq ?_ | refine AW.block ?_ | (refine AW.reg mix ?_; (simp; try simp (disch := omega) only [w64, wu64])) | (refine need.of (by first | omega | kernel_rfl) ?_) | (refine AW.skip ?_; (try simp)) | (refine AW.ret ?_; (try simp)) | (refine AW.exit ?_; (try simp)))
    refine CallS.pure (ygood_ok s) (by first | exact plain_d _ | exact plain_tup2 _ _ | exact plain_tup3 _ _ _) rfl (fun _ => rfl) (Subs.refl _) ?_
    (try simp; try simp (disch := omega) only [w64, wu64])
    repeat (first | refine AW.seq ?_ | refine AW.block ?_ | (refine AW.reg mix ?_; (simp; try simp (disch := omega) only [w64, wu64])) | (refine need.of (by first | omega | kernel_rfl) ?_) | (refine AW.skip ?_; (try simp)) | (refine AW.ret ?_; (try simp)) | (refine AW.exit ?_; (try simp)))
    refine AW.cond rfl (fun h => ?_) (fun h => ?_)
    · repeat (first | refine AW.seq ?_ | refine AW.block ?_ | (refine AW.reg mix ?_; (simp; try simp (disch := omega) only [w64, wu64])) | (refine need.of (by first | omega | kernel_rfl) ?_) | (refine AW.skip ?_; (try simp)) | (refine AW.ret ?_; (try simp)) | (refine AW.exit ?_; (try simp)))
      exact Sub1.pl0 _
    · simp at h
      omega
end Go.Proofs.Ytakjegcjeffmgaa.Am
