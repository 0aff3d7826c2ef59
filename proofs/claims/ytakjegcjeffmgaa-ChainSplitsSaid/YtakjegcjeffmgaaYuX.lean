import Derived.Test.YtakjegcjeffmgaaYu1
import Derived.Test.YtakjegcjeffmgaaAmTri
import Derived.RangeFuncSeq
namespace Go.Proofs.Ytakjegcjeffmgaa.Am
open Go.RowKit
set_option maxRecDepth 100000
set_option linter.unusedSimpArgs false
set_option linter.unusedVariables false

theorem walk_ok (s : Nat) : Eqn Try.prog n_yu_walk [.d (.int .i64 s)] [] (.fn (.func n_yu_walk_1) [.p 0 0]) [⟨3, [.d (.int .i64 s)]⟩] := by
  refine Eqn.newX r_yu_walk rfl ⟨rfl, fun _ => rfl⟩ (fun n => rfl) ?_
  simp only [c_yu_walk]
  repeat (first | refine AW.seq ?_ | refine AW.block ?_ | (refine AW.reg mix ?_; (simp; try simp (disch := omega) only [w64, wu64])) | (refine need.of (by first | omega | kernel_rfl) ?_) | (refine AW.skip ?_; (try simp)) | (refine AW.ret ?_; (try simp)) | (refine AW.exit ?_; (try simp)))
  exact ⟨0, Sub1.refl _, _, rfl, rfl, Subs.refl _⟩

/-! ### The range over places: its code -/
/-- the walk's code, in its pieces -/
structure WalkS where
  r0 : C
  r1 : C
  g : C
  os : List O
  call : Option (Nat × List Nat × Option Nat)
  o4 : O
  cy : X
  r5 : C
  r6 : C
  ids : Nat × Nat
  calm : Bool
  res : Nat
  nt : Nat
def callS (o : Oper) : Option (Nat × List Nat × Option Nat) := match o.op, o.guard with
  | .call c, none => match c.callee, c.args.toList with
    | .value (.tmp f), [.tmp x, .tmp y] => some (f, [x, y], o.dst)
    | _, _ => none
  | _, _ => none
def walkS (P : Program) (f : FuncId) : Option WalkS := match P.funcs[f]? with
  | some fn => match fn.body with
    | some (.seq r0 (.seq r1 (.block i0 (.loop (.seq g (.seq (.block i1 (.seq (.seq (.region _ ops false) (.cond cy .ret .skip)) r5)) r6)))))) => match ops.toList with
      | [o0, o1, o2, o3, o4] => some ⟨resolveC P r0, resolveC P r1, resolveC P g, [o0, o1, o2].map (resolveO P ops), callS o3, resolveO P ops o4, X.of cy, resolveC P r5, resolveC P r6, (i0, i1), [o0, o1, o2].all notDefer && [o4].all notDefer, fn.results.size, fn.ntmps⟩
      | _ => none
    | _ => none
  | none => none
theorem walkS_spec {P : Program} {f : FuncId} {s : WalkS} (h : walkS P f = some s) : ∃ (fn : Func) (r0 r1 g r5 r6 : Code) (i id : Nat) (ops : Array Oper) (o0 o1 o2 o3 o4 : Oper) (cy : Operand),
    P.funcs[f]? = some fn ∧ fn.body = some (.seq r0 (.seq r1 (.block s.ids.1 (.loop (.seq g (.seq (.block s.ids.2 (.seq (.seq (.region id ops false) (.cond cy .ret .skip)) r5)) r6)))))) ∧ ops.toList = [o0, o1, o2, o3, o4] ∧
    resolveC P r0 = s.r0 ∧ resolveC P r1 = s.r1 ∧ resolveC P g = s.g ∧ [o0, o1, o2].map (resolveO P ops) = s.os ∧ callS o3 = s.call ∧ resolveO P ops o4 = s.o4 ∧ X.of cy = s.cy ∧ resolveC P r5 = s.r5 ∧ resolveC P r6 = s.r6 ∧ ([o0, o1, o2].all notDefer && [o4].all notDefer) = s.calm ∧ fn.results.size = s.res ∧ fn.ntmps = s.nt := by
  unfold walkS at h
  split at h
  · rename_i fn hf
    split at h
    · rename_i r0 r1 i0 g i1 id ops cy r5 r6 hb
      split at h
      · rename_i o0 o1 o2 o3 o4 ho
        cases h
        exact ⟨fn, r0, r1, g, r5, r6, 0, id, ops, o0, o1, o2, o3, o4, cy, hf, hb, ho, rfl, rfl, rfl, rfl, rfl, rfl, rfl, rfl, rfl, rfl, rfl, rfl⟩
      · cases h
    · cases h
  · cases h
theorem callS_spec {o : Oper} {f x y : Nat} {d : Option Nat} (h : callS o = some (f, [x, y], d)) : ∃ c, o.op = .call c ∧ o.guard = none ∧ c.callee = .value (.tmp f) ∧ c.args.toList = [.tmp x, .tmp y] ∧ o.dst = d := by
  unfold callS at h
  split at h
  · rename_i c ho hg
    split at h
    · rename_i hc ha
      cases h
      exact ⟨c, ho, hg, hc, ha, rfl⟩
    · cases h
  · cases h

/-- the asker's code -/
structure AtS where
  a1 : C
  a2 : C
  a3 : C
  a4 : C
  g : X
  ps : List Nat
  asg : C
  bd : C
  a5 : List O
  id : Nat
  calm : Bool
  rs : List RV
  nt : Nat
def atS (P : Program) (f : FuncId) : Option AtS := match P.funcs[f]? with
  | some fn => match fn.body with
    | some (.seq a1 (.seq a2 (.seq a3 (.seq (.seq a4 (.block id (.rangeFunc g ps asg bd))) (.seq (.region _ ops false) .ret))))) =>
      some ⟨resolveC P a1, resolveC P a2, resolveC P a3, resolveC P a4, X.of g, ps.toList, resolveC P asg, resolveC P bd, ops.toList.map (resolveO P ops), id, Code.calm asg && (Code.calm bd && ops.toList.all notDefer), fn.results.toList.map (resolveR P), fn.ntmps⟩
    | _ => none
  | none => none
theorem atS_spec {P : Program} {f : FuncId} {s : AtS} (h : atS P f = some s) : ∃ (fn : Func) (a1 a2 a3 a4 asg bd : Code) (g : Operand) (ps : Array Nat) (id : Nat) (ops : Array Oper),
    P.funcs[f]? = some fn ∧ fn.body = some (.seq a1 (.seq a2 (.seq a3 (.seq (.seq a4 (.block s.id (.rangeFunc g ps asg bd))) (.seq (.region id ops false) .ret))))) ∧
    resolveC P a1 = s.a1 ∧ resolveC P a2 = s.a2 ∧ resolveC P a3 = s.a3 ∧ resolveC P a4 = s.a4 ∧ X.of g = s.g ∧ ps.toList = s.ps ∧ resolveC P asg = s.asg ∧ resolveC P bd = s.bd ∧ ops.toList.map (resolveO P ops) = s.a5 ∧ (Code.calm asg && (Code.calm bd && ops.toList.all notDefer)) = s.calm ∧ fn.results.toList.map (resolveR P) = s.rs ∧ fn.ntmps = s.nt := by
  unfold atS at h
  split at h
  · rename_i fn hf
    split at h
    · rename_i a1 a2 a3 a4 id g ps asg bd id' ops hb
      cases h
      exact ⟨fn, a1, a2, a3, a4, asg, bd, g, ps, id', ops, hf, hb, rfl, rfl, rfl, rfl, rfl, rfl, rfl, rfl, rfl, rfl, rfl, rfl⟩
    · cases h
  · cases h

def C.l : C → C
  | .seq a _ => a
  | c => c
def C.r : C → C
  | .seq _ b => b
  | c => c
def C.b : C → C
  | .block _ a | .loop a => a
  | c => c
def C.os : C → List O
  | .reg _ l => l
  | _ => []
/-- the assignment to the loop's variables -/
def cAsg : C := .seq (.reg false [⟨some 7, .mv (.t 24), none, []⟩]) (.reg false [⟨some 8, .new 192 [.int .i64 0, .int .i64 0, .nilsl, .nilsl], none, []⟩, ⟨none, .store 4 (.t 8) (.t 25), none, [0, 0]⟩])
/-- the loop's body -/
def cBd : C := .block 2 (.seq (.reg false [⟨some 26, .load true 4 (.t 8), none, []⟩, ⟨none, .store 4 (.t 6) (.t 26), none, [0, 0]⟩])
  (.seq (.reg false [⟨some 27, .mv (.t 7), none, []⟩, ⟨some 28, .load false 1 (.t 3), none, []⟩, ⟨some 29, .bin .eql (.t 27) (.t 28), none, [0, 1]⟩]) (.cond (.t 29) (.exit 1) .skip)))
theorem at_s : atS Try.prog n_yu_At = some ⟨c_yu_At.l, c_yu_At.r.l, c_yu_At.r.r.l, c_yu_At.r.r.r.l.l, .t 23, [24, 25], cAsg, cBd, c_yu_At.r.r.r.r.l.os, 1, true, [.cell 4 true 4, .t 5], 31⟩ := by kernel_rfl
abbrev cWb : C := c_yu_walk_1.r.r.b.b
theorem walk_s : walkS Try.prog n_yu_walk_1 = some ⟨c_yu_walk_1.l, c_yu_walk_1.r.l, cWb.l, (cWb.r.l.b.l.l.os).take 3, some (15, [16, 17], some 18), ((cWb.r.l.b.l.l.os).drop 4).headD ⟨none, .bad, none, []⟩, .t 19, cWb.r.l.b.r, cWb.r.r, (0, 1), true, 0, 23⟩ := by kernel_rfl

abbrev kO (K : Nat) : Ob := ⟨3, [.d (.int .i64 K)]⟩
abbrev plO (c : List V) : Ob := ⟨192, c⟩

def Tr (i : Nat) (p : List D) : List V := [.junk, .junk, .junk, .p 0 0, .junk, .junk, .p 2 0] ++ List.replicate 17 .junk ++ [.d (.int .i64 i), .d (.agg p)] ++ List.replicate 5 .junk

theorem asg_ok (l n K i : Nat) (c : List V) (p : List D) (hp : p.length = 4) : AWr Try.prog (some l) n 3 cAsg (thenQ (fun T H => T = ((Tr i p).set 7 (.d (.int .i64 i))).set 8 (.p 3 0) ∧ H = [some (kO K), none, some (plO c), some (plO (p.map .d))]) noQ) (Tr i p) [some (kO K), none, some (plO c)] := by
  obtain ⟨p1, p2, p3, p4, rfl⟩ : ∃ a b c d, p = [a, b, c, d] := by
    match p, hp with
    | [a, b, c, d], _ => exact ⟨a, b, c, d, rfl⟩
  simp only [cAsg, Tr]
  refine AWr.seq (AWr.reg ?_)
  simp
  refine AWr.reg ?_
  simp

theorem bd_ok (l n K i : Nat) (c : List V) (hc : c.length = 4) (p : List D) (hp : p.length = 4) : AWr Try.prog (some l) n 3 cBd (fun e T H => H = [some (kO K), none, some (plO (p.map .d)), some (plO (p.map .d))] ∧ e = if i = K then .exit 1 else .normal) (((Tr i p).set 7 (.d (.int .i64 i))).set 8 (.p 3 0)) [some (kO K), none, some (plO c), some (plO (p.map .d))] := by
  obtain ⟨p1, p2, p3, p4, rfl⟩ : ∃ a b c d, p = [a, b, c, d] := by
    match p, hp with
    | [a, b, c, d], _ => exact ⟨a, b, c, d, rfl⟩
  obtain ⟨c1, c2, c3, c4, rfl⟩ : ∃ a b c' d, c = [a, b, c', d] := by
    match c, hc with
    | [a, b, c, d], _ => exact ⟨a, b, c, d, rfl⟩
  simp only [cBd, Tr]
  refine AWr.block ?_
  refine AWr.seq (AWr.reg ?_)
  simp
  refine AWr.seq (AWr.reg ?_)
  by_cases h : i = K
  · subst h
    simp
    refine AWr.cond rfl (fun h => ?_) (fun h => ?_)
    · refine AWr.exit ?_
      simp
    · simp at h
  · have h' : ¬ (i : Int) = K := by omega
    simp [h, h']
    refine AWr.cond rfl (fun h => ?_) (fun h => ?_)
    · simp at h
      omega
    · refine AWr.skip ?_
      simp

theorem obj_rho {m : Mem} {n : Nat} {o : Ob} (h : m.obj n o) : ∃ b, m.ρ n = some b := by
  obtain ⟨b, _, _, h1, _⟩ := h; exact ⟨b, h1⟩

/-- what a round leaves behind -/
def RoundR (K i : Nat) (p : List D) (m : Mem) (l : Nat) (rec : LoopState → Option Code → Loop) (e : Ending) (w' : World) : Prop :=
  ∃ m' : Mem, m'.w = w' ∧ m'.base ∧ m'.obj 0 (kO K) ∧ m'.obj 2 (plO (p.map .d)) ∧
    if i = K then e = .returned (.bool false) ∧ (m.at (m.w.putObj l (.loop (rec .done (some (.exit 1)))))).le m' (· < 3) else e = .returned (.bool true) ∧ m.le m' (· < 3)

theorem round_ok {asg bd : Code} (hasg : resolveC Try.prog asg = cAsg) (hbd : resolveC Try.prog bd = cBd) (ca : Code.calm asg = true) (cb : Code.calm bd = true) {fn df : Nat} {tmps : Array Value} {rec : LoopState → Option Code → Loop}
    (hrec : rec = fun st pe => { state := st, pending := pe, fn, tmps, params := #[24, 25], assign := asg, body := bd, defers := df }) (n K i : Nat) (p : List D) (hp : p.length = 4) {m : Mem} {l : Nat} {c : List V} (mb : m.base) (h0 : m.obj 0 (kO K)) (h2 : m.obj 2 (plO c)) (hc : c.length = 4)
    (hinj : ∀ b, m.ρ 0 = some b → m.ρ 2 ≠ some b) (htop : ∀ n, n ≠ 0 → n ≠ 2 → m.ρ n = none) (t3 : (V.p 0 0).rep m (tmps.getD 3 undef)) (t6 : (V.p 2 0).rep m (tmps.getD 6 undef)) (hsz : tmps.size = 31) (hlo : m.loose l) (hl : m.w.heap[l]? = some (.loop (rec .ready none))) {v : Value} (hv : (V.d (.agg p)).rep m v) :
    YieldAt Fence.wide n Try.prog l #[.int .i64 i, v] m.w (RoundR K i p m l rec) := by
  have hy := run_yield (P := Try.prog) (args := #[.int .i64 i, v]) hl (by rw [hrec]; rfl)
  refine ⟨_, _, _, _, hy, ?_⟩
  have ht : ((rec .ready none).params.zip #[.int .i64 i, v]).foldl (fun tmps (t, a) => tmps.setIfInBounds t a) (rec .ready none).tmps = (tmps.setIfInBounds 24 (.int .i64 i)).setIfInBounds 25 v := by
    rw [hrec]; simp
  rw [ht, show (rec .ready none).assign = asg by rw [hrec], show (rec .ready none).body = bd by rw [hrec]]
  clear hy ht
  have sat : Sat m ⟨(tmps.setIfInBounds 24 (.int .i64 i)).setIfInBounds 25 v, []⟩ (Tr i p) [some (kO K), none, some (plO c)] := by
    refine ⟨mb, fun s => ?_, fun n ob h => ?_, fun n k b ln lk h1 h3 => ?_, fun n h => htop n (by simp at h; omega) (by simp at h; omega), by simp [Tr, hsz], rfl⟩
    · have g : ((tmps.setIfInBounds 24 (.int .i64 i)).setIfInBounds 25 v).getD s undef = if s = 25 then v else if s = 24 then .int .i64 i else tmps.getD s undef := by
        rw [Array.getD_eq_getD_getElem?, Array.getElem?_setIfInBounds]
        by_cases e1 : s = 25
        · subst e1; simp [hsz]
        · rw [if_neg (by omega), if_neg e1, Array.getElem?_setIfInBounds]
          by_cases e2 : s = 24
          · subst e2; simp [hsz]
          · rw [if_neg (by omega), if_neg e2, Array.getD_eq_getD_getElem?]
      have g2 : (Tr i p).getD s .junk = if s = 25 then .d (.agg p) else if s = 24 then .d (.int .i64 i) else if s = 3 then .p 0 0 else if s = 6 then .p 2 0 else .junk := by
        rcases Nat.lt_or_ge s 31 with hs | hs
        · have : ∀ s, s < 31 → (Tr i p).getD s .junk = if s = 25 then .d (.agg p) else if s = 24 then .d (.int .i64 i) else if s = 3 then .p 0 0 else if s = 6 then .p 2 0 else .junk := by
            intro s hs
            iterate 31 (rcases s with _ | s; · rfl)
            omega
          exact this s hs
        · rw [if_neg (by omega), if_neg (by omega), if_neg (by omega), if_neg (by omega), List.getD_eq_getElem?_getD, List.getElem?_eq_none (by simp [Tr]; omega)]; rfl
      rw [g, g2]
      split
      · exact hv
      · split
        · exact V.rep_int.2 rfl
        · split
          · rename_i e; subst e; exact t3
          · split
            · rename_i e; subst e; exact t6
            · unfold V.rep; trivial
    · rcases n with _ | _ | _ | n
      · simp at h; subst h; exact h0
      · simp at h
      · simp at h; subst h; exact h2
      · simp at h
    · have l2 : ∀ n, live [some (kO K), none, some (plO c)] n → n = 0 ∨ n = 2 := fun n h => by
        rcases n with _ | _ | _ | n
        · exact .inl rfl
        · simp [live] at h
        · exact .inr rfl
        · simp [live] at h
      rcases l2 n ln with rfl | rfl <;> rcases l2 k lk with rfl | rfl
      · rfl
      · exact (hinj b h1 h3).elim
      · exact (hinj b h3 h1).elim
      · rfl
  have htop3 : ∀ n, 3 ≤ n → m.ρ n = none := fun n h => htop n (by omega) (by omega)
  refine roundIn_of_wpIn trivial (wpIn_mono (asg_ok l n K i c p hp asg hasg ca m m _ sat (Mem.le.refl _ _) htop3 (by simp)) ?_)
  rintro e a1 w1 ⟨T1, H1, m1, rfl, hq, sat1, hle1, _⟩
  cases e with
  | normal =>
    obtain ⟨rfl, rfl⟩ := hq
    obtain ⟨lo1, hl1⟩ := hlo.keep hle1
    have hl1' := hl1.trans hl
    refine ⟨_, run_beginRound hl1' (by rw [hrec]), ?_⟩
    have nc : ∀ (r : Loop) c t f, Obj.loop r ≠ .cells c t f := by intro r c t f h; cases h
    have hle2 := hlo.le hle1 (o := .loop { rec .ready none with state := .busy }) (o' := .loop { rec .ready none with state := .busy }) hl (nc _) (nc _) (nc _) rfl
    have sat2 := lo1.sat (.loop { rec .ready none with state := .busy }) sat1
    refine wpIn_mono (bd_ok l n K i c hc p hp bd hbd cb (m.at (m.w.putObj l (.loop { rec .ready none with state := .busy }))) _ a1 sat2 hle2 htop3 (by simp)) ?_
    rintro e a3 w3 ⟨T3, H3, m3, rfl, ⟨rfl, rfl⟩, sat3, hle3, _⟩
    obtain ⟨lo3, hl3⟩ := (hlo.put (.loop { rec .ready none with state := .busy })).keep hle3
    rw [World.putObj_heap_same hlo.lt] at hl3
    have hend := fun jump => run_endRound (P := Try.prog) jump hl3
    have hle4 := fun o (ho : ∀ c t f, o ≠ Obj.cells c t f) => (hlo.put (.loop { rec .ready none with state := .busy })).le hle3 (o := o) (o' := o) (World.putObj_heap_same hlo.lt) (nc _) ho ho rfl
    have sat4 := fun o => lo3.sat o sat3
    by_cases hik : i = K
    · simp only [if_pos hik]
      refine ⟨_, _, hend (some (.exit 1)), ⟨_, rfl, (sat4 _).base, (sat4 _).obj 0 _ rfl, (sat4 _).obj 2 _ rfl, ?_⟩⟩
      rw [if_pos hik]
      refine ⟨rfl, ?_⟩
      have := hle4 (.loop { rec .ready none with state := .done, pending := some (.exit 1) }) (nc _)
      simp only [putObj_put] at this
      rw [hrec] at this ⊢
      exact this
    · simp only [if_neg hik]
      refine ⟨_, _, hend none, ⟨_, rfl, (sat4 _).base, (sat4 _).obj 0 _ rfl, (sat4 _).obj 2 _ rfl, ?_⟩⟩
      rw [if_neg hik]
      refine ⟨rfl, ?_⟩
      have := hle4 (.loop (rec .ready none)) (nc _)
      simp only [putObj_put, putObj_same hl] at this
      rw [hrec] at this ⊢
      exact this
  | _ => exact hq.elim
end Go.Proofs.Ytakjegcjeffmgaa.Am
