/- Parts of the proof: AmL, AmM, AmN, AmP, AmQ, AmR, AmS, AmU, AmV, AmZ, AmW, AmSw, AmO3, AmGen, AmX, AmY, AmAll, AmTac. -/
import Derived.Test.YtdklbnemfelpnaaGreatDoorPa
set_option linter.unusedVariables false
set_option linter.unusedSimpArgs false
set_option maxRecDepth 100000
namespace Go.Proofs.YtdklbnemfelpnaaGreatDoor.Am
section
open Go.RowKit
section
variable {P : Program} {o : Oper} {T : List V} {H : List (Option Ob)} {K : V → List (Option Ob) → List Nat → List Nat → Prop}

theorem o_2t {m : Mem} {a : Act} {S : List Nat} (c : Call) (f : FuncId) (ho : o.op = .call c) (hc : c.callee = .value (.func f)) (hs : Slots m a T (X.slotss (c.args.toList.map X.of))) :
  ∃ vs : List Value, V.reps m ((c.args.toList.map X.of).map (X.ev T)) vs ∧ (execOp a.eval o).run P m.w = (callFunc f vs.toArray).run P m.w := by
 refine ⟨c.args.toList.map a.eval, o_z _ hs, ?_⟩
 have : (c.args.toList.map a.eval).toArray = c.args.map a.eval := by rw [← Array.toList_map]
 simp [execOp, ho, Go.resolve, hc, Act.eval, Deferred.ofValue, invoke, this]

theorem o_2u {m : Mem} {a : Act} (c : Call) (f : Operand) (g : FuncId) (caps : List V) (ho : o.op = .call c) (hc : c.callee = .value f) (hf : (X.of f).ev T = .fn (.func g) caps) (hs : Slots m a T ((X.of f).slots ++ X.slotss (c.args.toList.map X.of))) :
  ∃ vs : List Value, V.reps m ((c.args.toList.map X.of).map (X.ev T) ++ caps) vs ∧ (execOp a.eval o).run P m.w = (callFunc g vs.toArray).run P m.w := by
 have hv := X.rep' (o_7 hs) hf
 unfold V.rep at hv
 obtain ⟨us, hv, hr⟩ := hv
 refine ⟨c.args.toList.map a.eval ++ us, V.reps_append (o_z _ (o_8 hs)) hr, ?_⟩
 have : (c.args.toList.map a.eval ++ us).toArray = c.args.map a.eval ++ us.toArray := by
  apply Array.ext'; simp
 simp [execOp, ho, Go.resolve, hc, hv, Deferred.ofValue, invoke, this]

theorem o_2v {m : Mem} {a : Act} (c : Call) (r : Operand) (name : String) (t : TypeId) (d : D) (g : FuncId) (hg : MethOK P t name g) (ho : o.op = .call c) (hc : c.callee = .invoke r name) (hr : (X.of r).ev T = .d (.ifc t d)) (hs : Slots m a T ((X.of r).slots ++ X.slotss (c.args.toList.map X.of))) :
  ∃ vs : List Value, V.reps m (.d d :: (c.args.toList.map X.of).map (X.ev T)) vs ∧ (execOp a.eval o).run P m.w = (callFunc g vs.toArray).run P m.w := by
 have hv := X.rep' (o_7 hs) hr
 rw [V.rep_d] at hv
 unfold D.rep at hv
 obtain ⟨u, hv, hu⟩ := hv
 refine ⟨u :: c.args.toList.map a.eval, V.reps_cons.2 ⟨V.rep_d.2 hu, o_z _ (o_8 hs)⟩, ?_⟩
 have e1 : (u :: c.args.toList.map a.eval).toArray = #[u] ++ c.args.map a.eval := by
  apply Array.ext'; simp
 have e2 : (#[a.eval r] ++ c.args.map a.eval)[0]? = some (.iface t u) := by rw [hv, Array.getElem?_append_left (by simp)]; rfl
 have e3 : (#[a.eval r] ++ c.args.map a.eval).extract 1 (#[a.eval r] ++ c.args.map a.eval).size = c.args.map a.eval := by
  apply Array.ext'; simp [List.take_of_length_le]
 simp only [execOp, ho, Go.resolve, hc, Sem.run_bind, Sem.run_pure, Result.andThen_ok, invoke, e2, e3, callMethod, run_program, hg u m.w, e1]

theorem o_2w (h : (resolve P o).step P T H K) : ∃ x H' rd wr, K x H' rd wr ∧ StepOK P o (resolve P o).slots T H x H' rd wr := by
 unfold resolve at h ⊢
 split at h
 ·rename_i x ho; simp only [A.step, need] at h; exact ⟨_, _, _, _, h, o_6 x (.inl ho)⟩
 ·rename_i x ho; simp only [A.step, need] at h; exact ⟨_, _, _, _, h, o_6 x (.inr ho)⟩
 ·rename_i c x y ho
  simp only [A.step, need] at h
  split at h
  ·rename_i t hc; exact ⟨_, _, _, _, h, o_9 c x y t ho hc⟩
  ·exact h.elim
 ·rename_i e ho
  split at h
  ·rename_i z hz; simp only [A.step, need] at h; exact ⟨_, _, _, _, h, o_b e z ho hz⟩
  ·exact h.elim
 ·rename_i e x ho
  simp only [A.step, need] at h
  split at h
  ·rename_i c hc; exact ⟨_, _, _, _, h, o_c e x c ho hc⟩
  ·exact h.elim
 ·rename_i t ps ho
  split at h
  ·rename_i fs z hu hz
   split at h
   ·rename_i pl hf
    split at h
    ·rename_i l hp
     simp only [A.step, need] at h
     split at h
     ·rename_i c hc
      exact ⟨_, _, _, _, h, o_s t ps fs z pl l c ho hu hz hf hp hc⟩
     ·exact h.elim
    ·exact h.elim
   ·exact h.elim
  ·rename_i n e z hu hz
   split at h
   ·rename_i j hj
    split at h
    ·rename_i l hp
     simp only [A.step, need] at h
     split at h
     ·rename_i c hc
      exact ⟨_, _, _, _, h, o_2q t e n ps z j l c ho hu hz hj hp hc⟩
     ·exact h.elim
    ·exact h.elim
   ·exact h.elim
  ·exact h.elim
 ·rename_i t x ho
  split at h
  ·rename_i g i hg hi
   simp only [A.step, need] at h
   split at h
   ·rename_i n off hx
    split at h
    ·rename_i ob hn
     obtain ⟨k1, k2⟩ := o_h (P := P) (H := H) t x i g n off ob ho hg hi hx hn
     cases g
     ·simp only [Bool.false_eq_true, if_false] at h; exact ⟨_, _, _, _, h.2, k2 rfl h.1⟩
     ·simp only [if_true] at h; exact ⟨_, _, _, _, h.2, k1 rfl h.1⟩
    ·exact h.elim
   ·rename_i l off hx
    obtain ⟨k1, k2⟩ := o_i (P := P) (H := H) t x i g l off ho hg hi hx
    cases g
    ·simp only [Bool.false_eq_true, if_false] at h; exact ⟨_, _, _, _, h.2, k2 rfl h.1⟩
    ·simp only [if_true] at h; exact ⟨_, _, _, _, h.2, k1 rfl h.1⟩
   ·exact h.elim
  ·exact h.elim
 ·rename_i t x y ho
  split at h
  ·rename_i i hi
   simp only [A.step, need] at h
   split at h
   ·rename_i n off c hx hy
    split at h
    ·rename_i ob hn; exact ⟨_, _, _, _, h.2, o_n t x y i n off ob c ho hi hx hy hn h.1.1 h.1.2⟩
    ·exact h.elim
   ·exact h.elim
  ·exact h.elim
 ·rename_i x ho
  simp only [A.step, need] at h
  split at h
  ·rename_i n k hx; exact ⟨_, _, _, _, h, o_u x _ ho hx (.inl ⟨_, _, rfl⟩)⟩
  ·rename_i n k hx; exact ⟨_, _, _, _, h, o_u x _ ho hx (.inr (.inl ⟨_, _, rfl⟩))⟩
  ·rename_i n k hx; exact ⟨_, _, _, _, h, o_u x _ ho hx (.inr (.inr (.inl ⟨_, _, rfl⟩)))⟩
  ·rename_i n k hx; exact ⟨_, _, _, _, h, o_u x _ ho hx (.inr (.inr (.inr ⟨_, _, rfl⟩)))⟩
  ·exact h.elim
 ·rename_i op t x y t' ho
  have hbin : (A.bin op (X.of x) (X.of y)).step P T H K → ∃ x' H' rd wr, K x' H' rd wr ∧ StepOK P o ((X.of x).slots ++ (X.of y).slots) T H x' H' rd wr := by
   intro h
   simp only [A.step, need] at h
   split at h
   ·rename_i k a k' b hx hy
    obtain ⟨d, h1, h2⟩ := o_16 (P := P) (H := H) op t t' x y k k' a b ho hx hy _ h
    exact ⟨_, _, _, _, h1, h2⟩
   ·rename_i a b hx hy
    obtain ⟨d, h1, h2⟩ := o_17 (P := P) (H := H) op t t' x y a b ho hx hy _ h
    exact ⟨_, _, _, _, h1, h2⟩
   ·exact h.elim
  have hbeq : ∀ hop : op = .eql ∨ op = .neq, P.underlying t = some .bool → (A.beq (op == .neq) (X.of x) (X.of y)).step P T H K → ∃ x' H' rd wr, K x' H' rd wr ∧ StepOK P o ((X.of x).slots ++ (X.of y).slots) T H x' H' rd wr := by
   intro hop hu h
   simp only [A.step, need] at h
   split at h
   ·rename_i a b hx hy
    exact ⟨_, _, _, _, h, o_18 op t t' x y a b hop ho hu hx hy⟩
   ·exact h.elim
  have hsnl : ∀ hop : op = .eql ∨ op = .neq, ∀ e l k, P.underlying t = some (.slice e) → o.op = .binOp op t x (.const (.slice none l k)) t' → (A.snl (op == .neq) (X.of x)).step P T H K → ∃ x' H' rd wr, K x' H' rd wr ∧ StepOK P o (X.of x).slots T H x' H' rd wr := by
   intro hop e l k hu ho hh
   simp only [A.step, need] at hh
   split at hh
   ·rename_i hx; exact ⟨_, _, _, _, hh, by have := o_28 (P := P) (H := H) op t t' e x l k _ true hop ho hu hx (.inl ⟨rfl, rfl⟩); cases hop <;> (rename_i hop; subst hop; exact this)⟩
   ·rename_i n c hx; exact ⟨_, _, _, _, hh.2, by have := o_28 (P := P) (H := H) op t t' e x l k _ false hop ho hu hx (.inr ⟨rfl, .inl ⟨_, _, rfl, hh.1⟩⟩); cases hop <;> (rename_i hop; subst hop; exact this)⟩
   ·rename_i hx; exact ⟨_, _, _, _, hh, by have := o_28 (P := P) (H := H) op t t' e x l k _ false hop ho hu hx (.inr ⟨rfl, .inr (.inl ⟨_, _, _, rfl⟩)⟩); cases hop <;> (rename_i hop; subst hop; exact this)⟩
   ·rename_i hx; exact ⟨_, _, _, _, hh, by have := o_28 (P := P) (H := H) op t t' e x l k _ false hop ho hu hx (.inr ⟨rfl, .inr (.inr (.inl rfl))⟩); cases hop <;> (rename_i hop; subst hop; exact this)⟩
   ·rename_i hx; exact ⟨_, _, _, _, hh, by have := o_28 (P := P) (H := H) op t t' e x l k _ false hop ho hu hx (.inr ⟨rfl, .inr (.inr (.inr ⟨_, _, _, rfl⟩))⟩); cases hop <;> (rename_i hop; subst hop; exact this)⟩
   ·exact hh.elim
  have hinl : ∀ hop : op = .eql ∨ op = .neq, ∀ ms, P.underlying t = some (.interface ms) → o.op = .binOp op t x (.const .nilIface) t' → (A.inl (op == .neq) (X.of x)).step P T H K → ∃ x' H' rd wr, K x' H' rd wr ∧ StepOK P o (X.of x).slots T H x' H' rd wr := by
   intro hop ms hu ho hh
   simp only [A.step, need] at hh
   split at hh
   ·rename_i hx; exact ⟨_, _, _, _, hh, by have := o_29 (P := P) (H := H) op t t' x ms _ true hop ho hu hx (.inl ⟨rfl, rfl⟩); cases hop <;> (rename_i hop; subst hop; exact this)⟩
   ·rename_i hx; exact ⟨_, _, _, _, hh, by have := o_29 (P := P) (H := H) op t t' x ms _ false hop ho hu hx (.inr ⟨rfl, _, _, rfl⟩); cases hop <;> (rename_i hop; subst hop; exact this)⟩
   ·exact hh.elim
  have hpnl : ∀ hop : op = .eql ∨ op = .neq, ∀ e, P.underlying t = some (.pointer e) → o.op = .binOp op t x (.const (.pointer none)) t' → (A.pnl (op == .neq) (X.of x)).step P T H K → ∃ x' H' rd wr, K x' H' rd wr ∧ StepOK P o (X.of x).slots T H x' H' rd wr := by
   intro hop e hu ho hh
   simp only [A.step, need] at hh
   split at hh
   ·rename_i hx; exact ⟨_, _, _, _, hh, by have := o_2a (P := P) (H := H) op t t' e x _ true hop ho hu hx (.inl ⟨rfl, rfl⟩); cases hop <;> (rename_i hop; subst hop; exact this)⟩
   ·rename_i hx; exact ⟨_, _, _, _, hh, by have := o_2a (P := P) (H := H) op t t' e x _ false hop ho hu hx (.inr ⟨rfl, .inl ⟨_, _, rfl⟩⟩); cases hop <;> (rename_i hop; subst hop; exact this)⟩
   ·rename_i hx; exact ⟨_, _, _, _, hh, by have := o_2a (P := P) (H := H) op t t' e x _ false hop ho hu hx (.inr ⟨rfl, .inr ⟨_, _, rfl⟩⟩); cases hop <;> (rename_i hop; subst hop; exact this)⟩
   ·exact hh.elim
  have haeq : ∀ hop : op = .eql ∨ op = .neq, ∀ fs ks, P.underlying t = some (.struct fs) → P.stoodInHeld t = false → P.eqGuardType P.depth t = false → flatK2 P 0 fs.toList = some ks → (A.aeq (op == .neq) ks (X.of x) (X.of y)).step P T H K → ∃ x' H' rd wr, K x' H' rd wr ∧ StepOK P o ((X.of x).slots ++ (X.of y).slots) T H x' H' rd wr := by
   intro hop fs ks hu h1 h2 h3 h
   simp only [A.step, need] at h
   split at h
   ·rename_i l r hx hy
    split at h
    ·rename_i b he; exact ⟨_, _, _, _, h, o_2g op t t' x y fs ks l r b hop ho hu h1 h2 h3 hx hy he⟩
    ·exact h.elim
   ·exact h.elim
  have hall : ∀ hop : op = .eql ∨ op = .neq, (rEq P op t x y).step P T H K → ∃ x' H' rd wr, K x' H' rd wr ∧ StepOK P o (rEq P op t x y).slots T H x' H' rd wr := by
   intro hop h
   unfold rEq at h ⊢
   split at h
   ·exact hbin h
   ·exact hbin h
   ·rename_i hu; exact hbeq hop hu h
   ·rename_i e hu
    clear hbin hbeq haeq
    split at h
    ·exact hsnl hop e _ _ hu ho h
    ·exact h.elim
   ·rename_i ms hu
    clear hbin hbeq haeq
    split at h
    ·exact hinl hop ms hu ho h
    ·exact h.elim
   ·rename_i e hu
    clear hbin hbeq haeq
    split at h
    ·exact hpnl hop e hu ho h
    ·exact h.elim
   ·rename_i fs hu
    split at h
    ·rename_i ks h1 h2 h3
     exact haeq hop fs ks hu h1 h2 h3 h
    ·exact h.elim
   ·exact h.elim
  unfold rBin at h ⊢
  split at h
  ·exact hall (.inl rfl) h
  ·exact hall (.inr rfl) h
  ·exact hbin h
 ·rename_i op t x ho
  simp only [A.step, need] at h
  split at h
  ·rename_i b hx; exact ⟨_, _, _, _, h, (o_v _ t x _ ho rfl).1 b rfl hx⟩
  ·rename_i k n hx; exact ⟨_, _, _, _, h, (o_v _ t x _ ho rfl).2.1 k n rfl hx⟩
  ·rename_i k n hx; exact ⟨_, _, _, _, h, (o_v _ t x _ ho rfl).2.2 k n rfl hx⟩
  ·exact h.elim
 ·rename_i src dst x ho
  split at h
  ·rename_i kk k h1 h2
   simp only [A.step, need] at h
   split at h
   ·rename_i k' n hx; exact ⟨_, _, _, _, h, o_w src dst x k k' kk n ho h1 h2 hx⟩
   ·exact h.elim
  ·rename_i h1 h2
   simp only [A.step, need] at h
   split at h
   ·rename_i s hx; exact ⟨_, _, _, _, h, o_x src dst x s ho h1 h2 hx⟩
   ·exact h.elim
  ·rename_i e h1 h2
   split at h
   ·rename_i he
    simp only [A.step, need] at h
    split at h
    ·rename_i k c rd hy
     split at h
     ·rename_i ns hn; exact ⟨_, _, _, _, h.2, o_2n src dst e x k c rd ns ho h1 h2 he hy hn h.1⟩
     ·exact h.elim
    ·exact h.elim
   ·exact h.elim
  ·exact h.elim
 ·rename_i t x ho
  split at h
  ·exact h.elim
  ·exact h.elim
  ·rename_i d hd h1
   simp only [A.step, need] at h
   split at h
   ·rename_i y hx
    exact ⟨_, _, _, _, h, o_y t x d y ho h1 (fun ms e => hd ms (by rw [e])) hx⟩
   ·exact h.elim
 ·rename_i fn first caps ho
  split at h
  ·rename_i hf
   simp only [A.step, need] at h
   rw [if_pos hf]
   exact ⟨_, _, _, _, h, o_10 fn first caps ho hf⟩
  ·exact h.elim
 ·rename_i t n c ho
  split at h
  ·rename_i e hu
   split at h
   ·rename_i i hi
    split at h
    ·rename_i z hz
     split at h
     ·rename_i l hd
      split at h
      ·rename_i hl
       simp only [A.step, need] at h
       split at h
       ·rename_i k a k' b hx hy
        obtain ⟨⟨h0, rfl, h2, h3, h4⟩, h⟩ := h
        simp only [hi, hz, hd, if_pos hl]
        exact ⟨_, _, _, _, h, o_12 t e n c i z l k k' a ho hu hi hz hd hl hx hy h0 h2 h3 h4⟩
       ·exact h.elim
      ·exact h.elim
     ·exact h.elim
    ·exact h.elim
   ·exact h.elim
  ·exact h.elim
 ·rename_i t x f ho
  split at h
  ·rename_i fs hu
   split at h
   ·rename_i g hf
    split at h
    ·rename_i i hi
     split at h
     ·exact h.elim
     ·rename_i h0
      simp only [A.step, need] at h
      simp only [hf, hi, if_neg h0]
      obtain ⟨k1, k2⟩ := o_19 (P := P) (H := H) (T := T) t x f fs g i ho hu hf hi h0
      split at h
      ·rename_i n k hx; exact ⟨_, _, _, _, h, k1 _ _ hx⟩
      ·rename_i n k hx; exact ⟨_, _, _, _, h, k2 _ _ hx⟩
      ·exact h.elim
    ·exact h.elim
   ·exact h.elim
  ·exact h.elim
 ·rename_i t x f ho
  split at h
  ·rename_i fs hu
   split at h
   ·rename_i g hf
    split at h
    ·rename_i q i hq hi
     simp only [A.step, need] at h
     obtain ⟨k1, k2⟩ := o_1a (P := P) (H := H) (T := T) t x f fs g i q ho hu hf hq hi
     split at h
     ·rename_i l hx
      cases q
      ·simp only [Bool.false_eq_true, if_false] at h; exact ⟨_, _, _, _, h.2, (k1 l hx).2 rfl h.1⟩
      ·simp only [if_true] at h; exact ⟨_, _, _, _, h.2, (k1 l hx).1 rfl h.1⟩
     ·rename_i l hx
      cases q
      ·simp only [Bool.false_eq_true, if_false] at h; exact ⟨_, _, _, _, h.2, (k2 l hx).2 rfl h.1⟩
      ·simp only [if_true] at h; exact ⟨_, _, _, _, h.2, (k2 l hx).1 rfl h.1⟩
     ·exact h.elim
    ·exact h.elim
   ·exact h.elim
  ·exact h.elim
 ·rename_i t x y ho
  split at h
  ·rename_i e hu
   split at h
   ·rename_i i hi
    simp only [A.step, need] at h
    split at h
    ·rename_i n l k a hx hy
     obtain ⟨⟨h0, h1, h2⟩, h⟩ := h
     exact ⟨_, _, _, _, h, (o_1c t e x y i k a ho hu hi hy h0).1 n l hx h1 h2⟩
    ·rename_i n s' len k a hx hy
     obtain ⟨⟨h0, h1, rfl⟩, h⟩ := h
     exact ⟨_, _, _, _, h, (o_1c t e x y i k a ho hu hi hy h0).2.1 n len hx h1⟩
    ·rename_i n off len k a hx hy
     obtain ⟨⟨h0, h1⟩, h⟩ := h
     exact ⟨_, _, _, _, h, (o_1c t e x y i k a ho hu hi hy h0).2.2 n off len hx h1⟩
    ·exact h.elim
   ·exact h.elim
  ·rename_i n e hu
   split at h
   ·rename_i i hi
    split at h
    ·rename_i g
     split at h
     ·rename_i l hg
      simp only [A.step, need] at h
      split at h
      ·rename_i k a hy
       exact ⟨_, _, _, _, h.2, o_2o t e g l y n i k a ho hu hi hg hy h.1.1 h.1.2⟩
      ·exact h.elim
     ·exact h.elim
    ·simp only [A.step, need] at h
     split at h
     ·rename_i m off k a hx hy
      exact ⟨_, _, _, _, h.2, (o_2i t e x y n i k a ho hu hi hy h.1.1 h.1.2).1 m off hx⟩
     ·rename_i l off k a hx hy
      exact ⟨_, _, _, _, h.2, (o_2i t e x y n i k a ho hu hi hy h.1.1 h.1.2).2 l off hx⟩
     ·exact h.elim
   ·exact h.elim
  ·exact h.elim
 ·rename_i x i ho
  simp only [A.step, need] at h
  split at h
  ·rename_i l hx; exact ⟨_, _, _, _, h.2, o_1b x i l ho hx h.1⟩
  ·exact h.elim
 ·rename_i t x y ho
  split at h
  ·rename_i hu
   simp only [A.step, need] at h
   split at h
   ·rename_i s k a hx hy
    exact ⟨_, _, _, _, h.2, o_2j t x y s k a ho hu hx hy h.1.1 h.1.2⟩
   ·exact h.elim
  ·rename_i n e hu
   split at h
   ·rename_i q i hq hi
    simp only [A.step, need] at h
    split at h
    ·rename_i l k a hx hy
     cases q
     ·simp only [Bool.false_eq_true, if_false] at h; exact ⟨_, _, _, _, h.2, ((o_2r t e x y n false i k a ho hu hq hi hy h.1.1 h.1.2.1).1 l hx).2 rfl h.1.2.2⟩
     ·simp only [if_true] at h; exact ⟨_, _, _, _, h.2, ((o_2r t e x y n true i k a ho hu hq hi hy h.1.1 h.1.2.1).1 l hx).1 rfl h.1.2.2⟩
    ·rename_i l k a hx hy
     cases q
     ·simp only [Bool.false_eq_true, if_false] at h; exact ⟨_, _, _, _, h.2, ((o_2r t e x y n false i k a ho hu hq hi hy h.1.1 h.1.2.1).2 l hx).2 rfl h.1.2.2⟩
     ·simp only [if_true] at h; exact ⟨_, _, _, _, h.2, ((o_2r t e x y n true i k a ho hu hq hi hy h.1.1 h.1.2.1).2 l hx).1 rfl h.1.2.2⟩
    ·exact h.elim
   ·exact h.elim
  ·exact h.elim
 ·rename_i t x lo hi mx ho
  split at h
  ·rename_i e hu
   split at h
   ·rename_i i hi'
    simp only [A.step, need] at h
    obtain ⟨v, h1, h2⟩ := o_1k (P := P) (H := H) t e x lo hi mx i ho hu hi' _ h
    exact ⟨_, _, _, _, h1, h2⟩
   ·exact h.elim
  ·rename_i hu
   split at h
   ·rename_i hmx
    obtain rfl : mx = none := by cases mx with
     | none => rfl
     | some _ => simp at hmx
    simp only [A.step, need] at h
    split at h
    ·rename_i s hx
     split at h
     ·rename_i a b ha hb
      exact ⟨_, _, _, _, h.2, o_1i t x lo hi s a b ho hu hx ha hb h.1.1 h.1.2.1 h.1.2.2⟩
     ·exact h.elim
    ·exact h.elim
   ·exact h.elim
  ·rename_i n e hu
   split at h
   ·rename_i j hi'
    simp only [A.step, need] at h
    split at h
    ·rename_i mm off a b hx ha hb; exact ⟨_, _, _, _, h.2, o_2s t e x lo hi n j mm off a b ho hu hi' hx ha hb h.1.1 h.1.2.1 h.1.2.2.1 h.1.2.2.2⟩
    ·exact h.elim
   ·exact h.elim
  ·exact h.elim
 ·rename_i t n ps ho
  split at h
  ·rename_i e hu
   split at h
   ·rename_i i hi
    split at h
    ·rename_i z hz
     split at h
     ·rename_i hn0
      obtain ⟨rfl, hps⟩ := hn0
      simp only [A.step] at h
      simp only [hi, hz]
      rw [if_pos ⟨trivial, hps⟩]
      exact ⟨_, _, _, _, h, o_2h t e ps i ho hps hu hi⟩
     rename_i hn0
     split at h
     ·exact h.elim
     ·rename_i hn
      split at h
      ·rename_i zl l hd hp
       simp only [A.step, need] at h
       split at h
       ·rename_i c hc
        simp only [hi, hz, if_neg hn0, if_neg hn, hd, hp]
        exact ⟨_, _, _, _, h, o_t t e n ps i z zl l c ho hu hi hz (by omega) (by omega) hd hp hc⟩
       ·exact h.elim
      ·exact h.elim
    ·exact h.elim
   ·exact h.elim
  ·exact h.elim
 ·rename_i c ho
  split at h
  ·rename_i f hc
   simp only [A.step, need] at h
   simp only [A.slots]
   exact o_1y h fun m a hs => o_2t (S := []) c f ho hc hs
  ·rename_i f _ hc
   simp only [A.step, need] at h
   split at h
   ·rename_i g caps hf
    exact o_1y h fun m a hs => o_2u c f g caps ho hc hf hs
   ·exact h.elim
  ·rename_i r name hc
   simp only [A.step, need] at h
   split at h
   ·rename_i t d hr
    obtain ⟨g, hg, h⟩ := h
    exact o_1y h fun m a hs => o_2v c r name t d g hg ho hc hr hs
   ·exact h.elim
  ·rename_i hc
   split at h
   ·rename_i x h1 h2
    simp only [A.step, need] at h
    rw [Option.bind_eq_some_iff] at h1
    obtain ⟨t, ht, hd⟩ := h1
    split at h
    ·rename_i s hn
     exact ⟨_, _, _, _, h, o_1p c x t s ho hc ht hd h2 hn⟩
    ·exact h.elim
   ·rename_i e x h1 h2
    simp only [A.step, need] at h
    rw [Option.bind_eq_some_iff] at h1
    obtain ⟨t, ht, hd⟩ := h1
    split at h
    ·rename_i n hn
     exact ⟨_, _, _, _, h, o_1o c x t e n ho hc ht hd h2 hn⟩
    ·exact h.elim
   ·exact h.elim
  ·rename_i hc
   split at h
   ·rename_i t u x y ht ha
    split at h
    ·rename_i e e' hu1 hu2
     split at h
     ·rename_i i hi
      split at h
      ·rename_i z hz
       split at h
       ·rename_i hzs
        simp only [A.step, need] at h
        simp only [hi, hz, if_pos hzs]
        split at h
        ·rename_i k cs rd hy
         split at h
         ·rename_i hx
          split at h
          ·rename_i hk; subst hk
           exact ⟨_, _, _, _, h.2, o_21 c x y t u e e' i rd _ cs ho hc ht ha hu1 hu2 hi hx (.inl rfl) hy h.1⟩
          ·rename_i hk
           obtain ⟨⟨h1, h2, h3, h4⟩, h⟩ := h
           exact ⟨_, _, _, _, h, o_22 c x y t u e e' i z k rd _ cs ho hc ht ha hu1 hu2 hi hz hzs hx (.inl rfl) hy hk h1 h2 h3 h4⟩
         ·rename_i hx
          split at h
          ·rename_i hk; subst hk
           exact ⟨_, _, _, _, h.2, o_21 c x y t u e e' i rd _ cs ho hc ht ha hu1 hu2 hi hx (.inr rfl) hy h.1⟩
          ·rename_i hk
           obtain ⟨⟨h1, h2, h3, h4⟩, h⟩ := h
           exact ⟨_, _, _, _, h, o_22 c x y t u e e' i z k rd _ cs ho hc ht ha hu1 hu2 hi hz hzs hx (.inr rfl) hy hk h1 h2 h3 h4⟩
         ·rename_i n s' q hx
          split at h
          ·rename_i ob hn
           obtain ⟨⟨rfl, h1, h2, h3, h4, h5, h6⟩, h⟩ := h
           exact ⟨_, _, _, _, h, o_23 c x y t u e e' i z n q k rd ob cs ho hc ht ha hu1 hu2 hi hz hzs hx hn hy h1 h2 h3 h4 h5 h6⟩
          ·exact h.elim
         ·exact h.elim
        ·exact h.elim
       ·exact h.elim
      ·exact h.elim
     ·exact h.elim
    ·exact h.elim
   ·exact h.elim
  ·rename_i hc
   split at h
   ·rename_i t u x y ht ha
    split at h
    ·rename_i e e' hu1 hu2
     split at h
     ·rename_i i hi
      simp only [A.step, need] at h
      split at h
      ·rename_i k cs rd n off q hy hx
       split at h
       ·rename_i ob hn
        obtain ⟨⟨h1, h2, h3⟩, h⟩ := h
        exact ⟨_, _, _, _, h, o_25 c x y t u e e' i n off q k rd ob cs ho hc ht ha hu1 hu2 hi hx hn hy h1 h2 h3⟩
       ·exact h.elim
      ·exact h.elim
     ·exact h.elim
    ·exact h.elim
   ·exact h.elim
  ·rename_i hc
   simp only [A.step, need] at h
   split at h
   ·rename_i k n hn; exact ⟨_, _, _, _, h, o_1r true c k n ho hc hn⟩
   ·exact h.elim
  ·rename_i hc
   simp only [A.step, need] at h
   split at h
   ·rename_i k n hn; exact ⟨_, _, _, _, h, o_1r false c k n ho hc hn⟩
   ·exact h.elim
  ·exact h.elim
 ·exact h.elim

end
end
end Go.Proofs.YtdklbnemfelpnaaGreatDoor.Am
namespace Go.Proofs.YtdklbnemfelpnaaGreatDoor.Am
section
open Go.RowKit
structure O where
 dst : Option Nat
 a : A
 g : Option (Nat × Bool)
 after : List Nat
 deriving Inhabited

inductive C where
 | skip | ret | bad
 | exit (id : Nat)
 | seq (a b : C)
 | cond (c : X) (a b : C)
 | block (id : Nat) (a : C)
 | loop (a : C)
 | scope (a : C)
 | reg (draw : Bool) (ops : List O)
 deriving Inhabited

def afterOf (o : Oper) : List Nat := o.after.toList.filterMap fun e => if Region.binds .any e then some e.on else none
def resolveO (P : Program) (ops : Array Oper) (o : Oper) : O :=
 match o.guard with
 | none => ⟨o.dst, resolve P o, none, afterOf o⟩
 | some (j, w) => match (ops[j]?).bind (·.dst) with
  | some d => ⟨o.dst, resolve P o, some (d, w), afterOf o⟩
  | none => ⟨o.dst, .bad, none, []⟩
def resolveC (P : Program) : Code → C
 | .skip => .skip
 | .ret => .ret
 | .exit id => .exit id
 | .seq a b => .seq (resolveC P a) (resolveC P b)
 | .cond c a b => .cond (X.of c) (resolveC P a) (resolveC P b)
 | .block id a => .block id (resolveC P a)
 | .loop a => .loop (resolveC P a)
 | .scope a => .scope (resolveC P a)
 | .label _ => .skip
 | .region _ ops draw => .reg draw (ops.toList.map (resolveO P ops))
 | _ => .bad

structure Sat (m : Mem) (a : Act) (T : List V) (H : List (Option Ob)) : Prop where
 base : m.base
 slots : ∀ s, (T.getD s .junk).rep m (a.tmps.getD s undef)
 obj : ∀ n ob, H.getD n none = some ob → m.obj n ob
 inj : ∀ n k b, live H n → live H k → m.ρ n = some b → m.ρ k = some b → n = k
 top : ∀ n, H.length ≤ n → m.ρ n = none
 size : a.tmps.size = T.length
 defers : a.defers = []

def putT (T : List V) (d : Option Nat) (x : V) : List V := match d with
 | some d => T.set d x
 | none => T

structure E where
 srd : List Nat
 dst : Option Nat
 rd : List Nat
 wr : List Nat
 after : List Nat

def E.clash (i j : E) : Bool :=
 (match i.dst with
  | some d => j.srd.contains d || j.dst == some d
  | none => false) ||
 (match j.dst with
  | some d => i.srd.contains d
  | none => false) ||
 i.wr.any (fun n => j.rd.contains n || j.wr.contains n) || j.wr.any (fun n => i.rd.contains n)

def ancs : List E → List (List Nat)
 | [] => []
 | e :: r => let t := ancs r; (e.after.flatMap fun j => j :: t.getD (r.length - 1 - j) []).eraseDups :: t

def okTrace : List E → Bool
 | [] => true
 | e :: r => e.after.all (· < r.length) && ((List.range r.length).all fun k => !(E.clash (r.getD k ⟨[], none, [], [], []⟩) e) || ((ancs (e :: r)).headD []).contains (r.length - 1 - k)) && okTrace r

def gslots : Option (Nat × Bool) → List Nat
 | some (s, _) => [s]
 | none => []

def vops (P : Program) (draw : Bool) (K : List V → List (Option Ob) → Prop) : List O → List E → List V → List (Option Ob) → Prop
 | [], tr, T, H => if draw then need (okTrace tr = true) (K T H) else K T H
 | o :: os, tr, T, H => match o.g with
  | none => o.a.step P T H fun x H' rd wr => vops P draw K os (⟨o.a.slots, o.dst, rd, wr, o.after⟩ :: tr) (putT T o.dst x) H'
  | some (s, w) => match T.getD s .junk with
   | .d (.bool b) => (b = w → o.a.step P T H fun x H' rd wr => vops P draw K os (⟨s :: o.a.slots, o.dst, rd, wr, o.after⟩ :: tr) (putT T o.dst x) H') ∧
    (b ≠ w → vops P draw K os (⟨[s], o.dst, [], [], o.after⟩ :: tr) (putT T o.dst (.tup [])) H)
   | .tup [] => vops P draw K os (⟨[s], o.dst, [], [], o.after⟩ :: tr) (putT T o.dst (.tup [])) H
   | _ => False

def noGo (x : V) (w : Bool) : Prop := (∃ b, x = .d (.bool b) ∧ b ≠ w) ∨ x = .tup []
def StepI (P : Program) (ops : Array Oper) (o : Oper) (T : List V) (H : List (Option Ob)) (x : V) (H' : List (Option Ob)) (e : E) : Prop :=
 e.dst = o.dst ∧ e.after = afterOf o ∧
 ((∃ S, (∀ s ∈ S, s ∈ e.srd) ∧ StepOK P o S T H x H' e.rd e.wr ∧
  (o.guard = none ∨ ∃ j w d, o.guard = some (j, w) ∧ (ops[j]?).bind (·.dst) = some d ∧ d ∈ e.srd ∧ T.getD d .junk = .d (.bool w))) ∨
   (x = .tup [] ∧ H' = H ∧ e.wr = [] ∧ ∃ j w d, o.guard = some (j, w) ∧ (ops[j]?).bind (·.dst) = some d ∧ d ∈ e.srd ∧ noGo (T.getD d .junk) w))

theorem o_2x {P : Program} {draw : Bool} {K : List V → List (Option Ob) → Prop} {ops : Array Oper} : ∀ (os : List Oper) (tr : List E) (T : List V) (H : List (Option Ob)), vops P draw K (os.map (resolveO P ops)) tr T H →
  ∃ (Ts : Nat → List V) (Hs : Nat → List (Option Ob)) (xs : Nat → V) (es : Nat → E), Ts 0 = T ∧ Hs 0 = H ∧ (∀ i o, os[i]? = some o → StepI P ops o (Ts i) (Hs i) (xs i) (Hs (i + 1)) (es i) ∧ Ts (i + 1) = putT (Ts i) o.dst (xs i)) ∧
   (draw = true → okTrace (((List.range os.length).map es).reverse ++ tr) = true) ∧ K (Ts os.length) (Hs os.length)
 | [], tr, T, H, h => by
  refine ⟨fun _ => T, fun _ => H, fun _ => .junk, fun _ => ⟨[], none, [], [], []⟩, rfl, rfl, by simp, fun hd => ?_, ?_⟩
  ·subst hd; simpa [vops] using h.1
  ·cases draw
   ·simpa [vops] using h
   ·exact h.2
 | o :: os, tr, T, H, h => by
  have fin : ∀ (x : V) (H1 : List (Option Ob)) (e : E), StepI P ops o T H x H1 e → vops P draw K (os.map (resolveO P ops)) (e :: tr) (putT T o.dst x) H1 →
    ∃ (Ts : Nat → List V) (Hs : Nat → List (Option Ob)) (xs : Nat → V) (es : Nat → E), Ts 0 = T ∧ Hs 0 = H ∧ (∀ i o', (o :: os)[i]? = some o' → StepI P ops o' (Ts i) (Hs i) (xs i) (Hs (i + 1)) (es i) ∧ Ts (i + 1) = putT (Ts i) o'.dst (xs i)) ∧
     (draw = true → okTrace (((List.range (o :: os).length).map es).reverse ++ tr) = true) ∧ K (Ts (o :: os).length) (Hs (o :: os).length) := by
   intro x H1 e hst hv
   obtain ⟨Ts, Hs, xs, es, h1, h2, h3, h4, h5⟩ := o_2x os _ _ _ hv
   refine ⟨fun i => match i with | 0 => T | i + 1 => Ts i, fun i => match i with | 0 => H | i + 1 => Hs i, fun i => match i with | 0 => x | i + 1 => xs i, fun i => match i with | 0 => e | i + 1 => es i, rfl, rfl, ?_, ?_, h5⟩
   ·intro i o' ho
    cases i with
    | zero => simp at ho; subst ho; exact ⟨by simpa [h2] using hst, by simpa using h1⟩
    | succ i => exact h3 i o' (by simpa using ho)
   ·intro hd
    have := h4 hd
    rw [List.length_cons, List.range_succ_eq_map, List.map_cons, List.reverse_cons, List.map_map]
    simpa [List.append_assoc, Function.comp_def] using this
  simp only [List.map_cons, vops] at h
  cases hg : o.guard with
  | none =>
   simp only [resolveO, hg] at h
   obtain ⟨x, H1, rd, wr, h1, h2⟩ := o_2w h
   exact fin x H1 _ ⟨rfl, rfl, .inl ⟨_, fun s hs => hs, h2, .inl hg⟩⟩ h1
  | some jw =>
   obtain ⟨j, w⟩ := jw
   cases hd : (ops[j]?).bind (·.dst) with
   | none => simp [resolveO, hg, hd, A.step] at h
   | some d =>
    simp only [resolveO, hg, hd] at h
    split at h
    ·rename_i b hb
     by_cases hbw : b = w
     ·subst hbw
      obtain ⟨x, H1, rd, wr, h1, h2⟩ := o_2w (h.1 rfl)
      exact fin x H1 _ ⟨rfl, rfl, .inl ⟨_, fun s hs => by simp [hs], h2, .inr ⟨j, _, d, hg, hd, by simp, hb⟩⟩⟩ h1
     ·exact fin (.tup []) H _ ⟨rfl, rfl, .inr ⟨rfl, rfl, rfl, j, w, d, hg, hd, by simp, .inl ⟨b, hb, hbw⟩⟩⟩ (h.2 hbw)
    ·rename_i hb
     exact fin (.tup []) H _ ⟨rfl, rfl, .inr ⟨rfl, rfl, rfl, j, w, d, hg, hd, by simp, .inr hb⟩⟩ h
    ·exact h.elim
end
end Go.Proofs.YtdklbnemfelpnaaGreatDoor.Am
namespace Go.Proofs.YtdklbnemfelpnaaGreatDoor.Am
section
open Go.RowKit
structure SatF (m : Mem) (a : Act) (Tf : Nat → V) (hf : Nat → Option Ob) : Prop where
 base : m.base
 slots : ∀ s, (Tf s).rep m (a.tmps.getD s undef)
 obj : ∀ n ob, hf n = some ob → m.obj n ob
 inj : ∀ n k b, (hf n).isSome = true → (hf k).isSome = true → m.ρ n = some b → m.ρ k = some b → n = k
 defers : a.defers = []

theorem o_2y (a : Act) (d : Option Nat) (v : Value) (s : Nat) : (a.put d v).tmps.getD s undef = if d = some s ∧ s < a.tmps.size then v else a.tmps.getD s undef := by
 cases d with
 | none => simp [Act.put]
 | some d =>
  simp only [Act.put, Option.some.injEq]
  by_cases e : d = s
  ·subst e
   by_cases h : d < a.tmps.size
   ·simp [h]
   ·simp [h]
  ·simp [e, Array.getElem?_setIfInBounds_ne e]
theorem o_2z (a : Act) (d : Option Nat) (v : Value) : (a.put d v).tmps.size = a.tmps.size := by cases d <;> simp [Act.put]
theorem o_30 (a : Act) (d : Option Nat) (v : Value) : (a.put d v).defers = a.defers := by cases d <;> simp [Act.put]

theorem stepF {P : Program} {o : Oper} {S : List Nat} {T : List V} {H : List (Option Ob)} {x : V} {H' : List (Option Ob)} {rd wr : List Nat} (h : StepOK P o S T H x H' rd wr) {m : Mem} {a : Act} {Tf : Nat → V} {hf : Nat → Option Ob} (sat : SatF m a Tf hf)
  (hS : ∀ s ∈ S, Tf s = T.getD s .junk) (hrd : ∀ n, n ∈ rd ∨ n ∈ wr → hf n = H.getD n none) (hun : ∀ n ∈ wr, H.length ≤ n → m.ρ n = none) (Tf' : Nat → V) (hf' : Nat → Option Ob)
  (hT' : ∀ s, Tf' s = if o.dst = some s ∧ s < a.tmps.size then x else Tf s) (hh' : ∀ n, hf' n = if n ∈ wr then H'.getD n none else hf n) (K : Act → World → Prop) (Q : Exit → Act → World → Prop)
  (hK : ∀ v m', SatF m' (a.put o.dst v) Tf' hf' → m.le m' (· ∈ wr) → (∀ n, n ∉ wr → m'.ρ n = m.ρ n) → K (a.put o.dst v) m'.w) : o.wp P a m.w K Q := by
 have hlv : ∀ n, n ∈ wr → (live H n ↔ (hf n).isSome = true) := fun n hn => by rw [live, hrd n (.inr hn)]
 have hsome : ∀ n, (hf n).isSome = true → ∃ b, m.ρ n = some b := fun n hn => by
  obtain ⟨ob, ho⟩ := Option.isSome_iff_exists.1 hn
  obtain ⟨b, _, _, h1, _⟩ := sat.obj n ob ho
  exact ⟨b, h1⟩
 refine h.run m a sat.base (fun s hs => by rw [← hS s hs]; exact sat.slots s) (fun n hn ob ho => sat.obj n ob (by rw [hrd n hn]; exact ho)) hun (fun n hn k hk ln lk he => ?_) K Q fun v m' hp => hK v m' ?_ hp.le hp.keep
 ·have l1 := (hlv n hn).1 ln
  obtain ⟨b, hb⟩ := hsome n l1
  exact sat.inj n k b l1 ((hlv k hk).1 lk) hb (he ▸ hb)
 ·obtain ⟨hb, hle, hrep, hobj, hkeep, hat, hinj⟩ := hp
  have hblk : ∀ n b, n ∉ wr → (hf n).isSome = true → m.ρ n = some b → ∀ k, k ∈ wr → m.ρ k ≠ some b := fun n b hn ln hb k hk he => by
   rcases h.wlive k hk with lk | lk
   ·exact hn (sat.inj n k b ln ((hlv k hk).1 lk) hb he ▸ hk)
   ·rw [hun k hk lk] at he; cases he
  refine ⟨hb, fun s => ?_, fun n ob ho => ?_, fun n k b ln lk h1 h2 => ?_, by rw [o_30]; exact sat.defers⟩
  ·rw [hT', o_2y]
   split
   ·exact hrep
   ·exact V.rep_mono hle _ _ (sat.slots s)
  ·rw [hh'] at ho
   split at ho
   ·rename_i hn; exact hobj n hn ob ho
   ·rename_i hn
    refine Mem.obj_keep sat.base hle (fun k b hk hb => ?_) (sat.obj n ob ho)
    exact hblk n b hn (by rw [ho]; rfl) hb k hk
  ·rw [hh'] at ln lk
   have far : ∀ n k b, n ∈ wr → k ∉ wr → live H' n → (hf k).isSome = true → m'.ρ n = some b → m'.ρ k = some b → False := fun n k b hn hk ln lk h1 h2 => by
    obtain ⟨b', e1, e2⟩ := hat n hn ln
    rw [h1] at e1; cases e1
    rw [hkeep k hk] at h2
    rcases e2 with e2 | ⟨j, hj, _, e2⟩
    ·have := sat.base.dom k b h2; omega
    ·exact hblk k b hk lk h2 j hj e2
   split at ln <;> split at lk
   ·rename_i hn hk; exact hinj n hn k hk ln lk (by rw [h1, h2])
   ·rename_i hn hk; exact (far n k b hn hk ln lk h1 h2).elim
   ·rename_i hn hk; exact (far k n b hk hn lk ln h2 h1).elim
   ·rename_i hn hk
    rw [hkeep n hn] at h1
    rw [hkeep k hk] at h2
    exact sat.inj n k b ln lk h1 h2

theorem o_31 (T : List V) (d : Option Nat) (x : V) (s : Nat) : (putT T d x).getD s .junk = if d = some s ∧ s < T.length then x else T.getD s .junk := by
 cases d with
 | none => simp [putT]
 | some d =>
  simp only [putT, Option.some.injEq, List.getD_eq_getElem?_getD, List.getElem?_set]
  by_cases e : d = s
  ·subst e
   by_cases h : d < T.length
   ·simp [h]
   ·simp [h]
  ·simp [e]
theorem o_32 (T : List V) (d : Option Nat) (x : V) : (putT T d x).length = T.length := by cases d <;> simp [putT]

theorem Sat.toF {m : Mem} {a : Act} {T : List V} {H : List (Option Ob)} (h : Sat m a T H) : SatF m a (fun s => T.getD s .junk) (fun n => H.getD n none) :=
 ⟨h.base, h.slots, h.obj, h.inj, h.defers⟩

theorem o_33 {ops : Array Oper} {o : Oper} {a : Act} {m : Mem} {x : V} {j d : Nat} {w b : Bool} (hg : o.guard = some (j, w)) (hd : (ops[j]?).bind (·.dst) = some d) (hx : x = .d (.bool b)) (hr : x.rep m (a.tmps.getD d undef)) :
  Region.wanted o (yielded ops a.tmps) = (b == w) := by
 subst hx
 have hv := V.rep_bool.1 hr
 have : a.tmps[d]? = some (.bool b) := by
  rw [Array.getD_eq_getD_getElem?] at hv
  cases h : a.tmps[d]? with
  | none => rw [h] at hv; cases hv
  | some u => rw [h] at hv; simp at hv; rw [hv]
 simp [Region.wanted, hg, yielded, hd, this]

theorem o_34 {ops : Array Oper} {o : Oper} {a : Act} {m : Mem} {x : V} {j d : Nat} {w : Bool} (hg : o.guard = some (j, w)) (hd : (ops[j]?).bind (·.dst) = some d) (hx : noGo x w) (hr : x.rep m (a.tmps.getD d undef)) :
  Region.wanted o (yielded ops a.tmps) = false := by
 rcases hx with ⟨b, hx, hne⟩ | rfl
 ·rw [o_33 hg hd hx hr]; simpa using hne
 ·unfold V.rep at hr
  obtain ⟨vs, hv, hl⟩ := hr
  simp at hl
  subst hl
  rw [Array.getD_eq_getD_getElem?] at hv
  cases h : a.tmps[d]? with
  | none => simp [Region.wanted, hg, yielded, hd, h]
  | some u => rw [h] at hv; simp at hv; simp [Region.wanted, hg, yielded, hd, h, hv]

theorem o_35 {ops : Array Oper} {o : Oper} {a : Act} (hg : o.guard = none) : Region.wanted o (yielded ops a.tmps) = true := by simp [Region.wanted, hg]

theorem o_36 {P : Program} {ops : Array Oper} {o : Oper} {T : List V} {H : List (Option Ob)} {x : V} {H' : List (Option Ob)} {e : E} (h : StepI P ops o T H x H' e) {m : Mem} {a : Act} (sat : Sat m a T H) (K : Act → World → Prop) (Q : Exit → Act → World → Prop)
  (hK : ∀ v m', Sat m' (a.put o.dst v) (putT T o.dst x) H' → m.le m' (· < H.length) → K (a.put o.dst v) m'.w) :
  if Region.wanted o (yielded ops a.tmps) then o.wp P a m.w K Q else K (a.put o.dst undef) m.w := by
 obtain ⟨e1, e2, ⟨S, hS, hok, hg⟩ | ⟨rfl, rfl, hwr, j, w, d, hg, hd, hds, hT⟩⟩ := h
 ·have hw : Region.wanted o (yielded ops a.tmps) = true := by
   rcases hg with hg | ⟨j, w, d, hg, hd, _, hT⟩
   ·exact o_35 hg
   ·rw [o_33 hg hd hT (sat.slots d)]; simp
  rw [if_pos hw]
  refine stepF hok sat.toF (fun _ _ => rfl) (fun _ _ => rfl) (fun n _ hn => sat.top n hn) (fun s => (putT T o.dst x).getD s .junk) (fun n => H'.getD n none) (fun s => by rw [o_31, sat.size]) (fun n => ?_) K Q fun v m' hs hle hk => hK v m' ?_ ?_
  ·split
   ·rfl
   ·exact hok.same n ‹_›
  ·refine ⟨hs.base, hs.slots, hs.obj, hs.inj, fun n hn => ?_, by rw [o_2z, o_32]; exact sat.size, hs.defers⟩
   have hn' : n ∉ e.wr := fun hc => by have := hok.lt n hc; omega
   rw [hk n hn']
   exact sat.top n (Nat.le_trans hok.len hn)
  ·refine hle.mono fun n b hb hn => ?_
   rcases Nat.lt_or_ge n H.length with h | h
   ·exact h
   ·rw [sat.top n h] at hb; cases hb
 ·have hw : Region.wanted o (yielded ops a.tmps) = false := o_34 hg hd hT (sat.slots d)
  rw [hw]
  simp only [Bool.false_eq_true, if_false]
  refine hK undef m ⟨sat.base, fun s => ?_, sat.obj, sat.inj, sat.top, by rw [o_2z, o_32]; exact sat.size, by rw [o_30]; exact sat.defers⟩ (Mem.le.refl _ _)
  rw [o_31, o_2y, sat.size]
  split
  ·unfold V.rep; exact ⟨[], rfl, by simp⟩
  ·exact sat.slots s

def AWp (P : Program) (c : Code) (Q : Exit → List V → List (Option Ob) → Prop) (T : List V) (H : List (Option Ob)) : Prop :=
 ∀ m a, Sat m a T H → c.wp P (fun e a' w' => ∃ T' H' m', m'.w = w' ∧ Q e T' H' ∧ Sat m' a' T' H' ∧ m.le m' (· < H.length) ∧ H.length ≤ H'.length) a m.w

theorem o_37 {P : Program} {ops : Array Oper} {Q : Exit → Act → World → Prop} : ∀ (os : List Oper) (Ts : Nat → List V) (Hs : Nat → List (Option Ob)) (xs : Nat → V) (es : Nat → E),
  (∀ i o, os[i]? = some o → StepI P ops o (Ts i) (Hs i) (xs i) (Hs (i + 1)) (es i) ∧ Ts (i + 1) = putT (Ts i) o.dst (xs i)) → ∀ (m0 m : Mem) (a : Act), Sat m a (Ts 0) (Hs 0) → m0.le m (· < (Hs 0).length) → (∀ n, (Hs 0).length ≤ n → m.ρ n = none) → 
  (∀ a' m', Sat m' a' (Ts os.length) (Hs os.length) → m.le m' (· < (Hs 0).length) → (Hs 0).length ≤ (Hs os.length).length → Q .normal a' m'.w) → wpList P ops Q os a m.w
 | [], Ts, Hs, xs, es, h, m0, m, a, sat, hle, htop, hQ => hQ a m sat (Mem.le.refl _ _) (Nat.le_refl _)
 | o :: os, Ts, Hs, xs, es, h, m0, m, a, sat, hle, htop, hQ => by
  obtain ⟨h1, h2⟩ := h 0 o rfl
  have hlen : (Hs 0).length ≤ (Hs 1).length := by
   obtain ⟨_, _, ⟨S, _, hok, _⟩ | ⟨_, he, _⟩⟩ := h1
   ·exact hok.len
   ·rw [he]; exact Nat.le_refl _
  refine wpList_step fun K hK => o_36 h1 sat K Q fun v m' sat' hle' => hK _ _ ?_
  rw [← h2] at sat'
  refine o_37 os (fun i => Ts (i + 1)) (fun i => Hs (i + 1)) (fun i => xs (i + 1)) (fun i => es (i + 1)) (fun i o' ho => h (i + 1) o' (by simpa using ho)) m' m' _ sat' (Mem.le.refl _ _) sat'.top fun a2 m2 s2 l2 ln => hQ a2 m2 s2 ?_ (Nat.le_trans hlen ln)
  refine hle'.trans l2 fun n b hb hn => ?_
  rcases Nat.lt_or_ge n (Hs 0).length with h | h
  ·exact h
  ·rw [sat.top n h] at hb; cases hb

theorem o_38 {P : Program} {id : Nat} {ops : Array Oper} {Q : Exit → List V → List (Option Ob) → Prop} {T : List V} {H : List (Option Ob)} (h : vops P false (Q .normal) (ops.toList.map (resolveO P ops)) [] T H) : AWp P (.region id ops false) Q T H := by
 intro m a sat
 obtain ⟨Ts, Hs, xs, es, rfl, rfl, h3, _, h5⟩ := o_2x ops.toList [] T H h
 refine wp_region_list (o_37 ops.toList Ts Hs xs es h3 m m a sat (Mem.le.refl _ _) sat.top fun a' m' s' l' ln => ?_)
 exact ⟨_, _, m', rfl, h5, s', l', ln⟩
end
end Go.Proofs.YtdklbnemfelpnaaGreatDoor.Am
namespace Go.Proofs.YtdklbnemfelpnaaGreatDoor.Am
section
open Go.RowKit
def rev (es : Nat → E) (n : Nat) : List E := ((List.range n).map es).reverse
theorem o_39 (es : Nat → E) (n : Nat) : rev es (n + 1) = es n :: rev es n := by simp [rev, List.range_succ]
theorem o_3a (es : Nat → E) (n : Nat) : (rev es n).length = n := by simp [rev]
theorem o_3b (es : Nat → E) (d : E) : ∀ (n t : Nat), t < n → (rev es n).getD (n - 1 - t) d = es t
 | 0, t, h => by omega
 | n + 1, t, h => by
  rw [o_39]
  rcases Nat.lt_or_ge t n with hlt | hge
  ·rw [show n + 1 - 1 - t = (n - 1 - t) + 1 by omega, List.getD_cons_succ]
   exact o_3b es d n t hlt
  ·rw [show t = n by omega, show n + 1 - 1 - n = 0 by omega]; rfl

def anc (es : Nat → E) (i : Nat) : List Nat := (ancs (rev es (i + 1))).headD []
theorem o_3c (es : Nat → E) : ∀ (n j : Nat), j < n → (ancs (rev es n)).getD (n - 1 - j) [] = anc es j
 | 0, j, h => by omega
 | n + 1, j, h => by
  rcases Nat.lt_or_ge j n with hlt | hge
  ·rw [o_39, ancs, show n + 1 - 1 - j = (n - 1 - j) + 1 by omega, List.getD_cons_succ]
   exact o_3c es n j hlt
  ·rw [show j = n by omega, show n + 1 - 1 - n = 0 by omega, anc]
   rw [o_39, ancs]; rfl

theorem o_3d {es : Nat → E} : ∀ (n : Nat), okTrace (rev es n) = true → ∀ i, i < n → (∀ j ∈ (es i).after, j < i) ∧ ∀ k, k < i → (es k).clash (es i) = true → k ∈ anc es i
 | 0, _, i, h => by omega
 | n + 1, h, i, hi => by
  rw [o_39, okTrace] at h
  simp only [Bool.and_eq_true, o_3a] at h
  obtain ⟨⟨h1, h2⟩, h3⟩ := h
  rcases Nat.lt_or_ge i n with hlt | hge
  ·exact o_3d n h3 i hlt
  ·obtain rfl : i = n := by omega
   refine ⟨fun j hj => by simpa using List.all_eq_true.1 h1 j hj, fun k hk hc => ?_⟩
   have := List.all_eq_true.1 h2 (i - 1 - k) (by rw [List.mem_range]; omega)
   rw [o_3b es _ i k hk, hc] at this
   simp only [Bool.not_true, Bool.false_or] at this
   rw [show i - 1 - (i - 1 - k) = k by omega] at this
   rw [anc, o_39]
   simpa using this

theorem o_3e {es : Nat → E} {n : Nat} (hlt : ∀ i, i < n → ∀ j ∈ (es i).after, j < i) {S : Nat → Prop} (hS : ∀ t, t < n → S t → ∀ j ∈ (es t).after, S j) : ∀ i, i < n → (∀ j ∈ (es i).after, S j) → ∀ k ∈ anc es i, S k := by
 intro i
 induction i using Nat.strongRecOn with
 | _ i ih =>
  intro hi ha k hk
  rw [anc, o_39, ancs, List.headD_cons, List.mem_eraseDups, List.mem_flatMap] at hk
  obtain ⟨j, hj, hk⟩ := hk
  have hji := hlt i hi j hj
  rw [o_3a, o_3c es i j hji] at hk
  rcases List.mem_cons.1 hk with rfl | hk
  ·exact ha k hj
  ·exact ih j hji (by omega) (hS j (by omega) (ha j hj)) k hk

def hold {α : Type} (init : α) (wr : Nat → Option α) (S : Nat → Bool) : Nat → α
 | 0 => init
 | i + 1 => match (if S i then wr i else none) with
  | some x => x
  | none => hold init wr S i

section
variable {α : Type} {init : α} {wr : Nat → Option α} {S : Nat → Bool}
theorem o_3f (i n : Nat) (hin : i ≤ n) (h1 : ∀ j, j < i → (wr j).isSome = true → S j = true) (h2 : ∀ j, i ≤ j → j < n → (wr j).isSome = true → S j = false) : hold init wr S n = hold init wr (fun _ => true) i := by
 induction n with
 | zero =>
  obtain rfl : i = 0 := by omega
  rfl
 | succ n ih =>
  rcases Nat.lt_or_ge i (n + 1) with hlt | hge
  ·rw [hold]
   have : (if S n then wr n else none) = none := by
    cases hw : wr n with
    | none => simp
    | some x => rw [h2 n (by omega) (by omega) (by rw [hw]; rfl)]; rfl
   rw [this]
   exact ih (by omega) fun j hj hjn => h2 j hj (by omega)
  ·obtain rfl : i = n + 1 := by omega
   clear ih h2
   have key : ∀ k, k ≤ n + 1 → hold init wr S k = hold init wr (fun _ => true) k := by
    intro k
    induction k with
    | zero => intro _; rfl
    | succ k ih =>
     intro hk
     rw [hold, hold, ih (by omega)]
     cases hw : wr k with
     | none => simp
     | some x => rw [h1 k (by omega) (by rw [hw]; rfl)]
   exact key _ (Nat.le_refl _)
theorem o_3g (i n : Nat) (hi : i < n) (hS : S i = false) (h2 : ∀ j, i < j → j < n → (wr j).isSome = true → (wr i).isSome = true → S j = false) : hold init wr (fun j => S j || j == i) n = match wr i with
  | some x => x
  | none => hold init wr S n := by
 induction n with
 | zero => omega
 | succ n ih =>
  rw [hold]
  rcases Nat.lt_or_ge i n with hlt | hge
  ·have hne : (n == i) = false := by simp; omega
   simp only [hne, Bool.or_false]
   cases hw : wr i with
   | none =>
    rw [hw] at ih
    simp only at ih ⊢
    rw [hold, ih hlt fun j a b c d => by cases d]
   | some x =>
    rw [hw] at ih h2
    have : (if S n then wr n else none) = none := by
     cases hw' : wr n with
     | none => simp
     | some y => rw [h2 n hlt (by omega) (by rw [hw']; rfl) rfl]; rfl
    rw [this]
    exact ih hlt fun j a b c d => h2 j a (by omega) c d
  ·obtain rfl : i = n := by omega
   simp only [beq_self_eq_true, Bool.or_true, if_true]
   cases hw : wr i with
   | some x => rfl
   | none =>
    simp only
    rw [hold, hS]
    simp only [Bool.false_eq_true, if_false]
    have key : ∀ k, k ≤ i → hold init wr (fun j => S j || j == i) k = hold init wr S k := by
     intro k
     induction k with
     | zero => intro _; rfl
     | succ k ih =>
      intro hk
      have : (k == i) = false := by simp; omega
      rw [hold, hold, ih (by omega), this, Bool.or_false]
    exact key _ (Nat.le_refl _)
end
end
end Go.Proofs.YtdklbnemfelpnaaGreatDoor.Am
namespace Go.Proofs.YtdklbnemfelpnaaGreatDoor.Am
section
open Go.RowKit
def cnt (S : Nat → Bool) : Nat → Nat
 | 0 => 0
 | k + 1 => (if S k then 0 else 1) + cnt S k
theorem o_3h {S : Nat → Bool} {i : Nat} (hS : S i = false) : ∀ n, i < n → cnt (fun j => S j || j == i) n + 1 = cnt S n
 | 0, h => by omega
 | n + 1, h => by
  rw [cnt, cnt]
  rcases Nat.lt_or_ge i n with hlt | hge
  ·have : (n == i) = false := by simp; omega
   rw [this, Bool.or_false, ← o_3h hS n hlt]; omega
  ·obtain rfl : i = n := by omega
   have key : ∀ k, k ≤ i → cnt (fun j => S j || j == i) k = cnt S k := by
    intro k
    induction k with
    | zero => intro _; rfl
    | succ k ih =>
     intro hk
     have : (k == i) = false := by simp; omega
     rw [cnt, cnt, ih (by omega), this, Bool.or_false]
   rw [key i (Nat.le_refl _), hS]; simp; omega
theorem o_3i {S : Nat → Bool} : ∀ n, cnt S n = 0 → ∀ j, j < n → S j = true
 | 0, _, j, h => by omega
 | n + 1, h, j, hj => by
  rw [cnt] at h
  rcases Nat.lt_or_ge j n with hlt | hge
  ·exact o_3i n (by omega) j hlt
  ·obtain rfl : j = n := by omega
   by_cases hS : S j = true
   ·exact hS
   ·simp [hS] at h
theorem o_3j (S : Nat → Bool) : ∀ n, cnt S n ≤ n
 | 0 => Nat.le_refl _
 | n + 1 => by rw [cnt]; have := o_3j S n; split <;> omega

theorem o_3k {ops : Array Oper} {listed : Array Bool} {i : Nat} (h : i ∈ Region.ready .any ops listed) : ∃ o, ops[i]? = some o ∧ listed.getD i true = false ∧ ∀ j ∈ afterOf o, listed.getD j false = true := by
 unfold Region.ready at h
 rw [List.mem_filter, List.mem_range] at h
 obtain ⟨hi, h⟩ := h
 simp only [Bool.and_eq_true, Bool.not_eq_true'] at h
 obtain ⟨h1, h2⟩ := h
 refine ⟨ops[i], by simp [hi], h1, fun j hj => ?_⟩
 rw [Array.getElem?_eq_getElem hi] at h2
 simp only [Option.map_some, Option.getD_some, Array.all_eq_true_iff_forall_mem] at h2
 unfold afterOf at hj
 rw [List.mem_filterMap] at hj
 obtain ⟨e, he, hj⟩ := hj
 split at hj
 ·rename_i hb
  cases hj
  have := h2 e (by simpa using he)
  simpa [hb] using this
 ·cases hj
theorem o_3l {ops : Array Oper} {listed : Array Bool} {i : Nat} {o : Oper} (ho : ops[i]? = some o) (h1 : listed.getD i true = false) (h2 : ∀ j ∈ afterOf o, listed.getD j false = true) : i ∈ Region.ready .any ops listed := by
 unfold Region.ready
 rw [List.mem_filter, List.mem_range]
 have hi : i < ops.size := (Array.getElem?_eq_some_iff.1 ho).1
 refine ⟨hi, ?_⟩
 simp only [Bool.and_eq_true, Bool.not_eq_true', ho, Option.map_some, Option.getD_some, Array.all_eq_true_iff_forall_mem]
 refine ⟨h1, fun e he => ?_⟩
 by_cases hb : Region.binds .any e = true
 ·have := h2 e.on (by unfold afterOf; rw [List.mem_filterMap]; exact ⟨e, by simpa using he, by simp [hb]⟩)
  simp only [Array.getD_eq_getD_getElem?] at this ⊢
  simp [this]
 ·simp [hb]

theorem o_3m {i j : E} {k : Nat} (h : k ∈ i.wr) (h' : k ∈ j.rd ∨ k ∈ j.wr) : i.clash j = true := by
 unfold E.clash
 rw [Bool.or_eq_true, Bool.or_eq_true]
 exact .inl (.inr (List.any_eq_true.2 ⟨k, h, by simpa using h'⟩))
theorem o_3n {i j : E} {k : Nat} (h : k ∈ i.rd) (h' : k ∈ j.wr) : i.clash j = true := by
 unfold E.clash
 rw [Bool.or_eq_true]
 exact .inr (List.any_eq_true.2 ⟨k, h', by simpa using h⟩)
theorem o_3o {i j : E} {s : Nat} (h : i.dst = some s) (h' : s ∈ j.srd ∨ j.dst = some s) : i.clash j = true := by
 unfold E.clash
 rw [Bool.or_eq_true, Bool.or_eq_true, Bool.or_eq_true]
 refine .inl (.inl (.inl ?_))
 rw [h]
 simpa using h'
theorem o_3p {i j : E} {s : Nat} (h : s ∈ i.srd) (h' : j.dst = some s) : i.clash j = true := by
 unfold E.clash
 rw [Bool.or_eq_true, Bool.or_eq_true, Bool.or_eq_true]
 refine .inl (.inl (.inr ?_))
 rw [h']
 simpa using h

section
variable {P : Program} {ops : Array Oper} {Q : Exit → Act → World → Prop} {Ts : Nat → List V} {Hs : Nat → List (Option Ob)} {xs : Nat → V} {es : Nat → E}

def wrT (Ts : Nat → List V) (xs : Nat → V) (es : Nat → E) (s : Nat) (i : Nat) : Option V := if (es i).dst = some s ∧ s < (Ts 0).length then some (xs i) else none
def wrH (Hs : Nat → List (Option Ob)) (es : Nat → E) (k : Nat) (i : Nat) : Option (Option Ob) := if k ∈ (es i).wr then some ((Hs (i + 1)).getD k none) else none
def Tf (Ts : Nat → List V) (xs : Nat → V) (es : Nat → E) (S : Nat → Bool) (n s : Nat) : V := hold ((Ts 0).getD s .junk) (wrT Ts xs es s) S n
def Hf (Hs : Nat → List (Option Ob)) (es : Nat → E) (S : Nat → Bool) (n k : Nat) : Option Ob := hold ((Hs 0).getD k none) (wrH Hs es k) S n

variable (hst : ∀ i o, ops[i]? = some o → StepI P ops o (Ts i) (Hs i) (xs i) (Hs (i + 1)) (es i) ∧ Ts (i + 1) = putT (Ts i) o.dst (xs i))
 include hst

theorem o_3q : ∀ i, i ≤ ops.size → (Ts i).length = (Ts 0).length
 | 0, _ => rfl
 | i + 1, h => by
  rw [(hst i ops[i] (by simp [show i < ops.size by omega])).2, o_32]
  exact o_3q i (by omega)
theorem o_3r (s : Nat) : ∀ i, i ≤ ops.size → hold ((Ts 0).getD s .junk) (wrT Ts xs es s) (fun _ => true) i = (Ts i).getD s .junk
 | 0, _ => rfl
 | i + 1, h => by
  have ho : ops[i]? = some ops[i] := by simp [show i < ops.size by omega]
  obtain ⟨h1, h2⟩ := hst i _ ho
  rw [hold, h2, o_31, o_3q hst i (by omega), o_3r s i (by omega), if_pos rfl]
  unfold wrT
  rw [h1.1]
  by_cases hc : ops[i].dst = some s ∧ s < (Ts 0).length
  ·simp only [if_pos hc]
  ·simp only [if_neg hc]
theorem o_3s (k : Nat) : ∀ i, i ≤ ops.size → hold ((Hs 0).getD k none) (wrH Hs es k) (fun _ => true) i = (Hs i).getD k none
 | 0, _ => rfl
 | i + 1, h => by
  have ho : ops[i]? = some ops[i] := by simp [show i < ops.size by omega]
  obtain ⟨h1, h2⟩ := hst i _ ho
  rw [hold, o_3s k i (by omega), if_pos rfl]
  unfold wrH
  by_cases hk : k ∈ (es i).wr
  ·simp [hk]
  ·simp only [hk, if_false]
   obtain ⟨_, _, ⟨S, _, hok, _⟩ | ⟨_, he, _⟩⟩ := h1
   ·exact (hok.same k hk).symm
   ·rw [he]
theorem o_3t : ∀ i j, i ≤ j → j ≤ ops.size → (Hs i).length ≤ (Hs j).length
 | i, 0, h, _ => by rw [show i = 0 by omega]; exact Nat.le_refl _
 | i, j + 1, h, hj => by
  rcases Nat.lt_or_ge i (j + 1) with hlt | hge
  ·have ho : ops[j]? = some ops[j] := by simp [show j < ops.size by omega]
   refine Nat.le_trans (o_3t i j (by omega) (by omega)) ?_
   obtain ⟨_, _, ⟨S, _, hok, _⟩ | ⟨_, he, _⟩⟩ := (hst j _ ho).1
   ·exact hok.len
   ·rw [he]; exact Nat.le_refl _
  ·rw [show i = j + 1 by omega]; exact Nat.le_refl _

structure Mid (ops : Array Oper) (Ts : Nat → List V) (Hs : Nat → List (Option Ob)) (xs : Nat → V) (es : Nat → E) (m0 : Mem) (listed : Array Bool) (a : Act) (m : Mem) : Prop where
 len : listed.size = ops.size
 closed : ∀ t, t < ops.size → listed.getD t false = true → ∀ j ∈ (es t).after, listed.getD j false = true
 sat : SatF m a (Tf Ts xs es (fun j => listed.getD j false) ops.size) (Hf Hs es (fun j => listed.getD j false) ops.size)
 le : m0.le m (· < (Hs 0).length)
 size : a.tmps.size = (Ts 0).length
 born : ∀ k b, m.ρ k = some b → k < (Hs 0).length ∨ ∃ i, i < ops.size ∧ listed.getD i false = true ∧ k ∈ (es i).wr

theorem o_3u (htr : okTrace (rev es ops.size) = true) {m0 : Mem} (htop : ∀ n, (Hs 0).length ≤ n → m0.ρ n = none)
  (hQ : ∀ a m, Sat m a (Ts ops.size) (Hs ops.size) → m0.le m (· < (Hs 0).length) → Q .normal a m.w) :
  ∀ (fuel : Nat) (listed : Array Bool) (a : Act) (m : Mem), Mid ops Ts Hs xs es m0 listed a m → cnt (fun j => listed.getD j false) ops.size ≤ fuel → wpAny P .any ops Q fuel listed a m.w := by
 have hspec := o_3d ops.size htr
 have hlt := fun i hi => (hspec i hi).1
 have all_done : ∀ (listed : Array Bool), listed.size = ops.size → Region.ready .any ops listed = [] → ∀ i, i < ops.size → listed.getD i false = true := by
  intro listed hlen hr i
  induction i using Nat.strongRecOn with
  | _ i ih =>
   intro hi
   cases hb : listed.getD i false with
   | true => rfl
   | false =>
    exfalso
    have ho : ops[i]? = some ops[i] := by simp [hi]
    have h2 := (hst i _ ho).1.2.1
    have : i ∈ Region.ready .any ops listed := o_3l ho (by
     simp only [Array.getD_eq_getD_getElem?] at hb ⊢
     rw [Array.getElem?_eq_getElem (by omega)] at hb ⊢
     simpa using hb) fun j hj => by
     rw [← h2] at hj
     have := hlt i hi j hj
     exact ih j this (by omega)
    rw [hr] at this
    simp at this
 have finish : ∀ (listed : Array Bool) (a : Act) (m : Mem), Mid ops Ts Hs xs es m0 listed a m → (∀ i, i < ops.size → listed.getD i false = true) → Q .normal a m.w := by
  intro listed a m hm hall
  have e1 : ∀ s, Tf Ts xs es (fun j => listed.getD j false) ops.size s = (Ts ops.size).getD s .junk := fun s => by
   rw [Tf, o_3f ops.size ops.size (Nat.le_refl _) (fun j hj _ => hall j hj) (fun j h1 h2 => by omega)]
   exact o_3r hst s _ (Nat.le_refl _)
  have e2 : ∀ k, Hf Hs es (fun j => listed.getD j false) ops.size k = (Hs ops.size).getD k none := fun k => by
   rw [Hf, o_3f ops.size ops.size (Nat.le_refl _) (fun j hj _ => hall j hj) (fun j h1 h2 => by omega)]
   exact o_3s hst k _ (Nat.le_refl _)
  refine hQ a m ⟨hm.sat.base, fun s => by rw [← e1]; exact hm.sat.slots s, fun n ob h => hm.sat.obj n ob (by rw [e2]; exact h), fun n k b h1 h2 => hm.sat.inj n k b (by rw [e2]; exact h1) (by rw [e2]; exact h2), fun n hn => ?_, by rw [hm.size, o_3q hst _ (Nat.le_refl _)], hm.sat.defers⟩ hm.le
  cases hb : m.ρ n with
  | none => rfl
  | some b =>
   exfalso
   rcases hm.born n b hb with h | ⟨i, hi, _, hw⟩
   ·have := o_3t hst 0 ops.size (Nat.zero_le _) (Nat.le_refl _); omega
   ·have ho : ops[i]? = some ops[i] := by simp [hi]
    obtain ⟨_, _, ⟨S, _, hok, _⟩ | ⟨_, _, he, _⟩⟩ := (hst i _ ho).1
    ·have := hok.lt n hw
     have := o_3t hst (i + 1) ops.size (by omega) (Nat.le_refl _)
     omega
    ·rw [he] at hw; simp at hw
 intro fuel
 induction fuel with
 | zero =>
  intro listed a m hm hc
  have hall := o_3i _ (Nat.le_zero.1 hc)
  refine ⟨?_, finish listed a m hm hall⟩
  rw [List.eq_nil_iff_forall_not_mem]
  intro i hi
  obtain ⟨o, ho, h1, _⟩ := o_3k hi
  have hi' : i < ops.size := (Array.getElem?_eq_some_iff.1 ho).1
  have := hall i hi'
  have hls := hm.len
  simp only [Array.getD_eq_getD_getElem?] at this h1
  rw [Array.getElem?_eq_getElem (by omega)] at this h1
  simp at this h1
  rw [this] at h1; cases h1
 | succ fuel ih =>
  intro listed a m hm hc
  refine ⟨fun hr => finish listed a m hm (all_done listed hm.len hr), fun i hi => ?_⟩
  obtain ⟨o, ho, h1, h2⟩ := o_3k hi
  have hi' : i < ops.size := (Array.getElem?_eq_some_iff.1 ho).1
  have hls := hm.len
  have hSi : listed.getD i false = false := by
   simp only [Array.getD_eq_getD_getElem?] at h1 ⊢
   rw [Array.getElem?_eq_getElem (by omega)] at h1 ⊢
   simpa using h1
  obtain ⟨hstep, hput⟩ := hst i o ho
  have hanc := o_3e hlt (S := fun j => listed.getD j false = true) hm.closed i hi' (by rw [hstep.2.1]; exact h2)
  -- what clashes with i is in order
  have before : ∀ j, j < i → (es j).clash (es i) = true → listed.getD j false = true := fun j hj hcl => hanc j ((hspec i hi').2 j hj hcl)
  have behind : ∀ j, i < j → j < ops.size → (es i).clash (es j) = true → listed.getD j false = false := fun j hj hjn hcl => by
   cases hb : listed.getD j false with
   | false => rfl
   | true =>
    have := o_3e hlt (S := fun j => listed.getD j false = true) hm.closed j hjn (hm.closed j hjn hb) i ((hspec j hjn).2 i hj hcl)
    rw [hSi] at this; cases this
  have hsat := hm.sat
  generalize hSdef : (fun j => listed.getD j false) = S at *
  have hS : ∀ j, S j = listed.getD j false := fun j => by rw [← hSdef]
  have hTi : ∀ s, s ∈ (es i).srd ∨ (es i).dst = some s → Tf Ts xs es S ops.size s = (Ts i).getD s .junk := fun s hs => by
   rw [Tf, o_3f i ops.size (by omega), o_3r hst s i (by omega)]
   ·intro j hj hw
    rw [hS]
    refine before j hj ?_
    unfold wrT at hw
    split at hw
    ·rename_i hd; exact o_3o hd.1 hs
    ·cases hw
   ·intro j hj hjn hw
    rw [hS]
    rcases Nat.lt_or_ge i j with hij | hij
    ·refine behind j hij hjn ?_
     unfold wrT at hw
     split at hw
     ·rename_i hd
      rcases hs with hs | hs
      ·exact o_3p hs hd.1
      ·exact o_3o hs (.inr hd.1)
     ·cases hw
    ·rw [show j = i by omega]; exact hSi
  have hHi : ∀ k, k ∈ (es i).rd ∨ k ∈ (es i).wr → Hf Hs es S ops.size k = (Hs i).getD k none := fun k hk => by
   rw [Hf, o_3f i ops.size (by omega), o_3s hst k i (by omega)]
   ·intro j hj hw
    rw [hS]
    refine before j hj ?_
    unfold wrH at hw
    split at hw
    ·rename_i hd; exact o_3m hd hk
    ·cases hw
   ·intro j hj hjn hw
    rw [hS]
    rcases Nat.lt_or_ge i j with hij | hij
    ·refine behind j hij hjn ?_
     unfold wrH at hw
     split at hw
     ·rename_i hd
      rcases hk with hk | hk
      ·exact o_3n hk hd
      ·exact o_3m hk (.inr hd)
     ·cases hw
    ·rw [show j = i by omega]; exact hSi
  have hset : ∀ j, (listed.setIfInBounds i true).getD j false = (S j || j == i) := fun j => by
   simp only [hS, Array.getD_eq_getD_getElem?, Array.getElem?_setIfInBounds]
   by_cases e : i = j
   ·subst e
    simp [show i < listed.size by omega]
   ·simp [e, show ¬ j = i by omega]
  have hset' : (fun j => (listed.setIfInBounds i true).getD j false) = fun j => S j || j == i := funext hset
  have hcnt : cnt (fun j => (listed.setIfInBounds i true).getD j false) ops.size ≤ fuel := by
   rw [hset']
   have := o_3h (S := S) (i := i) (by rw [hS]; exact hSi) ops.size hi'
   omega
  have hclosed : ∀ t, t < ops.size → (listed.setIfInBounds i true).getD t false = true → ∀ j ∈ (es t).after, (listed.setIfInBounds i true).getD j false = true := by
   intro t ht h j hj
   rw [hset] at h ⊢
   simp only [Bool.or_eq_true, beq_iff_eq] at h ⊢
   rcases h with h | rfl
   ·exact .inl (by rw [hS] at h ⊢; exact hm.closed t ht h j hj)
   ·rw [hstep.2.1] at hj
    exact .inl (by rw [hS]; exact h2 j hj)
  -- how the places turn
  have hT' : ∀ s, Tf Ts xs es (fun j => S j || j == i) ops.size s = if o.dst = some s ∧ s < a.tmps.size then xs i else Tf Ts xs es S ops.size s := fun s => by
   rw [Tf, o_3g i ops.size hi' (by rw [hS]; exact hSi)]
   ·rw [hm.size]
    unfold wrT
    rw [hstep.1]
    split
    ·rename_i x hx
     split at hx
     ·rename_i hc; rw [if_pos hc]; cases hx; rfl
     ·cases hx
    ·rename_i hx
     split at hx
     ·cases hx
     ·rename_i hc; rw [if_neg hc]; rfl
   ·intro j hj hjn hw hwi
    rw [hS]
    refine behind j hj hjn ?_
    unfold wrT at hw hwi
    split at hw
    ·rename_i hd
     split at hwi
     ·rename_i hd'; exact o_3o hd'.1 (.inr hd.1)
     ·cases hwi
    ·cases hw
  have hH' : ∀ k, Hf Hs es (fun j => S j || j == i) ops.size k = if k ∈ (es i).wr then (Hs (i + 1)).getD k none else Hf Hs es S ops.size k := fun k => by
   rw [Hf, o_3g i ops.size hi' (by rw [hS]; exact hSi)]
   ·unfold wrH
    split
    ·rename_i x hx
     split at hx
     ·rename_i hc; rw [if_pos hc]; cases hx; rfl
     ·cases hx
    ·rename_i hx
     split at hx
     ·cases hx
     ·rename_i hc; rw [if_neg hc]; rfl
   ·intro j hj hjn hw hwi
    rw [hS]
    refine behind j hj hjn ?_
    unfold wrH at hw hwi
    split at hw
    ·rename_i hd
     split at hwi
     ·rename_i hd'; exact o_3m hd' (.inr hd)
     ·cases hwi
    ·cases hw
  unfold wpOp
  rw [ho]
  simp only
  have hgd : ∀ j w d b, o.guard = some (j, w) → (ops[j]?).bind (·.dst) = some d → d ∈ (es i).srd → (Ts i).getD d .junk = .d (.bool b) → Region.wanted o (yielded ops a.tmps) = (b == w) := fun j w d b hg hd hds hT =>
   o_33 hg hd (by rw [← hT]; exact hTi d (.inl hds)) (hsat.slots d)
  obtain ⟨e1, e2, ⟨S', hS', hok, hg⟩ | ⟨hx, hHH, hwr, j, w, d, hg, hd, hds, hT⟩⟩ := hstep
  ·have hw : Region.wanted o (yielded ops a.tmps) = true := by
    rcases hg with hg | ⟨j, w, d, hg, hd, hds, hT⟩
    ·exact o_35 hg
    ·rw [hgd j w d w hg hd hds hT]; simp
   rw [if_pos hw]
   refine .inl (stepF hok hsat (fun s hs => hTi s (.inl (hS' s hs))) (fun n hn => hHi n hn) (fun n hn hge => ?_) _ _ hT' hH' _ Q fun v m' hs hle hk => ?_)
   ·cases hb : m.ρ n with
    | none => rfl
    | some b =>
     exfalso
     rcases hm.born n b hb with h | ⟨j, hj, hSj, hwj⟩
     ·have := o_3t hst 0 i (Nat.zero_le _) (by omega); omega
     ·have hji : j ≠ i := fun e => by subst e; rw [hSi] at hSj; cases hSj
      rcases Nat.lt_or_ge j i with hlt' | hge'
      ·have hoj : ops[j]? = some ops[j] := by simp [hj]
       obtain ⟨_, _, ⟨S2, _, hok2, _⟩ | ⟨_, _, he, _⟩⟩ := (hst j _ hoj).1
       ·have := hok2.lt n hwj
        have := o_3t hst (j + 1) i (by omega) (by omega)
        omega
       ·rw [he] at hwj; simp at hwj
      ·have hcl : (es i).clash (es j) = true := o_3m hn (.inr hwj)
       rw [behind j (by omega) hj hcl] at hSj; cases hSj
   ·refine ih _ _ m' ⟨by simp [hls], hclosed, by rw [hset']; exact hs, ?_, by rw [o_2z]; exact hm.size, fun k b hb => ?_⟩ hcnt
    ·refine hm.le.trans hle fun n b hb hn => ?_
     rcases Nat.lt_or_ge n (Hs 0).length with h | h
     ·exact h
     ·rw [htop n h] at hb; cases hb
    ·by_cases hkw : k ∈ (es i).wr
     ·exact .inr ⟨i, hi', by rw [hset]; simp, hkw⟩
     ·rw [hk k hkw] at hb
      rcases hm.born k b hb with h | ⟨j, hj, hSj, hwj⟩
      ·exact .inl h
      ·exact .inr ⟨j, hj, by rw [hset, hS, hSj]; rfl, hwj⟩
  ·have hw : Region.wanted o (yielded ops a.tmps) = false := o_34 hg hd (by rw [← hTi d (.inl hds)] at hT; exact hT) (hsat.slots d)
   rw [hw]
   simp only [Bool.false_eq_true, if_false]
   refine ih _ _ m ⟨by simp [hls], hclosed, ?_, hm.le, by rw [o_2z]; exact hm.size, fun k b hb => ?_⟩ hcnt
   ·rw [hset']
    refine ⟨hsat.base, fun s => ?_, fun n ob h => hsat.obj n ob ?_, fun n k b h1 h2 => hsat.inj n k b ?_ ?_, by rw [o_30]; exact hsat.defers⟩
    ·rw [hT', o_2y]
     split
     ·rw [hx]; unfold V.rep; exact ⟨[], rfl, by simp⟩
     ·exact hsat.slots s
    ·rw [hH', hwr] at h; simpa using h
    ·rw [hH', hwr] at h1; simpa using h1
    ·rw [hH', hwr] at h2; simpa using h2
   ·rcases hm.born k b hb with h | ⟨j, hj, hSj, hwj⟩
    ·exact .inl h
    ·exact .inr ⟨j, hj, by rw [hset, hS, hSj]; rfl, hwj⟩
end

theorem o_3v {P : Program} (hmix : P.follows .mixedOrders = true) {id : Nat} {ops : Array Oper} {Q : Exit → List V → List (Option Ob) → Prop} {T : List V} {H : List (Option Ob)} (h : vops P true (Q .normal) (ops.toList.map (resolveO P ops)) [] T H) : AWp P (.region id ops true) Q T H := by
 intro m a sat
 obtain ⟨Ts, Hs, xs, es, rfl, rfl, h3, h4, h5⟩ := o_2x ops.toList [] T H h
 have hn : ops.toList.length = ops.size := Array.length_toList
 rw [hn] at h5
 have h4' := h4 rfl
 rw [List.append_nil, hn] at h4'
 have hst : ∀ i o, ops[i]? = some o → StepI P ops o (Ts i) (Hs i) (xs i) (Hs (i + 1)) (es i) ∧ Ts (i + 1) = putT (Ts i) o.dst (xs i) := fun i o ho => h3 i o (by simpa using ho)
 have hd : m.le ⟨m.ρ, m.I, { m.w with drawn := m.w.drawn + 1 }⟩ (· < (Hs 0).length) := ⟨fun _ _ h => h, fun _ h => h, rfl, rfl, rfl, Nat.le_refl _, fun _ _ _ => rfl, fun _ _ => rfl, fun _ _ => rfl, fun _ h => .inl h, fun _ _ h => .inl h⟩
 have hlen := o_3t hst 0 ops.size (Nat.zero_le _) (Nat.le_refl _)
 refine wp_region_any hmix ?_
 have hS : (fun j => (Array.replicate ops.size false).getD j false) = fun _ => false := by
  funext j
  simp only [Array.getD_eq_getD_getElem?, Array.getElem?_replicate]
  split <;> rfl
 have hz : ∀ {α : Type} (i : α) (w : Nat → Option α) (n : Nat), hold i w (fun _ => false) n = i := by
  intro α i w n
  induction n with
  | zero => rfl
  | succ n ih => rw [hold]; simpa using ih
 refine o_3u hst h4' (m0 := m) sat.top (fun a' m' hs hle => ⟨_, _, m', rfl, h5, hs, hle, hlen⟩) ops.size (Array.replicate ops.size false) a ⟨m.ρ, m.I, { m.w with drawn := m.w.drawn + 1 }⟩ ⟨by simp, ?_, ?_, hd, sat.size, ?_⟩ ?_
 ·intro t _ h
  have := congrFun hS t
  rw [this] at h; cases h
 ·rw [hS]
  refine ⟨⟨sat.base.imm, sat.base.dom, sat.base.tabs.le hd⟩, fun s => ?_, fun n ob h => ?_, fun n k b h1 h2 => ?_, sat.defers⟩
  ·rw [Tf, hz]; exact V.rep_mono hd _ _ (sat.slots s)
  ·rw [Hf, hz] at h
   obtain ⟨b, vs, more, k1, k2, k3, k4, k5⟩ := sat.obj n ob h
   exact ⟨b, vs, more, k1, k2, k3, V.reps_mono hd _ _ k4, k5⟩
  ·rw [Hf, hz] at h1 h2
   exact sat.inj n k b h1 h2
 ·intro k b hb
  rcases Nat.lt_or_ge k (Hs 0).length with h | h
  ·exact .inl h
  ·rw [sat.top k h] at hb; cases hb
 ·exact o_3j _ _
end
end Go.Proofs.YtdklbnemfelpnaaGreatDoor.Am
namespace Go.Proofs.YtdklbnemfelpnaaGreatDoor.Am
section
open Go.RowKit
def AW (P : Program) (L : Nat) (c : C) (Q : Exit → List V → List (Option Ob) → Prop) (T : List V) (H : List (Option Ob)) : Prop :=
 ∀ code, resolveC P code = c → ∀ (m0 m : Mem) (a : Act), Sat m a T H → m0.le m (· < L) → (∀ n, L ≤ n → m0.ρ n = none) → L ≤ H.length →
  code.wp P (fun e a' w' => ∃ T' H', ∃ m' : Mem, m'.w = w' ∧ Q e T' H' ∧ Sat m' a' T' H' ∧ m0.le m' (· < L) ∧ L ≤ H'.length) a m.w

def thenQ (K : List V → List (Option Ob) → Prop) (Q : Exit → List V → List (Option Ob) → Prop) : Exit → List V → List (Option Ob) → Prop
 | .normal, T, H => K T H
 | e, T, H => Q e T H
def blockQ (id : Nat) (Q : Exit → List V → List (Option Ob) → Prop) : Exit → List V → List (Option Ob) → Prop
 | .exit j, T, H => if j = id then Q .normal T H else Q (.exit j) T H
 | e, T, H => Q e T H

section
variable {P : Program} {L : Nat} {Q : Exit → List V → List (Option Ob) → Prop} {T : List V} {H : List (Option Ob)}

theorem AW.skip (h : Q .normal T H) : AW P L .skip Q T H := by
 intro code hc m0 m a sat hle htop hL
 cases code <;> simp [resolveC] at hc
 ·exact wp_skip ⟨T, H, m, rfl, h, sat, hle, hL⟩
 ·exact wp_label ⟨T, H, m, rfl, h, sat, hle, hL⟩
def scopeQ (Q : Exit → List V → List (Option Ob) → Prop) : Exit → List V → List (Option Ob) → Prop
 | .goto _, _, _ => False
 | e, T, H => Q e T H
attribute [simp] scopeQ
theorem AW.scope {x : C} (h : AW P L x (scopeQ Q) T H) : AW P L (.scope x) Q T H := by
 intro code hc m0 m a sat hle htop hL
 cases code <;> simp [resolveC] at hc
 rename_i cx
 refine wp_scope_straight (wp_mono (h cx hc m0 m a sat hle htop hL) ?_)
 rintro e a' w' ⟨T', H', m', rfl, hq, sat', hle', hL'⟩
 cases e with
 | goto l => exact hq.elim
 | _ => exact ⟨T', H', m', rfl, hq, sat', hle', hL'⟩
theorem AW.ret (h : Q .ret T H) : AW P L .ret Q T H := by
 intro code hc m0 m a sat hle htop hL
 cases code <;> simp [resolveC] at hc
 exact wp_ret ⟨T, H, m, rfl, h, sat, hle, hL⟩
theorem AW.exit {id : Nat} (h : Q (.exit id) T H) : AW P L (.exit id) Q T H := by
 intro code hc m0 m a sat hle htop hL
 cases code <;> simp [resolveC] at hc
 subst hc
 exact wp_exit ⟨T, H, m, rfl, h, sat, hle, hL⟩
theorem AW.seq {x y : C} (h : AW P L x (thenQ (AW P L y Q) Q) T H) : AW P L (.seq x y) Q T H := by
 intro code hc m0 m a sat hle htop hL
 cases code <;> simp [resolveC] at hc
 rename_i cx cy
 obtain ⟨hx, hy⟩ := hc
 refine wp_seq (wp_mono (h cx hx m0 m a sat hle htop hL) ?_)
 rintro e a' w' ⟨T', H', m', rfl, hq, sat', hle', hL'⟩
 cases e with
 | normal => exact hq cy hy m0 m' a' sat' hle' htop hL'
 | _ => exact ⟨T', H', m', rfl, hq, sat', hle', hL'⟩
theorem AW.cond {c : X} {x y : C} {b : Bool} (hb : c.ev T = .d (.bool b)) (h1 : b = true → AW P L x Q T H) (h2 : b = false → AW P L y Q T H) : AW P L (.cond c x y) Q T H := by
 intro code hc m0 m a sat hle htop hL
 cases code <;> simp [resolveC] at hc
 rename_i cc cx cy
 obtain ⟨hcc, hx, hy⟩ := hc
 have hv : a.eval cc = .bool b := by
  refine V.rep_bool.1 (X.rep' (T := T) (fun s _ => sat.slots s) ?_)
  rw [hcc]; exact hb
 refine wp_cond hv ?_
 cases b
 ·exact h2 rfl cy hy m0 m a sat hle htop hL
 ·exact h1 rfl cx hx m0 m a sat hle htop hL
theorem AW.block {id : Nat} {x : C} (h : AW P L x (blockQ id Q) T H) : AW P L (.block id x) Q T H := by
 intro code hc m0 m a sat hle htop hL
 cases code <;> simp [resolveC] at hc
 rename_i id' cx
 obtain ⟨rfl, hx⟩ := hc
 refine wp_block (wp_mono (h cx hx m0 m a sat hle htop hL) ?_)
 rintro e a' w' ⟨T', H', m', rfl, hq, sat', hle', hL'⟩
 cases e with
 | exit j =>
  simp only [blockQ] at hq
  simp only [Exit.inBlock]
  split at hq
  ·rename_i hj; rw [if_pos hj]; exact ⟨T', H', m', rfl, hq, sat', hle', hL'⟩
  ·rename_i hj; rw [if_neg hj]; exact ⟨T', H', m', rfl, hq, sat', hle', hL'⟩
 | _ => exact ⟨T', H', m', rfl, hq, sat', hle', hL'⟩

theorem AW.reg {draw : Bool} {ops : List O} (hmix : P.follows .mixedOrders = true) (h : vops P draw (Q .normal) ops [] T H) : AW P L (.reg draw ops) Q T H := by
 intro code hc m0 m a sat hle htop hL
 cases code <;> simp [resolveC] at hc
 rename_i id cops d
 obtain ⟨rfl, rfl⟩ := hc
 have : AWp P (.region id cops d) Q T H := by
  cases d
  ·exact o_38 h
  ·exact o_3v hmix h
 refine wp_mono (this m a sat) ?_
 rintro e a' w' ⟨T', H', m', rfl, hq, sat', hle', hL'⟩
 refine ⟨T', H', m', rfl, hq, sat', hle.trans hle' fun n b hb hn => ?_, Nat.le_trans hL hL'⟩
 rcases Nat.lt_or_ge n L with h | h
 ·exact h
 ·rw [htop n h] at hb; cases hb

theorem o_3w {c : Code} {R : Exit → Act → World → Prop} (J : Nat → Act → World → Prop) (round : ∀ k a w, J k a w → c.wp P (Exit.then (fun a' w' => ∃ k', k' < k ∧ J k' a' w') R) a w) (k : Nat) (a : Act) (w : World) (h : J k a w) : (Code.loop c).wp P R a w := by
 intro b kk cs
 have key : ∀ k a w, J k a w → ∃ e a' w', R e a' w' ∧ Arrives P (lone (b.at a (.code c :: .inLoop c :: kk)) cs w) b kk cs e a' w' := by
  intro k
  induction k using Nat.strongRecOn with
  | _ k ih =>
   intro a w hJ
   obtain ⟨e, a₁, w₁, hq, harr⟩ := round k a w hJ b (.inLoop c :: kk) cs
   cases e with
   | normal =>
    obtain ⟨k', hk, hJ'⟩ := hq
    obtain ⟨e₂, a₂, w₂, hq₂, harr₂⟩ := ih k' hk a₁ w₁ hJ'
    exact ⟨e₂, a₂, w₂, hq₂, .of_steps (Steps.trans harr (.one step_inLoop)) harr₂⟩
   | exit id => exact ⟨_, a₁, w₁, hq, .pass (x := .inLoop c) rfl (fun _ _ => .inl (by simp)) harr⟩
   | goto l => exact ⟨_, a₁, w₁, hq, .pass (x := .inLoop c) rfl (fun _ _ => .inl (by simp)) harr⟩
   | ret => exact ⟨_, a₁, w₁, hq, .pass (x := .inLoop c) rfl (fun _ _ => .inl (by simp)) harr⟩
   | panic ch => exact ⟨_, a₁, w₁, hq, .pass (x := .inLoop c) rfl (fun _ _ => .inl (by simp)) harr⟩
   | outgrown => exact ⟨_, a₁, w₁, hq, .pass (x := .inLoop c) rfl (fun _ _ => .inl (by simp)) harr⟩
 obtain ⟨e, a', w', hq, harr⟩ := key k a w h
 exact ⟨e, a', w', hq, .of_steps (.one step_loop) harr⟩

theorem AW.loop {x : C} (J : Nat → List V → List (Option Ob) → Prop) (k : Nat) (h0 : J k T H) (h : ∀ k T H, J k T H → AW P L x (thenQ (fun T' H' => ∃ k', k' < k ∧ J k' T' H') Q) T H) : AW P L (.loop x) Q T H := by
 intro code hc m0 m a sat hle htop hL
 cases code <;> simp [resolveC] at hc
 rename_i cx
 refine o_3w (fun k a w => ∃ T H m, m.w = w ∧ J k T H ∧ Sat m a T H ∧ m0.le m (· < L) ∧ L ≤ H.length) ?_ k a m.w ⟨T, H, m, rfl, h0, sat, hle, hL⟩
 rintro k a w ⟨T, H, m, rfl, hJ, sat, hle, hL⟩
 refine wp_mono (h k T H hJ cx hc m0 m a sat hle htop hL) ?_
 rintro e a' w' ⟨T', H', m', rfl, hq, sat', hle', hL'⟩
 cases e with
 | normal =>
  obtain ⟨k', hk, hJ'⟩ := hq
  exact ⟨k', hk, T', H', m', rfl, hJ', sat', hle', hL'⟩
 | _ => exact ⟨T', H', m', rfl, hq, sat', hle', hL'⟩

mutual
theorem V.ren_id : ∀ x : V, x.ren id = x
 | .d _ | .p _ _ | .row _ _ _ | .own _ _ _ | .junk => by simp [V.ren]
 | .agg l | .tup l | .fn _ l => by simp [V.ren, V.rens_id l]
theorem V.rens_id : ∀ l : List V, V.rens id l = l
 | [] => by simp [V.rens]
 | x :: l => by simp [V.rens, V.ren_id x, V.rens_id l]
end

def Sub1 (x y : V) : Prop := ∀ m v, x.rep m v → y.rep m v
theorem Sub1.refl (x : V) : Sub1 x x := fun _ _ h => h
theorem Sub1.junk (x : V) : Sub1 x .junk := fun _ _ _ => by unfold V.rep; trivial

structure Weak (T : List V) (H : List (Option Ob)) (T1 : List V) (H1 : List (Option Ob)) : Prop where
 lenT : T1.length = T.length
 lenH : H1.length ≤ H.length
 slots : ∀ s, Sub1 (T.getD s .junk) (T1.getD s .junk) ∧ (T1.getD s .junk).low H1.length = true
 obs : ∀ n ob1, H1.getD n none = some ob1 → ∃ ob, H.getD n none = some ob ∧ ob.T = ob1.T ∧ Subs ob.c ob1.c ∧ V.lowl H1.length ob1.c = true

theorem Sat.weaken {m0 m : Mem} {a : Act} {T1 : List V} {H1 : List (Option Ob)} (hw : Weak T H T1 H1) (sat : Sat m a T H) (hle : m0.le m (· < L)) (htop : ∀ n, L ≤ n → m0.ρ n = none) (hL1 : L ≤ H1.length) : ∃ m1 : Mem, m1.w = m.w ∧ Sat m1 a T1 H1 ∧ m0.le m1 (· < L) ∧ L ≤ H1.length := by
 have hρ : ∀ n, n < H1.length → (⟨fun n => if n < H1.length then m.ρ n else none, m.I, m.w⟩ : Mem).ρ n = m.ρ (id n) := fun n hn => by simp [hn]
 have hrep : ∀ (x : V) (v : Value), x.low H1.length = true → x.rep m v → x.rep ⟨fun n => if n < H1.length then m.ρ n else none, m.I, m.w⟩ v := fun x v hx hr =>
  (V.rep_ren (m := m) (m' := ⟨fun n => if n < H1.length then m.ρ n else none, m.I, m.w⟩) (θ := id) rfl rfl hρ x v hx).1 (by rw [V.ren_id]; exact hr)
 have hreps : ∀ (l : List V) (vs : List Value), V.lowl H1.length l = true → V.reps m l vs → V.reps ⟨fun n => if n < H1.length then m.ρ n else none, m.I, m.w⟩ l vs := fun l vs hx hr =>
  (V.reps_ren (m := m) (m' := ⟨fun n => if n < H1.length then m.ρ n else none, m.I, m.w⟩) (θ := id) rfl rfl hρ l vs hx).1 (by rw [V.rens_id]; exact hr)
 have hlt : ∀ n, live H1 n → n < H1.length := fun n hn => by
  rcases Nat.lt_or_ge n H1.length with h | h
  ·exact h
  ·rw [live, List.getD_eq_getElem?_getD, List.getElem?_eq_none h] at hn; cases hn
 have hll : ∀ n, live H1 n → live H n := fun n hn => by
  obtain ⟨ob1, h1⟩ := Option.isSome_iff_exists.1 hn
  obtain ⟨ob, h2, _⟩ := hw.obs n ob1 h1
  rw [live, h2]; rfl
 refine ⟨⟨fun n => if n < H1.length then m.ρ n else none, m.I, m.w⟩, rfl, ⟨⟨sat.base.imm, fun n b hb => ?_, sat.base.tabs.mono (fun _ h => h) (fun _ _ => rfl)⟩, fun s => hrep _ _ (hw.slots s).2 ((hw.slots s).1 m _ (sat.slots s)), fun n ob1 h1 => ?_, fun n k b ln lk h1 h2 => ?_, fun n hn => by simp [show ¬ n < H1.length by omega], by rw [hw.lenT]; exact sat.size, sat.defers⟩, ?_, hL1⟩
 ·simp only at hb
  split at hb
  ·exact sat.base.dom n b hb
  ·cases hb
 ·obtain ⟨ob, h2, h3, h4, h5⟩ := hw.obs n ob1 h1
  obtain ⟨b, vs, more, k1, k2, k3, k4, k5⟩ := sat.obj n ob h2
  have hn := hlt n (by rw [live, h1]; rfl)
  exact ⟨b, vs, more, by simp [hn, k1], by rw [← h3]; exact k2, k3, hreps _ _ h5 (h4 m vs k4), k5⟩
 ·simp only [hlt n ln, hlt k lk, if_true] at h1 h2
  exact sat.inj n k b (hll n ln) (hll k lk) h1 h2
 ·refine ⟨fun n b hb => ?_, hle.I, hle.os, hle.tape, hle.output, hle.size, hle.block, hle.shape, hle.imm, hle.newI, fun n b hb => ?_⟩
  ·have hn : n < L := by
    rcases Nat.lt_or_ge n L with h | h
    ·exact h
    ·rw [htop n h] at hb; cases hb
   simp [show n < H1.length by omega, hle.ρ n b hb]
  ·simp only at hb
   split at hb
   ·exact hle.newρ n b hb
   ·cases hb

theorem AW.weak {c : C} {T1 : List V} {H1 : List (Option Ob)} (hw : Weak T H T1 H1) (hL1 : L ≤ H1.length) (h : AW P L c Q T1 H1) : AW P L c Q T H := by
 intro code hc m0 m a sat hle htop hL
 obtain ⟨m1, e, s1, l1, n1⟩ := Sat.weaken hw sat hle htop hL1
 have := h code hc m0 m1 a s1 l1 htop n1
 rw [e] at this
 exact this

theorem o_3x (n s : Nat) (ds : List D) : ∀ l : List V, V.frzs n s ds l = l.map (V.frz n s ds)
 | [] => rfl
 | x :: l => by simp [V.frzs, o_3x n s ds l]


theorem AW.freeze {c : C} (n s : Nat) (ob : Ob) (ds : List D) (hn : H.getD n none = some ob) (hd : ob.c = ds.map .d) (h : AW P L c Q (T.map (V.frz n s ds)) (frzH n s ds H)) : AW P L c Q T H := by
 intro code hc m0 m a sat hle htop hL
 obtain ⟨b, vs, more, h1, h2, h3, h4, h5⟩ := sat.obj n ob hn
 have hI : ∀ k, m.I k → (⟨m.ρ, fun k => m.I k ∨ k = b, m.w⟩ : Mem).I k := fun k hk => .inl hk
 have hlt := sat.base.dom n b h1
 rw [hd, V.reps_map_d] at h4
 have hr : D.reps (fun k => m.I k ∨ k = b) m.w ds vs := D.reps_mono hI (fun _ _ => rfl) ds vs h4
 have hcell : ∀ i u, vs[i]? = some u → m.w.cell? ⟨b, i, none⟩ = some u := fun i u hu => o_5 h2 hu
 have frz := fun x v => V.frz_rep (m := m) (m1 := ⟨m.ρ, fun k => m.I k ∨ k = b, m.w⟩) (n := n) (s := s) (b := b) (ds := ds) (vs := vs) ⟨rfl, rfl, hI, h1, .inr rfl, h3, hr, hcell⟩ x v
 have frzs := fun l us => V.frzs_rep (m := m) (m1 := ⟨m.ρ, fun k => m.I k ∨ k = b, m.w⟩) (n := n) (s := s) (b := b) (ds := ds) (vs := vs) ⟨rfl, rfl, hI, h1, .inr rfl, h3, hr, hcell⟩ l us
 have hget : ∀ k, (frzH n s ds H).getD k none = if k = n then none else (H.getD k none).map fun ob => ⟨ob.T, V.frzs n s ds ob.c⟩ := fun k => by
  unfold frzH
  rw [o_l]
  by_cases e : k = n
  ·subst e
   by_cases hk : k < H.length
   ·simp [hk]
   ·simp [hk]
  ·simp only [e, false_and, if_false]
   rw [List.getD_eq_getElem?_getD, List.getD_eq_getElem?_getD, List.getElem?_map]
   cases H[k]? <;> rfl
 have hll : ∀ k, live (frzH n s ds H) k → k ≠ n ∧ live H k := fun k hk => by
  rw [live, hget] at hk
  split at hk
  ·cases hk
  ·refine ⟨‹_›, ?_⟩
   rw [live]
   simpa using hk
 refine h code hc m0 ⟨m.ρ, fun k => m.I k ∨ k = b, m.w⟩ a ⟨⟨fun k hk => ?_, sat.base.dom, sat.base.tabs.mono (fun _ h => .inl h) (fun _ _ => rfl)⟩, fun i => ?_, fun k ob1 hk => ?_, fun k j b' lk lj e1 e2 => sat.inj k j b' (hll k lk).2 (hll j lj).2 e1 e2, fun k hk => sat.top k (by simpa [frzH] using hk), by simpa using sat.size, sat.defers⟩ ?_ htop (by simpa [frzH] using hL)
 ·rcases hk with hk | rfl
  ·exact sat.base.imm k hk
  ·exact hlt
 ·rw [List.getD_eq_getElem?_getD, List.getElem?_map]
  have := sat.slots i
  rw [List.getD_eq_getElem?_getD] at this
  cases ht : T[i]? with
  | none => simp only [Option.map_none, Option.getD_none]; unfold V.rep; trivial
  | some x => rw [ht] at this; exact frz x _ this
 ·have hkl := hll k (by rw [live, hk]; rfl)
  rw [hget, if_neg hkl.1] at hk
  simp only [Option.map_eq_some_iff] at hk
  obtain ⟨ob0, hk0, rfl⟩ := hk
  obtain ⟨b', us, more', k1, k2, k3, k4, k5⟩ := sat.obj k ob0 hk0
  refine ⟨b', us, more', k1, k2, k3, frzs _ _ k4, ?_⟩
  rintro (hk' | rfl)
  ·exact k5 hk'
  ·exact hkl.1 (sat.inj k n b' hkl.2 (by rw [live, hn]; rfl) k1 h1)
 ·refine ⟨hle.ρ, fun k hk => .inl (hle.I k hk), hle.os, hle.tape, hle.output, hle.size, hle.block, hle.shape, hle.imm, fun k hk => ?_, hle.newρ⟩
  rcases hk with hk | rfl
  ·exact hle.newI k hk
  ·rcases hle.newρ n k h1 with h6 | h6 | ⟨j, h6, h7⟩
   ·have : n < L := by
     rcases Nat.lt_or_ge n L with h | h
     ·exact h
     ·rw [htop n h] at h6; cases h6
    exact .inr (.inr ⟨n, this, h6⟩)
   ·exact .inr (.inl h6)
   ·exact .inr (.inr ⟨j, h6, h7⟩)
end
end
end Go.Proofs.YtdklbnemfelpnaaGreatDoor.Am
namespace Go.Proofs.YtdklbnemfelpnaaGreatDoor.Am
section
open Go.RowKit
inductive RV where
 | t (n : Nat)
 | cell (n : Nat) (g : Bool) (s : Nat)
 | bad
 deriving Inhabited

def resolveR (P : Program) : ResultVar → RV
 | .tmp t => .t t
 | .cell a t => match aggB P t, P.info? t with
  | some g, some i => .cell a g i.size
  | _, _ => .bad

def RV.out (T : List V) (H : List (Option Ob)) : RV → Option V
 | .t n => some (T.getD n .junk)
 | .cell n g s => match T.getD n .junk with
  | .p k off => match H.getD k none with
   | some ob => if g then (if off + s ≤ ob.c.length then some (mkAgg ((ob.c.drop off).take s)) else none) else (if off < ob.c.length then some (ob.c.getD off .junk) else none)
   | none => none
  | _ => none
 | .bad => none
def outs (T : List V) (H : List (Option Ob)) : List RV → Option (List V)
 | [] => some []
 | r :: l => match r.out T H, outs T H l with
  | some x, some xs => some (x :: xs)
  | _, _ => none
def outV (T : List V) (H : List (Option Ob)) (l : List RV) : Option V := match outs T H l with
 | some [x] => some x
 | some l => some (.tup l)
 | none => none

def resRun (tmps : Array Value) : ResultVar → Sem Value
 | .tmp k => pure (tmps.getD k undef)
 | .cell k ty => do loadVar ty (← asAddr (tmps.getD k undef))
theorem o_3y (fn : Func) (tmps : Array Value) : results fn tmps = (do
  let vs ← fn.results.mapM (resRun tmps)
  pure (if h : vs.size = 1 then vs[0] else .tuple vs)) := by
 unfold results
 congr 1

section
variable {P : Program} {m : Mem} {a : Act} {T : List V} {H : List (Option Ob)}

theorem o_3z (sat : Sat m a T H) (r : ResultVar) (x : V) (h : (resolveR P r).out T H = some x) : ∃ v, (resRun a.tmps r).run P m.w = .ok v m.w ∧ x.rep m v := by
 cases r with
 | tmp k => simp only [resolveR, RV.out, Option.some.injEq] at h; subst h; exact ⟨_, rfl, sat.slots k⟩
 | cell k ty =>
  simp only [resolveR] at h
  cases hg : aggB P ty with
  | none => simp [hg, RV.out] at h
  | some g =>
   cases hi : P.info? ty with
   | none => simp [hg, hi, RV.out] at h
   | some i =>
    simp only [hg, hi, RV.out] at h
    split at h
    ·rename_i n off hT
     split at h
     ·rename_i ob hn
      obtain ⟨b, vs, more, h1, h2, h3, h4, h5⟩ := sat.obj n ob hn
      have hv := sat.slots k
      rw [hT] at hv
      unfold V.rep at hv
      obtain ⟨b', hb', hv⟩ := hv
      rw [h1] at hb'; cases hb'
      have hlen := V.reps_len h4
      have hld : ∀ v, (Instr.loadAt ty (.pointer (some ⟨b, off, none⟩))).run P m.w = .ok v m.w → (resRun a.tmps (.cell k ty)).run P m.w = .ok v m.w := fun v hr => by
       simpa [resRun, hv, Instr.loadAt, Instr.sureAddr, asAddr] using hr
      cases g
      ·simp only [Bool.false_eq_true, if_false] at h
       split at h
       ·rename_i hl
        cases h
        obtain ⟨u, hu, hr⟩ := V.reps_get h4 off ob.c[off] (by simp [hl])
        have := (o_f (m := m) hg hi b off (vs.drop off) fun j u hu => o_5 h2 (by rwa [List.getElem?_drop] at hu)).2 rfl u (by rw [List.getElem?_drop]; exact hu)
        exact ⟨u, hld u this, by simpa [List.getD, hl] using hr⟩
       ·cases h
      ·simp only [if_true] at h
       split at h
       ·rename_i hl
        cases h
        have := (o_f (m := m) hg hi b off ((vs.drop off).take i.size) fun j u hu => o_5 h2 (o_g hu)).1 rfl (by simp; omega)
        exact ⟨_, hld _ this, o_1 (V.reps_take (V.reps_drop h4 off) i.size) fun u hu => h3 u (List.mem_of_mem_drop (List.mem_of_mem_take hu))⟩
       ·cases h
     ·cases h
    ·cases h

theorem o_40 (sat : Sat m a T H) : ∀ (rs : List ResultVar) (xs : List V), outs T H (rs.map (resolveR P)) = some xs →
  ∃ vs : List Value, (rs.mapM (resRun a.tmps)).run P m.w = .ok vs m.w ∧ V.reps m xs vs
 | [], xs, h => by simp only [List.map_nil, outs, Option.some.injEq] at h; subst h; exact ⟨[], by simp, by simp⟩
 | r :: rs, xs, h => by
  simp only [List.map_cons, outs] at h
  split at h
  ·rename_i x xs' hx hxs
   cases h
   obtain ⟨v, h1, h2⟩ := o_3z sat r x hx
   obtain ⟨vs, h3, h4⟩ := o_40 sat rs xs' hxs
   exact ⟨v :: vs, by rw [List.mapM_cons]; simp only [Sem.run_bind, h1, Result.andThen_ok, h3, Sem.run_pure], V.reps_cons.2 ⟨h2, h4⟩⟩
  ·cases h

theorem o_41 (sat : Sat m a T H) (fn : Func) (x : V) (h : outV T H (fn.results.toList.map (resolveR P)) = some x) : ∃ v, (results fn a.tmps).run P m.w = .ok v m.w ∧ x.rep m v := by
 have key : ∀ vs : List Value, (fn.results.toList.mapM (resRun a.tmps)).run P m.w = .ok vs m.w → (results fn a.tmps).run P m.w = .ok (if h : vs.toArray.size = 1 then vs.toArray[0] else .tuple vs.toArray) m.w := by
  intro vs h
  rw [o_3y, Array.mapM_eq_mapM_toList]
  simp only [Sem.run_bind, Sem.run_map, h, Result.andThen_ok, Sem.run_pure]
 unfold outV at h
 split at h
 ·rename_i y hy
  cases h
  obtain ⟨vs, h1, h2⟩ := o_40 sat _ _ hy
  obtain ⟨v, r, rfl, h3, h4⟩ := V.reps_cons'.1 h2
  simp at h4; subst h4
  exact ⟨v, by rw [key _ h1]; rfl, h3⟩
 ·rename_i l hl hne
  cases h
  obtain ⟨vs, h1, h2⟩ := o_40 sat _ _ hne
  refine ⟨.tuple vs.toArray, ?_, by unfold V.rep; exact ⟨vs, rfl, h2⟩⟩
  have hlen : ¬ vs.toArray.size = 1 := by
   intro e
   have hlv := V.reps_len h2
   simp at e
   rw [e] at hlv
   match l, hlv with
   | [y], _ => exact hl y rfl
  rw [key _ h1, dif_neg hlen]
 ·cases h
end

def apartN (θ dead : List Nat) : Prop := ∀ i j, i ∉ dead → j ∉ dead → i < θ.length → j < θ.length → θ.getD i 0 = θ.getD j 0 → i = j
theorem apartN.of {θ dead : List Nat} (h : θ.Nodup) : apartN θ dead := fun i j _ _ hi hj he => by
 have e1 : θ[i] = θ[j] := by simpa [List.getD, hi, hj] using he
 exact (List.getElem_inj h).1 e1

def retQ (rs : List RV) (k : Nat) (X : V) (Hs' : List Ob) (dead : List Nat) : Exit → List V → List (Option Ob) → Prop
 | .normal, T, H | .ret, T, H => ∃ θ : List Nat, θ.length = Hs'.length ∧ (∀ i, i < k → θ.getD i 0 = i) ∧ apartN θ dead ∧ (∃ x, outV T H rs = some x ∧ Sub1 x (X.ren fun i => θ.getD i 0)) ∧
   ∀ i ob, i ∉ dead → Hs'[i]? = some ob → ∃ ob1, H.getD (θ.getD i 0) none = some ob1 ∧ ob1.T = ob.T ∧ Subs ob1.c (V.rens (fun i => θ.getD i 0) ob.c)
 | _, _, _ => False

theorem Eqn.of_AW {P : Program} {f : FuncId} {fn : Func} {code : Code} {c : C} {rs : List RV} {nt : Nat} {args : List V} {Hs : List Ob} {X : V} {Hs' : List Ob} {dead : List Nat} (hf : P.funcs[f]? = some fn) (hname : (fn.name == "runtime.NumGoroutine") = false)
  (hb : fn.body = some code) (hc : resolveC P code = c) (hr : fn.results.toList.map (resolveR P) = rs) (hn : fn.ntmps = nt) (hlen : Hs.length ≤ Hs'.length) (hold : ∀ n ∈ dead, n < Hs.length) (lowx : X.low Hs'.length = true) (lowo : ∀ ob ∈ Hs', V.lowl Hs'.length ob.c = true)
  (h : AW P Hs.length c (retQ rs Hs.length X Hs' dead) (args ++ List.replicate (nt - args.length) .junk) (Hs.map some)) : EqnD P f args Hs X Hs' dead := by
 refine ⟨hlen, hold, lowx, lowo, fun m vs mb hargs hobj hinj htop => .inr ⟨?_, ?_⟩⟩
 ·have h1 : ¬ fn.name = "runtime.NumGoroutine" := by simpa using hname
  simp [callFunc, hf, h1, hb]
 ·refine calls_of_wp hf hb ?_
  have hget : ∀ n, (Hs.map some).getD n none = Hs[n]? := fun n => by
   rw [List.getD_eq_getElem?_getD, List.getElem?_map]; cases Hs[n]? <;> rfl
  have hal := V.reps_len hargs
  have sat : Sat m { tmps := vs.toArray ++ Array.replicate (fn.ntmps - vs.toArray.size) undef, defers := [] } (args ++ List.replicate (nt - args.length) .junk) (Hs.map some) := by
   refine ⟨mb, fun s => ?_, fun n ob ho => hobj n ob (by rw [← hget]; exact ho), fun n k b ln lk h1 h2 => ?_, fun n hn' => htop n (by simpa using hn'), ?_, rfl⟩
   ·rcases Nat.lt_or_ge s args.length with hs | hs
    ·obtain ⟨v, h1, h2⟩ := V.reps_get hargs s args[s] (by simp [hs])
     have e1 : (args ++ List.replicate (nt - args.length) V.junk).getD s .junk = args[s] := by simp [List.getD, List.getElem?_append_left hs, hs]
     have e2 : (vs.toArray ++ Array.replicate (fn.ntmps - vs.toArray.size) undef).getD s undef = v := by
      rw [Array.getD_eq_getD_getElem?, Array.getElem?_append_left (by simpa using (by omega : s < vs.length))]
      simp [h1]
     rw [e1, e2]; exact h2
    ·have e1 : (args ++ List.replicate (nt - args.length) V.junk).getD s .junk = .junk := by
      rw [List.getD_eq_getElem?_getD, List.getElem?_append_right hs, List.getElem?_replicate]
      split <;> rfl
     rw [e1]; unfold V.rep; trivial
   ·have l1 : ∀ n, live (Hs.map some) n → n < Hs.length := fun n hn' => by
     rcases Nat.lt_or_ge n Hs.length with h | h
     ·exact h
     ·rw [live, hget, List.getElem?_eq_none h] at hn'; cases hn'
    exact hinj n k b (l1 n ln) (l1 k lk) h1 h2
   ·simp [hal, hn]
  refine wp_mono (h code hc m m _ sat (Mem.le.refl _ _) htop (by simp)) ?_
  rintro e a' w' ⟨T', H', m1, rfl, hq, sat', hle, hL⟩
  have fin : retQ rs Hs.length X Hs' dead .ret T' H' → a'.defers = [] ∧ ∃ v, (results fn a'.tmps).run P m1.w = .ok v m1.w ∧ ∃ v' m', m'.w = m1.w ∧ Ending.returned v = .returned v' ∧ EndOK m Hs.length X Hs' dead v' m' := by
   rintro ⟨θ, t1, t2, t3, ⟨x, hx, hsub⟩, hobs⟩
   obtain ⟨v, h1, h2⟩ := o_41 (P := P) sat' fn x (by rw [hr]; exact hx)
   have hρ : ∀ n, n < Hs'.length → (⟨fun i => if i < Hs'.length then m1.ρ (θ.getD i 0) else none, m1.I, m1.w⟩ : Mem).ρ n = m1.ρ (θ.getD n 0) := fun n hn' => by simp [hn']
   refine ⟨sat'.defers, v, h1, v, ⟨fun i => if i < Hs'.length then m1.ρ (θ.getD i 0) else none, m1.I, m1.w⟩, rfl, rfl, ⟨sat'.base.imm, fun n b hb' => ?_, sat'.base.tabs.mono (fun _ h => h) (fun _ _ => rfl)⟩, ?_, ?_, fun n ob hdd hob => ?_, fun n i b hnd hid hn' hi' h3 h4 => ?_, fun n hn' => by simp [show ¬ n < Hs'.length by omega], fun n b hn' hb' => ?_⟩
   ·simp only at hb'
    split at hb'
    ·exact sat'.base.dom _ b hb'
    ·cases hb'
   ·refine ⟨fun n b hb' => ?_, hle.I, hle.os, hle.tape, hle.output, hle.size, hle.block, hle.shape, hle.imm, hle.newI, fun n b hb' => ?_⟩
    ·have hn' : n < Hs.length := by
      rcases Nat.lt_or_ge n Hs.length with h | h
      ·exact h
      ·rw [htop n h] at hb'; cases hb'
     simp only [show n < Hs'.length by omega, if_true, t2 n hn']
     exact hle.ρ n b hb'
    ·simp only at hb'
     split at hb'
     ·rcases Nat.lt_or_ge n Hs.length with hlt | hge
      ·rw [t2 n hlt] at hb'; exact hle.newρ n b hb'
      ·rcases hle.newρ _ b hb' with h3 | h3
       ·have hk : θ.getD n 0 < Hs.length := by
         rcases Nat.lt_or_ge (θ.getD n 0) Hs.length with h | h
         ·exact h
         ·rw [htop _ h] at h3; cases h3
        exact .inr (.inr ⟨_, hk, h3⟩)
       ·exact .inr h3
     ·cases hb'
   ·exact (V.rep_ren (m := m1) (m' := ⟨fun i => if i < Hs'.length then m1.ρ (θ.getD i 0) else none, m1.I, m1.w⟩) (θ := fun i => θ.getD i 0) rfl rfl hρ X v lowx).1 (hsub m1 v h2)
   ·obtain ⟨ob1, k1, k2, k3⟩ := hobs n ob hdd hob
    obtain ⟨b, us, more, l1, l2, l3, l4, l5⟩ := sat'.obj _ ob1 k1
    have hn' : n < Hs'.length := by
     rcases Nat.lt_or_ge n Hs'.length with h | h
     ·exact h
     ·rw [List.getElem?_eq_none h] at hob; cases hob
    refine ⟨b, us, more, by simp only [hn', if_true]; exact l1, by rw [← k2]; exact l2, l3, ?_, l5⟩
    exact (V.reps_ren (m := m1) (m' := ⟨fun i => if i < Hs'.length then m1.ρ (θ.getD i 0) else none, m1.I, m1.w⟩) (θ := fun i => θ.getD i 0) rfl rfl hρ ob.c us (lowo ob (List.mem_of_getElem? hob))).1 (k3 m1 us l4)
   ·simp only [hn', hi', if_true] at h3 h4
    have lv : ∀ j, j ∉ dead → j < Hs'.length → live H' (θ.getD j 0) := fun j hjd hj => by
     obtain ⟨ob1, k1, _⟩ := hobs j Hs'[j] hjd (by simp [hj])
     rw [live, k1]; rfl
    have := sat'.inj _ _ b (lv n hnd hn') (lv i hid hi') h3 h4
    exact t3 n i hnd hid (by omega) (by omega) this
   ·simp only at hb'
    split at hb'
    ·rename_i hnl
     rcases hle.newρ _ b hb' with h3 | h3 | ⟨k, h3, h4⟩
     ·have hk : θ.getD n 0 < Hs.length := by
       rcases Nat.lt_or_ge (θ.getD n 0) Hs.length with h | h
       ·exact h
       ·rw [htop _ h] at h3; cases h3
      by_cases hkd : θ.getD n 0 ∈ dead
      ·exact .inr ⟨_, hk, hkd, h3⟩
      exfalso
      have e0 := t2 _ hk
      have := t3 _ _ hkd (fun hd => by have := hold n hd; omega) (by omega) (by omega) e0
      omega
     ·exact .inl h3
     ·by_cases hkd : k ∈ dead
      ·exact .inr ⟨k, h3, hkd, h4⟩
      exfalso
      have lk : live H' k := by
       obtain ⟨ob1, k1, _⟩ := hobs k Hs'[k] hkd (by simp [show k < Hs'.length by omega])
       rw [t2 k h3] at k1
       rw [live, k1]; rfl
      have ln : live H' (θ.getD n 0) := by
       obtain ⟨ob1, k1, _⟩ := hobs n Hs'[n] (fun hd => by have := hold n hd; omega) (by simp [hnl])
       rw [live, k1]; rfl
      have hkk := sat'.inj _ _ b ln lk hb' (hle.ρ k b h4)
      have := t3 n k (fun hd => by have := hold n hd; omega) hkd (by omega) (by omega) (by rw [hkk, t2 k h3])
      omega
    ·cases hb'
  cases e with
  | normal => exact fin hq
  | ret => exact fin hq
  | _ => exact hq.elim

def fnOf (P : Program) (f : FuncId) : Option (C × List RV × Nat × Bool) := match P.funcs[f]? with
 | some fn => match fn.body with
  | some b => some (resolveC P b, fn.results.toList.map (resolveR P), fn.ntmps, fn.name == "runtime.NumGoroutine")
  | none => none
 | none => none

theorem Eqn.of_fn {P : Program} {f : FuncId} {c : C} {rs : List RV} {nt : Nat} {args : List V} {Hs : List Ob} {X : V} {Hs' : List Ob} {dead : List Nat} (hf : fnOf P f = some (c, rs, nt, false)) (hlen : Hs.length ≤ Hs'.length) (hold : ∀ n ∈ dead, n < Hs.length) (lowx : X.low Hs'.length = true) (lowo : ∀ ob ∈ Hs', V.lowl Hs'.length ob.c = true)
  (h : AW P Hs.length c (retQ rs Hs.length X Hs' dead) (args ++ List.replicate (nt - args.length) .junk) (Hs.map some)) : EqnD P f args Hs X Hs' dead := by
 unfold fnOf at hf
 split at hf
 ·rename_i fn hfn
  split at hf
  ·rename_i b hb
   simp only [Option.some.injEq, Prod.mk.injEq] at hf
   obtain ⟨h1, h2, h3, h4⟩ := hf
   exact Eqn.of_AW hfn h4 hb h1 h2 h3 hlen hold lowx lowo h
  ·cases hf
 ·cases hf

def retP (rs : List RV) (X : V) : Exit → List V → List (Option Ob) → Prop
 | .normal, T, H | .ret, T, H => ∃ x, outV T H rs = some x ∧ Sub1 x X
 | _, _, _ => False
abbrev V.plain (x : V) : Prop := x.low 0 = true ∧ ∀ θ, x.ren θ = x

theorem Eqn.pure {P : Program} {f : FuncId} {c : C} {rs : List RV} {nt : Nat} {args : List V} {X : V} (hf : fnOf P f = some (c, rs, nt, false)) (hX : X.plain)
  (h : AW P 0 c (retP rs X) (args ++ List.replicate (nt - args.length) .junk) []) : Eqn P f args [] X [] := by
 refine Eqn.of_fn hf (Nat.le_refl _) (by simp) hX.1 (by simp) ?_
 intro code hc m0 m a sat hle htop hL
 refine wp_mono (h code hc m0 m a sat hle htop hL) ?_
 rintro e a' w' ⟨T', H', m', rfl, hq, rest⟩
 refine ⟨T', H', m', rfl, ?_, rest⟩
 cases e <;> first
  | exact hq.elim
  | (obtain ⟨x, h1, h2⟩ := hq; exact ⟨[], rfl, by simp, .of (by simp), ⟨x, h1, by rw [hX.2]; exact h2⟩, by simp⟩)

theorem CallS.pure {P : Program} {f : FuncId} {args argsC : List V} {H : List (Option Ob)} {K : V → List (Option Ob) → List Nat → List Nat → Prop} {X : V} (E : Eqn P f argsC [] X []) (hX : X.plain) (hl : V.lowl 0 argsC = true) (hr : ∀ θ, V.rens θ argsC = argsC) (hs : Subs args argsC) (h : K X H [] []) : CallS P f args H K := by
 refine .inl ⟨[], argsC, [], X, [], [], E, rfl, by simp, by simp, by simp, hl, by rw [hr]; exact hs, ?_⟩
 simpa [hX.2, putAll, killAll] using h

theorem CallS.pureF {P : Program} {f : FuncId} {args argsC : List V} {H : List (Option Ob)} {K : V → List (Option Ob) → List Nat → List Nat → Prop} {X : V} (n s : Nat) (ob : Ob) (ds : List D) (E : Eqn P f argsC [] X []) (hX : X.plain) (hl : V.lowl 0 argsC = true) (hr : ∀ θ, V.rens θ argsC = argsC) (hn : H.getD n none = some ob) (hd : ob.c = ds.map V.d) (hs : Subs (V.frzs n s ds args) argsC) (h : K X (H.set n none) [] [n]) : CallS P f args H K := by
 refine .inr (.inl ⟨n, s, ob, ds, hn, hd, [], argsC, [], X, [], [], E, rfl, by simp, by simp, by simp, hl, by rw [hr]; exact hs, ?_⟩)
 simpa [hX.2, putAll, killAll] using h

attribute [simp] srcV eqK eqKs X.ev thenQ blockQ V.cells? D.cells putT mkAgg V.toDs setMany fillV intOf? repl bnd hiOf sliceS lenV minmaxI minmaxR RV.out outs outV retP V.ren V.rens V.low V.lowl  V.frz V.frzs frzH putAll killAll nameOf

theorem o_42 (x : D) : (V.d x).plain := ⟨by simp [V.low], fun θ => by simp [V.ren]⟩
end
end Go.Proofs.YtdklbnemfelpnaaGreatDoor.Am
namespace Go.Proofs.YtdklbnemfelpnaaGreatDoor.Am
section
open Go.RowKit
@[simp] theorem o_43 (q : Prop) : need True q ↔ q := by simp [need]
@[simp] theorem o_44 (x : V) : Sub1 x x ↔ True := ⟨fun _ => trivial, fun _ => Sub1.refl x⟩
@[simp] theorem o_45 (x : List V) : Subs x x ↔ True := ⟨fun _ => trivial, fun _ => Subs.refl x⟩
theorem Sub1.of {x y : V} (h : x = y) : Sub1 x y := h ▸ Sub1.refl x
theorem Sub1.int {k : IntKind} {a b : Int} (h : a = b) : Sub1 (.d (.int k a)) (.d (.int k b)) := h ▸ Sub1.refl _
theorem Sub1.bool {a b : Bool} (h : a = b) : Sub1 (.d (.bool a)) (.d (.bool b)) := h ▸ Sub1.refl _
theorem Sub1.nil : Sub1 (.d .nilsl) (.d (.sl 0 [])) := fun m v h => by
 rw [V.rep_d] at h ⊢
 unfold D.rep at h ⊢
 subst h
 exact ⟨none, 0, rfl, Nat.le_refl _, by unfold maxLen; omega, [], by simp, by simp, .inl ⟨rfl, rfl, rfl⟩⟩
theorem Sub1.sle : Sub1 (.d .sle) (.d (.sl 0 [])) := fun m v h => by
 rw [V.rep_d] at h ⊢
 unfold D.rep at h ⊢
 obtain ⟨b, o, cap, rfl, h⟩ := h
 exact ⟨_, cap, rfl, Nat.zero_le _, h, [], by simp, by simp, .inr ⟨b, o, rfl, .inl rfl, by simp⟩⟩

theorem Sub1.sl0 : Sub1 (.d .sl0) (.d (.sl 0 [])) := fun m v h => by
 rw [V.rep_d] at h ⊢
 unfold D.rep at h ⊢
 obtain ⟨p, rfl, hp⟩ := h
 refine ⟨p, 0, rfl, Nat.le_refl _, by unfold maxLen; omega, [], by simp, by simp, ?_⟩
 cases p with
 | none => exact .inl ⟨rfl, rfl, rfl⟩
 | some a =>
  have := hp a rfl
  obtain ⟨b, o, s⟩ := a
  simp only at this
  subst this
  exact .inr ⟨b, o, rfl, .inl rfl, by simp⟩

theorem AW.empty {P : Program} {L : Nat} {Q : Exit → List V → List (Option Ob) → Prop} {T : List V} {H : List (Option Ob)} {c : C} (s : Nat) (h0 : T.getD s .junk = .d (.sl 0 [])) (h1 : AW P L c Q (T.set s (.d .nilsl)) H) (h2 : AW P L c Q (T.set s (.d .sle)) H) : AW P L c Q T H := by
 intro code hc m0 m a sat hle htop hL
 have hv := sat.slots s
 rw [h0, V.rep_d] at hv
 unfold D.rep at hv
 obtain ⟨p, cap, hv, _, hcap, vs, _, h3, h4⟩ := hv
 have put : ∀ x : V, x.rep m (a.tmps.getD s undef) → Sat m a (T.set s x) H := fun x hx => by
  refine ⟨sat.base, fun i => ?_, sat.obj, sat.inj, sat.top, by simpa using sat.size, sat.defers⟩
  rw [List.getD_eq_getElem?_getD, List.getElem?_set]
  split
  ·rename_i e
   subst e
   split
   ·exact hx
   ·unfold V.rep; trivial
  ·rw [← List.getD_eq_getElem?_getD]; exact sat.slots i
 rcases h4 with ⟨rfl, rfl, _⟩ | ⟨b, o, rfl, _⟩
 ·exact h1 code hc m0 m a (put _ (by rw [V.rep_d]; unfold D.rep; exact hv)) hle htop hL
 ·exact h2 code hc m0 m a (put _ (by rw [V.rep_d]; unfold D.rep; exact ⟨b, o, cap, hv, hcap⟩)) hle htop hL

def wk1 (n : Nat) (x : V) : V → Prop
 | .junk => True
 | y => Sub1 x y ∧ y.low n = true
def wk (n : Nat) : List V → List V → Prop
 | [], [] => True
 | x :: l, y :: r => wk1 n x y ∧ wk n l r
 | _, _ => False
def wkH (n : Nat) : List (Option Ob) → List (Option Ob) → Prop
 | _, [] => True
 | _ :: l, none :: r => wkH n l r
 | some ob :: l, some ob1 :: r => (ob.T = ob1.T ∧ Subs ob.c ob1.c ∧ V.lowl n ob1.c = true) ∧ wkH n l r
 | _, _ => False

theorem o_46 {n : Nat} {x y : V} (h : wk1 n x y) : Sub1 x y ∧ y.low n = true := by
 unfold wk1 at h
 split at h
 ·exact ⟨Sub1.junk x, by simp [V.low]⟩
 ·exact h
theorem o_47 {n : Nat} : ∀ {l r : List V}, wk n l r → r.length = l.length ∧ ∀ s, Sub1 (l.getD s .junk) (r.getD s .junk) ∧ (r.getD s .junk).low n = true
 | [], [], _ => ⟨rfl, fun s => by simp [V.low]⟩
 | x :: l, y :: r, h => by
  obtain ⟨h1, h2⟩ := o_47 h.2
  refine ⟨by simp [h1], fun s => ?_⟩
  cases s with
  | zero => exact o_46 h.1
  | succ s => exact h2 s
theorem o_48 {n : Nat} : ∀ {l r : List (Option Ob)}, wkH n l r → r.length ≤ l.length ∧ ∀ k ob1, r.getD k none = some ob1 → ∃ ob, l.getD k none = some ob ∧ ob.T = ob1.T ∧ Subs ob.c ob1.c ∧ V.lowl n ob1.c = true
 | _, [], _ => ⟨by simp, fun k ob1 h => by simp at h⟩
 | [], none :: r, h => h.elim
 | [], some _ :: r, h => h.elim
 | none :: l, some _ :: r, h => h.elim
 | x :: l, none :: r, h => by
  have h' : wkH n l r := by cases x <;> exact h
  obtain ⟨h1, h2⟩ := o_48 h'
  refine ⟨by simp [h1], fun k ob1 hk => ?_⟩
  cases k with
  | zero => simp at hk
  | succ k => exact h2 k ob1 hk
 | some ob :: l, some ob1 :: r, h => by
  obtain ⟨h1, h2⟩ := o_48 h.2
  refine ⟨by simp [h1], fun k ob2 hk => ?_⟩
  cases k with
  | zero => simp at hk; subst hk; exact ⟨ob, rfl, h.1⟩
  | succ k => exact h2 k ob2 hk
theorem Weak.of {T T1 : List V} {H H1 : List (Option Ob)} (h : wk H1.length T T1) (h' : wkH H1.length H H1) : Weak T H T1 H1 :=
 ⟨(o_47 h).1, (o_48 h').1, (o_47 h).2, (o_48 h').2⟩

def C.dsts : C → List Nat
 | .seq a b => a.dsts ++ b.dsts
 | .cond _ a b => a.dsts ++ b.dsts
 | .block _ a => a.dsts
 | .loop a => a.dsts
 | .scope a => a.dsts
 | .reg _ ops => ops.filterMap (·.dst)
 | _ => []
def junkI (ks : List Nat) : Nat → List V → List V
 | _, [] => []
 | i, v :: r => (if ks.contains i then .junk else v) :: junkI ks (i + 1) r
def setS (T : List V) : List (Nat × V) → List V
 | [] => T
 | (k, v) :: r => setS (T.set k v) r

attribute [simp] wk wk1 wkH C.dsts junkI setS

section
variable {P : Program} {L : Nat} {Q : Exit → List V → List (Option Ob) → Prop} {T : List V} {H : List (Option Ob)}

theorem AW.loopW {x : C} {α : Type} (T1 : α → List V) (H1 : α → List (Option Ob)) (R : α → Prop) (μ : α → Nat) (N : Nat) (hlen : ∀ a, (H1 a).length = N) (hL : L ≤ N) (a0 : α) (hR : R a0) (h0 : wk N T (T1 a0)) (h0' : wkH N H (H1 a0))
  (h : ∀ a, R a → AW P L x (thenQ (fun T' H' => ∃ a', R a' ∧ μ a' < μ a ∧ wk N T' (T1 a') ∧ wkH N H' (H1 a')) Q) (T1 a) (H1 a)) : AW P L (.loop x) Q T H := by
 refine AW.weak (T1 := T1 a0) (H1 := H1 a0) (Weak.of (by rw [hlen]; exact h0) (by rw [hlen]; exact h0')) (by rw [hlen]; exact hL) ?_
 intro code hc m0 m a sat hle htop hL'
 cases code <;> simp [resolveC] at hc
 rename_i cx
 refine o_3w (fun k a w => ∃ z : α, ∃ m, m.w = w ∧ k = μ z ∧ R z ∧ Sat m a (T1 z) (H1 z) ∧ m0.le m (· < L) ∧ L ≤ (H1 z).length) ?_ (μ a0) a m.w ⟨a0, m, rfl, rfl, hR, sat, hle, hL'⟩
 rintro k a w ⟨z, m, rfl, rfl, hz, sat, hle, hL⟩
 refine wp_mono (h z hz cx hc m0 m a sat hle htop hL) ?_
 rintro e a' w' ⟨T', H', m', rfl, hq, sat', hle', hL'⟩
 cases e with
 | normal =>
  obtain ⟨z', hz', hμ, hw1, hw2⟩ := hq
  have hWk : Weak T' H' (T1 z') (H1 z') := Weak.of (by rw [hlen]; exact hw1) (by rw [hlen]; exact hw2)
  obtain ⟨m2, hm2, s2, l2, n2⟩ := Sat.weaken hWk sat' hle' htop (by rw [hlen]; omega)
  exact ⟨μ z', hμ, z', m2, hm2, rfl, hz', s2, l2, n2⟩
 | _ => exact ⟨T', H', m', rfl, hq, sat', hle', hL'⟩
end


def setH (H : List (Option Ob)) : List (Nat × Ob) → List (Option Ob)
 | [] => H
 | (k, o) :: r => setH (H.set k (some o)) r
attribute [simp] setH
theorem o_49 : ∀ (l : List (Nat × Ob)) (H : List (Option Ob)), (setH H l).length = H.length
 | [], _ => rfl
 | (k, o) :: r, H => by rw [setH, o_49 r]; simp

theorem AW.loopT {P : Program} {L : Nat} {Q : Exit → List V → List (Option Ob) → Prop} {T : List V} {H : List (Option Ob)} {x : C} {α : Type} (N : Nat) (f : α → List (Nat × V)) (g : α → List (Nat × Ob)) (R : α → Prop) (μ : α → Nat) (a0 : α) (hN : N ≤ H.length) (hL : L ≤ N) (hR : R a0)
  (h0 : wk N T (setS (junkI x.dsts 0 T) (f a0))) (h0' : wkH N H (setH (H.take N) (g a0)))
  (h : ∀ a, R a → AW P L x (thenQ (fun T' H' => ∃ a', R a' ∧ μ a' < μ a ∧ wk N T' (setS (junkI x.dsts 0 T) (f a')) ∧ wkH N H' (setH (H.take N) (g a'))) Q) (setS (junkI x.dsts 0 T) (f a)) (setH (H.take N) (g a))) : AW P L (.loop x) Q T H :=
 AW.loopW (fun a => setS (junkI x.dsts 0 T) (f a)) (fun a => setH (H.take N) (g a)) R μ N (fun a => by rw [o_49, List.length_take]; omega) hL a0 hR h0 h0' h

theorem AW.cut {P : Program} {L : Nat} {Q : Exit → List V → List (Option Ob) → Prop} {T : List V} {H : List (Option Ob)} {x y : C} (N : Nat) (f : List (Nat × V)) (g : List (Nat × Ob)) (hN : N ≤ H.length) (hL : L ≤ N)
  (h1 : AW P L x (thenQ (fun T' H' => wk N T' (setS (junkI x.dsts 0 T) f) ∧ wkH N H' (setH (H.take N) g)) Q) T H) (h2 : AW P L y Q (setS (junkI x.dsts 0 T) f) (setH (H.take N) g)) : AW P L (.seq x y) Q T H := by
 have hlen : (setH (H.take N) g).length = N := by rw [o_49, List.length_take]; omega
 refine AW.seq ?_
 intro code hc m0 m a sat hle htop hL'
 refine wp_mono (h1 code hc m0 m a sat hle htop hL') ?_
 rintro e a' w' ⟨T', H', m', rfl, hq, rest⟩
 refine ⟨T', H', m', rfl, ?_, rest⟩
 cases e with
 | normal =>
  obtain ⟨w1, w2⟩ := hq
  exact AW.weak (Weak.of (by rw [hlen]; exact w1) (by rw [hlen]; exact w2)) (by rw [hlen]; exact hL) h2
 | _ => exact hq

theorem Subs.of {l r : List V} (h : l = r) : Subs l r := h ▸ Subs.refl l

theorem Eqn.extern {P : Program} {f : FuncId} {fn : Func} {e : Array Value → Sem Value} {args : List V} {X : V} (hf : P.funcs[f]? = some fn) (hname : (fn.name == "runtime.NumGoroutine") = false) (hb : fn.body.isNone = true) (hn : Extern.findNext fn = none) (he : Extern.find fn = some e) (hX : X.low 0 = true)
  (h : ∀ (m : Mem) (vs : List Value), V.reps m args vs → ∃ v, (e vs.toArray).run P m.w = .ok v m.w ∧ X.rep m v) : Eqn P f args [] X [] := by
 refine ⟨Nat.le_refl _, by simp, hX, by simp, fun m vs mb hargs _ _ _ => .inl ?_⟩
 obtain ⟨v, h1, h2⟩ := h m vs hargs
 refine ⟨v, ?_, h2, rfl⟩
 rw [run_callFunc_extern hf hname hb hn he, h1]
 rfl

theorem w64 {x : Int} (h0 : -9223372036854775808 ≤ x) (h1 : x ≤ 9223372036854775807) : IntKind.i64.wrap x = x := by rw [IntKind.wrap_i64]; omega
theorem wu64 {x : Int} (h0 : 0 ≤ x) (h1 : x ≤ 18446744073709551615) : IntKind.u64.wrap x = x := by rw [IntKind.wrap_u64]; omega

def D.fits : D → Prop
 | .sl n _ => n ≤ 9223372036854775807
 | .agg l => fitsL l
 | _ => True
 where fitsL : List D → Prop
 | [] => True
 | x :: l => D.fits x ∧ fitsL l
end
end Go.Proofs.YtdklbnemfelpnaaGreatDoor.Am
namespace Go.Proofs.YtdklbnemfelpnaaGreatDoor.Am
section
open Go.RowKit
abbrev plainL (l : List V) : Prop := V.lowl 0 l = true ∧ ∀ θ, V.rens θ l = l
theorem o_4a (l : List D) : plainL (l.map .d) :=
 ⟨by induction l <;> simp_all [V.lowl, V.low], fun θ => by induction l <;> simp_all [V.rens, V.ren]⟩

mutual
theorem V.low_mono {n m : Nat} (h : n ≤ m) : ∀ x : V, x.low n = true → x.low m = true
 | .d _, k => by simp [V.low]
 | .junk, k => by simp [V.low]
 | .p a _, k => by simp [V.low] at k ⊢; omega
 | .row a _ _, k => by simp [V.low] at k ⊢; omega
 | .own a _ _, k => by simp [V.low] at k ⊢; omega
 | .agg l, k => by simp only [V.low] at k ⊢; exact V.lowl_mono h l k
 | .tup l, k => by simp only [V.low] at k ⊢; exact V.lowl_mono h l k
 | .fn _ l, k => by simp only [V.low] at k ⊢; exact V.lowl_mono h l k
theorem V.lowl_mono {n m : Nat} (h : n ≤ m) : ∀ l : List V, V.lowl n l = true → V.lowl m l = true
 | [], k => by simp [V.lowl]
 | x :: l, k => by
  simp only [V.lowl, Bool.and_eq_true] at k ⊢
  exact ⟨V.low_mono h x k.1, V.lowl_mono h l k.2⟩
end

def retO (rs : List RV) (X : V) (ob : Ob) : Exit → List V → List (Option Ob) → Prop
 | .normal, T, H | .ret, T, H => (∃ x, outV T H rs = some x ∧ Sub1 x X) ∧ ∃ ob1, H.getD 0 none = some ob1 ∧ ob1.T = ob.T ∧ Subs ob1.c ob.c
 | _, _, _ => False
attribute [simp] retO

theorem Eqn.obj1 {P : Program} {f : FuncId} {c : C} {rs : List RV} {nt : Nat} {args : List V} {X : V} {ob ob' : Ob} (hf : fnOf P f = some (c, rs, nt, false)) (hX : X.plain) (hO : plainL ob'.c)
  (h : AW P 1 c (retO rs X ob') (args ++ List.replicate (nt - args.length) .junk) [some ob]) : Eqn P f args [ob] X [ob'] := by
 refine Eqn.of_fn hf (Nat.le_refl _) (by simp) (V.low_mono (by simp) _ hX.1) (by simp; exact V.lowl_mono (by simp) _ hO.1) ?_
 intro code hc m0 m a sat hle htop hL
 refine wp_mono (h code hc m0 m a sat hle htop hL) ?_
 rintro e a' w' ⟨T', H', m', rfl, hq, rest⟩
 refine ⟨T', H', m', rfl, ?_, rest⟩
 cases e <;> first
  | exact hq.elim
  | (obtain ⟨⟨x, h1, h2⟩, ob1, h3, h4, h5⟩ := hq
     refine ⟨[0], rfl, fun i hi => by simp at hi; subst hi; rfl, .of (by simp), ⟨x, h1, by rw [hX.2]; exact h2⟩, fun i ob _ hi => ?_⟩
     cases i with
     | zero => simp at hi; subst hi; exact ⟨ob1, h3, h4, by rw [hO.2]; exact h5⟩
     | succ i => simp at hi)

def retN (rs : List RV) (ob : Ob) : Exit → List V → List (Option Ob) → Prop
 | .normal, T, H | .ret, T, H => ∃ n, outV T H rs = some (.p n 0) ∧ ∃ ob1, H.getD n none = some ob1 ∧ ob1.T = ob.T ∧ Subs ob1.c ob.c
 | _, _, _ => False
attribute [simp] retN

theorem Eqn.new1 {P : Program} {f : FuncId} {c : C} {rs : List RV} {nt : Nat} {args : List V} {ob' : Ob} (hf : fnOf P f = some (c, rs, nt, false)) (hO : plainL ob'.c)
  (h : AW P 0 c (retN rs ob') (args ++ List.replicate (nt - args.length) .junk) []) : Eqn P f args [] (.p 0 0) [ob'] := by
 refine Eqn.of_fn hf (Nat.zero_le _) (by simp) (by simp [V.low]) (by simp; exact V.lowl_mono (by simp) _ hO.1) ?_
 intro code hc m0 m a sat hle htop hL
 refine wp_mono (h code hc m0 m a sat hle htop hL) ?_
 rintro e a' w' ⟨T', H', m', rfl, hq, rest⟩
 refine ⟨T', H', m', rfl, ?_, rest⟩
 cases e <;> first
  | exact hq.elim
  | (obtain ⟨n, h1, ob1, h3, h4, h5⟩ := hq
     refine ⟨[n], rfl, fun i hi => by simp at hi, .of (by simp), ⟨_, h1, by simp [V.ren, Sub1.refl]⟩, fun i ob _ hi => ?_⟩
     cases i with
     | zero => simp at hi; subst hi; exact ⟨ob1, h3, h4, by rw [hO.2]; exact h5⟩
     | succ i => simp at hi)

theorem CallS.obj1 {P : Program} {f : FuncId} {args argsC : List V} {H : List (Option Ob)} {K : V → List (Option Ob) → List Nat → List Nat → Prop} {X : V} {ob ob' : Ob} (n : Nat) (E : Eqn P f argsC [ob] X [ob']) (hX : X.plain) (hO : plainL ob.c) (hO' : plainL ob'.c)
  (hl : V.lowl 1 argsC = true) (hn : H.getD n none = some ob) (hs : Subs args (V.rens (nameOf [n] H.length) argsC)) (h : K X (H.set n (some ob')) [] [n]) : CallS P f args H K := by
 have hlt : n < H.length := by
  rcases Nat.lt_or_ge n H.length with h | h
  ·exact h
  ·rw [List.getD_eq_getElem?_getD, List.getElem?_eq_none h] at hn; cases hn
 refine .inl ⟨[n], argsC, [ob], X, [ob'], [], E, rfl, by simp, by simp [hlt], fun i o hi => ?_, hl, hs, ?_⟩
 ·cases i with
  | zero => simp at hi; subst hi; exact ⟨V.lowl_mono (by simp) _ hO.1, by rw [hO.2]; exact hn⟩
  | succ i => simp at hi
 ·simpa [hX.2, hO'.2, putAll, killAll] using h

theorem CallS.new1 {P : Program} {f : FuncId} {args argsC : List V} {H : List (Option Ob)} {K : V → List (Option Ob) → List Nat → List Nat → Prop} {ob' : Ob} (E : Eqn P f argsC [] (.p 0 0) [ob']) (hO' : plainL ob'.c)
  (hl : V.lowl 0 argsC = true) (hr : ∀ θ, V.rens θ argsC = argsC) (hs : Subs args argsC) (h : K (.p H.length 0) (H ++ [some ob']) [] [H.length]) : CallS P f args H K := by
 refine .inl ⟨[], argsC, [], .p 0 0, [ob'], [], E, rfl, by simp, by simp, by simp, hl, by rw [hr]; exact hs, ?_⟩
 simpa [hO'.2, putAll, killAll, V.ren, nameOf] using h

def retX (rs : List RV) (X : V) (ob : Ob) : Exit → List V → List (Option Ob) → Prop
 | .normal, T, H | .ret, T, H => ∃ n, (∃ x, outV T H rs = some x ∧ Sub1 x (X.ren fun _ => n)) ∧ ∃ ob1, H.getD n none = some ob1 ∧ ob1.T = ob.T ∧ Subs ob1.c ob.c
 | _, _, _ => False
attribute [simp] retX

theorem Eqn.newX {P : Program} {f : FuncId} {c : C} {rs : List RV} {nt : Nat} {args : List V} {X : V} {ob' : Ob} (hf : fnOf P f = some (c, rs, nt, false)) (hX : X.low 1 = true) (hO : plainL ob'.c) (hr : ∀ n, X.ren (fun i => ([n] : List Nat).getD i 0) = X.ren fun _ => n)
  (h : AW P 0 c (retX rs X ob') (args ++ List.replicate (nt - args.length) .junk) []) : Eqn P f args [] X [ob'] := by
 refine Eqn.of_fn hf (Nat.zero_le _) (by simp) hX (by simp; exact V.lowl_mono (by simp) _ hO.1) ?_
 intro code hc m0 m a sat hle htop hL
 refine wp_mono (h code hc m0 m a sat hle htop hL) ?_
 rintro e a' w' ⟨T', H', m', rfl, hq, rest⟩
 refine ⟨T', H', m', rfl, ?_, rest⟩
 cases e <;> first
  | exact hq.elim
  | (obtain ⟨n, ⟨x, h1, h2⟩, ob1, h3, h4, h5⟩ := hq
     refine ⟨[n], rfl, fun i hi => by simp at hi, .of (by simp), ⟨_, h1, by rw [hr]; exact h2⟩, fun i ob _ hi => ?_⟩
     cases i with
     | zero => simp at hi; subst hi; exact ⟨ob1, h3, h4, by rw [hO.2]; exact h5⟩
     | succ i => simp at hi)

theorem CallS.newX {P : Program} {f : FuncId} {args argsC : List V} {H : List (Option Ob)} {K : V → List (Option Ob) → List Nat → List Nat → Prop} {X : V} {ob' : Ob} (E : Eqn P f argsC [] X [ob']) (hO' : plainL ob'.c)
  (hl : V.lowl 0 argsC = true) (hr : ∀ θ, V.rens θ argsC = argsC) (hs : Subs args argsC) (h : K (X.ren (nameOf [] H.length)) (H ++ [some ob']) [] [H.length]) : CallS P f args H K := by
 refine .inl ⟨[], argsC, [], X, [ob'], [], E, rfl, by simp, by simp, by simp, hl, by rw [hr]; exact hs, ?_⟩
 simpa [hO'.2, putAll, killAll, nameOf] using h


structure Tag (K : V → List (Option Ob) → List Nat → List Nat → Prop) where
def CallL (P : Program) (f : FuncId) (args : List V) (H : List (Option Ob)) (K : V → List (Option Ob) → List Nat → List Nat → Prop) (t : Tag K) : Prop := CallS P f args H K
end
end Go.Proofs.YtdklbnemfelpnaaGreatDoor.Am
namespace Go.Proofs.YtdklbnemfelpnaaGreatDoor.Am
section
open Go.RowKit
def CallI (P : Program) (f : FuncId) (args : List V) (H : List (Option Ob)) [c : Inhabited (V → List (Option Ob) → List Nat → List Nat → Prop)] : Prop := CallS P f args H c.default
theorem callI (P : Program) (f : FuncId) (args : List V) (H : List (Option Ob)) (K : V → List (Option Ob) → List Nat → List Nat → Prop) : CallS P f args H K = @CallI P f args H ⟨K⟩ := rfl
theorem vopsN (P : Program) (draw : Bool) (K : List V → List (Option Ob) → Prop) (d : Option Nat) (a : A) (af : List Nat) (os : List O) (tr : List E) (T : List V) (H : List (Option Ob)) :
  vops P draw K (⟨d, a, none, af⟩ :: os) tr T H = a.step P T H fun x H' rd wr => vops P draw K os (⟨a.slots, d, rd, wr, af⟩ :: tr) (putT T d x) H' := rfl
theorem vopsG (P : Program) (draw : Bool) (K : List V → List (Option Ob) → Prop) (d : Option Nat) (a : A) (s : Nat) (w : Bool) (af : List Nat) (os : List O) (tr : List E) (T : List V) (H : List (Option Ob)) :
  vops P draw K (⟨d, a, some (s, w), af⟩ :: os) tr T H = match T.getD s .junk with
   | .d (.bool b) => if b = w then a.step P T H fun x H' rd wr => vops P draw K os (⟨s :: a.slots, d, rd, wr, af⟩ :: tr) (putT T d x) H' else vops P draw K os (⟨[s], d, [], [], af⟩ :: tr) (putT T d (.tup [])) H
   | .tup [] => vops P draw K os (⟨[s], d, [], [], af⟩ :: tr) (putT T d (.tup [])) H
   | _ => False := by
 simp only [vops]
 generalize T.getD s .junk = v
 cases v with
 | d x =>
  cases x with
  | bool b => by_cases h : b = w <;> simp [h]
  | _ => rfl
 | tup l => cases l <;> rfl
 | _ => rfl
theorem vopsE0 (P : Program) (K : List V → List (Option Ob) → Prop) (tr : List E) (T : List V) (H : List (Option Ob)) : vops P false K [] tr T H = K T H := rfl
theorem vopsE1 (P : Program) (K : List V → List (Option Ob) → Prop) (tr : List E) (T : List V) (H : List (Option Ob)) : vops P true K [] tr T H = need (okTrace tr = true) (K T H) := rfl
def sliceI (s : Nat) (x : V) (a b : Option Int) (mx : Option (Option Int)) [c : Inhabited (V → Prop)] : Prop := sliceS s x a b mx c.default
theorem o_4b (P : Program) (T : List V) (H : List (Option Ob)) (K : V → List (Option Ob) → List Nat → List Nat → Prop) (s : Nat) (x : X) (lo hi mx : Option X) :
  A.step P T H K (.slice s x lo hi mx) = @sliceI s (x.ev T) (bnd T 0 lo) (hiOf T (x.ev T) mx.isSome hi) (mx.map fun c => intOf? (c.ev T)) ⟨fun v => K v H [] []⟩ := rfl
section
variable (s : Nat) (K : V → Prop) (a b : Int)
@[simp] theorem o_4c (n : Nat) (l : List D) : @sliceI s (.d (.sl n l)) (some a) (some b) none ⟨K⟩ = need (0 ≤ a ∧ a ≤ b ∧ b ≤ n) (K (.d (.sl (b - a).toNat ((l.drop (a.toNat * s)).take ((b - a).toNat * s))))) := rfl
@[simp] theorem o_4d (n : Nat) (l : List D) (c : Int) : @sliceI s (.d (.sl n l)) (some a) (some b) (some (some c)) ⟨K⟩ = need (0 ≤ a ∧ a ≤ b ∧ b ≤ c ∧ c ≤ n) (if a = 0 ∧ c = 0 then K (.d .sl0) else K (.d (.sl (b - a).toNat ((l.drop (a.toNat * s)).take ((b - a).toNat * s))))) := rfl
@[simp] theorem o_4e (m s' n : Nat) : @sliceI s (.own m s' n) (some a) (some b) none ⟨K⟩ = need (s' = s ∧ 0 ≤ a ∧ a ≤ b ∧ b ≤ n) (K (.row m (a.toNat * s) (b - a).toNat)) := rfl
@[simp] theorem o_4f (m o n : Nat) : @sliceI s (.row m o n) (some a) (some b) none ⟨K⟩ = need (0 ≤ a ∧ a ≤ b ∧ b ≤ n) (K (.row m (o + a.toNat * s) (b - a).toNat)) := rfl
@[simp] theorem o_4g : @sliceI s (.d .nilsl) (some a) (some b) none ⟨K⟩ = need (a = 0 ∧ b = 0) (K (.d .nilsl)) := rfl
end
attribute [simp] vopsN vopsG vopsE0 vopsE1
attribute [simp ↓] callI o_4b A.step binInt binStr

class Fin (c : C) (e : outParam Exit) : Prop where
 go : ∀ {P : Program} {L : Nat} {Q : Exit → List V → List (Option Ob) → Prop} {T : List V} {H : List (Option Ob)}, Q e T H → AW P L c Q T H
instance : Fin .skip .normal := ⟨AW.skip⟩
instance : Fin .ret .ret := ⟨AW.ret⟩
instance (i : Nat) : Fin (.exit i) (.exit i) := ⟨AW.exit⟩
theorem AW.fin {P : Program} {L : Nat} {Q : Exit → List V → List (Option Ob) → Prop} {T : List V} {H : List (Option Ob)} {c : C} {e : Exit} [f : Fin c e] (h : Q e T H) : AW P L c Q T H := f.go h

class Plain (x : V) : Prop where
 ok : x.plain
instance (x : D) : Plain (.d x) := ⟨o_42 x⟩
instance : Plain (.tup []) := ⟨rfl, fun _ => rfl⟩
instance (a b : D) : Plain (.tup [.d a, .d b]) := ⟨rfl, fun _ => rfl⟩
instance (a b c : D) : Plain (.tup [.d a, .d b, .d c]) := ⟨rfl, fun _ => rfl⟩
instance (a b c d : D) : Plain (.tup [.d a, .d b, .d c, .d d]) := ⟨rfl, fun _ => rfl⟩
section
variable {P : Program} {f : FuncId} {args argsC : List V} {H : List (Option Ob)} {K : V → List (Option Ob) → List Nat → List Nat → Prop} {X : V}
theorem CallS.pu (E : Eqn P f argsC [] X []) [hX : Plain X] (h : K X H [] []) (hl : V.lowl 0 argsC = true := by rfl) (hr : ∀ θ, V.rens θ argsC = argsC := by exact fun _ => rfl) (hs : Subs args argsC := by exact Subs.refl _) : CallS P f args H K := CallS.pure E hX.ok hl hr hs h
theorem CallS.pf (n s : Nat) (ob : Ob) (ds : List D) (E : Eqn P f argsC [] X []) [hX : Plain X] (hs : V.frzs n s ds args = argsC) (h : K X (H.set n none) [] [n]) (hl : V.lowl 0 argsC = true := by rfl) (hr : ∀ θ, V.rens θ argsC = argsC := by exact fun _ => rfl) (hn : H.getD n none = some ob := by rfl) (hd : ob.c = ds.map V.d := by simp) : CallS P f args H K := CallS.pureF n s ob ds E hX.ok hl hr hn hd (Subs.of hs) h
theorem CallS.o1 {ob ob' : Ob} (n : Nat) (E : Eqn P f argsC [ob] X [ob']) [hX : Plain X] (h : K X (H.set n (some ob')) [] [n]) (hO : plainL ob.c := by exact ⟨rfl, fun _ => rfl⟩) (hO' : plainL ob'.c := by exact ⟨rfl, fun _ => rfl⟩)
  (hl : V.lowl 1 argsC = true := by rfl) (hn : H.getD n none = some ob := by rfl) (hs : args = V.rens (nameOf [n] H.length) argsC := by simp) : CallS P f args H K := CallS.obj1 n E hX.ok hO hO' hl hn (Subs.of hs) h
end
end
end Go.Proofs.YtdklbnemfelpnaaGreatDoor.Am
namespace Go.Proofs.YtdklbnemfelpnaaGreatDoor.Am
section
open Go.RowKit
theorem AW.mono {P : Program} {L : Nat} {Q Q' : Exit → List V → List (Option Ob) → Prop} {T : List V} {H : List (Option Ob)} {c : C} (h : AW P L c Q T H) (hQ : ∀ e T H, Q e T H → Q' e T H) : AW P L c Q' T H := by
 intro code hc m0 m a sat hle htop hL
 refine wp_mono (h code hc m0 m a sat hle htop hL) ?_
 rintro e a' w' ⟨T', H', m', rfl, hq, rest⟩
 exact ⟨T', H', m', rfl, hQ _ _ _ hq, rest⟩
end
end Go.Proofs.YtdklbnemfelpnaaGreatDoor.Am
namespace Go.Proofs.YtdklbnemfelpnaaGreatDoor.Am
section
open Go.RowKit

mutual
theorem V.rep_rent {m m' : Mem} {θ : Nat → Nat} (hI : m'.I = m.I) (hw : m'.w = m.w) (hρ : ∀ n, m'.ρ n = m.ρ (θ n)) : ∀ (x : V) (v : Value), (x.ren θ).rep m v ↔ x.rep m' v
 | .d x, v => by simp only [V.ren, V.rep, hI, hw]
 | .agg l, v => by
  simp only [V.ren, V.rep]
  exact exists_congr fun vs => and_congr Iff.rfl (and_congr Iff.rfl (V.reps_rent hI hw hρ l vs))
 | .tup l, v => by
  simp only [V.ren, V.rep]
  exact exists_congr fun vs => and_congr Iff.rfl (V.reps_rent hI hw hρ l vs)
 | .p n off, v => by simp only [V.ren, V.rep, hρ n]
 | .row n off len, v => by simp only [V.ren, V.rep, hρ n]
 | .own n s len, v => by simp only [V.ren, V.rep, hρ n, hw]
 | .fn f l, v => by
  simp only [V.ren, V.rep]
  exact exists_congr fun vs => and_congr Iff.rfl (V.reps_rent hI hw hρ l vs)
 | .junk, v => by simp only [V.ren, V.rep]
theorem V.reps_rent {m m' : Mem} {θ : Nat → Nat} (hI : m'.I = m.I) (hw : m'.w = m.w) (hρ : ∀ n, m'.ρ n = m.ρ (θ n)) : ∀ (l : List V) (vs : List Value), V.reps m (V.rens θ l) vs ↔ V.reps m' l vs
 | [], vs => by simp only [V.rens, V.reps]
 | x :: l, vs => by
  simp only [V.rens, V.reps]
  exact exists_congr fun v => exists_congr fun r => and_congr Iff.rfl (and_congr (V.rep_rent hI hw hρ x v) (V.reps_rent hI hw hρ l r))
end

mutual
theorem V.ren_inv {θ : Nat → Nat} (h : ∀ n, θ (θ n) = n) : ∀ x : V, (x.ren θ).ren θ = x
 | .d _ | .junk => by simp only [V.ren]
 | .p _ _ | .row _ _ _ | .own _ _ _ => by simp only [V.ren, h]
 | .agg l | .tup l | .fn _ l => by simp only [V.ren, V.rens_inv h l]
theorem V.rens_inv {θ : Nat → Nat} (h : ∀ n, θ (θ n) = n) : ∀ l : List V, V.rens θ (V.rens θ l) = l
 | [] => by simp only [V.rens]
 | x :: l => by simp only [V.rens, V.ren_inv h x, V.rens_inv h l]
end

theorem o_4h (θ : Nat → Nat) : ∀ l : List V, (V.rens θ l).length = l.length
 | [] => by simp only [V.rens, List.length_nil]
 | x :: l => by simp only [V.rens, List.length_cons, o_4h θ l]
theorem o_4i (θ : Nat → Nat) : ∀ (l : List V) (s : Nat), (V.rens θ l).getD s .junk = (l.getD s .junk).ren θ
 | [], s => by simp only [V.rens, List.getD_nil, V.ren]
 | x :: l, 0 => by simp only [V.rens, List.getD_cons_zero]
 | x :: l, s + 1 => by simp only [V.rens, List.getD_cons_succ, o_4i θ l s]

def sw (i j n : Nat) : Nat := if n = i then j else if n = j then i else n
theorem o_4j (i j n : Nat) : sw i j (sw i j n) = n := by
 unfold sw
 split <;> (try split) <;> (try split) <;> omega
def Ob.sw (i j : Nat) (ob : Ob) : Ob := ⟨ob.T, V.rens (Am.sw i j) ob.c⟩
def swT (i j : Nat) (T : List V) : List V := V.rens (sw i j) T
def swH (i j : Nat) (H : List (Option Ob)) : List (Option Ob) := (((H.set i (H.getD j none)).set j (H.getD i none))).map (Option.map (Ob.sw i j))

theorem o_4k (i j : Nat) (H : List (Option Ob)) : (swH i j H).length = H.length := by simp [swH]
theorem o_4l {i j : Nat} {H : List (Option Ob)} (hi : i < H.length) (hj : j < H.length) (n : Nat) : (swH i j H).getD n none = (H.getD (sw i j n) none).map (Ob.sw i j) := by
 simp only [swH, List.getD_eq_getElem?_getD, List.getElem?_map, List.getElem?_set, List.length_set, sw]
 by_cases h1 : n = j
 ·subst h1
  by_cases h2 : n = i
  ·subst h2; simp [hj]
  ·simp [h2, hj]
 ·by_cases h2 : n = i
  ·subst h2
   have : ¬ j = n := fun e => h1 e.symm
   simp [this, hi]
  ·have e1 : ¬ j = n := fun e => h1 e.symm
   have e2 : ¬ i = n := fun e => h2 e.symm
   simp [h1, h2, e1, e2]
   cases H[n]? <;> simp

theorem Sat.swap {L : Nat} {m0 m : Mem} {a : Act} {T : List V} {H : List (Option Ob)} (sat : Sat m a T H) {i j : Nat} (hi : i < H.length) (hj : j < H.length) (hLi : L ≤ i) (hLj : L ≤ j) (hle : m0.le m (· < L)) (htop : ∀ n, L ≤ n → m0.ρ n = none) :
  ∃ m', m'.w = m.w ∧ Sat m' a (swT i j T) (swH i j H) ∧ m0.le m' (· < L) := by
 have hρ : ∀ n, (⟨fun n => m.ρ (sw i j n), m.I, m.w⟩ : Mem).ρ n = m.ρ (sw i j n) := fun n => rfl
 have hlow : ∀ n, n < L → sw i j n = n := fun n hn => by unfold sw; split <;> (try split) <;> omega
 have hlv : ∀ n, live (swH i j H) n → live H (sw i j n) := fun n hn => by
  rw [live, o_4l hi hj] at hn
  rw [live]
  cases h : H.getD (sw i j n) none with
  | none => rw [h] at hn; cases hn
  | some ob => rfl
 have hinj : ∀ n k, sw i j n = sw i j k → n = k := fun n k h => by rw [← o_4j i j n, h, o_4j]
 refine ⟨⟨fun n => m.ρ (sw i j n), m.I, m.w⟩, rfl, ⟨⟨sat.base.imm, fun n b hb => sat.base.dom _ b hb, sat.base.tabs.mono (fun _ h => h) (fun _ _ => rfl)⟩, fun s => ?_, fun n ob h => ?_, fun n k b hn hk h1 h2 => hinj _ _ (sat.inj _ _ b (hlv n hn) (hlv k hk) h1 h2), fun n hn => ?_, ?_, sat.defers⟩, ?_⟩
 ·rw [swT, o_4i]
  refine (V.rep_rent (θ := sw i j) (m := m) (m' := ⟨fun n => m.ρ (sw i j n), m.I, m.w⟩) rfl rfl hρ _ _).1 ?_
  rw [V.ren_inv (o_4j i j)]
  exact sat.slots s
 ·rw [o_4l hi hj] at h
  obtain ⟨ob0, h0, rfl⟩ := Option.map_eq_some_iff.1 h
  obtain ⟨b, vs, more, k1, k2, k3, k4, k5⟩ := sat.obj _ ob0 h0
  refine ⟨b, vs, more, k1, k2, k3, ?_, k5⟩
  refine (V.reps_rent (θ := sw i j) (m := m) (m' := ⟨fun n => m.ρ (sw i j n), m.I, m.w⟩) rfl rfl hρ _ _).1 ?_
  simp only [Ob.sw]
  rw [V.rens_inv (o_4j i j)]
  exact k4
 ·rw [o_4k] at hn
  show m.ρ (sw i j n) = none
  rw [show sw i j n = n by unfold sw; split <;> (try split) <;> omega]
  exact sat.top n hn
 ·rw [swT, o_4h]; exact sat.size
 ·refine ⟨fun n b hb => ?_, hle.I, hle.os, hle.tape, hle.output, hle.size, hle.block, hle.shape, hle.imm, hle.newI, fun n b hb => ?_⟩
  ·rcases Nat.lt_or_ge n L with hn | hn
   ·show m.ρ (sw i j n) = some b
    rw [hlow n hn]; exact hle.ρ n b hb
   ·rw [htop n hn] at hb; cases hb
  ·rcases hle.newρ (sw i j n) b hb with h | h | h
   ·rcases Nat.lt_or_ge (sw i j n) L with hn | hn
    ·have := hlow _ hn
     rw [o_4j] at this
     exact .inl (by rw [this]; exact h)
    ·rw [htop _ hn] at h; cases h
   ·exact .inr (.inl h)
   ·exact .inr (.inr h)

section
variable {P : Program} {L : Nat} {Q : Exit → List V → List (Option Ob) → Prop} {T : List V} {H : List (Option Ob)}
theorem AW.loopS {x : C} {α : Type} (N j : Nat) (f : α → List (Nat × V)) (g : α → List (Nat × Ob)) (R : α → Prop) (μ : α → Nat) (a0 : α) (hN : N ≤ H.length) (hL : L ≤ N) (hj : j < N) (hLj : L ≤ j) (hR : R a0)
  (h0 : wk N T (setS (junkI x.dsts 0 T) (f a0))) (h0' : wkH N H (setH (H.take N) (g a0)))
  (h : ∀ a, R a → AW P L x (thenQ (fun T' H' => ∃ a' i, L ≤ i ∧ i < H'.length ∧ N ≤ H'.length ∧ R a' ∧ μ a' < μ a ∧ wk N (swT i j T') (setS (junkI x.dsts 0 T) (f a')) ∧ wkH N (swH i j H') (setH (H.take N) (g a'))) Q) (setS (junkI x.dsts 0 T) (f a)) (setH (H.take N) (g a))) : AW P L (.loop x) Q T H := by
 have hlen : ∀ a, (setH (H.take N) (g a)).length = N := fun a => by rw [o_49, List.length_take]; omega
 refine AW.weak (T1 := setS (junkI x.dsts 0 T) (f a0)) (H1 := setH (H.take N) (g a0)) (Weak.of (by rw [hlen]; exact h0) (by rw [hlen]; exact h0')) (by rw [hlen]; exact hL) ?_
 intro code hc m0 m a sat hle htop hL'
 cases code <;> simp [resolveC] at hc
 rename_i cx
 refine o_3w (fun k a w => ∃ z : α, ∃ m, m.w = w ∧ k = μ z ∧ R z ∧ Sat m a (setS (junkI x.dsts 0 T) (f z)) (setH (H.take N) (g z)) ∧ m0.le m (· < L) ∧ L ≤ (setH (H.take N) (g z)).length) ?_ (μ a0) a m.w ⟨a0, m, rfl, rfl, hR, sat, hle, hL'⟩
 rintro k a w ⟨z, m, rfl, rfl, hz, sat, hle, hL⟩
 refine wp_mono (h z hz cx hc m0 m a sat hle htop hL) ?_
 rintro e a' w' ⟨T', H', m', rfl, hq, sat', hle', hL'⟩
 cases e with
 | normal =>
  obtain ⟨z', i, hi1, hi2, hNH, hz', hμ, hw1, hw2⟩ := hq
  obtain ⟨m1, hm1, s1, l1⟩ := Sat.swap sat' hi2 (Nat.lt_of_lt_of_le hj hNH) hi1 hLj hle' htop
  have hWk : Weak (swT i j T') (swH i j H') (setS (junkI x.dsts 0 T) (f z')) (setH (H.take N) (g z')) := Weak.of (by rw [hlen]; exact hw1) (by rw [hlen]; exact hw2)
  obtain ⟨m2, hm2, s2, l2, n2⟩ := Sat.weaken hWk s1 l1 htop (by rw [hlen]; omega)
  exact ⟨μ z', hμ, z', m2, hm2.trans hm1, rfl, hz', s2, l2, n2⟩
 | _ => exact ⟨T', H', m', rfl, hq, sat', hle', hL'⟩
end
end
end Go.Proofs.YtdklbnemfelpnaaGreatDoor.Am
namespace Go.Proofs.YtdklbnemfelpnaaGreatDoor.Am
section
open Go.RowKit
def obIs (H : List (Option Ob)) (n : Nat) (ob : Ob) : Prop := ∃ ob1, H.getD n none = some ob1 ∧ ob1.T = ob.T ∧ Subs ob1.c ob.c
def retO3 (rs : List RV) (X : V) (a b c : Ob) : Exit → List V → List (Option Ob) → Prop
 | .normal, T, H | .ret, T, H => (∃ x, outV T H rs = some x ∧ Sub1 x X) ∧ obIs H 0 a ∧ obIs H 1 b ∧ obIs H 2 c
 | _, _, _ => False
attribute [simp] retO3 obIs

theorem Eqn.obj3 {P : Program} {f : FuncId} {c : C} {rs : List RV} {nt : Nat} {args : List V} {X : V} {a a' b : Ob} {t : TypeId} (hf : fnOf P f = some (c, rs, nt, false)) (hX : X.plain) (hO : plainL a'.c) (hb : plainL b.c)
  (h : AW P 3 c (retO3 rs X a' b ⟨t, [.p 0 0]⟩) (args ++ List.replicate (nt - args.length) .junk) [some a, some b, some ⟨t, [.p 0 0]⟩]) : Eqn P f args [a, b, ⟨t, [.p 0 0]⟩] X [a', b, ⟨t, [.p 0 0]⟩] := by
 refine Eqn.of_fn hf (Nat.le_refl _) (by simp) (V.low_mono (by simp) _ hX.1) (fun ob hob => ?_) ?_
 ·simp at hob
  rcases hob with rfl | rfl | rfl
  ·exact V.lowl_mono (by simp) _ hO.1
  ·exact V.lowl_mono (by simp) _ hb.1
  ·rfl
 intro code hc m0 m s sat hle htop hL
 refine wp_mono (h code hc m0 m s sat hle htop hL) ?_
 rintro e s' w' ⟨T', H', m', rfl, hq, rest⟩
 refine ⟨T', H', m', rfl, ?_, rest⟩
 cases e <;> first
  | exact hq.elim
  | (obtain ⟨⟨x, h1, h2⟩, ⟨ob0, h3, h4, h5⟩, ⟨ob1, k3, k4, k5⟩, ⟨ob2, l3, l4, l5⟩⟩ := hq
     refine ⟨[0, 1, 2], rfl, fun i hi => ?_, .of (by simp), ⟨x, h1, by rw [hX.2]; exact h2⟩, fun i ob _ hi => ?_⟩
     ·simp at hi
      rcases i with _ | _ | _ | i
      ·rfl
      ·rfl
      ·rfl
      ·omega
     ·rcases i with _ | _ | _ | i
      ·simp at hi; subst hi; exact ⟨ob0, h3, h4, by rw [hO.2]; exact h5⟩
      ·simp at hi; subst hi; exact ⟨ob1, k3, k4, by rw [hb.2]; exact k5⟩
      ·simp at hi; subst hi; exact ⟨ob2, l3, l4, l5⟩
      ·simp at hi)

theorem CallS.obj3 {P : Program} {f : FuncId} {args argsC : List V} {H : List (Option Ob)} {K : V → List (Option Ob) → List Nat → List Nat → Prop} {X : V} {a a' b : Ob} {t : TypeId} (n0 n1 n2 : Nat) (E : Eqn P f argsC [a, b, ⟨t, [.p 0 0]⟩] X [a', b, ⟨t, [.p 0 0]⟩]) (hX : X.plain) (hO : plainL a.c) (hO' : plainL a'.c) (hb : plainL b.c)
  (hl : V.lowl 3 argsC = true) (hn0 : H.getD n0 none = some a) (hn1 : H.getD n1 none = some b) (hn2 : H.getD n2 none = some ⟨t, [.p n0 0]⟩) (hd : [n0, n1, n2].Nodup) (hs : Subs args (V.rens (nameOf [n0, n1, n2] H.length) argsC))
  (h : K X (((H.set n0 (some a')).set n1 (some b)).set n2 (some ⟨t, [.p n0 0]⟩)) [] [n0, n1, n2]) : CallS P f args H K := by
 have hlt : ∀ {n : Nat} {o : Ob}, H.getD n none = some o → n < H.length := fun {n o} hn => by
  rcases Nat.lt_or_ge n H.length with h | h
  ·exact h
  ·rw [List.getD_eq_getElem?_getD, List.getElem?_eq_none h] at hn; cases hn
 refine .inl ⟨[n0, n1, n2], argsC, [a, b, ⟨t, [.p 0 0]⟩], X, [a', b, ⟨t, [.p 0 0]⟩], [], E, rfl, hd, ?_, fun i o hi => ?_, hl, hs, ?_⟩
 ·intro n hn
  simp at hn
  rcases hn with rfl | rfl | rfl
  ·exact hlt hn0
  ·exact hlt hn1
  ·exact hlt hn2
 ·rcases i with _ | _ | _ | i
  ·simp at hi; subst hi; exact ⟨V.lowl_mono (by simp) _ hO.1, by rw [hO.2]; exact hn0⟩
  ·simp at hi; subst hi; exact ⟨V.lowl_mono (by simp) _ hb.1, by rw [hb.2]; exact hn1⟩
  ·simp at hi; subst hi; exact ⟨rfl, by simpa [V.rens, V.ren, nameOf] using hn2⟩
  ·simp at hi
 ·simpa [hX.2, hO'.2, hb.2, putAll, killAll, V.rens, V.ren, nameOf] using h
end
end Go.Proofs.YtdklbnemfelpnaaGreatDoor.Am
namespace Go.Proofs.YtdklbnemfelpnaaGreatDoor.Am
section
open Go.RowKit
def obsIs (H : List (Option Ob)) (ρ : Nat → Nat) (dead : List Nat) : Nat → List Nat → List Ob → Prop
 | i, n :: θ, ob :: r => (i ∈ dead ∨ obIs H n ⟨ob.T, V.rens ρ ob.c⟩) ∧ obsIs H ρ dead (i + 1) θ r
 | _, [], [] => True
 | _, _, _ => False
theorem obsIs.get {H : List (Option Ob)} {ρ : Nat → Nat} {dead : List Nat} : ∀ {j : Nat} {θ : List Nat} {l : List Ob}, obsIs H ρ dead j θ l → θ.length = l.length ∧ ∀ i ob, i + j ∉ dead → l[i]? = some ob → obIs H (θ.getD i 0) ⟨ob.T, V.rens ρ ob.c⟩
 | _, [], [], _ => ⟨rfl, by simp⟩
 | _, [], _ :: _, h => h.elim
 | _, _ :: _, [], h => h.elim
 | j, n :: θ, ob :: r, h => by
  obtain ⟨h1, h2⟩ := h
  obtain ⟨h3, h4⟩ := obsIs.get h2
  refine ⟨by simp [h3], fun i o hd hi => ?_⟩
  cases i with
  | zero => simp at hi hd; subst hi; exact h1.resolve_left hd
  | succ i => simpa using h4 i o (by rw [show i + (j + 1) = i + 1 + j by omega]; exact hd) (by simpa using hi)
def retG (rs : List RV) (θ : List Nat) (X : V) (Hs' : List Ob) (dead : List Nat) : Exit → List V → List (Option Ob) → Prop
 | .normal, T, H | .ret, T, H => (∃ x, outV T H rs = some x ∧ Sub1 x (X.ren fun i => θ.getD i 0)) ∧ obsIs H (fun i => θ.getD i 0) dead 0 θ Hs'
 | _, _, _ => False
attribute [simp] retG obsIs

def apartB (θ dead : List Nat) : Bool := (List.range θ.length).all fun i => (List.range θ.length).all fun j => dead.contains i || dead.contains j || i == j || θ.getD i 0 != θ.getD j 0
theorem o_4m {θ dead : List Nat} (h : apartB θ dead = true) : apartN θ dead := fun i j hi hj li lj he => by
 have h1 := List.all_eq_true.1 h i (List.mem_range.2 li)
 have h2 := List.all_eq_true.1 h1 j (List.mem_range.2 lj)
 have e1 : dead.contains i = false := by simpa using hi
 have e2 : dead.contains j = false := by simpa using hj
 rw [e1, e2, he] at h2
 simpa using h2

theorem Eqn.gen {P : Program} {f : FuncId} {c : C} {rs : List RV} {nt : Nat} {args : List V} {Hs : List Ob} {X : V} {Hs' : List Ob} {dead : List Nat} (θ : List Nat) (hf : fnOf P f = some (c, rs, nt, false)) (hlen : Hs.length ≤ Hs'.length) (hold : ∀ n ∈ dead, n < Hs.length) (hθ : θ.take Hs.length = List.range Hs.length) (hnd : apartB θ dead = true)
  (lowx : X.low Hs'.length = true) (lowo : ∀ ob ∈ Hs', V.lowl Hs'.length ob.c = true)
  (h : AW P Hs.length c (retG rs θ X Hs' dead) (args ++ List.replicate (nt - args.length) .junk) (Hs.map some)) : EqnD P f args Hs X Hs' dead := by
 have hθ' : ∀ i, i < Hs.length → θ.getD i 0 = i := fun i hi => by
  have h1 : (θ.take Hs.length)[i]? = (List.range Hs.length)[i]? := by rw [hθ]
  rw [List.getElem?_take, if_pos hi, List.getElem?_range hi] at h1
  rw [List.getD_eq_getElem?_getD, h1]; rfl
 refine Eqn.of_fn hf hlen hold lowx lowo ?_
 intro code hc m0 m s sat hle htop hL
 refine wp_mono (h code hc m0 m s sat hle htop hL) ?_
 rintro e s' w' ⟨T', H', m', rfl, hq, rest⟩
 refine ⟨T', H', m', rfl, ?_, rest⟩
 cases e <;> first
  | exact hq.elim
  | (obtain ⟨hx, ho⟩ := hq
     obtain ⟨h3, h4⟩ := ho.get
     exact ⟨θ, h3, hθ', o_4m hnd, hx, h4⟩)

def obsAt (k : Nat) (H : List (Option Ob)) (ρ : Nat → Nat) : List Nat → List Ob → Prop
 | n :: θ, ob :: r => (V.lowl k ob.c = true ∧ H.getD n none = some ⟨ob.T, V.rens ρ ob.c⟩) ∧ obsAt k H ρ θ r
 | [], [] => True
 | _, _ => False
attribute [simp] obsAt
theorem o_4n {k : Nat} {H : List (Option Ob)} {ρ : Nat → Nat} : obsAt k H ρ [] [] := trivial
theorem o_4o {k n : Nat} {H : List (Option Ob)} {ρ : Nat → Nat} {θ : List Nat} {ob : Ob} {r : List Ob} (h1 : V.lowl k ob.c = true) (h2 : H.getD n none = some ⟨ob.T, V.rens ρ ob.c⟩) (h3 : obsAt k H ρ θ r) : obsAt k H ρ (n :: θ) (ob :: r) := ⟨⟨h1, h2⟩, h3⟩
theorem obsAt.get {k : Nat} {H : List (Option Ob)} {ρ : Nat → Nat} : ∀ {θ : List Nat} {l : List Ob}, obsAt k H ρ θ l → θ.length = l.length ∧ (∀ n ∈ θ, n < H.length) ∧ ∀ i ob, l[i]? = some ob → V.lowl k ob.c = true ∧ H.getD (θ.getD i 0) none = some ⟨ob.T, V.rens ρ ob.c⟩
 | [], [], _ => ⟨rfl, by simp, by simp⟩
 | [], _ :: _, h => h.elim
 | _ :: _, [], h => h.elim
 | n :: θ, ob :: r, h => by
  obtain ⟨h1, h2⟩ := h
  obtain ⟨h3, h5, h4⟩ := obsAt.get h2
  refine ⟨by simp [h3], fun m hm => ?_, fun i o hi => ?_⟩
  ·rcases List.mem_cons.1 hm with rfl | hm
   ·rcases Nat.lt_or_ge m H.length with hlt | hge
    ·exact hlt
    ·have := h1.2
     rw [List.getD_eq_getElem?_getD, List.getElem?_eq_none hge] at this; cases this
   ·exact h5 m hm
  ·cases i with
   | zero => simp at hi; subst hi; exact h1
   | succ i => simpa using h4 i o (by simpa using hi)

theorem CallS.gen {P : Program} {f : FuncId} {args argsC : List V} {H : List (Option Ob)} {K : V → List (Option Ob) → List Nat → List Nat → Prop} {X : V} {Hs Hs' : List Ob} {dead : List Nat} (θ : List Nat) (E : EqnD P f argsC Hs X Hs' dead) (hnd : θ.Nodup) (hat : obsAt Hs.length H (nameOf θ H.length) θ Hs)
  (hl : V.lowl Hs.length argsC = true) (hs : Subs args (V.rens (nameOf θ H.length) argsC))
  (h : K (X.ren (nameOf θ H.length)) (killAll (putAll H θ (Hs'.map fun ob => ⟨ob.T, V.rens (nameOf θ H.length) ob.c⟩)) θ dead) [] (θ ++ (List.range (Hs'.length - Hs.length)).map (H.length + ·))) : CallS P f args H K := by
 obtain ⟨h1, h2, h3⟩ := hat.get
 exact .inl ⟨θ, argsC, Hs, X, Hs', dead, E, h1, hnd, h2, h3, hl, hs, h⟩
theorem CallS.genF {P : Program} {f : FuncId} {args argsC : List V} {H : List (Option Ob)} {K : V → List (Option Ob) → List Nat → List Nat → Prop} {X : V} {Hs Hs' : List Ob} {dead : List Nat} (n s : Nat) (ob : Ob) (ds : List D) (θ : List Nat) (E : EqnD P f argsC Hs X Hs' dead) (hn : H.getD n none = some ob) (hd : ob.c = ds.map V.d) (hnd : θ.Nodup) (hat : obsAt Hs.length (H.set n none) (nameOf θ H.length) θ Hs)
  (hl : V.lowl Hs.length argsC = true) (hs : Subs (V.frzs n s ds args) (V.rens (nameOf θ H.length) argsC))
  (h : K (X.ren (nameOf θ H.length)) (killAll (putAll (H.set n none) θ (Hs'.map fun ob => ⟨ob.T, V.rens (nameOf θ H.length) ob.c⟩)) θ dead) [] (n :: (θ ++ (List.range (Hs'.length - Hs.length)).map (H.length + ·)))) : CallS P f args H K := by
 obtain ⟨h1, h2, h3⟩ := hat.get
 exact .inr (.inl ⟨n, s, ob, ds, hn, hd, θ, argsC, Hs, X, Hs', dead, E, h1, hnd, by simpa using h2, by simpa using h3, hl, by simpa using hs, by simpa using h⟩)

theorem AW.loopG {P : Program} {L : Nat} {Q : Exit → List V → List (Option Ob) → Prop} {T : List V} {H : List (Option Ob)} {x : C} {α : Type} (T1 : α → List V) (H1 : α → List (Option Ob)) (R : α → Prop) (μ : α → Nat) (a0 : α) (hL : ∀ a, R a → L ≤ (H1 a).length) (hR : R a0)
  (h0 : wk (H1 a0).length T (T1 a0)) (h0' : wkH (H1 a0).length H (H1 a0))
  (h : ∀ a, R a → AW P L x (thenQ (fun T' H' => ∃ a' i j, (L ≤ i ∧ L ≤ j ∧ i < H'.length ∧ j < H'.length) ∧ R a' ∧ μ a' < μ a ∧ wk (H1 a').length (swT i j T') (T1 a') ∧ wkH (H1 a').length (swH i j H') (H1 a')) Q) (T1 a) (H1 a)) : AW P L (.loop x) Q T H := by
 refine AW.weak (T1 := T1 a0) (H1 := H1 a0) (Weak.of h0 h0') (hL _ hR) ?_
 intro code hc m0 m a sat hle htop hL'
 cases code <;> simp [resolveC] at hc
 rename_i cx
 refine o_3w (fun k a w => ∃ z : α, ∃ m, m.w = w ∧ k = μ z ∧ R z ∧ Sat m a (T1 z) (H1 z) ∧ m0.le m (· < L) ∧ L ≤ (H1 z).length) ?_ (μ a0) a m.w ⟨a0, m, rfl, rfl, hR, sat, hle, hL'⟩
 rintro k a w ⟨z, m, rfl, rfl, hz, sat, hle, hL1⟩
 refine wp_mono (h z hz cx hc m0 m a sat hle htop hL1) ?_
 rintro e a' w' ⟨T', H', m', rfl, hq, sat', hle', hL'⟩
 cases e with
 | normal =>
  obtain ⟨z', i, j, ⟨hi, hj, hi', hj'⟩, hz', hμ, hw1, hw2⟩ := hq
  obtain ⟨m1, hm1, s1, l1⟩ := Sat.swap sat' hi' hj' hi hj hle' htop
  obtain ⟨m2, hm2, s2, l2, n2⟩ := Sat.weaken (Weak.of hw1 hw2) s1 l1 htop (hL _ hz')
  exact ⟨μ z', hμ, z', m2, hm2.trans hm1, rfl, hz', s2, l2, n2⟩
 | _ => exact ⟨T', H', m', rfl, hq, sat', hle', hL'⟩
theorem AW.swap {P : Program} {L : Nat} {Q : Exit → List V → List (Option Ob) → Prop} {T : List V} {H : List (Option Ob)} {c : C} (i j : Nat) (hi : i < H.length) (hj : j < H.length) (hLi : L ≤ i) (hLj : L ≤ j) (h : AW P L c Q (swT i j T) (swH i j H)) : AW P L c Q T H := by
 intro code hc m0 m a sat hle htop hL
 obtain ⟨m1, hm1, s1, l1⟩ := Sat.swap sat hi hj hLi hLj hle htop
 rw [← hm1]
 exact h code hc m0 m1 a s1 l1 htop (by rw [o_4k]; exact hL)

theorem o_4p (θ : Nat → Nat) (l : List D) : V.rens θ (l.map .d) = l.map .d := (o_4a l).2 θ
theorem o_4q (k : Nat) (l : List D) : V.lowl k (l.map .d) = true := V.lowl_mono (Nat.zero_le k) _ (o_4a l).1
end
end Go.Proofs.YtdklbnemfelpnaaGreatDoor.Am
namespace Go.Proofs.YtdklbnemfelpnaaGreatDoor.Am
section
open Go.RowKit
def notDefer (o : Oper) : Bool := match o.op with
 | .defer _ => false
 | _ => true
theorem o_4r {o : Oper} (h : notDefer o = true) : ∀ c, o.op ≠ .defer c := fun c e => by simp [notDefer, e] at h

abbrev FR (l : Option Nat) : Fence := { Fence.wide with round := l }

theorem o_4s {l : Option Nat} {n : Nat} {P : Program} {row : String} {args : Array Value} {w : World} {R : Value → World → Prop} (h : Rows P row args w R) : RowsIn (FR l) n P row args w R := by
 intro c cs _
 obtain ⟨v, w', hR, hs⟩ := h c cs
 exact ⟨v, w', hR, stepsIn_wide.2 hs⟩
theorem o_4t {l : Option Nat} {n : Nat} {P : Program} {f : FuncId} {args : Array Value} {w : World} {R : Ending → World → Prop} (h : Calls P f args w R) : CallsIn (FR l) n P f args w R := callsIn_wide.2 h

theorem o_4u {l : Option Nat} {n : Nat} {P : Program} {o : Oper} {a : Act} {w : World} {K : Act → World → Prop} {Q : Exit → Act → World → Prop} (hd : notDefer o = true) (h : o.wp P a w K Q) : o.wpIn (FR l) n P a w K Q := by
 refine ⟨fun _ _ => trivial, ?_⟩
 rw [Oper.semAt_eq _ _ _ (o_4r hd)]
 unfold Oper.wp at h
 generalize (execOp a.eval o).run P w = r at h
 have hdep : (FR l).depth.isSome = true → 1 ≤ n := fun h => by simp [FR, Fence.wide] at h
 unfold Oper.upon at h
 unfold Oper.uponIn
 split at h
 all_goals first
  | exact h
  | exact ⟨hdep, o_4t h⟩
  | exact ⟨hdep, o_4s h⟩
  | exact h.elim

def Code.calm : Code → Bool
 | .seq a b | .cond _ a b => Code.calm a && Code.calm b
 | .block _ a | .loop a | .scope a => Code.calm a
 | .region _ ops _ => ops.toList.all notDefer
 | _ => true

def AWr (P : Program) (l : Option Nat) (n L : Nat) (c : C) (Q : Exit → List V → List (Option Ob) → Prop) (T : List V) (H : List (Option Ob)) : Prop :=
 ∀ code, resolveC P code = c → Code.calm code = true → ∀ (m0 m : Mem) (a : Act), Sat m a T H → m0.le m (· < L) → (∀ n, L ≤ n → m0.ρ n = none) → L ≤ H.length →
  code.wpIn (FR l) n P (fun e a' w' => ∃ T' H', ∃ m' : Mem, m'.w = w' ∧ Q e T' H' ∧ Sat m' a' T' H' ∧ m0.le m' (· < L) ∧ L ≤ H'.length) a m.w

section
variable {P : Program} {l : Option Nat} {n L : Nat} {Q : Exit → List V → List (Option Ob) → Prop} {T : List V} {H : List (Option Ob)}
theorem AWr.skip (h : Q .normal T H) : AWr P l n L .skip Q T H := by
 intro code hc _ m0 m a sat hle htop hL
 cases code <;> simp [resolveC] at hc
 ·exact wpIn_skip ⟨T, H, m, rfl, h, sat, hle, hL⟩
 ·exact wpIn_label ⟨T, H, m, rfl, h, sat, hle, hL⟩
theorem AWr.exit {id : Nat} (h : Q (.exit id) T H) : AWr P l n L (.exit id) Q T H := by
 intro code hc _ m0 m a sat hle htop hL
 cases code <;> simp [resolveC] at hc
 subst hc
 exact wpIn_exit ⟨T, H, m, rfl, h, sat, hle, hL⟩
theorem AWr.seq {x y : C} (h : AWr P l n L x (thenQ (AWr P l n L y Q) Q) T H) : AWr P l n L (.seq x y) Q T H := by
 intro code hc hd m0 m a sat hle htop hL
 cases code <;> simp [resolveC] at hc
 rename_i cx cy
 obtain ⟨hx, hy⟩ := hc
 simp only [Code.calm, Bool.and_eq_true] at hd
 refine wpIn_seq (wpIn_mono (h cx hx hd.1 m0 m a sat hle htop hL) ?_)
 rintro e a' w' ⟨T', H', m', rfl, hq, sat', hle', hL'⟩
 cases e with
 | normal => exact hq cy hy hd.2 m0 m' a' sat' hle' htop hL'
 | _ => exact ⟨T', H', m', rfl, hq, sat', hle', hL'⟩
theorem AWr.cond {c : X} {x y : C} {b : Bool} (hb : c.ev T = .d (.bool b)) (h1 : b = true → AWr P l n L x Q T H) (h2 : b = false → AWr P l n L y Q T H) : AWr P l n L (.cond c x y) Q T H := by
 intro code hc hd m0 m a sat hle htop hL
 cases code <;> simp [resolveC] at hc
 rename_i cc cx cy
 obtain ⟨hcc, hx, hy⟩ := hc
 simp only [Code.calm, Bool.and_eq_true] at hd
 have hv : a.eval cc = .bool b := by
  refine V.rep_bool.1 (X.rep' (T := T) (fun s _ => sat.slots s) ?_)
  rw [hcc]; exact hb
 exact wpIn_cond_split hv (fun h => h1 h cx hx hd.1 m0 m a sat hle htop hL) (fun h => h2 h cy hy hd.2 m0 m a sat hle htop hL)
theorem AWr.block {id : Nat} {x : C} (h : AWr P l n L x (blockQ id Q) T H) : AWr P l n L (.block id x) Q T H := by
 intro code hc hd m0 m a sat hle htop hL
 cases code <;> simp [resolveC] at hc
 rename_i id' cx
 obtain ⟨rfl, hx⟩ := hc
 refine wpIn_block (wpIn_mono (h cx hx hd m0 m a sat hle htop hL) ?_)
 rintro e a' w' ⟨T', H', m', rfl, hq, sat', hle', hL'⟩
 cases e with
 | exit j =>
  simp only [blockQ] at hq
  simp only [Exit.inBlock]
  split at hq
  ·rename_i hj; rw [if_pos hj]; exact ⟨T', H', m', rfl, hq, sat', hle', hL'⟩
  ·rename_i hj; rw [if_neg hj]; exact ⟨T', H', m', rfl, hq, sat', hle', hL'⟩
 | _ => exact ⟨T', H', m', rfl, hq, sat', hle', hL'⟩

theorem o_4v {P : Program} {ops : Array Oper} {Q : Exit → Act → World → Prop} (rest : List Oper) : ∀ (os : List Oper) (Ts : Nat → List V) (Hs : Nat → List (Option Ob)) (xs : Nat → V) (es : Nat → E), (∀ o ∈ os, notDefer o = true) →
  (∀ i o, os[i]? = some o → StepI P ops o (Ts i) (Hs i) (xs i) (Hs (i + 1)) (es i) ∧ Ts (i + 1) = putT (Ts i) o.dst (xs i)) → ∀ (m : Mem) (a : Act), Sat m a (Ts 0) (Hs 0) →
  (∀ a' m', Sat m' a' (Ts os.length) (Hs os.length) → m.le m' (· < (Hs 0).length) → (Hs 0).length ≤ (Hs os.length).length → wpListIn (FR l) n P ops Q rest a' m'.w) → wpListIn (FR l) n P ops Q (os ++ rest) a m.w
 | [], Ts, Hs, xs, es, hd, h, m, a, sat, hQ => hQ a m sat (Mem.le.refl _ _) (Nat.le_refl _)
 | o :: os, Ts, Hs, xs, es, hd, h, m, a, sat, hQ => by
  obtain ⟨h1, h2⟩ := h 0 o rfl
  have hlen : (Hs 0).length ≤ (Hs 1).length := by
   obtain ⟨_, _, ⟨S, _, hok, _⟩ | ⟨_, he, _⟩⟩ := h1
   ·exact hok.len
   ·rw [he]; exact Nat.le_refl _
  rw [List.cons_append]
  refine wpListIn_step fun K hK => ?_
  have := o_36 h1 sat K Q fun v m' sat' hle' => hK _ _ (by
   rw [← h2] at sat'
   refine o_4v rest os (fun i => Ts (i + 1)) (fun i => Hs (i + 1)) (fun i => xs (i + 1)) (fun i => es (i + 1)) (fun o ho => hd o (by simp [ho])) (fun i o' ho => h (i + 1) o' (by simpa using ho)) m' _ sat' fun a2 m2 s2 l2 ln => hQ a2 m2 s2 ?_ (Nat.le_trans hlen ln)
   refine hle'.trans l2 fun n b hb hn => ?_
   rcases Nat.lt_or_ge n (Hs 0).length with h | h
   ·exact h
   ·rw [sat.top n h] at hb; cases hb)
  split
  ·rename_i hw
   rw [if_pos hw] at this
   exact o_4u (hd o (by simp)) this
  ·rename_i hw
   rw [if_neg hw] at this
   exact ⟨fun _ _ => trivial, this⟩

theorem o_4w {ops : Array Oper} {Q : Exit → Act → World → Prop} (rest : List Oper) {os : List Oper} (hd : os.all notDefer = true) {K : List V → List (Option Ob) → Prop} (h : vops P false K (os.map (resolveO P ops)) [] T H) {m0 m : Mem} {a : Act} (sat : Sat m a T H) (hle : m0.le m (· < L)) (htop : ∀ n, L ≤ n → m0.ρ n = none) (hL : L ≤ H.length)
  (hQ : ∀ T' H' a' m', K T' H' → Sat m' a' T' H' → m0.le m' (· < L) → L ≤ H'.length → wpListIn (FR l) n P ops Q rest a' m'.w) : wpListIn (FR l) n P ops Q (os ++ rest) a m.w := by
 obtain ⟨Ts, Hs, xs, es, rfl, rfl, h3, _, h5⟩ := o_2x os [] T H h
 refine o_4v rest os Ts Hs xs es (fun o ho => List.all_eq_true.1 hd o ho) h3 m a sat fun a' m' s' l' ln => ?_
 refine hQ _ _ a' m' h5 s' (hle.trans l' fun n b hb hn => ?_) (Nat.le_trans hL ln)
 rcases Nat.lt_or_ge n L with h | h
 ·exact h
 ·rw [htop n h] at hb; cases hb

theorem AWr.reg {os : List O} (h : vops P false (Q .normal) os [] T H) : AWr P l n L (.reg false os) Q T H := by
 intro code hc hd m0 m a sat hle htop hL
 cases code <;> simp [resolveC] at hc
 rename_i id ops d
 obtain ⟨rfl, rfl⟩ := hc
 refine wpIn_region_list ?_
 rw [← List.append_nil ops.toList]
 exact o_4w [] hd h sat hle htop hL fun T' H' a' m' hq s' l' ln => ⟨_, _, m', rfl, hq, s', l', ln⟩
end

structure Off (m m' : Mem) : Prop where
 ρ : m'.ρ = m.ρ
 I : m'.I = m.I
 w : ∀ b, m.I b → m'.w.heap[b]? = m.w.heap[b]?
 s : ∀ n b, m.ρ n = some b → m'.w.heap[b]? = m.w.heap[b]?
theorem Off.shape {m m' : Mem} (h : Off m m') (n b : Nat) (k : m.ρ n = some b) : m'.w.shape? b = m.w.shape? b := by unfold World.shape?; rw [h.s n b k]
mutual
theorem V.rep_off {m m' : Mem} (h : Off m m') : ∀ (x : V) (v : Value), V.rep m x v → V.rep m' x v
 | .d x, v, k => by unfold V.rep at k ⊢; exact D.rep_mono (fun b hb => h.I ▸ hb) h.w x v k
 | .agg l, v, k => by unfold V.rep at k ⊢; obtain ⟨vs, h1, h0, h2⟩ := k; exact ⟨vs, h1, h0, V.reps_off h l vs h2⟩
 | .tup l, v, k => by unfold V.rep at k ⊢; obtain ⟨vs, h1, h2⟩ := k; exact ⟨vs, h1, V.reps_off h l vs h2⟩
 | .p n off, v, k => by unfold V.rep at k ⊢; rw [h.ρ]; exact k
 | .row n off len, v, k => by unfold V.rep at k ⊢; rw [h.ρ]; exact k
 | .own n s len, v, k => by
  unfold V.rep at k ⊢
  obtain ⟨b, t, z, cap, h1, h2, h3⟩ := k
  exact ⟨b, t, z, cap, by rw [h.ρ]; exact h1, by rw [h.shape n b h1]; exact h2, h3⟩
 | .fn f l, v, k => by unfold V.rep at k ⊢; obtain ⟨vs, h1, h2⟩ := k; exact ⟨vs, h1, V.reps_off h l vs h2⟩
 | .junk, v, k => by unfold V.rep; trivial
theorem V.reps_off {m m' : Mem} (h : Off m m') : ∀ (l : List V) (vs : List Value), V.reps m l vs → V.reps m' l vs
 | [], vs, k => by unfold V.reps at k ⊢; exact k
 | x :: l, vs, k => by
  unfold V.reps at k ⊢
  obtain ⟨v, r, h1, h2, h3⟩ := k
  exact ⟨v, r, h1, V.rep_off h x v h2, V.reps_off h l r h3⟩
end
theorem Mem.obj_off {m m' : Mem} (h : Off m m') {n : Nat} {o : Ob} (k : m.obj n o) : m'.obj n o := by
 obtain ⟨b, vs, more, h1, h2, h3, h4, h5⟩ := k
 exact ⟨b, vs, more, by rw [h.ρ]; exact h1, by rw [h.s n b h1]; exact h2, h3, V.reps_off h _ _ h4, by rw [h.I]; exact h5⟩
theorem Sat.off {m m' : Mem} (h : Off m m') {a : Act} {T : List V} {H : List (Option Ob)} (sat : Sat m a T H) (hsz : m.w.heap.size ≤ m'.w.heap.size) : Sat m' a T H := by
 refine ⟨⟨fun b hb => Nat.lt_of_lt_of_le (sat.base.imm b (h.I ▸ hb)) hsz, fun n b hb => Nat.lt_of_lt_of_le (sat.base.dom n b (h.ρ ▸ hb)) hsz, sat.base.tabs.mono (fun b hb => h.I ▸ hb) h.w⟩, fun s => V.rep_off h _ _ (sat.slots s), fun n ob hn => Mem.obj_off h (sat.obj n ob hn), ?_, ?_, sat.size, sat.defers⟩
 ·rw [h.ρ]; exact sat.inj
 ·rw [h.ρ]; exact sat.top

abbrev Mem.at (m : Mem) (w : World) : Mem := ⟨m.ρ, m.I, w⟩
structure Mem.loose (m : Mem) (l : Nat) : Prop where
 lt : l < m.w.heap.size
 ρ : ∀ n, m.ρ n ≠ some l
 I : ¬ m.I l
theorem Mem.loose.keep {m m' : Mem} {M : Nat → Prop} {l : Nat} (h : m.loose l) (hle : m.le m' M) : m'.loose l ∧ m'.w.heap[l]? = m.w.heap[l]? := by
 refine ⟨⟨Nat.lt_of_lt_of_le h.lt hle.size, fun n hn => ?_, fun hI => ?_⟩, hle.block l h.lt fun n _ hn => h.ρ n hn⟩
 ·rcases hle.newρ n l hn with k | k | ⟨j, _, k⟩
  ·exact h.ρ n k
  ·have := h.lt; omega
  ·exact h.ρ j k
 ·rcases hle.newI l hI with k | k | ⟨j, _, k⟩
  ·exact h.I k
  ·have := h.lt; omega
  ·exact h.ρ j k
theorem Mem.loose.put {m : Mem} {l : Nat} (h : m.loose l) (o : Obj) : (m.at (m.w.putObj l o)).loose l := ⟨by simpa using h.lt, h.ρ, h.I⟩
theorem Mem.loose.sat {m : Mem} {l : Nat} (h : m.loose l) (o : Obj) {a : Act} {T : List V} {H : List (Option Ob)} (sat : Sat m a T H) : Sat (m.at (m.w.putObj l o)) a T H :=
 Sat.off (m := m) (m' := m.at (m.w.putObj l o)) ⟨rfl, rfl, fun b hb => World.putObj_heap_other fun e => h.I (e ▸ hb), fun n b hb => World.putObj_heap_other fun e => h.ρ n (e ▸ hb)⟩ sat (by simp)
theorem Mem.loose.rep {m : Mem} {l : Nat} (h : m.loose l) (o : Obj) {x : V} {v : Value} (k : x.rep m v) : x.rep (m.at (m.w.putObj l o)) v :=
 V.rep_off (m := m) (m' := m.at (m.w.putObj l o)) ⟨rfl, rfl, fun b hb => World.putObj_heap_other fun e => h.I (e ▸ hb), fun n b hb => World.putObj_heap_other fun e => h.ρ n (e ▸ hb)⟩ x v k
theorem o_4x {w : World} {l b : Nat} {o o' : Obj} (h : w.heap[l]? = some o) (h0 : ∀ c t f, o ≠ .cells c t f) (h1 : ∀ c t f, o' ≠ .cells c t f) : (w.putObj l o').shape? b = w.shape? b := by
 by_cases e : b = l
 ·subst e
  have hlt : b < w.heap.size := (Array.getElem?_eq_some_iff.1 h).1
  unfold World.shape?
  rw [World.putObj_heap_same hlt, h]
  split <;> split <;> simp_all
 ·unfold World.shape?; rw [World.putObj_heap_other e]
theorem Mem.loose.le {m m' : Mem} {M : Nat → Prop} {l : Nat} (h : m.loose l) (hle : m.le m' M) {o0 o o' : Obj} (hl : m.w.heap[l]? = some o0) (hn : ∀ c t f, o0 ≠ .cells c t f) (h1 : ∀ c t f, o ≠ .cells c t f) (h2 : ∀ c t f, o' ≠ .cells c t f) (hoo : o = o') : (m.at (m.w.putObj l o)).le (m'.at (m'.w.putObj l o')) M := by
 subst hoo
 obtain ⟨hk, hk2⟩ := h.keep hle
 refine ⟨hle.ρ, hle.I, hle.os, hle.tape, hle.output, by simpa using hle.size, fun b hb hm => ?_, fun b hb => ?_, fun b hb => ?_, fun b hb => ?_, fun n b hb => ?_⟩
 ·by_cases e : b = l
  ·subst e
   rw [World.putObj_heap_same h.lt, World.putObj_heap_same hk.lt]
  ·rw [World.putObj_heap_other e, World.putObj_heap_other e]; exact hle.block b (by simpa using hb) hm
 ·rw [o_4x hl hn h1, o_4x (hk2.trans hl) hn h2]; exact hle.shape b (by simpa using hb)
 ·have : b ≠ l := fun e => h.I (e ▸ hb)
  rw [World.putObj_heap_other this, World.putObj_heap_other this]; exact hle.imm b hb
 ·have := hle.newI b hb; simpa using this
 ·have := hle.newρ n b hb; simpa using this
end
end Go.Proofs.YtdklbnemfelpnaaGreatDoor.Am
namespace Go.Proofs.YtdklbnemfelpnaaGreatDoor.Am
section
open Go.RowKit
theorem o_4y {a a' : Act} (h : a.tmps = a'.tmps) : a.eval = a'.eval := by
 funext x
 cases x <;> simp [Act.eval, h]
structure Beside (D : List Deferred) (a a' : Act) : Prop where
 tmps : a.tmps = a'.tmps
 defers : a'.defers = a.defers ++ D
theorem Beside.put {D : List Deferred} {a a' : Act} (h : Beside D a a') (d : Option Tmp) (v : Value) : Beside D (a.put d v) (a'.put d v) := by
 cases d with
 | none => exact h
 | some d => exact ⟨by simp [Act.put, h.tmps], by simp [Act.put, h.defers]⟩
theorem o_4z {D : List Deferred} {F : Fence} {n : Nat} {P : Program} {o : Oper} {K K' : Act → World → Prop} {Q Q' : Exit → Act → World → Prop} (hK : ∀ a a' w, Beside D a a' → K a w → K' a' w) (hQ : ∀ e a a' w, Beside D a a' → Q e a w → Q' e a' w) {a a' : Act} (h : Beside D a a') :
  ∀ r, o.uponIn F n P a K Q r → o.uponIn F n P a' K' Q' r := by
 have hl : LetsOut Q → LetsOut Q' := fun ⟨a, w, h⟩ => ⟨⟨a.tmps, a.defers ++ D⟩, w, hQ _ a _ _ ⟨rfl, rfl⟩ h⟩
 intro r hr
 unfold Oper.uponIn at hr ⊢
 split at hr
 ·exact hK _ _ _ (h.put _ _) hr
 ·exact hK _ _ _ (h.put _ _) hr
 ·refine hK _ _ _ (Beside.put ⟨?_, ?_⟩ _ _) hr
  ·exact h.tmps
  ·simp [h.defers]
 ·refine ⟨hr.1, hr.2.mono fun e w' k => ?_⟩
  cases e with
  | returned v => exact hK _ _ _ (h.put _ _) k
  | panicked chain => exact hQ _ _ _ _ h k
  | outgrown => exact hl k
 ·exact ⟨hr.1, hr.2.mono fun v w' k => hK _ _ _ (h.put _ _) k⟩
 ·refine ⟨hr.1, hr.2.mono fun e w' k => ?_⟩
  cases e with
  | returned v => exact hK _ _ _ (h.put _ _) k
  | panicked chain => exact hQ _ _ _ _ h k
  | outgrown => exact hl k
 ·exact hQ _ _ _ _ h hr
 ·exact hr.elim
theorem o_50 {D : List Deferred} {F : Fence} {n : Nat} {P : Program} {ops : Array Oper} {Q Q' : Exit → Act → World → Prop} (hQ : ∀ e a a' w, Beside D a a' → Q e a w → Q' e a' w) : ∀ (os : List Oper) (a a' : Act) (w : World), Beside D a a' → wpListIn F n P ops Q os a w → wpListIn F n P ops Q' os a' w
 | [], a, a', w, h, k => hQ _ _ _ _ h k
 | o :: os, a, a', w, h, k => by
  unfold wpListIn at k ⊢
  rw [← h.tmps]
  split
  ·rename_i hw
   rw [if_pos hw] at k
   unfold Oper.wpIn at k ⊢
   rw [← o_4y h.tmps]
   exact ⟨k.1, o_4z (fun a a' w h k => o_50 hQ os a a' w h k) hQ h _ k.2⟩
  ·rename_i hw
   rw [if_neg hw] at k
   rw [← o_4y h.tmps]
   exact ⟨k.1, o_50 hQ os _ _ w (h.put _ _) k.2⟩

abbrev noQ : Exit → List V → List (Option Ob) → Prop := fun _ _ _ => False
theorem AW.then {P : Program} {n L : Nat} {x y : Code} {c : C} {R : Exit → Act → World → Prop} {K : List V → List (Option Ob) → Prop} {T : List V} {H : List (Option Ob)} (hc : resolveC P x = c) (hx : AW P L c (thenQ K noQ) T H) {m0 m : Mem} {a : Act} (sat : Sat m a T H) (hle : m0.le m (· < L)) (htop : ∀ n, L ≤ n → m0.ρ n = none) (hL : L ≤ H.length)
  (hy : ∀ T' H' m' a', K T' H' → Sat m' a' T' H' → m0.le m' (· < L) → L ≤ H'.length → y.wpIn Fence.wide n P R a' m'.w) : (Code.seq x y).wpIn Fence.wide n P R a m.w := by
 refine wpIn_seq (wpIn_mono (wpIn_wide.2 (hx x hc m0 m a sat hle htop hL)) ?_)
 rintro e a' w' ⟨T', H', m', rfl, hq, sat', hle', hL'⟩
 cases e with
 | normal => exact hy T' H' m' a' hq sat' hle' hL'
 | _ => exact hq.elim

theorem o_51 {P : Program} {o : Oper} {a : Act} {w : World} {c : Call} {f x y : Operand} {l : Nat} {caps : Array Value} (ho : o.op = .call c) (hc : c.callee = .value f) (ha : c.args.toList = [x, y]) (hf : a.eval f = .func (.yield l) #[] caps) :
  (execOp a.eval o).run P w = (Instr.yield l #[a.eval x, a.eval y]).run P w := by
 have e : c.args.map a.eval = #[a.eval x, a.eval y] := by rw [← Array.toArray_toList (xs := c.args), ha]; simp
 simp [execOp, ho, Go.resolve, hc, hf, Deferred.ofValue, invoke, e]

theorem o_52 (w : World) (l : Nat) (o o' : Obj) : (w.putObj l o).putObj l o' = w.putObj l o' := by
 simp [World.putObj]
theorem o_53 {w : World} {l : Nat} {o : Obj} (h : w.heap[l]? = some o) : w.putObj l o = w := by
 unfold World.putObj
 have : w.heap.setIfInBounds l o = w.heap := by
  apply Array.ext_getElem?
  intro i
  rw [Array.getElem?_setIfInBounds]
  split
  ·rename_i e; subst e
   obtain ⟨hlt, _⟩ := Array.getElem?_eq_some_iff.1 h
   rw [if_pos hlt, h]
  ·rfl
 rw [this]
theorem Mem.le.far {m m' : Mem} {M : Nat → Prop} (h : m.le m' M) (hb : m.base) {l : Nat} (hl : m.w.heap.size ≤ l) (o : Obj) : m.le (m'.at (m'.w.putObj l o)) M := by
 have e : ∀ b, b < m.w.heap.size → (m'.w.putObj l o).heap[b]? = m'.w.heap[b]? := fun b hb => World.putObj_heap_other (by omega)
 refine ⟨h.ρ, h.I, h.os, h.tape, h.output, by simpa using h.size, fun b hb hn => by rw [e b hb]; exact h.block b hb hn, fun b hb => ?_, fun b hI => by rw [e b (hb.imm b hI)]; exact h.imm b hI, h.newI, h.newρ⟩
 have := h.shape b hb
 unfold World.shape? at this ⊢
 rw [e b hb]; exact this
theorem Mem.le.grow {m m' : Mem} {M : Nat → Prop} (h : m.le m' M) (hb : m'.base) (o : Obj) : m.le (m'.at (m'.w.alloc o)) M := by
 have e : ∀ b, b < m'.w.heap.size → (m'.w.alloc o).heap[b]? = m'.w.heap[b]? := fun b hb => Below.heap_alloc _ _ _ hb
 refine ⟨h.ρ, h.I, h.os, h.tape, h.output, by simp; have := h.size; omega, fun b hb hn => by rw [e b (Nat.lt_of_lt_of_le hb h.size)]; exact h.block b hb hn, fun b hb => ?_, fun b hI => by rw [e b (hb.imm b (h.I b hI))]; exact h.imm b hI, h.newI, h.newρ⟩
 rw [← h.shape b hb]
 unfold World.shape?
 rw [e b (Nat.lt_of_lt_of_le hb h.size)]
theorem Sat.grow {m : Mem} {a : Act} {T : List V} {H : List (Option Ob)} (sat : Sat m a T H) (o : Obj) : Sat (m.at (m.w.alloc o)) a T H :=
 Sat.off (m := m) (m' := m.at (m.w.alloc o)) ⟨rfl, rfl, fun b hb => Below.heap_alloc _ _ _ (sat.base.imm b hb), fun n b hb => Below.heap_alloc _ _ _ (sat.base.dom n b hb)⟩ sat (by simp)
theorem o_54 {m : Mem} (hb : m.base) (o : Obj) : (m.at (m.w.alloc o)).loose m.w.heap.size :=
 ⟨by simp, fun n h => by have := hb.dom n _ h; omega, fun h => by have := hb.imm _ h; omega⟩
theorem Mem.loose.grow {m : Mem} {l : Nat} (h : m.loose l) (o : Obj) : (m.at (m.w.alloc o)).loose l := ⟨by simp; have := h.lt; omega, h.ρ, h.I⟩

abbrev Mem.cut (m : Mem) (S : Nat → Bool) : Mem := ⟨fun n => if S n then m.ρ n else none, m.I, m.w⟩
theorem Mem.cut_base {m : Mem} (h : m.base) (S : Nat → Bool) : (m.cut S).base :=
 ⟨h.imm, fun n b hb => (by simp only at hb; split at hb; exact h.dom n b hb; cases hb), h.tabs.mono (fun _ h => h) (fun _ _ => rfl)⟩
theorem Mem.uncut {m m' : Mem} {S : Nat → Bool} {M : Nat → Prop} (h : (m.cut S).le m' M) (hM : ∀ n, S n = true → M n) : m.le ⟨m.ρ, m'.I, m'.w⟩ (fun n => S n = true) := by
 refine ⟨fun _ _ k => k, h.I, h.os, h.tape, h.output, h.size, fun b hb hn => h.block b hb fun n _ k => ?_, h.shape, h.imm, fun b hb => (h.newI b hb).imp id (fun k => k.imp id ?_), fun n b k => .inl k⟩
 ·simp only at k
  split at k
  ·exact hn n ‹_› k
  ·cases k
 ·rintro ⟨n, _, k⟩
  simp only at k
  split at k
  ·exact ⟨n, ‹_›, k⟩
  ·cases k
theorem Sat.uncut {m m' : Mem} {a : Act} {T : List V} {H H' : List (Option Ob)} {S : Nat → Bool} (sat : Sat m a T H) (hb : m'.base) (hle : m.le ⟨m.ρ, m'.I, m'.w⟩ (fun n => S n = true)) (hS : ∀ n, S n = true → live H n) (hlen : H'.length = H.length)
  (hH : ∀ n ob, H'.getD n none = some ob → (S n = true ∧ (⟨m.ρ, m'.I, m'.w⟩ : Mem).obj n ob) ∨ (S n = false ∧ H.getD n none = some ob)) : Sat ⟨m.ρ, m'.I, m'.w⟩ a T H' := by
 have hl : ∀ n, live H' n → live H n := fun n h => by
  unfold live at h
  obtain ⟨ob, ho⟩ := Option.isSome_iff_exists.1 h
  rcases hH n ob ho with ⟨h1, _⟩ | ⟨_, h1⟩
  ·exact hS n h1
  ·unfold live; rw [h1]; rfl
 refine ⟨⟨hb.imm, fun n b h => Nat.lt_of_lt_of_le (sat.base.dom n b h) hle.size, hb.tabs⟩, fun s => V.rep_mono hle _ _ (sat.slots s), fun n ob h => ?_, fun n k b h1 h2 => sat.inj n k b (hl n h1) (hl k h2), fun n h => sat.top n (by omega), sat.size, sat.defers⟩
 rcases hH n ob h with ⟨_, h1⟩ | ⟨h0, h1⟩
 ·exact h1
 ·refine Mem.obj_keep sat.base hle (fun k b hk hn hk' => ?_) (sat.obj n ob h1)
  have := sat.inj n k b (by unfold live; rw [h1]; rfl) (hS k hk) hn hk'
  subst this
  rw [h0] at hk; cases hk

theorem o_55 {P : Program} {n id : Nat} {ops : Array Oper} {Q : Exit → Act → World → Prop} {a : Act} {w : World} (h : wpListIn Fence.wide n P ops Q ops.toList a w) : (Code.region id ops false).wpIn Fence.wide n P Q a w := wpIn_region_list h

theorem o_56 {P : Program} {f : FuncId} {c : C} {rs : List RV} {nt : Nat} (hf : fnOf P f = some (c, rs, nt, false)) (vs : Array Value) (w : World) : (callFunc f vs).run P w = .ok (.enter f vs) w := by
 unfold fnOf at hf
 split at hf
 ·rename_i fn hfn
  split at hf
  ·rename_i b hb
   simp only [Option.some.injEq, Prod.mk.injEq] at hf
   obtain ⟨h1, h2, h3, h4⟩ := hf
   have h1 : ¬ fn.name = "runtime.NumGoroutine" := by simpa using h4
   simp [callFunc, hfn, h1, hb]
  ·cases hf
 ·cases hf
end
end Go.Proofs.YtdklbnemfelpnaaGreatDoor.Am
namespace Go.Proofs.YtdklbnemfelpnaaGreatDoor.Am
section
section
variable {P : Program} {f : FuncId} {args argsC : List V} {H : List (Option Ob)} {K : V → List (Option Ob) → List Nat → List Nat → Prop} {X : V}
theorem CallS.n1 {ob' : Ob} (E : Eqn P f argsC [] (.p 0 0) [ob']) (h : K (.p H.length 0) (H ++ [some ob']) [] [H.length]) (hO' : plainL ob'.c := by exact ⟨rfl, fun _ => rfl⟩)
  (hl : V.lowl 0 argsC = true := by rfl) (hr : ∀ θ, V.rens θ argsC = argsC := by exact fun _ => rfl) (hs : Subs args argsC := by exact Subs.refl _) : CallS P f args H K := CallS.new1 E hO' hl hr hs h
theorem CallS.g {Hs Hs' : List Ob} {dead : List Nat} (θ : List Nat) (E : EqnD P f argsC Hs X Hs' dead)
  (h : K (X.ren (nameOf θ H.length)) (killAll (putAll H θ (Hs'.map fun ob => ⟨ob.T, V.rens (nameOf θ H.length) ob.c⟩)) θ dead) [] (θ ++ (List.range (Hs'.length - Hs.length)).map (H.length + ·)))
  (hnd : θ.Nodup := by decide) (hat : obsAt Hs.length H (nameOf θ H.length) θ Hs := by first | ((repeat (first | exact o_4n | refine o_4o rfl rfl ?_)); done) | (simp; done))
  (hl : V.lowl Hs.length argsC = true := by first | rfl | (simp; done)) (hs : args = V.rens (nameOf θ H.length) argsC := by first | rfl | (simp; done)) : CallS P f args H K := CallS.gen θ E hnd hat hl (Subs.of hs) h
theorem CallS.gf {Hs Hs' : List Ob} {dead : List Nat} (n s : Nat) (ob : Ob) (ds : List D) (θ : List Nat) (E : EqnD P f argsC Hs X Hs' dead)
  (h : K (X.ren (nameOf θ H.length)) (killAll (putAll (H.set n none) θ (Hs'.map fun ob => ⟨ob.T, V.rens (nameOf θ H.length) ob.c⟩)) θ dead) [] (n :: (θ ++ (List.range (Hs'.length - Hs.length)).map (H.length + ·))))
  (hn : H.getD n none = some ob := by rfl) (hd : ob.c = ds.map V.d := by simp) (hnd : θ.Nodup := by decide) (hat : obsAt Hs.length (H.set n none) (nameOf θ H.length) θ Hs := by first | ((repeat (first | exact o_4n | refine o_4o rfl rfl ?_)); done) | (simp; done))
  (hl : V.lowl Hs.length argsC = true := by first | rfl | (simp; done)) (hs : V.frzs n s ds args = V.rens (nameOf θ H.length) argsC := by first | rfl | (simp; done)) : CallS P f args H K := CallS.genF n s ob ds θ E hn hd hnd hat hl (Subs.of hs) (by simpa using h)
theorem CallS.ro (ns : List (Nat × Nat × List D)) (E : Eqn P f argsC [] X []) (h : K X H (ns.map (·.1)) []) (hs : frzL ns args = argsC := by first | rfl | (simp [frzL]; done)) (hok : frzOK H ns := by first | (simp [frzOK, frzH]; done) | (simp [frzOK, frzH]; rfl))
  (hst : X.stab = true := by rfl) (hl : V.lowl 0 argsC = true := by rfl) : CallS P f args H K := .inr (.inr ⟨ns, argsC, X, E, hst, hl, Subs.of hs, hok, h⟩)
end
attribute [simp] dstV
@[simp] theorem o_57 : IntKind.u8.bits = 8 := rfl
@[simp] theorem o_58 : IntKind.u16.bits = 16 := rfl
@[simp] theorem o_59 : IntKind.u32.bits = 32 := rfl
@[simp] theorem o_5a : IntKind.u64.bits = 64 := rfl
@[simp] theorem o_5b : IntKind.i64.bits = 64 := rfl
end
end Go.Proofs.YtdklbnemfelpnaaGreatDoor.Am
namespace Go.Proofs.YtdklbnemfelpnaaGreatDoor.Am
section
open Go.RowKit
inductive Tri : Prop → Prop
 | tt : Tri True
 | any (p : Prop) : Tri p
structure Hid (p : Prop) : Prop where
 v : p
theorem tt : True := True.intro
theorem fs {a b : Prop} (x : a) (y : b) : a ∧ b := And.intro x y
theorem G0 {q p : Prop} (hp : p) (h : (Hid p → q) ∧ Tri p := by
 constructor
 ·intro hp
  repeat (first | refine AW.seq ?_ | refine AW.block ?_ | (refine AW.reg mix ?_; (simp -implicitDefEqProofs; try simp (disch := omega) only [w64, wu64])) | (refine need.of (by first | omega | kernel_rfl) ?_) | (refine AW.fin ?_; try (simp -implicitDefEqProofs; try simp (disch := omega) only [w64, wu64])))
  try exact hp.v
 ·with_reducible first | exact Tri.tt | exact Tri.any _) : q := (h).1 ⟨hp⟩
theorem R0 {q p : Prop} (hp : p) (h : (Hid p → q) ∧ Tri p := by
 constructor
 ·intro hp
  try (simp -implicitDefEqProofs; try simp (disch := omega) only [w64, wu64])
  repeat (first | refine AW.seq ?_ | refine AW.block ?_ | (refine AW.reg mix ?_; (simp -implicitDefEqProofs; try simp (disch := omega) only [w64, wu64])) | (refine need.of (by first | omega | kernel_rfl) ?_) | (refine AW.fin ?_; try (simp -implicitDefEqProofs; try simp (disch := omega) only [w64, wu64])))
  try exact hp.v
 ·with_reducible first | exact Tri.tt | exact Tri.any _) : q := (h).1 ⟨hp⟩
theorem A00 {q p : Prop} (hp : p) (h : (Hid p → q) ∧ Tri p := by
 constructor
 ·intro hp
  repeat (first | refine AW.seq ?_ | refine AW.block ?_ | (refine AW.reg mix ?_; (simp -implicitDefEqProofs; try simp (disch := omega) only [w64, wu64])) | (refine need.of (by first | omega | kernel_rfl) ?_) | (refine AW.fin ?_; try (simp -implicitDefEqProofs; try simp (disch := omega) only [w64, wu64])) | (refine AW.cond rfl ?_ (fun _ => ?_); focus (intro h; simp -implicitDefEqProofs at h; done)) | (refine AW.cond rfl (fun _ => ?_) ?_; rotate_left; focus (intro h; simp -implicitDefEqProofs at h; done)))
  try exact hp.v
 ·with_reducible first | exact Tri.tt | exact Tri.any _) : q := (h).1 ⟨hp⟩
theorem A01 {q p c1 : Prop} (k1 : c1) (hp : p) (h : c1 → (Hid p → q) ∧ Tri p := by
 intro c1
 constructor
 ·intro hp
  repeat (first | refine AW.seq ?_ | refine AW.block ?_ | (refine AW.reg mix ?_; (simp -implicitDefEqProofs; try simp (disch := omega) only [w64, wu64])) | (refine need.of (by first | omega | kernel_rfl) ?_) | (refine AW.fin ?_; try (simp -implicitDefEqProofs; try simp (disch := omega) only [w64, wu64])) | (refine AW.cond rfl ?_ (fun _ => ?_); focus (intro h; simp -implicitDefEqProofs at h; done)) | (refine AW.cond rfl (fun _ => ?_) ?_; rotate_left; focus (intro h; simp -implicitDefEqProofs at h; done)) | (refine CallS.pu c1 ?_; try (simp -implicitDefEqProofs; try simp (disch := omega) only [w64, wu64])) | refine Exists.intro _ (And.intro c1 ?_))
  try exact hp.v
 ·with_reducible first | exact Tri.tt | exact Tri.any _) : q := (h k1).1 ⟨hp⟩
theorem A02 {q p c1 c2 : Prop} (k1 : c1) (k2 : c2) (hp : p) (h : c1 → c2 → (Hid p → q) ∧ Tri p := by
 intro c1 c2
 constructor
 ·intro hp
  repeat (first | refine AW.seq ?_ | refine AW.block ?_ | (refine AW.reg mix ?_; (simp -implicitDefEqProofs; try simp (disch := omega) only [w64, wu64])) | (refine need.of (by first | omega | kernel_rfl) ?_) | (refine AW.fin ?_; try (simp -implicitDefEqProofs; try simp (disch := omega) only [w64, wu64])) | (refine AW.cond rfl ?_ (fun _ => ?_); focus (intro h; simp -implicitDefEqProofs at h; done)) | (refine AW.cond rfl (fun _ => ?_) ?_; rotate_left; focus (intro h; simp -implicitDefEqProofs at h; done)) | (refine CallS.pu c1 ?_; try (simp -implicitDefEqProofs; try simp (disch := omega) only [w64, wu64])) | refine Exists.intro _ (And.intro c1 ?_) | (refine CallS.pu c2 ?_; try (simp -implicitDefEqProofs; try simp (disch := omega) only [w64, wu64])) | refine Exists.intro _ (And.intro c2 ?_))
  try exact hp.v
 ·with_reducible first | exact Tri.tt | exact Tri.any _) : q := (h k1 k2).1 ⟨hp⟩
theorem A03 {q p c1 c2 c3 : Prop} (k1 : c1) (k2 : c2) (k3 : c3) (hp : p) (h : c1 → c2 → c3 → (Hid p → q) ∧ Tri p := by
 intro c1 c2 c3
 constructor
 ·intro hp
  repeat (first | refine AW.seq ?_ | refine AW.block ?_ | (refine AW.reg mix ?_; (simp -implicitDefEqProofs; try simp (disch := omega) only [w64, wu64])) | (refine need.of (by first | omega | kernel_rfl) ?_) | (refine AW.fin ?_; try (simp -implicitDefEqProofs; try simp (disch := omega) only [w64, wu64])) | (refine AW.cond rfl ?_ (fun _ => ?_); focus (intro h; simp -implicitDefEqProofs at h; done)) | (refine AW.cond rfl (fun _ => ?_) ?_; rotate_left; focus (intro h; simp -implicitDefEqProofs at h; done)) | (refine CallS.pu c1 ?_; try (simp -implicitDefEqProofs; try simp (disch := omega) only [w64, wu64])) | refine Exists.intro _ (And.intro c1 ?_) | (refine CallS.pu c2 ?_; try (simp -implicitDefEqProofs; try simp (disch := omega) only [w64, wu64])) | refine Exists.intro _ (And.intro c2 ?_) | (refine CallS.pu c3 ?_; try (simp -implicitDefEqProofs; try simp (disch := omega) only [w64, wu64])) | refine Exists.intro _ (And.intro c3 ?_))
  try exact hp.v
 ·with_reducible first | exact Tri.tt | exact Tri.any _) : q := (h k1 k2 k3).1 ⟨hp⟩
theorem G1 {q f1 : Prop} {p : f1 → Prop} (f : f1) (hp : (p f)) (h : ∀ f1 : f1, (Hid (p f1) → q) ∧ Tri (p f1) := by
 intro f1
 constructor
 ·intro hp
  repeat (first | refine AW.seq ?_ | refine AW.block ?_ | (refine AW.reg mix ?_; (simp -implicitDefEqProofs [f1]; try simp (disch := omega) only [w64, wu64])) | (refine need.of (by first | omega | kernel_rfl) ?_) | (refine AW.fin ?_; try (simp -implicitDefEqProofs [f1]; try simp (disch := omega) only [w64, wu64])))
  try exact hp.v
 ·with_reducible first | exact Tri.tt | exact Tri.any _) : q := (h f).1 ⟨hp⟩
theorem R1 {q f1 : Prop} {p : f1 → Prop} (f : f1) (hp : (p f)) (h : ∀ f1 : f1, (Hid (p f1) → q) ∧ Tri (p f1) := by
 intro f1
 constructor
 ·intro hp
  try (simp -implicitDefEqProofs [f1]; try simp (disch := omega) only [w64, wu64])
  repeat (first | refine AW.seq ?_ | refine AW.block ?_ | (refine AW.reg mix ?_; (simp -implicitDefEqProofs [f1]; try simp (disch := omega) only [w64, wu64])) | (refine need.of (by first | omega | kernel_rfl) ?_) | (refine AW.fin ?_; try (simp -implicitDefEqProofs [f1]; try simp (disch := omega) only [w64, wu64])))
  try exact hp.v
 ·with_reducible first | exact Tri.tt | exact Tri.any _) : q := (h f).1 ⟨hp⟩
theorem A10 {q f1 : Prop} {p : f1 → Prop} (f : f1) (hp : (p f)) (h : ∀ f1 : f1, (Hid (p f1) → q) ∧ Tri (p f1) := by
 intro f1
 constructor
 ·intro hp
  repeat (first | refine AW.seq ?_ | refine AW.block ?_ | (refine AW.reg mix ?_; (simp -implicitDefEqProofs [f1]; try simp (disch := omega) only [w64, wu64])) | (refine need.of (by first | omega | kernel_rfl) ?_) | (refine AW.fin ?_; try (simp -implicitDefEqProofs [f1]; try simp (disch := omega) only [w64, wu64])) | (refine AW.cond rfl ?_ (fun _ => ?_); focus (intro h; simp -implicitDefEqProofs [f1] at h; done)) | (refine AW.cond rfl (fun _ => ?_) ?_; rotate_left; focus (intro h; simp -implicitDefEqProofs [f1] at h; done)))
  try exact hp.v
 ·with_reducible first | exact Tri.tt | exact Tri.any _) : q := (h f).1 ⟨hp⟩
theorem A11 {q f1 c1 : Prop} {p : f1 → Prop} (f : f1) (k1 : c1) (hp : (p f)) (h : ∀ f1 : f1, c1 → (Hid (p f1) → q) ∧ Tri (p f1) := by
 intro f1 c1
 constructor
 ·intro hp
  repeat (first | refine AW.seq ?_ | refine AW.block ?_ | (refine AW.reg mix ?_; (simp -implicitDefEqProofs [f1]; try simp (disch := omega) only [w64, wu64])) | (refine need.of (by first | omega | kernel_rfl) ?_) | (refine AW.fin ?_; try (simp -implicitDefEqProofs [f1]; try simp (disch := omega) only [w64, wu64])) | (refine AW.cond rfl ?_ (fun _ => ?_); focus (intro h; simp -implicitDefEqProofs [f1] at h; done)) | (refine AW.cond rfl (fun _ => ?_) ?_; rotate_left; focus (intro h; simp -implicitDefEqProofs [f1] at h; done)) | (refine CallS.pu c1 ?_; try (simp -implicitDefEqProofs [f1]; try simp (disch := omega) only [w64, wu64])) | refine Exists.intro _ (And.intro c1 ?_))
  try exact hp.v
 ·with_reducible first | exact Tri.tt | exact Tri.any _) : q := (h f k1).1 ⟨hp⟩
theorem A12 {q f1 c1 c2 : Prop} {p : f1 → Prop} (f : f1) (k1 : c1) (k2 : c2) (hp : (p f)) (h : ∀ f1 : f1, c1 → c2 → (Hid (p f1) → q) ∧ Tri (p f1) := by
 intro f1 c1 c2
 constructor
 ·intro hp
  repeat (first | refine AW.seq ?_ | refine AW.block ?_ | (refine AW.reg mix ?_; (simp -implicitDefEqProofs [f1]; try simp (disch := omega) only [w64, wu64])) | (refine need.of (by first | omega | kernel_rfl) ?_) | (refine AW.fin ?_; try (simp -implicitDefEqProofs [f1]; try simp (disch := omega) only [w64, wu64])) | (refine AW.cond rfl ?_ (fun _ => ?_); focus (intro h; simp -implicitDefEqProofs [f1] at h; done)) | (refine AW.cond rfl (fun _ => ?_) ?_; rotate_left; focus (intro h; simp -implicitDefEqProofs [f1] at h; done)) | (refine CallS.pu c1 ?_; try (simp -implicitDefEqProofs [f1]; try simp (disch := omega) only [w64, wu64])) | refine Exists.intro _ (And.intro c1 ?_) | (refine CallS.pu c2 ?_; try (simp -implicitDefEqProofs [f1]; try simp (disch := omega) only [w64, wu64])) | refine Exists.intro _ (And.intro c2 ?_))
  try exact hp.v
 ·with_reducible first | exact Tri.tt | exact Tri.any _) : q := (h f k1 k2).1 ⟨hp⟩
theorem G0B {q p : Prop} (hp : p) (h : (Hid p → q) ∧ Tri p := by
 constructor
 ·intro hp
  repeat (first | refine AW.seq ?_ | refine AW.block ?_ | (refine AW.reg mix ?_; (simp -implicitDefEqProofs [-Bool.exists_bool]; try simp (disch := omega) only [w64, wu64])) | (refine need.of (by first | omega | kernel_rfl) ?_) | (refine AW.fin ?_; try (simp -implicitDefEqProofs [-Bool.exists_bool]; try simp (disch := omega) only [w64, wu64])))
  try exact hp.v
 ·with_reducible first | exact Tri.tt | exact Tri.any _) : q := (h).1 ⟨hp⟩
theorem R0B {q p : Prop} (hp : p) (h : (Hid p → q) ∧ Tri p := by
 constructor
 ·intro hp
  try (simp -implicitDefEqProofs [-Bool.exists_bool]; try simp (disch := omega) only [w64, wu64])
  repeat (first | refine AW.seq ?_ | refine AW.block ?_ | (refine AW.reg mix ?_; (simp -implicitDefEqProofs [-Bool.exists_bool]; try simp (disch := omega) only [w64, wu64])) | (refine need.of (by first | omega | kernel_rfl) ?_) | (refine AW.fin ?_; try (simp -implicitDefEqProofs [-Bool.exists_bool]; try simp (disch := omega) only [w64, wu64])))
  try exact hp.v
 ·with_reducible first | exact Tri.tt | exact Tri.any _) : q := (h).1 ⟨hp⟩
theorem A00B {q p : Prop} (hp : p) (h : (Hid p → q) ∧ Tri p := by
 constructor
 ·intro hp
  repeat (first | refine AW.seq ?_ | refine AW.block ?_ | (refine AW.reg mix ?_; (simp -implicitDefEqProofs [-Bool.exists_bool]; try simp (disch := omega) only [w64, wu64])) | (refine need.of (by first | omega | kernel_rfl) ?_) | (refine AW.fin ?_; try (simp -implicitDefEqProofs [-Bool.exists_bool]; try simp (disch := omega) only [w64, wu64])) | (refine AW.cond rfl ?_ (fun _ => ?_); focus (intro h; simp -implicitDefEqProofs [-Bool.exists_bool] at h; done)) | (refine AW.cond rfl (fun _ => ?_) ?_; rotate_left; focus (intro h; simp -implicitDefEqProofs [-Bool.exists_bool] at h; done)))
  try exact hp.v
 ·with_reducible first | exact Tri.tt | exact Tri.any _) : q := (h).1 ⟨hp⟩
theorem A01B {q p c1 : Prop} (k1 : c1) (hp : p) (h : c1 → (Hid p → q) ∧ Tri p := by
 intro c1
 constructor
 ·intro hp
  repeat (first | refine AW.seq ?_ | refine AW.block ?_ | (refine AW.reg mix ?_; (simp -implicitDefEqProofs [-Bool.exists_bool]; try simp (disch := omega) only [w64, wu64])) | (refine need.of (by first | omega | kernel_rfl) ?_) | (refine AW.fin ?_; try (simp -implicitDefEqProofs [-Bool.exists_bool]; try simp (disch := omega) only [w64, wu64])) | (refine AW.cond rfl ?_ (fun _ => ?_); focus (intro h; simp -implicitDefEqProofs [-Bool.exists_bool] at h; done)) | (refine AW.cond rfl (fun _ => ?_) ?_; rotate_left; focus (intro h; simp -implicitDefEqProofs [-Bool.exists_bool] at h; done)) | (refine CallS.pu c1 ?_; try (simp -implicitDefEqProofs [-Bool.exists_bool]; try simp (disch := omega) only [w64, wu64])) | refine Exists.intro _ (And.intro c1 ?_))
  try exact hp.v
 ·with_reducible first | exact Tri.tt | exact Tri.any _) : q := (h k1).1 ⟨hp⟩
theorem G1B {q f1 : Prop} {p : f1 → Prop} (f : f1) (hp : (p f)) (h : ∀ f1 : f1, (Hid (p f1) → q) ∧ Tri (p f1) := by
 intro f1
 constructor
 ·intro hp
  repeat (first | refine AW.seq ?_ | refine AW.block ?_ | (refine AW.reg mix ?_; (simp -implicitDefEqProofs [-Bool.exists_bool, f1]; try simp (disch := omega) only [w64, wu64])) | (refine need.of (by first | omega | kernel_rfl) ?_) | (refine AW.fin ?_; try (simp -implicitDefEqProofs [-Bool.exists_bool, f1]; try simp (disch := omega) only [w64, wu64])))
  try exact hp.v
 ·with_reducible first | exact Tri.tt | exact Tri.any _) : q := (h f).1 ⟨hp⟩
theorem R1B {q f1 : Prop} {p : f1 → Prop} (f : f1) (hp : (p f)) (h : ∀ f1 : f1, (Hid (p f1) → q) ∧ Tri (p f1) := by
 intro f1
 constructor
 ·intro hp
  try (simp -implicitDefEqProofs [-Bool.exists_bool, f1]; try simp (disch := omega) only [w64, wu64])
  repeat (first | refine AW.seq ?_ | refine AW.block ?_ | (refine AW.reg mix ?_; (simp -implicitDefEqProofs [-Bool.exists_bool, f1]; try simp (disch := omega) only [w64, wu64])) | (refine need.of (by first | omega | kernel_rfl) ?_) | (refine AW.fin ?_; try (simp -implicitDefEqProofs [-Bool.exists_bool, f1]; try simp (disch := omega) only [w64, wu64])))
  try exact hp.v
 ·with_reducible first | exact Tri.tt | exact Tri.any _) : q := (h f).1 ⟨hp⟩
theorem A10B {q f1 : Prop} {p : f1 → Prop} (f : f1) (hp : (p f)) (h : ∀ f1 : f1, (Hid (p f1) → q) ∧ Tri (p f1) := by
 intro f1
 constructor
 ·intro hp
  repeat (first | refine AW.seq ?_ | refine AW.block ?_ | (refine AW.reg mix ?_; (simp -implicitDefEqProofs [-Bool.exists_bool, f1]; try simp (disch := omega) only [w64, wu64])) | (refine need.of (by first | omega | kernel_rfl) ?_) | (refine AW.fin ?_; try (simp -implicitDefEqProofs [-Bool.exists_bool, f1]; try simp (disch := omega) only [w64, wu64])) | (refine AW.cond rfl ?_ (fun _ => ?_); focus (intro h; simp -implicitDefEqProofs [-Bool.exists_bool, f1] at h; done)) | (refine AW.cond rfl (fun _ => ?_) ?_; rotate_left; focus (intro h; simp -implicitDefEqProofs [-Bool.exists_bool, f1] at h; done)))
  try exact hp.v
 ·with_reducible first | exact Tri.tt | exact Tri.any _) : q := (h f).1 ⟨hp⟩
end
end Go.Proofs.YtdklbnemfelpnaaGreatDoor.Am
