import Derived.Test.YtakjegcjeffmgaaAmOne
import Derived.Deep.AppendSrc
namespace Go.Proofs.Ytakjegcjeffmgaa.Am
section
open Go.RowKit
set_option linter.unusedVariables false
set_option linter.unusedSimpArgs false

section
variable {P : Program} {o : Oper} {T : List V} {H : List (Option Ob)}

theorem intOf_int {x : V} {n : Int} (h : intOf? x = some n) : ∃ k, x = .d (.int k n) := by
  unfold intOf? at h
  split at h
  · cases h; exact ⟨_, rfl⟩
  · cases h

theorem run_bounds {w : World} (lo hi mx : Option Value) (len cap l h m : Nat) (hlo : lo = none ∧ l = 0 ∨ ∃ k, lo = some (.int k l)) (hhi : hi = none ∧ mx = none ∧ h = len ∨ ∃ k, hi = some (.int k h))
    (hmx : mx = none ∧ m = cap ∨ (hi.isSome = true ∧ ∃ k, mx = some (.int k m))) (h1 : l ≤ h) (h2 : h ≤ m) (h3 : m ≤ cap) : (Instr.sliceBounds true len cap lo hi mx).run P w = .ok (l, h, m) w := by
  have sb : ∀ (k : IntKind) (i y : Nat) (c : BoundsCode), i ≤ y → (Instr.sliceBound (.int k i) y c).run P w = .ok i w := by
    intro k i y c hle
    have : (0 : Int) ≤ i ∧ (i : Int) ≤ y := by omega
    simp only [Instr.sliceBound, asIntOf, Sem.run_bind, Sem.run_pure, Result.andThen_ok, if_pos this, Int.toNat_natCast]
  unfold Instr.sliceBounds
  rcases hmx with ⟨rfl, rfl⟩ | ⟨hs, k, rfl⟩
  · rcases hhi with ⟨rfl, _, rfl⟩ | ⟨k, rfl⟩
    · rcases hlo with ⟨rfl, rfl⟩ | ⟨k, rfl⟩
      · simp
      · simp [sb _ _ _ _ h1]
    · rcases hlo with ⟨rfl, rfl⟩ | ⟨k', rfl⟩
      · simp [sb _ _ _ _ h2]
      · simp [sb _ _ _ _ h2, sb _ _ _ _ h1]
  · rcases hhi with ⟨_, h0, _⟩ | ⟨k', rfl⟩
    · cases h0
    · rcases hlo with ⟨rfl, rfl⟩ | ⟨k'', rfl⟩
      · simp [sb _ _ _ _ h2, sb _ _ _ _ h3]
      · simp [sb _ _ _ _ h2, sb _ _ _ _ h3, sb _ _ _ _ h1]

theorem run_slice {w : World} {t e : TypeId} {i : TypeInfo} (hu : P.underlying t = some (.slice e)) (hi : P.info? e = some i) (pa : Option Addr) (lo hi' mx : Option Value) (len cap l h m : Nat) (hb : (Instr.sliceBounds true len cap lo hi' mx).run P w = .ok (l, h, m) w) :
    (Instr.sliceAt t (.slice pa len cap) lo hi' mx).run P w = .ok (.slice (if m = l then pa else pa.map (·.add (l * i.size))) (h - l) (m - l)) w := by
  simp [Instr.sliceAt, Instr.slice, run_underlying hu, hb, size_run hi]

/-- a bound, as the walk has it and as it is -/
theorem bnd_of {m : Mem} {a : Act} {n : Int} {r : Int} (lo : Option Operand) (hs : Slots m a T (optS (lo.map X.of))) (h : bnd T n (lo.map X.of) = some r) : (lo = none ∧ r = n) ∨ ∃ y k, lo = some y ∧ a.eval y = .int k r := by
  cases lo with
  | none => simp [bnd] at h; exact .inl ⟨rfl, h.symm⟩
  | some y =>
    simp only [bnd, Option.map_some] at h
    obtain ⟨k, hk⟩ := intOf_int h
    exact .inr ⟨y, k, rfl, V.rep_int.1 (X.rep' hs hk)⟩

theorem hi_of {m : Mem} {a : Act} {x : V} {mx : Bool} {r : Int} (hi : Option Operand) (hs : Slots m a T (optS (hi.map X.of))) (h : hiOf T x mx (hi.map X.of) = some r) : (hi = none ∧ mx = false ∧ lenV x = some r) ∨ ∃ y k, hi = some y ∧ a.eval y = .int k r := by
  cases hi with
  | none =>
    simp only [hiOf, Option.map_none] at h
    cases mx with
    | true => simp at h
    | false => exact .inl ⟨rfl, rfl, by simpa using h⟩
  | some y =>
    simp only [hiOf, Option.map_some] at h
    obtain ⟨k, hk⟩ := intOf_int h
    exact .inr ⟨y, k, rfl, V.rep_int.1 (X.rep' hs hk)⟩

theorem ok_sstr (t : TypeId) (x : Operand) (lo hi : Option Operand) (s : ByteArray) (a b : Int) (ho : o.op = .slice t x lo hi none) (hu : P.underlying t = some .string) (hx : (X.of x).ev T = .d (.str s)) (ha : bnd T 0 (lo.map X.of) = some a) (hb : bnd T s.size (hi.map X.of) = some b) (h0 : 0 ≤ a) (h1 : a ≤ b) (h2 : b ≤ s.size) :
    StepOK P o ((X.of x).slots ++ (optS (lo.map X.of) ++ optS (hi.map X.of))) T H (.d (.str (s.extract a.toNat b.toNat))) H [] [] :=
  StepOK.data fun m ac hs => by
    have hlo := bnd_of lo (sub_l (sub_r hs)) ha
    have hhi := bnd_of hi (sub_r (sub_r hs)) hb
    have sb : ∀ (k : IntKind) (i : Int) (y : Nat) (c : BoundsCode), 0 ≤ i → i ≤ y → (Instr.sliceBound (.int k i) y c).run P m.w = .ok i.toNat m.w := by
      intro k i y c h3 h4
      simp only [Instr.sliceBound, asIntOf, Sem.run_bind, Sem.run_pure, Result.andThen_ok, if_pos (And.intro h3 h4)]
    have hbr : (Instr.sliceBounds false s.size s.size (lo.map ac.eval) (hi.map ac.eval) none).run P m.w = .ok (a.toNat, b.toNat, s.size) m.w := by
      unfold Instr.sliceBounds
      rcases hhi with ⟨rfl, rfl⟩ | ⟨y, k, rfl, hy⟩
      · rcases hlo with ⟨rfl, rfl⟩ | ⟨y', k', rfl, hy'⟩
        · simp
        · simp [hy', sb _ _ _ _ h0 h1]
      · rcases hlo with ⟨rfl, rfl⟩ | ⟨y', k', rfl, hy'⟩
        · simp [hy, sb _ _ _ _ (Int.le_trans h0 h1) h2]
        · have h1' : a ≤ ((b.toNat : Nat) : Int) := by omega
          simp [hy, hy', sb _ _ _ _ (Int.le_trans h0 h1) h2, sb _ _ _ _ h0 h1']
    refine ⟨.string (s.extract a.toNat b.toNat), ?_, D.rep_str.2 rfl⟩
    simp [execOp, ho, V.rep_str.1 (X.rep' (sub_l hs) hx), Instr.sliceAt, Instr.slice, run_underlying hu, hbr]

theorem seg_of {I : Nat → Prop} {w : World} {l : List D} {vs : List Value} {s a n : Nat} (h : D.reps I w l vs) : D.reps I w ((l.drop (a * s)).take (n * s)) ((vs.drop (a * s)).take (n * s)) := D.reps_take (D.reps_drop h _) _

theorem ok_slice (t e : TypeId) (x : Operand) (lo hi mx : Option Operand) (i : TypeInfo) (ho : o.op = .slice t x lo hi mx) (hu : P.underlying t = some (.slice e)) (hi' : P.info? e = some i) (K : V → Prop)
    (h : sliceS i.size ((X.of x).ev T) (bnd T 0 (lo.map X.of)) (hiOf T ((X.of x).ev T) (mx.map X.of).isSome (hi.map X.of)) ((mx.map X.of).map fun c => intOf? (c.ev T)) K) :
    ∃ v, K v ∧ StepOK P o ((X.of x).slots ++ (optS (lo.map X.of) ++ (optS (hi.map X.of) ++ optS (mx.map X.of)))) T H v H [] [] := by
  have hmxn : ∀ {c : Option (Option Int)}, ((mx.map X.of).map fun c => intOf? (c.ev T)) = c → c = none → mx = none := by
    intro c h1 h2; subst h2; cases mx with
    | none => rfl
    | some y => simp at h1
  -- all that a case wants
  have key : ∀ (m : Mem) (ac : Act) (pa : Option Addr) (len cap : Nat) (a b : Int) (c : Nat), Slots m ac T ((X.of x).slots ++ (optS (lo.map X.of) ++ (optS (hi.map X.of) ++ optS (mx.map X.of)))) → ac.eval x = .slice pa len cap →
      bnd T 0 (lo.map X.of) = some a → hiOf T ((X.of x).ev T) (mx.map X.of).isSome (hi.map X.of) = some b → (lenV ((X.of x).ev T) = some b → b = len) → 0 ≤ a → a ≤ b → b ≤ c → c ≤ cap →
      (mx = none ∧ c = cap ∨ ∃ z, mx = some z ∧ ∃ k, ac.eval z = .int k c) →
      (execOp ac.eval o).run P m.w = .ok (.value (.slice (if c = a.toNat then pa else pa.map (·.add (a.toNat * i.size))) (b - a).toNat (c - a.toNat))) m.w := by
    intro m ac pa len cap a b c hs hx ha hb hlen h0 h1 h2 h3 hc
    have hlo := bnd_of lo (sub_l (sub_r hs)) ha
    have hhi := hi_of hi (sub_l (sub_r (sub_r hs))) hb
    have hbr := run_bounds (P := P) (w := m.w) (lo.map ac.eval) (hi.map ac.eval) (mx.map ac.eval) len cap a.toNat b.toNat c
      (by
        rcases hlo with ⟨rfl, rfl⟩ | ⟨y, k, rfl, hy⟩
        · exact .inl ⟨rfl, rfl⟩
        · exact .inr ⟨k, by simp [hy, Int.toNat_of_nonneg h0]⟩)
      (by
        rcases hhi with ⟨rfl, hm, hl⟩ | ⟨y, k, rfl, hy⟩
        · refine .inl ⟨rfl, ?_, by have := hlen hl; omega⟩
          cases mx with
          | none => rfl
          | some z => simp at hm
        · exact .inr ⟨k, by simp [hy, Int.toNat_of_nonneg (Int.le_trans h0 h1)]⟩)
      (by
        rcases hc with ⟨rfl, rfl⟩ | ⟨z, rfl, k, hz⟩
        · exact .inl ⟨rfl, rfl⟩
        · refine .inr ⟨?_, k, by simp [hz]⟩
          rcases hhi with ⟨_, hm, _⟩ | ⟨y, k, rfl, hy⟩
          · simp at hm
          · rfl)
      (by omega) (by omega) h3
    have := run_slice hu hi' pa (lo.map ac.eval) (hi.map ac.eval) (mx.map ac.eval) len cap a.toNat b.toNat c hbr
    have hba : b.toNat - a.toNat = (b - a).toNat := by omega
    simp only [execOp, ho, hx, Sem.run_bind, this, Result.andThen_ok, Sem.run_pure, hba]
  unfold sliceS at h
  split at h
  · -- immutable
    rename_i n l a b hx ha hb hmx
    obtain ⟨⟨h0, h1, h2⟩, hK⟩ := h
    refine ⟨_, hK, StepOK.val fun m ac _ hs _ => ?_⟩
    have hv := X.rep' (sub_l hs) hx
    rw [V.rep_d] at hv
    unfold D.rep at hv
    obtain ⟨p, cap, hv, hn, hcap, vs, h3, h4, h5⟩ := hv
    refine ⟨_, key m ac p n cap a b cap hs hv ha hb (fun hl => by rw [hx] at hl; simpa [lenV] using hl.symm) h0 h1 (by omega) (Nat.le_refl _) (.inl ⟨hmxn hmx rfl, rfl⟩), ?_⟩
    rw [V.rep_d]
    unfold D.rep
    refine ⟨_, _, rfl, by omega, by unfold maxLen at *; omega, ((vs.drop (a.toNat * i.size)).take ((b - a).toNat * i.size)), fun u hu => h3 u (List.mem_of_mem_drop (List.mem_of_mem_take hu)), seg_of h4, ?_⟩
    rcases h5 with ⟨rfl, rfl, rfl⟩ | ⟨b', o', rfl, h6, h7⟩
    · exact .inl ⟨by simp, by omega, by simp⟩
    · by_cases e : cap = a.toNat
      · rw [if_pos e]
        have hba : (b - a).toNat = 0 := by omega
        exact .inr ⟨b', o', rfl, .inl (by simp [hba]), by simp [hba]⟩
      · rw [if_neg e]
        refine .inr ⟨b', o' + a.toNat * i.size, by simp [Addr.add_lit], h6.imp (fun e => by simp [e]) id, fun j u hu => ?_⟩
        rw [Nat.add_assoc]
        exact h7 _ u (seg_get hu)
  · -- immutable, of three
    rename_i n l a b c hx ha hb hmx
    obtain ⟨⟨h0, h1, h2, h2'⟩, hK⟩ := h
    split at hK
    · rename_i hz
      obtain ⟨rfl, rfl⟩ := hz
      refine ⟨_, hK, StepOK.val fun m ac _ hs _ => ?_⟩
      have hv := X.rep' (sub_l hs) hx
      rw [V.rep_d] at hv
      unfold D.rep at hv
      obtain ⟨p, cap, hv, hn, hcap, vs, h3, h4, h5⟩ := hv
      obtain rfl : b = 0 := by omega
      refine ⟨_, key m ac p n cap 0 0 0 hs hv ha hb (fun hl => by rw [hx] at hl; simpa [lenV] using hl.symm) h0 h1 (by omega) (by omega) (.inr ?_), ?_⟩
      · cases mx with
        | none => simp at hmx
        | some z =>
          simp only [Option.map_some, Option.some.injEq] at hmx
          obtain ⟨k, hk⟩ := intOf_int hmx
          exact ⟨z, rfl, k, by rw [V.rep_int.1 (X.rep' (sub_r (sub_r (sub_r hs))) hk)]; rfl⟩
      · rw [V.rep_d]; unfold D.rep
        refine ⟨_, rfl, fun a ha => ?_⟩
        rcases h5 with ⟨rfl, _⟩ | ⟨b', o', rfl, _⟩
        · simp at ha
        · simp at ha; subst ha; rfl
    refine ⟨_, hK, StepOK.val fun m ac _ hs _ => ?_⟩
    have hv := X.rep' (sub_l hs) hx
    rw [V.rep_d] at hv
    unfold D.rep at hv
    obtain ⟨p, cap, hv, hn, hcap, vs, h3, h4, h5⟩ := hv
    have hc0 : 0 ≤ c := by omega
    refine ⟨_, key m ac p n cap a b c.toNat hs hv ha hb (fun hl => by rw [hx] at hl; simpa [lenV] using hl.symm) h0 h1 (by omega) (by omega) (.inr ?_), ?_⟩
    · cases mx with
      | none => simp at hmx
      | some z =>
        simp only [Option.map_some, Option.some.injEq] at hmx
        obtain ⟨k, hk⟩ := intOf_int hmx
        exact ⟨z, rfl, k, by rw [V.rep_int.1 (X.rep' (sub_r (sub_r (sub_r hs))) hk), Int.toNat_of_nonneg hc0]⟩
    rw [V.rep_d]
    unfold D.rep
    refine ⟨_, _, rfl, by omega, by unfold maxLen at *; omega, ((vs.drop (a.toNat * i.size)).take ((b - a).toNat * i.size)), fun u hu => h3 u (List.mem_of_mem_drop (List.mem_of_mem_take hu)), seg_of h4, ?_⟩
    rcases h5 with ⟨rfl, rfl, rfl⟩ | ⟨b', o', rfl, h6, h7⟩
    · exact .inl ⟨by simp, by omega, by simp⟩
    · by_cases e : c.toNat = a.toNat
      · rw [if_pos e]
        have hba : (b - a).toNat = 0 := by omega
        exact .inr ⟨b', o', rfl, .inl (by simp [hba]), by simp [hba]⟩
      · rw [if_neg e]
        refine .inr ⟨b', o' + a.toNat * i.size, by simp [Addr.add_lit], h6.imp (fun e => by simp [e]) id, fun j u hu => ?_⟩
        rw [Nat.add_assoc]
        exact h7 _ u (seg_get hu)
  · -- a row of its own
    rename_i nm s' n a b hx ha hb hmx
    obtain ⟨⟨rfl, h0, h1, h2⟩, hK⟩ := h
    refine ⟨_, hK, StepOK.val fun m ac _ hs _ => ?_⟩
    have hv := X.rep' (sub_l hs) hx
    unfold V.rep at hv
    obtain ⟨bb, t', z, cap, hbb, hsh, hz, hv, hn, hcap⟩ := hv
    refine ⟨_, key m ac _ n cap a b cap hs hv ha hb (fun hl => by rw [hx] at hl; simpa [lenV] using hl.symm) h0 h1 (by omega) (Nat.le_refl _) (.inl ⟨hmxn hmx rfl, rfl⟩), ?_⟩
    unfold V.rep
    by_cases e : cap = a.toNat
    · rw [if_pos e]
      exact ⟨bb, 0, cap - a.toNat, hbb, rfl, .inl (by omega), by omega, by unfold maxLen at *; omega⟩
    · rw [if_neg e]
      exact ⟨bb, a.toNat * i.size, cap - a.toNat, hbb, by simp [Addr.add_lit], .inr rfl, by omega, by unfold maxLen at *; omega⟩
  · rename_i nm off n a b hx ha hb hmx
    obtain ⟨⟨h0, h1, h2⟩, hK⟩ := h
    refine ⟨_, hK, StepOK.val fun m ac _ hs _ => ?_⟩
    have hv := X.rep' (sub_l hs) hx
    unfold V.rep at hv
    obtain ⟨bb, o', cap, hbb, hv, hoff, hn, hcap⟩ := hv
    refine ⟨_, key m ac _ n cap a b cap hs hv ha hb (fun hl => by rw [hx] at hl; simpa [lenV] using hl.symm) h0 h1 (by omega) (Nat.le_refl _) (.inl ⟨hmxn hmx rfl, rfl⟩), ?_⟩
    unfold V.rep
    by_cases e : cap = a.toNat
    · rw [if_pos e]
      exact ⟨bb, o', cap - a.toNat, hbb, rfl, .inl (by omega), by omega, by unfold maxLen at *; omega⟩
    · rw [if_neg e]
      refine ⟨bb, o' + a.toNat * i.size, cap - a.toNat, hbb, by simp [Addr.add_lit], ?_, by omega, by unfold maxLen at *; omega⟩
      rcases hoff with h | h
      · exact .inl (by omega)
      · exact .inr (by rw [h])
  · rename_i a b hx ha hb hmx
    obtain ⟨⟨rfl, rfl⟩, hK⟩ := h
    refine ⟨_, hK, StepOK.val fun m ac _ hs _ => ?_⟩
    have hv := X.rep' (sub_l hs) hx
    rw [V.rep_d] at hv
    unfold D.rep at hv
    refine ⟨_, key m ac none 0 0 0 0 0 hs hv ha hb (fun _ => rfl) (Int.le_refl _) (Int.le_refl _) (by simp) (Nat.le_refl _) (.inl ⟨hmxn hmx rfl, rfl⟩), ?_⟩
    rw [V.rep_d]
    unfold D.rep
    rfl
  · exact h.elim

end

end
end Go.Proofs.Ytakjegcjeffmgaa.Am

namespace Go.Proofs.Ytakjegcjeffmgaa.Am
section
set_option linter.unusedVariables false

/-- what a freezing wants -/
structure Frz (m m1 : Mem) (n b : Nat) (ds : List D) (vs : List Value) : Prop where
  hρ : m1.ρ = m.ρ
  hw : m1.w = m.w
  hI : ∀ k, m.I k → m1.I k
  hb : m.ρ n = some b
  hIb : m1.I b
  hone : ∀ u ∈ vs, u.oneCell' = true
  hr : D.reps m1.I m1.w ds vs
  hc : ∀ i u, vs[i]? = some u → m1.w.cell? ⟨b, i, none⟩ = some u

mutual
theorem V.frz_rep {m m1 : Mem} {n s b : Nat} {ds : List D} {vs : List Value} (F : Frz m m1 n b ds vs) : ∀ (x : V) (v : Value), x.rep m v → (x.frz n s ds).rep m1 v
  | .own k s' len, v, h => by
    simp only [V.frz]
    split
    · rename_i e; subst e
      split
      · rename_i e; subst e
        unfold V.rep at h
        obtain ⟨b', t, z, cap, h1, h2, h3, h4, h5, h6⟩ := h
        rw [F.hb] at h1; cases h1
        rw [V.rep_d]
        unfold D.rep
        exact ⟨_, cap, h4, h5, h6, vs.take (len * s'), fun u hu => F.hone u (List.mem_of_mem_take hu), D.reps_take F.hr _, .inr ⟨b, 0, rfl, .inr F.hIb, fun i u hu => by rw [Nat.zero_add]; refine F.hc i u ?_; rw [List.getElem?_take] at hu; split at hu; exact hu; cases hu⟩⟩
      · unfold V.rep; trivial
    · unfold V.rep at h ⊢; rw [F.hρ, F.hw]; exact h
  | .row k off len, v, h => by
    simp only [V.frz]
    split
    · rename_i e; subst e
      unfold V.rep at h
      obtain ⟨b', o', cap, h1, h4, h2, h5, h6⟩ := h
      rw [F.hb] at h1; cases h1
      rw [V.rep_d]
      unfold D.rep
      refine ⟨_, cap, h4, h5, h6, (vs.drop off).take (len * s), fun u hu => F.hone u (List.mem_of_mem_drop (List.mem_of_mem_take hu)), D.reps_take (D.reps_drop F.hr _) _, .inr ⟨b, o', rfl, .inr F.hIb, fun i u hu => ?_⟩⟩
      rcases h2 with rfl | rfl
      · simp at hu
      · exact F.hc _ u (seg_get hu)
    · unfold V.rep at h ⊢; rw [F.hρ]; exact h
  | .p k off, v, h => by
    simp only [V.frz]
    split
    · rename_i e; subst e
      unfold V.rep at h ⊢
      obtain ⟨b', h1, h2⟩ := h
      rw [F.hb] at h1; cases h1
      exact ⟨b, 0, by rw [Nat.zero_add]; exact h2, F.hIb, vs, F.hone, F.hr, fun i u hu => by rw [Nat.zero_add]; exact F.hc i u hu⟩
    · unfold V.rep at h ⊢; rw [F.hρ]; exact h
  | .agg l, v, h => by
    simp only [V.frz]
    unfold V.rep at h ⊢
    obtain ⟨us, h1, h2, h3⟩ := h
    exact ⟨us, h1, h2, V.frzs_rep F l us h3⟩
  | .tup l, v, h => by
    simp only [V.frz]
    unfold V.rep at h ⊢
    obtain ⟨us, h1, h3⟩ := h
    exact ⟨us, h1, V.frzs_rep F l us h3⟩
  | .fn f l, v, h => by
    simp only [V.frz]
    unfold V.rep at h ⊢
    obtain ⟨us, h1, h3⟩ := h
    exact ⟨us, h1, V.frzs_rep F l us h3⟩
  | .d x, v, h => by
    simp only [V.frz]
    rw [V.rep_d] at h ⊢
    exact D.rep_mono F.hI (fun _ _ => by rw [F.hw]) x v h
  | .ia l o, v, h => by
    simp only [V.frz]
    unfold V.rep at h ⊢
    obtain ⟨b', o', h1, h2, us, h3, h4, h5⟩ := h
    exact ⟨b', o', h1, F.hI _ h2, us, h3, D.reps_mono F.hI (fun _ _ => by rw [F.hw]) l us h4, fun i u hu => by rw [F.hw]; exact h5 i u hu⟩
  | .junk, v, h => by simp only [V.frz]; unfold V.rep; trivial
theorem V.frzs_rep {m m1 : Mem} {n s b : Nat} {ds : List D} {vs : List Value} (F : Frz m m1 n b ds vs) : ∀ (l : List V) (us : List Value), V.reps m l us → V.reps m1 (V.frzs n s ds l) us
  | [], us, h => by simpa [V.frzs] using h
  | x :: l, us, h => by
    obtain ⟨v, r, rfl, h1, h2⟩ := V.reps_cons'.1 h
    simp only [V.frzs]
    exact V.reps_cons.2 ⟨V.frz_rep F x v h1, V.frzs_rep F l r h2⟩
end



end
end Go.Proofs.Ytakjegcjeffmgaa.Am

namespace Go.Proofs.Ytakjegcjeffmgaa.Am
section
open Go.RowKit
set_option linter.unusedVariables false
set_option linter.unusedSimpArgs false

section
variable {P : Program} {o : Oper} {T : List V} {H : List (Option Ob)}

theorem ok_len (c : Call) (x : Operand) (t e : TypeId) (n : Int) (ho : o.op = .call c) (hc : c.callee = .builtin .len) (ht : c.argTypes[0]? = some t) (hd : P.underlying t = some (.slice e)) (hx : c.args[0]? = some x)
    (hn : lenV ((X.of x).ev T) = some n) : StepOK P o (X.of x).slots T H (.d (.int .i64 n)) H [] [] :=
  StepOK.data fun m a hs => by
    refine ⟨.int .i64 n, ?_, D.rep_int.2 rfl⟩
    have hv := X.rep' hs (rfl : (X.of x).ev T = _)
    have hargs : (c.args.map a.eval)[0]? = some (a.eval x) := by simp [hx]
    have hl : (Builtin.len_ c.argTypes o.type (c.args.map a.eval)).run P m.w = .ok (.int .i64 n) m.w := by
      have hsl : ∃ p k cap, a.eval x = .slice p k cap ∧ (k : Int) = n := by
        generalize (X.of x).ev T = y at hv hn
        unfold lenV at hn
        split at hn <;> first | (cases hn; done) | skip
        · cases hn; rw [V.rep_d] at hv; unfold D.rep at hv; obtain ⟨p, cap, hv, _⟩ := hv; exact ⟨p, _, cap, hv, rfl⟩
        · cases hn; rw [V.rep_d] at hv; unfold D.rep at hv; exact ⟨none, 0, 0, hv, rfl⟩
        · cases hn; rw [V.rep_d] at hv; unfold D.rep at hv; obtain ⟨p, hv, _⟩ := hv; exact ⟨p, 0, 0, hv, rfl⟩
        · cases hn; rw [V.rep_d] at hv; unfold D.rep at hv; obtain ⟨b, o', cap, hv, _⟩ := hv; exact ⟨_, 0, cap, hv, rfl⟩
        · cases hn; unfold V.rep at hv; obtain ⟨b, _, _, cap, _, _, _, hv, _⟩ := hv; exact ⟨_, _, cap, hv, rfl⟩
        · cases hn; unfold V.rep at hv; obtain ⟨b, _, cap, _, hv, _⟩ := hv; exact ⟨_, _, cap, hv, rfl⟩
      obtain ⟨p, k, cap, h1, h2⟩ := hsl
      simp [Builtin.len_, ht, hargs, run_underlying hd, h1, goInt, h2]
    simp [execOp, ho, resolve, Go.resolve, hc, invoke, builtin, hl]

theorem ok_lens (c : Call) (x : Operand) (t : TypeId) (s : ByteArray) (ho : o.op = .call c) (hc : c.callee = .builtin .len) (ht : c.argTypes[0]? = some t) (hd : P.underlying t = some .string) (hx : c.args[0]? = some x)
    (hn : (X.of x).ev T = .d (.str s)) : StepOK P o (X.of x).slots T H (.d (.int .i64 s.size)) H [] [] :=
  StepOK.data fun m a hs => by
    refine ⟨.int .i64 s.size, ?_, D.rep_int.2 rfl⟩
    have hv := V.rep_str.1 (X.rep' hs hn)
    have hargs : (c.args.map a.eval)[0]? = some (a.eval x) := by simp [hx]
    have hl : (Builtin.len_ c.argTypes o.type (c.args.map a.eval)).run P m.w = .ok (.int .i64 s.size) m.w := by
      simp [Builtin.len_, ht, hargs, run_underlying hd, hv, goInt]
    simp [execOp, ho, resolve, Go.resolve, hc, invoke, builtin, hl]

theorem mm_fold (mx : Bool) {m : Mem} : ∀ (l : List V) (vs : List Value) (k : IntKind) (n : Int) (k' : IntKind) (r : Int), V.reps m l vs → minmaxR mx k n l = some (k', r) →
    (vs.foldlM (if mx then Builtin.max2 else Builtin.min2) (Value.int k n)).run P m.w = .ok (.int k' r) m.w
  | [], vs, k, n, k', r, h, h' => by
    simp at h; subst h
    simp only [minmaxR, Option.some.injEq, Prod.mk.injEq] at h'
    simp [h'.1, h'.2]
  | x :: l, vs, k, n, k', r, h, h' => by
    obtain ⟨v, u, rfl, h1, h2⟩ := V.reps_cons'.1 h
    unfold minmaxR at h'
    split at h'
    · cases ‹x :: l = []›
    · rename_i k2 m2 r2 e
      cases e
      split at h'
      · rename_i hk
        subst hk
        have hv := V.rep_int.1 h1
        subst hv
        have ih := mm_fold mx l u k _ k' r h2 h'
        rw [List.foldlM_cons]
        cases mx
        · have : (Builtin.min2 (.int k n) (.int k m2)).run P m.w = .ok (.int k (min n m2)) m.w := by
            simp only [Builtin.min2, Sem.run_pure]
            congr 2
            split <;> omega
          simp only [Bool.false_eq_true, if_false, Sem.run_bind, this, Result.andThen_ok] at ih ⊢
          exact ih
        · have : (Builtin.max2 (.int k n) (.int k m2)).run P m.w = .ok (.int k (max n m2)) m.w := by
            simp only [Builtin.max2, Sem.run_pure]
            congr 2
            split <;> omega
          simp only [if_true, Sem.run_bind, this, Result.andThen_ok] at ih ⊢
          exact ih
      · cases h'
    · cases h'

theorem ok_mm (mx : Bool) (c : Call) (k : IntKind) (n : Int) (ho : o.op = .call c) (hc : c.callee = .builtin (if mx then .max else .min)) (hn : minmaxI mx ((c.args.toList.map X.of).map (X.ev T)) = some (k, n)) :
    StepOK P o (X.slotss (c.args.toList.map X.of)) T H (.d (.int k n)) H [] [] :=
  StepOK.data fun m a hs => by
    refine ⟨.int k n, ?_, D.rep_int.2 rfl⟩
    have hr := evs_rep (m := m) (a := a) c.args.toList hs
    generalize (c.args.toList.map X.of).map (X.ev T) = l at hn hr
    unfold minmaxI at hn
    split at hn
    · rename_i k' n' l'
      obtain ⟨v, u, e, h1, h2⟩ := V.reps_cons'.1 hr
      have hv := V.rep_int.1 h1
      subst hv
      have := mm_fold (P := P) mx l' u k' n' k n h2 hn
      cases mx
      · simp only [Bool.false_eq_true, if_false] at hc this
        have hb : (Builtin.min_ c.argTypes o.type (c.args.map a.eval)).run P m.w = .ok (.int k n) m.w := by
          simp only [Builtin.min_, Array.toList_map, e]; exact this
        simp [execOp, ho, Go.resolve, hc, invoke, builtin, hb]
      · simp only [if_true] at hc this
        have hb : (Builtin.max_ c.argTypes o.type (c.args.map a.eval)).run P m.w = .ok (.int k n) m.w := by
          simp only [Builtin.max_, Array.toList_map, e]; exact this
        simp [execOp, ho, Go.resolve, hc, invoke, builtin, hb]
    · cases hn

/- calls -/

theorem putAll_get (θ : List Nat) : ∀ (H : List (Option Ob)) (obs : List Ob), θ.length ≤ obs.length → θ.Nodup → (∀ n ∈ θ, n < H.length) →
    (putAll H θ obs).length = H.length + (obs.length - θ.length) ∧ (∀ i, i < obs.length → (putAll H θ obs).getD (nameOf θ H.length i) none = obs[i]?) ∧ (∀ n, n < H.length → n ∉ θ → (putAll H θ obs).getD n none = H.getD n none) := by
  induction θ with
  | nil =>
    intro H obs _ _ _
    refine ⟨by simp [putAll], fun i hi => ?_, fun n hn _ => ?_⟩
    · have : nameOf [] H.length i = H.length + i := by simp [nameOf]
      rw [this, putAll, List.getD_eq_getElem?_getD, List.getElem?_append_right (by omega), Nat.add_sub_cancel_left, List.getElem?_map, List.getElem?_eq_getElem hi]; rfl
    · simp [putAll, List.getD_eq_getElem?_getD, List.getElem?_append_left hn]
  | cons n θ ih =>
    intro H obs hl hnd hlt
    rcases obs with _ | ⟨ob, r⟩
    · simp at hl
    · simp only [List.nodup_cons] at hnd
      obtain ⟨h1, h2, h3⟩ := ih (H.set n (some ob)) r (by simpa using hl) hnd.2 (fun k hk => by simpa using hlt k (by simp [hk]))
      have hn : n < H.length := hlt n (by simp)
      simp only [List.length_set] at h1 h2 h3
      refine ⟨by simp only [putAll, h1, List.length_cons]; omega, fun i hi => ?_, fun k hk hkn => ?_⟩
      · rcases i with _ | i
        · have : nameOf (n :: θ) H.length 0 = n := by simp [nameOf]
          rw [this, putAll, h3 n hn hnd.1, getD_set, if_pos ⟨rfl, hn⟩]; rfl
        · have : nameOf (n :: θ) H.length (i + 1) = nameOf θ H.length i := by simp [nameOf]
          rw [this, putAll, h2 i (by simpa using hi)]; rfl
      · simp only [List.mem_cons, not_or] at hkn
        rw [putAll, h3 k hk hkn.2, getD_set, if_neg (by omega)]

theorem killAll_get (θ : List Nat) : ∀ (dead : List Nat) (H : List (Option Ob)), H.length = (killAll H θ dead).length ∧ ∀ n, ((∃ i ∈ dead, n = θ.getD i 0) → (killAll H θ dead).getD n none = none) ∧ ((¬ ∃ i ∈ dead, n = θ.getD i 0) → (killAll H θ dead).getD n none = H.getD n none)
  | [], H => ⟨rfl, fun n => ⟨fun ⟨i, hi, _⟩ => by simp at hi, fun _ => rfl⟩⟩
  | j :: r, H => by
    obtain ⟨h1, h2⟩ := killAll_get θ r (H.set (θ.getD j 0) none)
    rw [killAll]
    refine ⟨by rw [← h1, List.length_set], fun n => ⟨fun ⟨i, hi, he⟩ => ?_, fun hn => ?_⟩⟩
    · by_cases hr : ∃ i ∈ r, n = θ.getD i 0
      · exact (h2 n).1 hr
      · rw [(h2 n).2 hr]
        rcases List.mem_cons.1 hi with rfl | hi
        · rw [getD_set]
          split
          · rfl
          · rename_i hc
            rw [List.getD_eq_getElem?_getD, List.getElem?_eq_none (by rcases Nat.lt_or_ge n H.length with h | h; exact absurd ⟨he, by rw [← he]; exact h⟩ hc; exact h)]; rfl
        · exact absurd ⟨i, hi, he⟩ hr
    · rw [(h2 n).2 fun ⟨i, hi, he⟩ => hn ⟨i, List.mem_cons_of_mem _ hi, he⟩, getD_set, if_neg]
      rintro ⟨he, _⟩
      exact hn ⟨j, by simp, he⟩

theorem nameOf_lt {θ : List Nat} {L i : Nat} (h : i < θ.length) : nameOf θ L i = θ.getD i 0 := by simp [nameOf, h]
theorem nameOf_ge {θ : List Nat} {L i : Nat} (h : θ.length ≤ i) : nameOf θ L i = L + (i - θ.length) := by simp [nameOf, show ¬ i < θ.length by omega]
theorem getD_mem {θ : List Nat} {i : Nat} (h : i < θ.length) : θ.getD i 0 ∈ θ := by simp [List.getD, h]

/-- what a call is, its arguments known -/
def CallR (P : Program) (f : FuncId) (args : List V) (H : List (Option Ob)) (X' : V) (H' : List (Option Ob)) (wr : List Nat) : Prop :=
  (∀ n, n ∉ wr → H'.getD n none = H.getD n none) ∧ H.length ≤ H'.length ∧ (∀ n ∈ wr, n < H'.length) ∧ (∀ n ∈ wr, live H n ∨ H.length ≤ n) ∧
  ∀ (m : Mem) (vs : List Value) (o : Oper) (a : Act), m.base → V.reps m args vs → (∀ n ∈ wr, ∀ ob, H.getD n none = some ob → m.obj n ob) →
    (∀ n ∈ wr, H.length ≤ n → m.ρ n = none) → (∀ n ∈ wr, ∀ k ∈ wr, live H n → live H k → m.ρ n = m.ρ k → n = k) → (execOp a.eval o).run P m.w = (callFunc f vs.toArray).run P m.w →
    ∀ K Q, (∀ v m', OpPost m H H' wr X' v m' → K (a.put o.dst v) m'.w) → o.wp P a m.w K Q

theorem callS0_core {H : List (Option Ob)} {f : FuncId} {args : List V} {K : V → List (Option Ob) → List Nat → List Nat → Prop} (h : CallS0 P f args H K) :
    ∃ X' H' wr, K X' H' [] wr ∧ CallR P f args H X' H' wr := by
  obtain ⟨θ, argsC, Hs, X0, Hs', dead, E, h1, h2, h3, h4, h5, h6, hK⟩ := h
  obtain ⟨hlen, hold, hlow, hlowo, hrun⟩ := E
  generalize hnm : nameOf θ H.length = nm at *
  have hnlt : ∀ i, i < Hs.length → nm i = θ.getD i 0 := fun i hi => by rw [← hnm, nameOf_lt (by omega)]
  have hnge : ∀ i, Hs.length ≤ i → nm i = H.length + (i - Hs.length) := fun i hi => by rw [← hnm, nameOf_ge (by omega), h1]
  obtain ⟨p1, p2, p3⟩ := putAll_get θ H (Hs'.map fun ob => ⟨ob.T, V.rens nm ob.c⟩) (by simp; omega) h2 h3
  simp only [List.length_map, hnm] at p1 p2
  obtain ⟨q1, q2⟩ := killAll_get θ dead (putAll H θ (Hs'.map fun ob => ⟨ob.T, V.rens nm ob.c⟩))
  generalize hHp : putAll H θ (Hs'.map fun ob => ⟨ob.T, V.rens nm ob.c⟩) = Hp at *
  generalize hH' : killAll Hp θ dead = H' at *
  rw [q1] at p1
  have pθ : ∀ i ∈ dead, θ.getD i 0 = nm i ∧ i < Hs.length := fun i hi => ⟨(by rw [← hnm, nameOf_lt (by have := hold i hi; omega)]), hold i hi⟩
  have nminj : ∀ i j, i < Hs'.length → j < Hs'.length → nm i = nm j → i = j := fun i j hi hj he => by
    rcases Nat.lt_or_ge i Hs.length with a1 | a1
    · rcases Nat.lt_or_ge j Hs.length with a2 | a2
      · rw [hnlt i a1, hnlt j a2] at he
        have e1 : θ[i]'(by omega) = θ[j]'(by omega) := by simpa [List.getD, show i < θ.length by omega, show j < θ.length by omega] using he
        exact (List.getElem_inj h2).1 e1
      · rw [hnlt i a1, hnge j a2] at he
        have := h3 _ (getD_mem (θ := θ) (i := i) (by omega)); omega
    · rcases Nat.lt_or_ge j Hs.length with a2 | a2
      · rw [hnge i a1, hnlt j a2] at he
        have := h3 _ (getD_mem (θ := θ) (i := j) (by omega)); omega
      · rw [hnge i a1, hnge j a2] at he; omega
  have pdead : ∀ i ∈ dead, H'.getD (nm i) none = none := fun i hi => by
    rw [(q2 (nm i)).1 ⟨i, hi, (pθ i hi).1.symm⟩]
  have plive : ∀ i, i < Hs'.length → i ∉ dead → H'.getD (nm i) none = Hp.getD (nm i) none := fun i hi hd => by
    refine (q2 (nm i)).2 fun ⟨j, hj, he⟩ => hd ?_
    rw [(pθ j hj).1] at he
    rw [nminj i j hi (by have := (pθ j hj).2; omega) he]; exact hj
  have p3 : ∀ n, n < H.length → n ∉ θ → H'.getD n none = H.getD n none := fun n hn hm => by
    rw [← p3 n hn hm]
    refine (q2 n).2 fun ⟨j, hj, he⟩ => hm ?_
    rw [he]; exact getD_mem (by have := (pθ j hj).2; omega)
  have p2 : ∀ i, i < Hs'.length → ∀ ob, H'.getD (nm i) none = some ob → i ∉ dead ∧ (Hs'.map fun ob => (⟨ob.T, V.rens nm ob.c⟩ : Ob))[i]? = some ob := fun i hi ob he => by
    have hd : i ∉ dead := fun hd => by rw [pdead i hd] at he; cases he
    rw [plive i hi hd, p2 i hi] at he
    exact ⟨hd, he⟩
  have pl : ∀ i, i < Hs'.length → live H' (nm i) → i ∉ dead := fun i hi hl hd => by
    rw [live, pdead i hd] at hl; cases hl
  generalize hwr : θ ++ (List.range (Hs'.length - Hs.length)).map (H.length + ·) = wr at *
  have hθw : ∀ i, i < Hs.length → θ.getD i 0 ∈ wr := fun i hi => by rw [← hwr]; exact List.mem_append_left _ (getD_mem (by omega))
  have hwn : ∀ n, n ∈ wr ↔ ∃ i, i < Hs'.length ∧ n = nm i := by
    intro n
    rw [← hwr, List.mem_append, List.mem_map]
    constructor
    · rintro (hn | ⟨j, hj, rfl⟩)
      · obtain ⟨i, hi, rfl⟩ := List.getElem_of_mem hn
        exact ⟨i, by omega, by rw [hnlt i (by omega)]; simp [List.getD, hi]⟩
      · rw [List.mem_range] at hj
        exact ⟨Hs.length + j, by omega, by rw [hnge _ (by omega)]; omega⟩
    · rintro ⟨i, hi, rfl⟩
      rcases Nat.lt_or_ge i Hs.length with hlt | hge
      · exact .inl (by rw [hnlt i hlt]; exact getD_mem (by omega))
      · exact .inr ⟨i - Hs.length, by rw [List.mem_range]; omega, (hnge i hge).symm⟩
  have hHθ : ∀ i ob, Hs[i]? = some ob → H.getD (θ.getD i 0) none = some ⟨ob.T, V.rens nm ob.c⟩ := fun i ob hi => (h4 i ob hi).2
  have ilt : ∀ {i : Nat} {ob : Ob}, Hs[i]? = some ob → i < Hs.length := fun {i ob} hi => by
    rcases Nat.lt_or_ge i Hs.length with h | h
    · exact h
    · rw [List.getElem?_eq_none h] at hi; cases hi
  have ilt' : ∀ {i : Nat} {ob : Ob}, Hs'[i]? = some ob → i < Hs'.length := fun {i ob} hi => by
    rcases Nat.lt_or_ge i Hs'.length with h | h
    · exact h
    · rw [List.getElem?_eq_none h] at hi; cases hi
  have hlive : ∀ i, i < Hs.length → live H (θ.getD i 0) := fun i hi => by
    have := hHθ i Hs[i] (by simp [hi])
    rw [live, this]; rfl
  refine ⟨_, H', wr, hK, ?_, by omega, ?_, ?_, ?_⟩
  · intro n hn
    rcases Nat.lt_or_ge n H.length with hlt | hge
    · exact p3 n hlt fun hm => hn (by rw [← hwr]; exact List.mem_append_left _ hm)
    · rw [List.getD_eq_getElem?_getD, List.getD_eq_getElem?_getD, List.getElem?_eq_none, List.getElem?_eq_none hge]
      rcases Nat.lt_or_ge n H'.length with hlt | hge'
      · exfalso
        refine hn ((hwn n).2 ⟨Hs.length + (n - H.length), by omega, ?_⟩)
        rw [hnge _ (by omega)]; omega
      · exact hge'
  · intro n hn
    obtain ⟨i, hi, rfl⟩ := (hwn n).1 hn
    rcases Nat.lt_or_ge i Hs.length with hlt | hge
    · rw [hnlt i hlt]; have := h3 _ (getD_mem (θ := θ) (i := i) (by omega)); omega
    · rw [hnge i hge]; omega
  · intro n hn
    obtain ⟨i, hi, rfl⟩ := (hwn n).1 hn
    rcases Nat.lt_or_ge i Hs.length with hlt | hge
    · rw [hnlt i hlt]; exact .inl (hlive i hlt)
    · rw [hnge i hge]; exact .inr (by omega)
  · intro m vs o a hb hr1 hob hfr hinj hr2 Kc Q hKc
    -- the callee's memory
    generalize hmc : (⟨fun i => if i < Hs.length then m.ρ (θ.getD i 0) else none, m.I, m.w⟩ : Mem) = mc
    have mcρ : ∀ i, i < Hs.length → mc.ρ i = m.ρ (nm i) := fun i hi => by rw [← hmc, hnlt i hi]; simp [hi]
    have mcI : mc.I = m.I := by rw [← hmc]
    have mcw : mc.w = m.w := by rw [← hmc]
    have hbc : mc.base := by
      refine ⟨fun b h => by rw [mcI] at h; rw [mcw]; exact hb.imm b h, fun n b h => ?_⟩
      rw [← hmc] at h
      simp only at h
      split at h
      · rw [mcw]; exact hb.dom _ b h
      · cases h
    have hac : V.reps mc argsC vs := (V.reps_ren mcI mcw mcρ argsC vs h5).1 (h6 m vs hr1)
    have mobj : ∀ i ob, Hs[i]? = some ob → m.obj (θ.getD i 0) ⟨ob.T, V.rens nm ob.c⟩ := fun i ob hi => hob _ (hθw i (ilt hi)) _ (hHθ i ob hi)
    have hoc : ∀ n ob, Hs[n]? = some ob → mc.obj n ob := fun n ob hn => by
      obtain ⟨b, us, more, k1, k2, k3, k4, k5⟩ := mobj n ob hn
      exact ⟨b, us, more, by rw [mcρ n (ilt hn), hnlt n (ilt hn)]; exact k1, by rw [mcw]; exact k2, k3, (V.reps_ren mcI mcw mcρ ob.c us (h4 n ob hn).1).1 k4, by rw [mcI]; exact k5⟩
    have mρs : ∀ i, i < Hs.length → ∃ b, m.ρ (θ.getD i 0) = some b := fun i hi => by
      obtain ⟨b, _, _, k1, _⟩ := mobj i Hs[i] (by simp [hi]); exact ⟨b, k1⟩
    have hic : ∀ n i b, n < Hs.length → i < Hs.length → mc.ρ n = some b → mc.ρ i = some b → n = i := fun n i b hn hi h7 h8 => by
      rw [mcρ n hn, hnlt n hn] at h7
      rw [mcρ i hi, hnlt i hi] at h8
      have := hinj _ (hθw n hn) _ (hθw i hi) (hlive n hn) (hlive i hi) (by rw [h7, h8])
      have e1 : θ[n]'(by omega) = θ[i]'(by omega) := by simpa [List.getD, show n < θ.length by omega, show i < θ.length by omega] using this
      exact (List.getElem_inj h2).1 e1
    have htc : ∀ n, Hs.length ≤ n → mc.ρ n = none := fun n hn => by rw [← hmc]; simp [show ¬ n < Hs.length by omega]
    have hR := hrun mc vs hbc hac hoc hic htc
    unfold Oper.wp
    rw [hr2]
    rw [mcw] at hR
    rcases hR with ⟨v, k1, k2, rfl⟩ | ⟨k1, k2⟩
    · rw [k1]
      refine hKc v m ⟨hb, Mem.le.refl _ _, (V.rep_ren mcI mcw mcρ X0 v hlow).2 k2, fun n hn ob h' => ?_, fun _ _ => rfl, fun n hn _ => ?_, fun n hn k hk ln lk he => ?_⟩
      · obtain ⟨i, hi, rfl⟩ := (hwn n).1 hn
        obtain ⟨-, h'⟩ := p2 i hi ob h'
        simp only [List.getElem?_map, Option.map_eq_some_iff] at h'
        obtain ⟨ob', h7, rfl⟩ := h'
        rw [hnlt i hi]; exact mobj i ob' h7
      · obtain ⟨i, hi, rfl⟩ := (hwn n).1 hn
        obtain ⟨b, h7⟩ := mρs i hi
        rw [hnlt i hi]
        exact ⟨b, h7, .inr ⟨_, hθw i hi, hlive i hi, h7⟩⟩
      · obtain ⟨i, hi, rfl⟩ := (hwn n).1 hn
        obtain ⟨j, hj, rfl⟩ := (hwn k).1 hk
        refine hinj _ hn _ hk ?_ ?_ he
        · rw [hnlt i hi]; exact hlive i hi
        · rw [hnlt j hj]; exact hlive j hj
    · rw [k1]
      refine Calls.mono k2 ?_
      rintro e w' ⟨v, mc', rfl, rfl, hE⟩
      obtain ⟨eb, el, er, eo, ei, et, en⟩ := hE
      -- the caller's memory behind it
      generalize hm' : (⟨fun n => if H.length ≤ n ∧ n < H.length + (Hs'.length - Hs.length) then mc'.ρ (Hs.length + (n - H.length)) else m.ρ n, mc'.I, mc'.w⟩ : Mem) = m'
      have mI : m'.I = mc'.I := by rw [← hm']
      have mw : m'.w = mc'.w := by rw [← hm']
      have mρo : ∀ n, ¬ (H.length ≤ n ∧ n < H.length + (Hs'.length - Hs.length)) → m'.ρ n = m.ρ n := fun n hn => by rw [← hm']; simp only [if_neg hn]
      have mρ' : ∀ i, i < Hs'.length → mc'.ρ i = m'.ρ (nm i) := fun i hi => by
        rcases Nat.lt_or_ge i Hs.length with hlt | hge
        · obtain ⟨b, h7⟩ := mρs i hlt
          have h8 := el.ρ i b (by rw [mcρ i hlt, hnlt i hlt]; exact h7)
          have h9 := h3 _ (getD_mem (θ := θ) (i := i) (by omega))
          rw [h8, hnlt i hlt, mρo _ (by omega), h7]
        · rw [hnge i hge, ← hm']
          simp only [if_pos (show H.length ≤ H.length + (i - Hs.length) ∧ H.length + (i - Hs.length) < H.length + (Hs'.length - Hs.length) by omega)]
          congr 1; omega
      have mobj' : ∀ i ob, i ∉ dead → Hs'[i]? = some ob → m'.obj (nm i) ⟨ob.T, V.rens nm ob.c⟩ := fun i ob hdd hi => by
        obtain ⟨b, us, more, k3, k4, k5, k6, k7⟩ := eo i ob hdd hi
        exact ⟨b, us, more, by rw [← mρ' i (ilt' hi)]; exact k3, by rw [mw]; exact k4, k5, (V.reps_ren (m := m') (m' := mc') mI.symm mw.symm mρ' ob.c us (hlowo ob (List.mem_of_getElem? hi))).2 k6, by rw [mI]; exact k7⟩
      have hnew : ∀ n, H.length ≤ n ∧ n < H.length + (Hs'.length - Hs.length) → n ∈ wr ∧ ∃ i, Hs.length ≤ i ∧ i < Hs'.length ∧ n = nm i := fun n hn => by
        have : n = nm (Hs.length + (n - H.length)) := by rw [hnge _ (by omega)]; omega
        exact ⟨(hwn n).2 ⟨_, by omega, this⟩, _, by omega, by omega, this⟩
      have hsz : m.w.heap.size ≤ m'.w.heap.size := by rw [mw, ← mcw]; exact el.size
      have key := hKc v m' ⟨?_, ?_, ?_, ?_, ?_, ?_, ?_⟩
      · rw [mw] at key; exact key
      · refine ⟨fun b h => by rw [mI] at h; rw [mw]; exact eb.imm b h, fun n b h => ?_⟩
        by_cases hn : H.length ≤ n ∧ n < H.length + (Hs'.length - Hs.length)
        · obtain ⟨_, i, _, hi, rfl⟩ := hnew n hn
          rw [← mρ' i hi] at h
          rw [mw]; exact eb.dom i b h
        · rw [mρo n hn] at h
          exact Nat.lt_of_lt_of_le (hb.dom n b h) hsz
      · refine ⟨fun n b h => ?_, fun b h => by rw [mI]; exact el.I b (by rw [mcI]; exact h), by rw [mw, el.os, mcw], by rw [mw, el.tape, mcw], by rw [mw, el.output, mcw], hsz, fun b hlt hn => ?_, fun b hlt => ?_, fun b hI => ?_, fun b hI => ?_, fun n b h => ?_⟩
        · by_cases hn : H.length ≤ n ∧ n < H.length + (Hs'.length - Hs.length)
          · rw [hfr n (hnew n hn).1 hn.1] at h; cases h
          · rw [mρo n hn]; exact h
        · rw [mw, el.block b (by rw [mcw]; exact hlt) fun i hi he => ?_, mcw]
          rw [mcρ i hi, hnlt i hi] at he
          exact hn _ (hθw i hi) he
        · rw [mw, el.shape b (by rw [mcw]; exact hlt), mcw]
        · rw [mw, el.imm b (by rw [mcI]; exact hI), mcw]
        · rw [mI] at hI
          rcases el.newI b hI with h7 | h7 | ⟨i, hi, he⟩
          · exact .inl (by rw [mcI] at h7; exact h7)
          · exact .inr (.inl (by rw [mcw] at h7; exact h7))
          · rw [mcρ i hi, hnlt i hi] at he
            exact .inr (.inr ⟨_, hθw i hi, he⟩)
        · by_cases hn : H.length ≤ n ∧ n < H.length + (Hs'.length - Hs.length)
          · obtain ⟨_, i, hi0, hi, rfl⟩ := hnew n hn
            rw [← mρ' i hi] at h
            rcases en i b hi0 h with this | ⟨j, hj, hjd, hjb⟩
            · rw [mcw] at this; exact .inr (.inl this)
            · rw [mcρ j hj, hnlt j hj] at hjb
              exact .inr (.inr ⟨_, hθw j hj, hjb⟩)
          · rw [mρo n hn] at h; exact .inl h
      · exact (V.rep_ren (m := m') (m' := mc') mI.symm mw.symm mρ' X0 v hlow).2 er
      · intro n hn ob h'
        obtain ⟨i, hi, rfl⟩ := (hwn n).1 hn
        obtain ⟨hdd, h'⟩ := p2 i hi ob h'
        simp only [List.getElem?_map, Option.map_eq_some_iff] at h'
        obtain ⟨ob', h7, rfl⟩ := h'
        exact mobj' i ob' hdd h7
      · intro n hn
        exact mρo n fun hc => hn (hnew n hc).1
      · intro n hn ln
        obtain ⟨i, hi, rfl⟩ := (hwn n).1 hn
        obtain ⟨b, _, _, k3, _⟩ := mobj' i Hs'[i] (pl i hi ln) (by simp [hi])
        refine ⟨b, k3, ?_⟩
        rcases Nat.lt_or_ge i Hs.length with hlt | hge
        · obtain ⟨b', h7⟩ := mρs i hlt
          have h8 := el.ρ i b' (by rw [mcρ i hlt, hnlt i hlt]; exact h7)
          rw [mρ' i hi, k3] at h8
          cases h8
          exact .inr ⟨_, hθw i hlt, hlive i hlt, h7⟩
        · rw [← mρ' i hi] at k3
          rcases en i b hge k3 with this | ⟨j, hj, hjd, hjb⟩
          · rw [mcw] at this; exact .inl this
          · rw [mcρ j hj, hnlt j hj] at hjb
            exact .inr ⟨_, hθw j hj, hlive j hj, hjb⟩
      · intro n hn k hk ln lk he
        obtain ⟨i, hi, rfl⟩ := (hwn n).1 hn
        obtain ⟨j, hj, rfl⟩ := (hwn k).1 hk
        obtain ⟨b, _, _, k3, _⟩ := mobj' i Hs'[i] (pl i hi ln) (by simp [hi])
        rw [← mρ' i hi] at k3
        rw [← mρ' i hi, ← mρ' j hj] at he
        rw [ei i j b (pl i hi ln) (pl j hj lk) hi hj k3 (he ▸ k3)]

/-- a variable becomes data ahead of a call -/
theorem CallR.frz {f : FuncId} {args : List V} {X' : V} {H' : List (Option Ob)} {wr : List Nat} {n s : Nat} {ob : Ob} {ds : List D} (hn : H.getD n none = some ob) (hd : ob.c = ds.map V.d)
    (h : CallR P f (V.frzs n s ds args) (H.set n none) X' H' wr) : CallR P f args H X' H' (n :: wr) := by
  obtain ⟨h1, h2, h3, h4, h5⟩ := h
  rw [List.length_set] at h2
  have hlt : n < H.length := by
    rcases Nat.lt_or_ge n H.length with h | h
    · exact h
    · rw [List.getD_eq_getElem?_getD, List.getElem?_eq_none h] at hn; cases hn
  have hget : ∀ k, k ≠ n → (H.set n none).getD k none = H.getD k none := fun k hk => by
    rw [getD_set, if_neg (by omega)]
  have hself : (H.set n none).getD n none = none := by rw [getD_set, if_pos ⟨rfl, hlt⟩]
  have hnw : n ∉ wr := fun hm => by
    rcases h4 n hm with h | h
    · rw [live, hself] at h; cases h
    · rw [List.length_set] at h; omega
  have hgone : H'.getD n none = none := by rw [h1 n hnw, hself]
  have hll : ∀ k, live (H.set n none) k → k ≠ n ∧ live H k := fun k hk => by
    have : k ≠ n := fun e => by subst e; rw [live, hself] at hk; cases hk
    exact ⟨this, by rwa [live, hget k this] at hk⟩
  have hl' : ∀ k ∈ n :: wr, live H' k → k ∈ wr := fun k hk lk => by
    rcases List.mem_cons.1 hk with rfl | hk
    · rw [live, hgone] at lk; cases lk
    · exact hk
  refine ⟨fun k hk => ?_, h2, fun k hk => ?_, fun k hk => ?_, fun m vs o a hb hr hob hfr hinj he K Q hK => ?_⟩
  · rw [List.mem_cons, not_or] at hk
    rw [h1 k hk.2, hget k hk.1]
  · rcases List.mem_cons.1 hk with rfl | hk
    · omega
    · exact h3 k hk
  · rcases List.mem_cons.1 hk with rfl | hk
    · left; rw [live, hn]; rfl
    · rcases h4 k hk with h | h
      · exact .inl (hll k h).2
      · rw [List.length_set] at h; exact .inr h
  · obtain ⟨b, us, more, k1, k2, k3, k4, k5⟩ := hob n (by simp) ob hn
    generalize hm1 : (⟨m.ρ, fun k => m.I k ∨ k = b, m.w⟩ : Mem) = m1
    have e1 : m1.ρ = m.ρ := by rw [← hm1]
    have e2 : m1.w = m.w := by rw [← hm1]
    have hI : ∀ k, m.I k → m1.I k := fun k hk => by rw [← hm1]; exact .inl hk
    have hIb : m1.I b := by rw [← hm1]; exact .inr rfl
    have hI' : ∀ k, m1.I k → m.I k ∨ k = b := fun k hk => by rw [← hm1] at hk; exact hk
    rw [hd, V.reps_map_d] at k4
    have hrd : D.reps m1.I m1.w ds us := D.reps_mono hI (fun _ _ => by rw [e2]) ds us k4
    have hcell : ∀ i u, us[i]? = some u → m1.w.cell? ⟨b, i, none⟩ = some u := fun i u hu => by rw [e2]; exact cell_pre k2 hu
    have hr1 := V.frzs_rep (m := m) (m1 := m1) (n := n) (s := s) (b := b) (ds := ds) (vs := us) ⟨e1, e2, hI, k1, hIb, k3, hrd, hcell⟩ args vs hr
    have hle : m.le m1 (· ∈ n :: wr) := by
      refine ⟨fun k c hk => by rw [e1]; exact hk, hI, by rw [e2], by rw [e2], by rw [e2], by rw [e2]; exact Nat.le_refl _, fun _ _ _ => by rw [e2], fun _ _ => by rw [e2], fun _ _ => by rw [e2], fun k hk => ?_, fun k c hk => .inl (by rw [← e1]; exact hk)⟩
      rcases hI' k hk with h | rfl
      · exact .inl h
      · exact .inr (.inr ⟨n, by simp, k1⟩)
    have hb1 : m1.base := ⟨fun k hk => by
      rw [e2]
      rcases hI' k hk with h | rfl
      · exact hb.imm k h
      · exact hb.dom n _ k1, fun k c hk => by rw [e2]; exact hb.dom k c (by rw [← e1]; exact hk)⟩
    rw [← e2]
    refine h5 m1 vs o a hb1 hr1 (fun k hk ob' hk' => ?_) (fun k hk hge => by rw [e1]; exact hfr k (by simp [hk]) (by rwa [List.length_set] at hge)) (fun j hj k hk lj lk e => hinj j (by simp [hj]) k (by simp [hk]) (hll j lj).2 (hll k lk).2 (by rw [← e1]; exact e)) (by rw [e2]; exact he) K Q (fun v m' hp => hK v m' ?_)
    · have hkn : k ≠ n := fun e => by subst e; rw [hself] at hk'; cases hk'
      rw [hget k hkn] at hk'
      have lk : live H k := by rw [live, hk']; rfl
      obtain ⟨c, us', more', j1, j2, j3, j4, j5⟩ := hob k (by simp [hk]) ob' hk'
      refine ⟨c, us', more', by rw [e1]; exact j1, by rw [e2]; exact j2, j3, V.reps_mono hle _ _ j4, fun hc => ?_⟩
      rcases hI' c hc with h | rfl
      · exact j5 h
      · exact hkn (hinj k (by simp [hk]) n (by simp) lk (by rw [live, hn]; rfl) (by rw [j1, k1]))
    · refine ⟨hp.base, hle.trans ?_ (fun _ _ _ h => h), hp.rep, fun k hk ob' hk' => hp.obj k (hl' k hk (by rw [live, hk']; rfl)) ob' hk', fun k hk => ?_, fun k hk lk => ?_, fun j hj k hk lj lk e => hp.inj j (hl' j hj lj) k (hl' k hk lk) lj lk e⟩
      · have := hp.le
        refine ⟨this.ρ, this.I, this.os, this.tape, this.output, this.size, fun c hc hM => this.block c hc fun j hj => hM j (by simp [hj]), this.shape, this.imm, fun c hc => ?_, fun j c hj => ?_⟩
        · rcases this.newI c hc with h | h | ⟨j, h6, h7⟩
          · exact .inl h
          · exact .inr (.inl h)
          · exact .inr (.inr ⟨j, by simp [h6], h7⟩)
        · rcases this.newρ j c hj with h | h | ⟨i, h6, h7⟩
          · exact .inl h
          · exact .inr (.inl h)
          · exact .inr (.inr ⟨i, by simp [h6], h7⟩)
      · rw [List.mem_cons, not_or] at hk
        rw [hp.keep k hk.2, e1]
      · obtain ⟨c, h6, h7⟩ := hp.at_ k (hl' k hk lk) lk
        refine ⟨c, h6, ?_⟩
        rw [e2] at h7
        rcases h7 with h7 | ⟨j, h8, h9, h10⟩
        · exact .inl h7
        · exact .inr ⟨j, by simp [h8], (hll j h9).2, by rw [← e1]; exact h10⟩

theorem callS_ok {f : FuncId} {args : List V} {K : V → List (Option Ob) → List Nat → List Nat → Prop} {S : List Nat} (h : CallS P f args H K)
    (hargs : ∀ (m : Mem) (a : Act), Slots m a T S → ∃ vs : List Value, V.reps m args vs ∧ (execOp a.eval o).run P m.w = (callFunc f vs.toArray).run P m.w) :
    ∃ X' H' rd wr, K X' H' rd wr ∧ StepOK P o S T H X' H' rd wr := by
  have fin : ∀ {X' H' wr}, CallR P f args H X' H' wr → StepOK P o S T H X' H' [] wr := fun {X' H' wr} ⟨h1, h2, h3, h4, h5⟩ =>
    ⟨h1, h2, h3, h4, fun m a hb hs hob hfr hinj K Q hK => by
      obtain ⟨vs, hr1, hr2⟩ := hargs m a hs
      exact h5 m vs o a hb hr1 (fun n hn => hob n (.inr hn)) hfr hinj hr2 K Q hK⟩
  rcases h with h | ⟨n, s, ob, ds, hn, hd, h⟩
  · obtain ⟨X', H', wr, hK, hr⟩ := callS0_core h
    exact ⟨X', H', [], wr, hK, fin hr⟩
  · obtain ⟨X', H', wr, hK, hr⟩ := callS0_core h
    exact ⟨X', H', [], n :: wr, hK, fin (hr.frz hn hd)⟩

end

end
end Go.Proofs.Ytakjegcjeffmgaa.Am

namespace Go.Proofs.Ytakjegcjeffmgaa.Am
section
open Go.RowKit
set_option linter.unusedVariables false
set_option linter.unusedSimpArgs false

section
variable {P : Program} {o : Oper} {T : List V} {H : List (Option Ob)}

/-- A new variable, behind draws, with room behind it. -/
theorem Mem.newP {m : Mem} (hb : m.base) (n : Nat) (hn : m.ρ n = none) (ob : Ob) (vs more : List Value) (h1 : ∀ u ∈ vs, u.oneCell' = true) (hv : V.reps m ob.c vs) (w1 : World) (hh : w1.heap = m.w.heap) (hos : w1.os = m.w.os) (ht : w1.tape = m.w.tape) (ho : w1.output = m.w.output) :
    ∃ m' : Mem, m'.w = w1.alloc (.cells (vs ++ more).toArray ob.T) ∧ m'.base ∧ m.le m' (· ∈ [n]) ∧ m'.obj n ob ∧ (∀ k, k ∉ [n] → m'.ρ k = m.ρ k) ∧ m'.ρ n = some m.w.heap.size := by
  have hsz : w1.heap.size = m.w.heap.size := by rw [hh]
  have hblk : ∀ (x : Obj) (b : Nat), b < m.w.heap.size → (w1.alloc x).heap[b]? = m.w.heap[b]? := fun x b hlt => by
    rw [Below.heap_alloc _ _ _ (by omega), hh]
  have hle : m.le ⟨fun k => if k = n then some m.w.heap.size else m.ρ k, m.I, w1.alloc (.cells (vs ++ more).toArray ob.T)⟩ (· ∈ [n]) := by
    refine ⟨fun k b h => ?_, fun _ h => h, hos, ht, ho, by simp [hsz], fun b hlt _ => hblk _ b hlt, fun b hlt => by unfold World.shape?; rw [hblk _ b hlt], fun b hI => hblk _ b (hb.imm b hI), fun _ h => .inl h, fun k b h => ?_⟩
    · dsimp only
      rw [if_neg (fun e => by subst e; rw [hn] at h; cases h)]; exact h
    · dsimp only at h
      split at h
      · cases h; exact .inr (.inl (Nat.le_refl _))
      · exact .inl h
  refine ⟨⟨fun k => if k = n then some m.w.heap.size else m.ρ k, m.I, w1.alloc (.cells (vs ++ more).toArray ob.T)⟩, rfl, ⟨fun b h => Nat.lt_of_lt_of_le (hb.imm b h) (by simp [hsz]), fun k b h => ?_⟩, hle, ⟨m.w.heap.size, vs, more, by simp, by rw [← hsz]; exact heap_alloc_new _ _, h1, V.reps_mono hle _ _ hv, fun h => by have := hb.imm _ h; omega⟩, fun k hk => by simp at hk; simp [hk], by simp⟩
  dsimp only at h ⊢
  split at h
  · cases h; simp [hsz]
  · exact Nat.lt_of_lt_of_le (hb.dom k b h) (by simp [hsz])

/-- what a slice yields -/
theorem src_of {m : Mem} {v : Value} {y : V} {s k : Nat} {c : List V} {rd : List Nat} {u e' : TypeId} (hu : P.underlying u = some (.slice e')) (hv : y.rep m v) (hy : srcV s H y = some (k, c, rd)) (hob : ∀ n ∈ rd, ∀ ob, H.getD n none = some ob → m.obj n ob) (hc : c.length = k * s) :
    ∃ news : List Value, Src P s u v k news m.w ∧ V.reps m c news := by
  unfold srcV at hy
  split at hy
  · cases hy
    rw [V.rep_d] at hv
    unfold D.rep at hv
    obtain ⟨p, cap, rfl, h1, h2, vs, h3, h4, h5⟩ := hv
    have hl := D.reps_len h4
    refine ⟨vs, ?_, V.reps_map_d.2 h4⟩
    rcases h5 with ⟨rfl, rfl, rfl⟩ | ⟨b, o', rfl, _, h7⟩
    · obtain rfl : k = 0 := by omega
      exact Src.ofNil m.w hu 0
    · exact Src.ofSlice m.w hu _ k cap vs (by rw [hl]; simpa using hc) (fun j x hx => by rw [Addr.add_lit]; exact h7 j x hx) h3
  · cases hy
    rw [V.rep_d] at hv
    unfold D.rep at hv
    subst hv
    exact ⟨[], Src.ofNil m.w hu 0, by simp⟩
  · cases hy
    rw [V.rep_d] at hv
    unfold D.rep at hv
    obtain ⟨p, rfl, _⟩ := hv
    refine ⟨[], ?_, by simp⟩
    cases p with
    | none => exact Src.ofNil m.w hu 0
    | some a => exact Src.ofSlice m.w hu a 0 0 [] (by simp) (by simp) (by simp)
  · cases hy
    rw [V.rep_d] at hv
    unfold D.rep at hv
    obtain ⟨b, o', cap, rfl, _⟩ := hv
    exact ⟨[], Src.ofSlice m.w hu _ 0 cap [] (by simp) (by simp) (by simp), by simp⟩
  · rename_i n s' k'
    split at hy
    · rename_i hs'; subst hs'
      simp only [Option.map_eq_some_iff] at hy
      obtain ⟨ob, hn, hy⟩ := hy
      cases hy
      obtain ⟨b, vs, more, h1, h2, h3, h4, h5⟩ := hob n (by simp) ob hn
      unfold V.rep at hv
      obtain ⟨b', t, z, cap, h1', _, _, rfl, _⟩ := hv
      rw [h1] at h1'; cases h1'
      have hr := V.reps_take h4 (k * s')
      refine ⟨vs.take (k * s'), Src.ofSlice m.w hu _ k cap _ (by rw [V.reps_len hr]; exact hc) (fun j x hx => ?_) (fun x hx => h3 x (List.mem_of_mem_take hx)), hr⟩
      rw [Addr.add_lit, Nat.zero_add]
      refine cell_pre h2 ?_
      rw [List.getElem?_take] at hx
      split at hx
      · exact hx
      · cases hx
    · cases hy
  · rename_i n off k'
    simp only [Option.map_eq_some_iff] at hy
    obtain ⟨ob, hn, hy⟩ := hy
    cases hy
    obtain ⟨b, vs, more, h1, h2, h3, h4, h5⟩ := hob n (by simp) ob hn
    unfold V.rep at hv
    obtain ⟨b', o', cap, h1', rfl, hoff, _⟩ := hv
    rw [h1] at h1'; cases h1'
    have hr := V.reps_take (V.reps_drop h4 off) (k * s)
    refine ⟨(vs.drop off).take (k * s), Src.ofSlice m.w hu _ k cap _ (by rw [V.reps_len hr]; exact hc) (fun j x hx => ?_) (fun x hx => h3 x (List.mem_of_mem_drop (List.mem_of_mem_take hx))), hr⟩
    rcases hoff with rfl | rfl
    · simp at hx
    · rw [Addr.add_lit]; exact cell_pre h2 (seg_get hx)
  · cases hy

theorem app_exec (c : Call) (x y : Operand) (t u : TypeId) (a : Act) (w : World) (r : Result Value) (ho : o.op = .call c) (hc : c.callee = .builtin .append) (ht : c.argTypes.toList = [t, u]) (ha : c.args.toList = [x, y])
    (hr : (Builtin.append_ #[t, u] o.type #[a.eval x, a.eval y]).run P w = r) : (execOp a.eval o).run P w = r.andThen fun v w' => .ok (.value v) w' := by
  have e1 : c.argTypes = #[t, u] := by rw [← Array.toArray_toList (xs := c.argTypes), ht]
  have e2 : c.args.map a.eval = #[a.eval x, a.eval y] := by rw [← Array.toArray_toList (xs := c.args), ha]; simp
  subst hr
  simp [execOp, ho, Go.resolve, hc, invoke, builtin, e1, e2]

theorem ok_app_none (c : Call) (x y : Operand) (t u e e' : TypeId) (i : TypeInfo) (rd : List Nat) (xv : D) (cs : List V) (ho : o.op = .call c) (hc : c.callee = .builtin .append) (ht : c.argTypes.toList = [t, u]) (ha : c.args.toList = [x, y]) (hu1 : P.underlying t = some (.slice e)) (hu2 : P.underlying u = some (.slice e')) (hi : P.info? e = some i)
    (hx : (X.of x).ev T = .d xv) (hxv : xv = .nilsl ∨ xv = .sl0) (hy : srcV i.size H ((X.of y).ev T) = some (0, cs, rd)) (hcs : cs.length = 0) : StepOK P o ((X.of x).slots ++ (X.of y).slots) T H (.d xv) H rd [] :=
  StepOK.val fun m a hb hs hob => by
    have hv := X.rep' (sub_l hs) hx
    have hp : ∃ p, a.eval x = .slice p 0 0 := by
      rw [V.rep_d] at hv
      rcases hxv with rfl | rfl
      · unfold D.rep at hv; exact ⟨none, hv⟩
      · unfold D.rep at hv; obtain ⟨p, hv, _⟩ := hv; exact ⟨p, hv⟩
    obtain ⟨p, hp⟩ := hp
    obtain ⟨news, hsrc, _⟩ := src_of (P := P) hu2 (X.rep' (sub_r hs) rfl) hy hob (by rw [hcs]; simp)
    have hn : news = [] := List.eq_nil_of_length_eq_zero (by rw [hsrc.newsLen]; simp)
    subst hn
    refine ⟨a.eval x, ?_, hv⟩
    rw [app_exec c x y t u a m.w _ ho hc ht ha rfl, hp]
    have : (Builtin.append_ #[t, u] o.type #[.slice p 0 0, a.eval y]).run P m.w = .ok (.slice p 0 0) m.w := by
      cases p with
      | none => simp [Builtin.append_, run_underlying hu1, run_underlying hu2, sizeOf, typeInfo, hi, hsrc.len, hsrc.cells]
      | some ad => simp [Builtin.append_, run_underlying hu1, run_underlying hu2, sizeOf, typeInfo, hi, hsrc.len, hsrc.cells, storeCells]
    rw [this]
    rfl

theorem ok_app_new (c : Call) (x y : Operand) (t u e e' : TypeId) (i : TypeInfo) (z : Value) (k : Nat) (rd : List Nat) (xv : D) (cs : List V) (ho : o.op = .call c) (hc : c.callee = .builtin .append) (ht : c.argTypes.toList = [t, u]) (ha : c.args.toList = [x, y]) (hu1 : P.underlying t = some (.slice e)) (hu2 : P.underlying u = some (.slice e')) (hi : P.info? e = some i) (hz : i.zero = some z) (hzs : z.cells.size = i.size)
    (hx : (X.of x).ev T = .d xv) (hxv : xv = .nilsl ∨ xv = .sl0) (hy : srcV i.size H ((X.of y).ev T) = some (k, cs, rd)) (hk : ¬ k = 0) (hs0 : 0 < i.size) (hb0 : 0 < i.bytes) (hcs : cs.length = k * i.size) (hby : k * i.bytes ≤ 140737488355328) :
    StepOK P o ((X.of x).slots ++ (X.of y).slots) T H (.own H.length i.size k) (H ++ [some ⟨e, cs⟩]) rd [H.length] where
  same := fun n hn => by
    simp at hn
    rw [List.getD_eq_getElem?_getD, List.getD_eq_getElem?_getD]
    rcases Nat.lt_or_gt_of_ne hn with h | h
    · rw [List.getElem?_append_left h]
    · rw [List.getElem?_eq_none (by simp; omega), List.getElem?_eq_none (by omega)]
  len := by simp
  lt := by simp
  wlive := by simp
  run := by
    intro m a hb hs hob hf _ K Q hK
    have hv := X.rep' (sub_l hs) hx
    have hp : ∃ p, a.eval x = .slice p 0 0 := by
      rw [V.rep_d] at hv
      rcases hxv with rfl | rfl
      · unfold D.rep at hv; exact ⟨none, hv⟩
      · unfold D.rep at hv; obtain ⟨p, hv, _⟩ := hv; exact ⟨p, hv⟩
    obtain ⟨p, hp⟩ := hp
    obtain ⟨news, hsrc, hrep⟩ := src_of (P := P) hu2 (X.rep' (sub_r hs) rfl) hy (fun n hn => hob n (.inl hn)) hcs
    have hkm : k ≤ 140737488355328 := Nat.le_trans (Nat.le_mul_of_pos_right _ hb0) hby
    have hold : (Builtin.firstCells i.size 0 (.slice p 0 0)).run P m.w.drew = .ok #[] m.w.drew := by
      cases p <;> simp [Builtin.firstCells, loadCells, loadCellsFrom]
    have hrun := run_append_grow_src (P := P) m.w t u o.type e i z hu1 hi hz p 0 0 [] hold (a.eval y) k news hsrc (by omega) (by omega) (growslice_fits (by omega) (by rw [Nat.zero_add]; exact hby))
    rw [Nat.zero_add, List.nil_append] at hrun
    have hge := grownCap_ge m.w k 0 e
    have hcm : grownCap m.w k 0 e ≤ maxLen := grownCap_le_maxLen m.w k 0 e (by unfold maxLen; omega)
    generalize grownCap m.w k 0 e = cap at hrun hge hcm
    obtain ⟨m', hw, hb', hle, ho', hkeep, hρ⟩ := Mem.newP hb H.length (hf _ (by simp) (Nat.le_refl _)) ⟨e, cs⟩ news (Builtin.zeroCells z.cells (cap - k)).toList hsrc.one hrep m.w.drew rfl rfl rfl rfl
    have hcells : (news.toArray ++ Builtin.zeroCells z.cells (cap - k)) = (news ++ (Builtin.zeroCells z.cells (cap - k)).toList).toArray := by apply Array.ext'; simp
    rw [hcells] at hrun
    unfold Oper.wp
    rw [app_exec c x y t u a m.w _ ho hc ht ha rfl, hp, hrun, ← hw]
    refine hK _ m' ⟨hb', hle, ?_, fun n hn ob' h' => ?_, hkeep, fun n hn _ => ?_, fun n hn k hk _ _ _ => ?_⟩
    · unfold V.rep
      refine ⟨_, e, _, cap, hρ, ?_, rfl, rfl, hge, hcm⟩
      rw [hw]
      unfold World.shape?
      rw [show m.w.heap.size = m.w.drew.heap.size from rfl, heap_alloc_new]
      have : (news ++ (Builtin.zeroCells z.cells (cap - k)).toList).toArray.size = cap * i.size := by
        simp [size_zeroCells, hzs, hsrc.newsLen]
        rw [← Nat.add_mul]
        congr 1; omega
      simp only [this]
    · simp at hn; subst hn
      rw [List.getD_eq_getElem?_getD, List.getElem?_append_right (Nat.le_refl _), Nat.sub_self] at h'
      cases h'; exact ho'
    · simp at hn; subst hn; exact ⟨_, hρ, .inl (Nat.le_refl _)⟩
    · simp at hn hk; omega

theorem ok_app_own (c : Call) (x y : Operand) (t u e e' : TypeId) (i : TypeInfo) (z : Value) (n q k : Nat) (rd : List Nat) (ob : Ob) (cs : List V) (ho : o.op = .call c) (hc : c.callee = .builtin .append) (ht : c.argTypes.toList = [t, u]) (ha : c.args.toList = [x, y]) (hu1 : P.underlying t = some (.slice e)) (hu2 : P.underlying u = some (.slice e')) (hi : P.info? e = some i) (hz : i.zero = some z) (hzs : z.cells.size = i.size)
    (hx : (X.of x).ev T = .own n i.size q) (hn : H.getD n none = some ob) (hy : srcV i.size H ((X.of y).ev T) = some (k, cs, rd)) (hs0 : 0 < i.size) (hb0 : 0 < i.bytes) (hT : ob.T = e) (hoc : ob.c.length = q * i.size) (hcs : cs.length = k * i.size) (hby : (q + k) * i.bytes ≤ 140737488355328) :
    StepOK P o ((X.of x).slots ++ (X.of y).slots) T H (.own H.length i.size (q + k)) (H.set n none ++ [some ⟨e, ob.c ++ cs⟩]) rd [n, H.length] := by
  have hnl : n < H.length := by
    rcases Nat.lt_or_ge n H.length with h | h
    · exact h
    · rw [List.getD_eq_getElem?_getD, List.getElem?_eq_none h] at hn; cases hn
  have hget : ∀ j, (H.set n none ++ [some (⟨e, ob.c ++ cs⟩ : Ob)]).getD j none = if j = n then none else if j = H.length then some ⟨e, ob.c ++ cs⟩ else H.getD j none := fun j => by
    rw [List.getD_eq_getElem?_getD]
    rcases Nat.lt_or_ge j H.length with h | h
    · rw [List.getElem?_append_left (by simpa using h), ← List.getD_eq_getElem?_getD, getD_set]
      simp only [hnl, and_true, show ¬ j = H.length by omega, if_false]
    · rw [List.getElem?_append_right (by simpa using h)]
      simp only [List.length_set, show ¬ j = n by omega, if_false]
      rcases Nat.eq_or_lt_of_le h with rfl | h'
      · simp
      · rw [if_neg (by omega), List.getElem?_eq_none (by simp; omega), List.getD_eq_getElem?_getD, List.getElem?_eq_none (by omega)]
  refine ⟨fun j hj => ?_, by simp, fun j hj => ?_, fun j hj => ?_, ?_⟩
  · simp at hj
    rw [hget, if_neg hj.1, if_neg hj.2]
  · simp at hj; simp; omega
  · simp at hj
    rcases hj with rfl | rfl
    · exact .inl (by rw [live, hn]; rfl)
    · exact .inr (Nat.le_refl _)
  · intro m a hb hs hob hf _ K Q hK
    have hv := X.rep' (sub_l hs) hx
    unfold V.rep at hv
    obtain ⟨b, t', zz, cap, hρ, hsh, hzz, hv, hqc, hcm⟩ := hv
    obtain ⟨b', vs, more, h1, h2, h3, h4, h5⟩ := hob n (.inr (by simp)) ob hn
    rw [hρ] at h1; cases h1
    have hlen := V.reps_len h4
    obtain ⟨news, hsrc, hrep⟩ := src_of (P := P) hu2 (X.rep' (sub_r hs) rfl) hy (fun n hn => hob n (.inl hn)) hcs
    have hnl2 := hsrc.newsLen
    have htot : (vs ++ more).length = cap * i.size := by
      unfold World.shape? at hsh
      rw [h2] at hsh
      simp only [Option.some.injEq, Prod.mk.injEq] at hsh
      have := hsh.2
      simp at this
      simp; omega
    have hqk : q + k ≤ 140737488355328 := Nat.le_trans (Nat.le_mul_of_pos_right _ hb0) hby
    have hun := hf H.length (by simp) (Nat.le_refl _)
    have hnH : n ≠ H.length := by omega
    unfold Oper.wp
    rw [app_exec c x y t u a m.w _ ho hc ht ha rfl, hv]
    by_cases hroom : q + k ≤ cap
    · have hfit : q * i.size + news.length ≤ (vs ++ more).length := by rw [htot, hnl2, ← Nat.add_mul]; exact Nat.mul_le_mul_right _ hroom
      have hst := run_storeCells_at P b (q * i.size) ob.T news 0 (vs ++ more).toArray m.w h2 (by simpa using hfit) hsrc.one
      have hfin : ((vs ++ more).toArray.toList.take (q * i.size + 0) ++ news ++ (vs ++ more).toArray.toList.drop (q * i.size + 0 + news.length)).toArray = ((vs ++ news) ++ more.drop news.length).toArray := by
        congr 1
        have e0 : q * i.size = vs.length := by omega
        simp only [Nat.add_zero, e0]
        simp [List.drop_append]
      rw [hfin] at hst
      have hrun : (Builtin.append_ #[t, u] o.type #[.slice (some ⟨b, 0, none⟩) q cap, a.eval y]).run P m.w = .ok (.slice (some ⟨b, 0, none⟩) (q + k) cap) (m.w.setRow b ((vs ++ news) ++ more.drop news.length).toArray) := by
        simp [Builtin.append_, run_underlying hu1, run_underlying hu2, sizeOf, typeInfo, hi, hsrc.len, hroom, hsrc.cells, Addr.add_lit, hst]
      have hsame : (((vs ++ news) ++ more.drop news.length).toArray).size = ((vs ++ more).toArray).size := by simp at hfit ⊢; omega
      rw [hrun]
      have hle : m.le ⟨fun j => if j = H.length then some b else m.ρ j, m.I, m.w.setRow b ((vs ++ news) ++ more.drop news.length).toArray⟩ (· ∈ [n, H.length]) := by
        refine ⟨fun j b' h => ?_, fun _ h => h, rfl, rfl, rfl, by simp, fun j hj hne => ?_, fun j hj => setRow_shape h2 hsame j, fun j hj => ?_, fun _ h => .inl h, fun j b' h => ?_⟩
        · dsimp only
          rw [if_neg (fun e => by subst e; rw [hun] at h; cases h)]; exact h
        · exact setRow_other _ _ _ _ fun e => hne n (by simp) (e ▸ hρ)
        · exact setRow_other _ _ _ _ fun e => h5 (e ▸ hj)
        · dsimp only at h
          split at h
          · cases h; exact .inr (.inr ⟨n, by simp, hρ⟩)
          · exact .inl h
      refine hK _ ⟨fun j => if j = H.length then some b else m.ρ j, m.I, m.w.setRow b ((vs ++ news) ++ more.drop news.length).toArray⟩ ⟨⟨fun j hj => by simpa using hb.imm j hj, fun j b' hj => ?_⟩, hle, ?_, fun j hj ob' h' => ?_, fun j hj => ?_, fun j hj lj => ?_, fun j hj j' hj' lj lj' _ => ?_⟩
      · dsimp only at hj ⊢
        split at hj
        · cases hj; simpa using hb.dom n b hρ
        · simpa using hb.dom j b' hj
      · unfold V.rep
        exact ⟨b, t', zz, cap, by simp, by rw [setRow_shape h2 hsame]; exact hsh, hzz, rfl, hroom, hcm⟩
      · rw [hget] at h'
        split at h'
        · cases h'
        · rename_i hjn
          simp [hjn] at hj
          subst hj
          simp at h'
          subst h'
          refine ⟨b, vs ++ news, more.drop news.length, by simp, by rw [← hT]; exact setRow_heap _ _ _ _ _ _ h2, fun u hu => ?_, V.reps_mono hle _ _ (V.reps_append h4 hrep), h5⟩
          rcases List.mem_append.1 hu with hu | hu
          · exact h3 u hu
          · exact hsrc.one u hu
      · simp at hj; simp [hj.2]
      · rw [live, hget] at lj
        split at lj
        · cases lj
        · rename_i hjn
          simp [hjn] at hj
          subst hj
          exact ⟨b, by simp, .inr ⟨n, by simp, by rw [live, hn]; rfl, hρ⟩⟩
      · rw [live, hget] at lj lj'
        split at lj
        · cases lj
        · split at lj'
          · cases lj'
          · simp_all
    · have hold : (Builtin.firstCells i.size q (.slice (some ⟨b, 0, none⟩) q cap)).run P m.w.drew = .ok vs.toArray m.w.drew := by
        have e0 : q * i.size = vs.length := by omega
        have := run_loadCells_list (P := P) m.w.drew ⟨b, 0, none⟩ vs (fun j x hx => by rw [Addr.add_lit, Nat.zero_add]; exact cell_pre h2 hx)
        simp [Builtin.firstCells, e0, this]
      have hrun := run_append_grow_src (P := P) m.w t u o.type e i z hu1 hi hz (some ⟨b, 0, none⟩) q cap vs hold (a.eval y) k news hsrc (by omega) (by omega) (growslice_fits (by omega) hby)
      have hge := grownCap_ge m.w (q + k) cap e
      have hcm' : grownCap m.w (q + k) cap e ≤ maxLen := grownCap_le_maxLen m.w (q + k) cap e (by unfold maxLen; omega)
      generalize grownCap m.w (q + k) cap e = cap' at hrun hge hcm'
      obtain ⟨m', hw, hb', hle, ho', hkeep, hρ'⟩ := Mem.newP hb H.length hun ⟨e, ob.c ++ cs⟩ (vs ++ news) (Builtin.zeroCells z.cells (cap' - (q + k))).toList (fun u hu => by
        rcases List.mem_append.1 hu with hu | hu
        · exact h3 u hu
        · exact hsrc.one u hu) (V.reps_append h4 hrep) m.w.drew rfl rfl rfl rfl
      have hcells : ((vs ++ news).toArray ++ Builtin.zeroCells z.cells (cap' - (q + k))) = ((vs ++ news) ++ (Builtin.zeroCells z.cells (cap' - (q + k))).toList).toArray := by apply Array.ext'; simp
      rw [hcells] at hrun
      rw [hrun, ← hw]
      have hle2 : m.le m' (· ∈ [n, H.length]) := hle.mono fun j b _ hj => by simp at hj; simp [hj]
      refine hK _ m' ⟨hb', hle2, ?_, fun j hj ob' h' => ?_, fun j hj => hkeep j (by simp at hj; simp [hj.2]), fun j hj lj => ?_, fun j hj j' hj' lj lj' _ => ?_⟩
      · unfold V.rep
        refine ⟨_, e, _, cap', hρ', ?_, rfl, rfl, hge, hcm'⟩
        rw [hw]
        unfold World.shape?
        rw [show m.w.heap.size = m.w.drew.heap.size from rfl, heap_alloc_new]
        have : ((vs ++ news) ++ (Builtin.zeroCells z.cells (cap' - (q + k))).toList).toArray.size = cap' * i.size := by
          simp only [List.size_toArray, List.length_append, Array.length_toList, size_zeroCells, hzs, hnl2]
          rw [show vs.length = q * i.size by omega, ← Nat.add_mul, ← Nat.add_mul]
          congr 1; omega
        simp only [this]
      · rw [hget] at h'
        split at h'
        · cases h'
        · rename_i hjn
          simp [hjn] at hj
          subst hj
          simp at h'
          subst h'
          exact ho'
      · rw [live, hget] at lj
        split at lj
        · cases lj
        · rename_i hjn
          simp [hjn] at hj
          subst hj
          exact ⟨_, hρ', .inl (Nat.le_refl _)⟩
      · rw [live, hget] at lj lj'
        split at lj
        · cases lj
        · split at lj'
          · cases lj'
          · simp_all

theorem cpy_exec (c : Call) (x y : Operand) (t u : TypeId) (a : Act) (w : World) (r : Result Value) (ho : o.op = .call c) (hc : c.callee = .builtin .copy) (ht : c.argTypes.toList = [t, u]) (ha : c.args.toList = [x, y])
    (hr : (Builtin.copy_ #[t, u] o.type #[a.eval x, a.eval y]).run P w = r) : (execOp a.eval o).run P w = r.andThen fun v w' => .ok (.value v) w' := by
  have e1 : c.argTypes = #[t, u] := by rw [← Array.toArray_toList (xs := c.argTypes), ht]
  have e2 : c.args.map a.eval = #[a.eval x, a.eval y] := by rw [← Array.toArray_toList (xs := c.args), ha]; simp
  subst hr
  simp [execOp, ho, Go.resolve, hc, invoke, builtin, e1, e2]

theorem ok_cpy (c : Call) (x y : Operand) (t u e e' : TypeId) (i : TypeInfo) (n off q k : Nat) (rd : List Nat) (ob : Ob) (cs : List V) (ho : o.op = .call c) (hc : c.callee = .builtin .copy) (ht : c.argTypes.toList = [t, u]) (ha : c.args.toList = [x, y]) (hu1 : P.underlying t = some (.slice e)) (hu2 : P.underlying u = some (.slice e')) (hi : P.info? e = some i)
    (hx : dstV i.size ((X.of x).ev T) = some (n, off, q)) (hn : H.getD n none = some ob) (hy : srcV i.size H ((X.of y).ev T) = some (k, cs, rd)) (hkq : k ≤ q) (hcs : cs.length = k * i.size) (hl : off + k * i.size ≤ ob.c.length) :
    StepOK P o ((X.of x).slots ++ (X.of y).slots) T H (.d (.int .i64 k)) (H.set n (some ⟨ob.T, setMany ob.c off cs⟩)) rd [n] where
  same := fun k hk => by
    simp at hk
    rw [getD_set, if_neg (by omega)]
  len := by simp
  lt := fun k hk => by
    simp at hk; subst hk
    rcases Nat.lt_or_ge k H.length with h | h
    · simpa using h
    · rw [List.getD_eq_getElem?_getD, List.getElem?_eq_none h] at hn; cases hn
  wlive := fun k hk => by simp at hk; subst hk; exact .inl (by rw [live, hn]; rfl)
  run := by
    intro m a hb hs hob _ _ K Q hK
    obtain ⟨b, vs, more, h1, h2, h3, h4, h5⟩ := hob n (.inr (by simp)) ob hn
    have hlen := V.reps_len h4
    have hH : (H.set n (some (⟨ob.T, setMany ob.c off cs⟩ : Ob))).getD n none = some ⟨ob.T, setMany ob.c off cs⟩ := by
      have hlt : n < H.length := by
        rcases Nat.lt_or_ge n H.length with h | h
        · exact h
        · rw [List.getD_eq_getElem?_getD, List.getElem?_eq_none h] at hn; cases hn
      rw [getD_set, if_pos ⟨rfl, hlt⟩]
    have hdst : ∃ o' cap, a.eval x = .slice (some ⟨b, o', none⟩) q cap ∧ (q = 0 ∨ o' = off) := by
      have hv := X.rep' (sub_l hs) rfl
      unfold dstV at hx
      split at hx
      · rename_i n' s' q' he
        split at hx
        · rename_i hs'
          cases hx
          rw [he] at hv
          unfold V.rep at hv
          obtain ⟨b', t, z, cap, h1', _, _, hv, _⟩ := hv
          rw [h1] at h1'; cases h1'
          exact ⟨0, cap, hv, .inr rfl⟩
        · cases hx
      · rename_i n' off' q' he
        cases hx
        rw [he] at hv
        unfold V.rep at hv
        obtain ⟨b', o', cap, h1', hv, hoff, _⟩ := hv
        rw [h1] at h1'; cases h1'
        exact ⟨o', cap, hv, hoff⟩
      · cases hx
    obtain ⟨o', cap, hv, hoff⟩ := hdst
    obtain ⟨news, hsrc, hrep⟩ := src_of (P := P) hu2 (X.rep' (sub_r hs) rfl) hy (fun n hn => hob n (.inl hn)) hcs
    have hnl := hsrc.newsLen
    have hmin : Nat.min k q = k := Nat.min_eq_left hkq
    have hpart : ∀ w', (storeCells ⟨b, o', none⟩ news).run P m.w = .ok () w' → (Builtin.copy_ #[t, u] o.type #[a.eval x, a.eval y]).run P m.w = .ok (.int .i64 k) w' := by
      intro w' hst
      rw [hv]
      simp [Builtin.copy_, run_underlying hu1, hsrc.len, size_run hi, hmin, hsrc.cells, hst, goInt]
    unfold Oper.wp
    rcases Nat.eq_zero_or_pos news.length with h0 | h0
    · have hnil : news = [] := List.eq_nil_of_length_eq_zero h0
      subst hnil
      have hcs0 : cs = [] := List.eq_nil_of_length_eq_zero (by have := V.reps_len hrep; simp at this; omega)
      subst hcs0
      rw [cpy_exec c x y t u a m.w _ ho hc ht ha (hpart m.w (by simp [storeCells]))]
      refine hK _ m ⟨hb, Mem.le.refl _ _, V.rep_d.2 (D.rep_int.2 rfl), fun k hk ob' h' => ?_, fun _ _ => rfl, fun k hk _ => ?_, fun k hk k' hk' _ _ _ => by simp at hk hk'; omega⟩
      · simp at hk; subst hk
        rw [hH] at h'; cases h'
        exact ⟨b, vs, more, h1, h2, h3, h4, h5⟩
      · simp at hk; subst hk
        exact ⟨b, h1, .inr ⟨k, by simp, by rw [live, hn]; rfl, h1⟩⟩
    · have hq : o' = off := by
        rcases hoff with h | h
        · exfalso
          have : k = 0 := by omega
          rw [this] at hnl
          omega
        · exact h
      subst hq
      have hst := run_storeCells_at P b o' ob.T news 0 (vs ++ more).toArray m.w h2 (by simp; omega) hsrc.one
      have hfin : ((vs ++ more).toArray.toList.take (o' + 0) ++ news ++ (vs ++ more).toArray.toList.drop (o' + 0 + news.length)).toArray = ((vs.take o' ++ news ++ vs.drop (o' + news.length)) ++ more).toArray := by
        congr 1
        simp only [Nat.add_zero]
        rw [List.take_append_of_le_length (by omega), List.drop_append_of_le_length (by omega)]
        simp
      rw [hfin] at hst
      generalize hnew : vs.take o' ++ news ++ vs.drop (o' + news.length) = nw at hst
      have hsame : ((nw ++ more).toArray).size = ((vs ++ more).toArray).size := by subst hnew; simp; omega
      have hle : m.le ⟨m.ρ, m.I, m.w.setRow b (nw ++ more).toArray⟩ (· ∈ [n]) := by
        refine ⟨fun _ _ h => h, fun _ h => h, rfl, rfl, rfl, by simp, fun k hk hne => ?_, fun k hk => setRow_shape h2 hsame k, fun k hk => ?_, fun _ h => .inl h, fun _ _ h => .inl h⟩
        · exact setRow_other _ _ _ _ fun e => hne n (by simp) (e ▸ h1)
        · exact setRow_other _ _ _ _ fun e => h5 (e ▸ hk)
      rw [cpy_exec c x y t u a m.w _ ho hc ht ha (hpart _ (by simpa [storeCells] using hst))]
      refine hK _ ⟨m.ρ, m.I, m.w.setRow b (nw ++ more).toArray⟩ ⟨⟨fun k hk => by simpa using hb.imm k hk, fun k b' hk => by simpa using hb.dom k b' hk⟩, hle, V.rep_d.2 (D.rep_int.2 rfl), fun k hk ob' h' => ?_, fun _ _ => rfl, fun k hk _ => ?_, fun k hk k' hk' _ _ _ => by simp at hk hk'; omega⟩
      · simp at hk; subst hk
        rw [hH] at h'; cases h'
        refine ⟨b, nw, more, h1, setRow_heap _ _ _ _ _ _ h2, fun u hu => ?_, V.reps_mono hle _ _ (hnew ▸ reps_setMany o' h4 hrep (by have := V.reps_len hrep; omega)), h5⟩
        subst hnew
        simp only [List.mem_append] at hu
        rcases hu with (hu | hu) | hu
        · exact h3 u (List.mem_of_mem_take hu)
        · exact hsrc.one u hu
        · exact h3 u (List.mem_of_mem_drop hu)
      · simp at hk; subst hk
        exact ⟨b, h1, .inr ⟨k, by simp, by rw [live, hn]; rfl, h1⟩⟩

end

end
end Go.Proofs.Ytakjegcjeffmgaa.Am

namespace Go.Proofs.Ytakjegcjeffmgaa.Am
section
open Go.RowKit
set_option linter.unusedVariables false
set_option linter.unusedSimpArgs false

section
variable {P : Program} {o : Oper} {T : List V} {H : List (Option Ob)}

theorem equal_unfold (t : TypeId) (x y : Value) : Op.equal t x y = Op.equalIn (9999 + 1) t x y := rfl

theorem nil_cmp (op : BinOp) (t t' : TypeId) (x : Operand) (c : Value) (yv : V) (b : Bool) (hop : op = .eql ∨ op = .neq) (ho : o.op = .binOp op t x (.const c) t') (hx : (X.of x).ev T = yv)
    (heq : ∀ (m : Mem) (v : Value), yv.rep m v → (Op.equal t v c).run P m.w = .ok b m.w ∧ (eqGuard op t x (.const c) v c).run P m.w = .ok () m.w ∧ (∀ op, op = .eql → binOp op t v c = (do pure (.bool (← Op.equal t v c)))) ∧ (∀ op, op = .neq → binOp op t v c = (do pure (.bool (!(← Op.equal t v c)))))) :
    StepOK P o (X.of x).slots T H (.d (.bool (if op == .neq then !b else b))) H [] [] :=
  StepOK.data fun m a hs => by
    obtain ⟨h1, h2, h3, h4⟩ := heq m _ (X.rep' hs hx)
    refine ⟨.bool (if op == .neq then !b else b), ?_, D.rep_bool.2 rfl⟩
    have e0 : a.eval (.const c) = c := rfl
    rcases hop with rfl | rfl
    · simp only [execOp, ho, e0, Sem.run_bind, h2, Result.andThen_ok, h3 _ rfl, h1, Sem.run_pure]; rfl
    · simp only [execOp, ho, e0, Sem.run_bind, h2, Result.andThen_ok, h4 _ rfl, h1, Sem.run_pure]; rfl

theorem ok_snl (op : BinOp) (t t' e : TypeId) (x : Operand) (l k : Nat) (yv : V) (b : Bool) (hop : op = .eql ∨ op = .neq) (ho : o.op = .binOp op t x (.const (.slice none l k)) t') (hu : P.underlying t = some (.slice e)) (hx : (X.of x).ev T = yv)
    (hy : (yv = .d .nilsl ∧ b = true) ∨ (b = false ∧ ((∃ n c, yv = .d (.sl n c) ∧ 0 < n) ∨ (∃ n s q, yv = .own n s q) ∨ (yv = .d .sle) ∨ ∃ n off q, yv = .row n off q))) :
    StepOK P o (X.of x).slots T H (.d (.bool (if op == .neq then !b else b))) H [] [] := by
  refine nil_cmp op t t' x _ yv b hop ho hx fun m v hv => ?_
  have hsl : ∃ p q c, v = .slice p q c ∧ p.isNone = b := by
    rcases hy with ⟨rfl, rfl⟩ | ⟨rfl, ⟨n, c, rfl, hn⟩ | ⟨n, s, q, rfl⟩ | rfl | ⟨n, off, q, rfl⟩⟩
    · rw [V.rep_d] at hv; unfold D.rep at hv; exact ⟨none, 0, 0, hv, rfl⟩
    · rw [V.rep_d] at hv
      unfold D.rep at hv
      obtain ⟨p, cap, rfl, h1, _, vs, _, _, h5⟩ := hv
      refine ⟨p, n, cap, rfl, ?_⟩
      rcases h5 with ⟨_, h6, _⟩ | ⟨_, _, rfl, _⟩
      · omega
      · rfl
    · unfold V.rep at hv; obtain ⟨_, _, _, cap, _, _, _, rfl, _⟩ := hv; exact ⟨_, q, cap, rfl, rfl⟩
    · rw [V.rep_d] at hv; unfold D.rep at hv; obtain ⟨_, _, cap, rfl, _⟩ := hv; exact ⟨_, 0, cap, rfl, rfl⟩
    · unfold V.rep at hv; obtain ⟨_, _, cap, _, rfl, _⟩ := hv; exact ⟨_, q, cap, rfl, rfl⟩
  obtain ⟨p, q, c, rfl, hp⟩ := hsl
  refine ⟨?_, ?_, fun op h => by subst h; rfl, fun op h => by subst h; rfl⟩
  · rw [equal_unfold, Op.equalIn]
    cases p <;> simp_all [run_underlying hu]
  · unfold eqGuard; split <;> rfl

theorem ok_inl (op : BinOp) (t t' : TypeId) (x : Operand) (ms : Array (String × TypeId)) (yv : V) (b : Bool) (hop : op = .eql ∨ op = .neq) (ho : o.op = .binOp op t x (.const .nilIface) t') (hu : P.underlying t = some (.interface ms)) (hx : (X.of x).ev T = yv)
    (hy : (yv = .d .nilifc ∧ b = true) ∨ (b = false ∧ ∃ ty d, yv = .d (.ifc ty d))) :
    StepOK P o (X.of x).slots T H (.d (.bool (if op == .neq then !b else b))) H [] [] := by
  refine nil_cmp op t t' x _ yv b hop ho hx fun m v hv => ?_
  rcases hy with ⟨rfl, rfl⟩ | ⟨rfl, ty, d, rfl⟩
  · rw [V.rep_d] at hv
    unfold D.rep at hv
    subst hv
    refine ⟨?_, ?_, fun op h => by subst h; rfl, fun op h => by subst h; rfl⟩
    · rw [equal_unfold, Op.equalIn]; simp [run_underlying hu]
    · rcases hop with rfl | rfl <;> simp [eqGuard]
  · rw [V.rep_d] at hv
    unfold D.rep at hv
    obtain ⟨u, rfl, _⟩ := hv
    refine ⟨?_, ?_, fun op h => by subst h; rfl, fun op h => by subst h; rfl⟩
    · rw [equal_unfold, Op.equalIn]; simp [run_underlying hu]
    · unfold eqGuard; split <;> rfl

theorem ok_pnl (op : BinOp) (t t' e : TypeId) (x : Operand) (yv : V) (b : Bool) (hop : op = .eql ∨ op = .neq) (ho : o.op = .binOp op t x (.const (.pointer none)) t') (hu : P.underlying t = some (.pointer e)) (hx : (X.of x).ev T = yv)
    (hy : (yv = .d .nilp ∧ b = true) ∨ (b = false ∧ ∃ n off, yv = .p n off)) :
    StepOK P o (X.of x).slots T H (.d (.bool (if op == .neq then !b else b))) H [] [] := by
  refine nil_cmp op t t' x _ yv b hop ho hx fun m v hv => ?_
  have hp : ∃ p : Option Addr, v = .pointer p ∧ p.isNone = b := by
    rcases hy with ⟨rfl, rfl⟩ | ⟨rfl, n, off, rfl⟩
    · rw [V.rep_d] at hv; unfold D.rep at hv; exact ⟨none, hv, rfl⟩
    · unfold V.rep at hv; obtain ⟨_, _, rfl⟩ := hv; exact ⟨_, rfl, rfl⟩
  obtain ⟨p, rfl, hp⟩ := hp
  refine ⟨?_, ?_, ?_, ?_⟩
  · rw [equal_unfold, Op.equalIn]
    cases p <;> simp_all [run_underlying hu]
  · unfold eqGuard; split <;> rfl
  · intro op h; subst h; cases p <;> rfl
  · intro op h; subst h; cases p <;> rfl

theorem eq_scalar {d k : Nat} {I : Nat → Prop} {w : World} {t : TypeId} {x y : D} {v u : Value} {b : Bool} (hx : x.rep I w v) (hy : y.rep I w u) (h : eqK k x y = some b) (h0 : k = 0 → ∃ k', P.underlying t = some (.int k')) (h1 : k = 1 → P.underlying t = some .bool) :
    (Op.equalIn (d + 1) t v u).run P w = .ok b w := by
  unfold eqK at h
  split at h
  · split at h
    · rename_i hk'
      subst hk'
      cases h
      obtain ⟨k'', hu⟩ := h0 rfl
      rw [D.rep_int.1 hx, D.rep_int.1 hy, Op.equalIn]
      simp [run_underlying hu]
    · cases h
  · cases h
    have hu := h1 rfl
    rw [D.rep_bool.1 hx, D.rep_bool.1 hy, Op.equalIn]
    simp [run_underlying hu]
  · cases h

theorem eq_fields {d : Nat} {I : Nat → Prop} {w : World} (xs ys : Array Value) (B : Field → Option Bool × Unit → Sem (ForInStep (Option Bool × Unit))) (hB : ∀ f s, B f s = (if f.name ≠ "_" then do
        if !(← Op.equalIn (d + 1) f.type (← part f.type xs f.offset) (← part f.type ys f.offset)) then pure (ForInStep.done (some false, ())) else pure (ForInStep.yield (none, ()))
      else pure (ForInStep.yield (none, ())))) :
    ∀ (fs : List Field) (i : Nat) (ks : List Nat) (l r : List D) (b : Bool), flatK P i fs = some ks → D.reps I w l (xs.toList.drop i) → D.reps I w r (ys.toList.drop i) → eqKs ks l r = some b →
      (forIn fs ((none, ()) : Option Bool × Unit) B).run P w = .ok (if b then none else some false, ()) w
  | [], i, ks, l, r, b, hf, hl, hr, he => by
    simp only [flatK, Option.some.injEq] at hf; subst hf
    have : b = true := by
      unfold eqKs at he
      split at he <;> simp_all
    subst this
    simp
  | f :: fs, i, ks, l, r, b, hf, hl, hr, he => by
    simp only [flatK] at hf
    split at hf
    · rename_i hc
      obtain ⟨hoff, hnm, hagg⟩ := hc
      have hcons : ∃ k ks', ks = k :: ks' ∧ flatK P (i + 1) fs = some ks' ∧ (k = 0 → ∃ k', P.underlying f.type = some (.int k')) ∧ (k = 1 → P.underlying f.type = some .bool) := by
        split at hf
        · rename_i k' l' h1 h2; cases hf; exact ⟨0, l', rfl, h2, fun _ => ⟨_, h1⟩, by simp⟩
        · rename_i l' h1 h2; cases hf; exact ⟨1, l', rfl, h2, by simp, fun _ => h1⟩
        · cases hf
      obtain ⟨k, ks', rfl, hf', k0, k1⟩ := hcons
      rcases l with _ | ⟨x, l2⟩
      · simp [eqKs] at he
      rcases r with _ | ⟨y, r2⟩
      · simp [eqKs] at he
      simp only [eqKs] at he
      split at he
      · rename_i a c ha hc'
        cases he
        obtain ⟨v, lv, e1, hxv, hl'⟩ := D.reps_cons'.1 hl
        obtain ⟨u, ru, e2, hyu, hr'⟩ := D.reps_cons'.1 hr
        have g1 : xs[i]? = some v := by
          have : (xs.toList.drop i)[0]? = some v := by rw [e1]; rfl
          rw [List.getElem?_drop] at this
          simpa using this
        have g2 : ys[i]? = some u := by
          have : (ys.toList.drop i)[0]? = some u := by rw [e2]; rfl
          rw [List.getElem?_drop] at this
          simpa using this
        have d1 : xs.toList.drop (i + 1) = lv := by rw [← List.drop_drop, e1]; rfl
        have d2 : ys.toList.drop (i + 1) = ru := by rw [← List.drop_drop, e2]; rfl
        have p1 : (part f.type xs f.offset).run P w = .ok v w := by simp [part, agg_run hagg, hoff, g1]
        have p2 : (part f.type ys f.offset).run P w = .ok u w := by simp [part, agg_run hagg, hoff, g2]
        have q := eq_scalar (P := P) (d := d) (t := f.type) hxv hyu ha k0 k1
        rw [List.forIn_cons]
        simp only [hB, hnm, Sem.run_bind, if_true, ne_eq, not_false_eq_true, p1, p2, q, Result.andThen_ok]
        cases a
        · simp
        · have ih := eq_fields xs ys B hB fs (i + 1) ks' l2 r2 c hf' (by rw [d1]; exact hl') (by rw [d2]; exact hr') hc'
          simp only [Bool.not_true, Bool.false_eq_true, if_false, Sem.run_pure, Result.andThen_ok, ih, Bool.true_and]
      · cases he
    · cases hf

theorem ok_aeq (op : BinOp) (t t' : TypeId) (x y : Operand) (fs : Array Field) (ks : List Nat) (l r : List D) (b : Bool) (hop : op = .eql ∨ op = .neq) (ho : o.op = .binOp op t x y t') (hu : P.underlying t = some (.struct fs)) (hst : P.stoodInHeld t = false) (hgt : P.eqGuardType P.depth t = false) (hk : flatK P 0 fs.toList = some ks)
    (hx : (X.of x).ev T = .d (.agg l)) (hy : (X.of y).ev T = .d (.agg r)) (he : eqKs ks l r = some b) :
    StepOK P o ((X.of x).slots ++ (X.of y).slots) T H (.d (.bool (if op == .neq then !b else b))) H [] [] :=
  StepOK.data fun m a hs => by
    have hv := X.rep' (sub_l hs) hx
    have hw := X.rep' (sub_r hs) hy
    rw [V.rep_d] at hv hw
    unfold D.rep at hv hw
    obtain ⟨vs, hv, _, h1⟩ := hv
    obtain ⟨us, hw, _, h2⟩ := hw
    have heq : (Op.equal t (.agg vs.toArray) (.agg us.toArray)).run P m.w = .ok b m.w := by
      rw [equal_unfold, Op.equalIn]
      simp only [Sem.run_bind, run_underlying hu, Result.andThen_ok, run_program, hst, Bool.false_eq_true, if_false]
      have := eq_fields (P := P) (d := 9998) (w := m.w) (I := m.I) vs.toArray us.toArray _ (fun f s => rfl) fs.toList 0 ks l r b hk (by simpa using h1) (by simpa using h2) he
      rw [← Array.forIn_toList]
      rw [this]
      cases b <;> simp
    have hgd : (eqGuard op t x y (.agg vs.toArray) (.agg us.toArray)).run P m.w = .ok () m.w := by
      rcases hop with rfl | rfl <;> simp [eqGuard, hgt]
    refine ⟨.bool (if op == .neq then !b else b), ?_, D.rep_bool.2 rfl⟩
    rcases hop with rfl | rfl
    · simp only [execOp, ho, hv, hw, Sem.run_bind, hgd, Result.andThen_ok, binOp, heq, Sem.run_pure]; rfl
    · simp only [execOp, ho, hv, hw, Sem.run_bind, hgd, Result.andThen_ok, binOp, heq, Sem.run_pure]; rfl

theorem ok_bsl0 (t e : TypeId) (ps : Array (Nat × Operand)) (i : TypeInfo) (ho : o.op = .buildSlice t 0 ps) (hps : ps.size = 0) (hu : P.underlying t = some (.slice e)) (hi : P.info? e = some i) : StepOK P o [] T H (.d .sl0) H [] [] where
  same := fun _ _ => rfl
  len := Nat.le_refl _
  lt := by simp
  wlive := by simp
  run := by
    intro m a hb hs ho' hf _ K Q hK
    have hps' : ps = #[] := Array.eq_empty_of_size_eq_zero hps
    subst hps'
    have hrun : (execOp a.eval o).run P m.w = .ok (.value (.slice (some ⟨m.w.heap.size, 0, none⟩) 0 0)) (m.w.alloc (.cells #[] e)) := by
      simp [execOp, ho, Instr.buildSlice, run_underlying hu, size_run hi, Instr.fill, newRow, Array.range_zero']
    unfold Oper.wp
    rw [hrun]
    have hle : m.le ⟨m.ρ, m.I, m.w.alloc (.cells #[] e)⟩ (· ∈ ([] : List Nat)) :=
      ⟨fun _ _ h => h, fun _ h => h, rfl, rfl, rfl, by simp, fun b hlt _ => Below.heap_alloc _ _ _ hlt, fun b hlt => shape_alloc hlt, fun b hI => Below.heap_alloc _ _ _ (hb.imm b hI), fun _ h => .inl h, fun _ _ h => .inl h⟩
    refine hK _ ⟨m.ρ, m.I, m.w.alloc (.cells #[] e)⟩ ⟨⟨fun b h => Nat.lt_of_lt_of_le (hb.imm b h) (by simp), fun k b h => Nat.lt_of_lt_of_le (hb.dom k b h) (by simp)⟩, hle, ?_, by simp, fun _ _ => rfl, by simp, by simp⟩
    rw [V.rep_d]
    unfold D.rep
    exact ⟨_, rfl, fun a ha => by cases ha; rfl⟩

theorem ok_ixa (t e : TypeId) (x y : Operand) (n : Nat) (i : TypeInfo) (k : IntKind) (a : Int) (ho : o.op = .indexAddr t x y) (hu : P.underlying t = some (.array n e)) (hi : P.info? e = some i) (hy : (X.of y).ev T = .d (.int k a)) (h0 : 0 ≤ a) (h1 : a < n) :
    (∀ m off, (X.of x).ev T = .p m off → StepOK P o ((X.of x).slots ++ (X.of y).slots) T H (.p m (off + a.toNat * i.size)) H [] []) ∧ (∀ l off, (X.of x).ev T = .ia l off → StepOK P o ((X.of x).slots ++ (X.of y).slots) T H (.ia l (off + a.toNat * i.size)) H [] []) := by
  have key : ∀ (m : Mem) (b off : Nat), (Instr.indexAt t (.pointer (some ⟨b, off, none⟩)) (.int k a)).run P m.w = .ok (.pointer (some ⟨b, off + a.toNat * i.size, none⟩)) m.w := by
    intro m b off
    simp [Instr.indexAt, asIntOf, run_underlying hu, Instr.sureAddr, h0, h1, size_run hi, Addr.add_lit]
  constructor
  · intro nm off hx
    refine StepOK.val fun m ac _ hs _ => ?_
    have hv := X.rep' (sub_l hs) hx
    have hw := V.rep_int.1 (X.rep' (sub_r hs) hy)
    unfold V.rep at hv
    obtain ⟨b, hb, hv⟩ := hv
    refine ⟨.pointer (some ⟨b, off + a.toNat * i.size, none⟩), by simp [execOp, ho, hv, hw, key], ?_⟩
    unfold V.rep; exact ⟨b, hb, rfl⟩
  · intro l off hx
    refine StepOK.val fun m ac _ hs _ => ?_
    have hv := X.rep' (sub_l hs) hx
    have hw := V.rep_int.1 (X.rep' (sub_r hs) hy)
    unfold V.rep at hv
    obtain ⟨b, o', hv, hr⟩ := hv
    refine ⟨.pointer (some ⟨b, o' + off + a.toNat * i.size, none⟩), by simp [execOp, ho, hv, hw, key], ?_⟩
    unfold V.rep; exact ⟨b, o', by rw [Nat.add_assoc], hr⟩

theorem ok_gstr (t : TypeId) (x y : Operand) (s : ByteArray) (k : IntKind) (a : Int) (ho : o.op = .index t x y) (hu : P.underlying t = some .string) (hx : (X.of x).ev T = .d (.str s)) (hy : (X.of y).ev T = .d (.int k a)) (h0 : 0 ≤ a) (h1 : a.toNat < s.size) :
    StepOK P o ((X.of x).slots ++ (X.of y).slots) T H (.d (.int .u8 (s.data.toList.getD a.toNat 0).toNat)) H [] [] :=
  StepOK.data fun m ac hs => by
    have e1 : s[a.toNat]? = some (s.data.toList.getD a.toNat 0) := by
      rw [getElem?_pos s a.toNat h1]
      have h2 : a.toNat < s.data.toList.length := by simpa using h1
      simp only [List.getD, List.getElem?_eq_getElem h2, Option.getD_some]
      rfl
    refine ⟨.int .u8 (s.data.toList.getD a.toNat 0).toNat, ?_, D.rep_int.2 rfl⟩
    simp only [execOp, ho, V.rep_str.1 (X.rep' (sub_l hs) hx), V.rep_int.1 (X.rep' (sub_r hs) hy), Instr.index, asIntOf, Sem.run_bind, Sem.run_pure, Result.andThen_ok, run_underlying hu, if_pos h0, e1]

end

end
end Go.Proofs.Ytakjegcjeffmgaa.Am

namespace Go.Proofs.Ytakjegcjeffmgaa.Am
section
open Go.RowKit
set_option linter.unusedVariables false
set_option linter.unusedSimpArgs false

section
variable {P : Program} {o : Oper} {T : List V} {H : List (Option Ob)} {K : V → List (Option Ob) → List Nat → List Nat → Prop}

theorem call_args {m : Mem} {a : Act} {S : List Nat} (c : Call) (f : FuncId) (ho : o.op = .call c) (hc : c.callee = .value (.func f)) (hs : Slots m a T (X.slotss (c.args.toList.map X.of))) :
    ∃ vs : List Value, V.reps m ((c.args.toList.map X.of).map (X.ev T)) vs ∧ (execOp a.eval o).run P m.w = (callFunc f vs.toArray).run P m.w := by
  refine ⟨c.args.toList.map a.eval, evs_rep _ hs, ?_⟩
  have : (c.args.toList.map a.eval).toArray = c.args.map a.eval := by rw [← Array.toList_map]
  simp [execOp, ho, Go.resolve, hc, Act.eval, Deferred.ofValue, invoke, this]

theorem callv_args {m : Mem} {a : Act} (c : Call) (f : Operand) (g : FuncId) (caps : List V) (ho : o.op = .call c) (hc : c.callee = .value f) (hf : (X.of f).ev T = .fn (.func g) caps) (hs : Slots m a T ((X.of f).slots ++ X.slotss (c.args.toList.map X.of))) :
    ∃ vs : List Value, V.reps m ((c.args.toList.map X.of).map (X.ev T) ++ caps) vs ∧ (execOp a.eval o).run P m.w = (callFunc g vs.toArray).run P m.w := by
  have hv := X.rep' (sub_l hs) hf
  unfold V.rep at hv
  obtain ⟨us, hv, hr⟩ := hv
  refine ⟨c.args.toList.map a.eval ++ us, V.reps_append (evs_rep _ (sub_r hs)) hr, ?_⟩
  have : (c.args.toList.map a.eval ++ us).toArray = c.args.map a.eval ++ us.toArray := by
    apply Array.ext'; simp
  simp [execOp, ho, Go.resolve, hc, hv, Deferred.ofValue, invoke, this]

theorem inv_args {m : Mem} {a : Act} (c : Call) (r : Operand) (name : String) (t : TypeId) (d : D) (g : FuncId) (hg : MethOK P t name g) (ho : o.op = .call c) (hc : c.callee = .invoke r name) (hr : (X.of r).ev T = .d (.ifc t d)) (hs : Slots m a T ((X.of r).slots ++ X.slotss (c.args.toList.map X.of))) :
    ∃ vs : List Value, V.reps m (.d d :: (c.args.toList.map X.of).map (X.ev T)) vs ∧ (execOp a.eval o).run P m.w = (callFunc g vs.toArray).run P m.w := by
  have hv := X.rep' (sub_l hs) hr
  rw [V.rep_d] at hv
  unfold D.rep at hv
  obtain ⟨u, hv, hu⟩ := hv
  refine ⟨u :: c.args.toList.map a.eval, V.reps_cons.2 ⟨V.rep_d.2 hu, evs_rep _ (sub_r hs)⟩, ?_⟩
  have e1 : (u :: c.args.toList.map a.eval).toArray = #[u] ++ c.args.map a.eval := by
    apply Array.ext'; simp
  have e2 : (#[a.eval r] ++ c.args.map a.eval)[0]? = some (.iface t u) := by rw [hv, Array.getElem?_append_left (by simp)]; rfl
  have e3 : (#[a.eval r] ++ c.args.map a.eval).extract 1 (#[a.eval r] ++ c.args.map a.eval).size = c.args.map a.eval := by
    apply Array.ext'; simp [List.take_of_length_le]
  simp only [execOp, ho, Go.resolve, hc, Sem.run_bind, Sem.run_pure, Result.andThen_ok, invoke, e2, e3, callMethod, run_program, hg u m.w, e1]

theorem step_ok (h : (resolve P o).step P T H K) : ∃ x H' rd wr, K x H' rd wr ∧ StepOK P o (resolve P o).slots T H x H' rd wr := by
  unfold resolve at h ⊢
  split at h
  · rename_i x ho; simp only [A.step, need] at h; exact ⟨_, _, _, _, h, ok_mv x (.inl ho)⟩
  · rename_i x ho; simp only [A.step, need] at h; exact ⟨_, _, _, _, h, ok_mv x (.inr ho)⟩
  · rename_i c x y ho
    simp only [A.step, need] at h
    split at h
    · rename_i t hc; exact ⟨_, _, _, _, h, ok_pick c x y t ho hc⟩
    · exact h.elim
  · rename_i e ho
    split at h
    · rename_i z hz; simp only [A.step, need] at h; exact ⟨_, _, _, _, h, ok_new e z ho hz⟩
    · exact h.elim
  · rename_i e x ho
    simp only [A.step, need] at h
    split at h
    · rename_i c hc; exact ⟨_, _, _, _, h, ok_box e x c ho hc⟩
    · exact h.elim
  · rename_i t ps ho
    split at h
    · rename_i fs z hu hz
      split at h
      · rename_i pl hf
        split at h
        · rename_i l hp
          simp only [A.step, need] at h
          split at h
          · rename_i c hc
            exact ⟨_, _, _, _, h, ok_build t ps fs z pl l c ho hu hz hf hp hc⟩
          · exact h.elim
        · exact h.elim
      · exact h.elim
    · exact h.elim
  · rename_i t x ho
    split at h
    · rename_i g i hg hi
      simp only [A.step, need] at h
      split at h
      · rename_i n off hx
        split at h
        · rename_i ob hn
          obtain ⟨k1, k2⟩ := ok_load_p (P := P) (H := H) t x i g n off ob ho hg hi hx hn
          cases g
          · simp only [Bool.false_eq_true, if_false] at h; exact ⟨_, _, _, _, h.2, k2 rfl h.1⟩
          · simp only [if_true] at h; exact ⟨_, _, _, _, h.2, k1 rfl h.1⟩
        · exact h.elim
      · rename_i l off hx
        obtain ⟨k1, k2⟩ := ok_load_ia (P := P) (H := H) t x i g l off ho hg hi hx
        cases g
        · simp only [Bool.false_eq_true, if_false] at h; exact ⟨_, _, _, _, h.2, k2 rfl h.1⟩
        · simp only [if_true] at h; exact ⟨_, _, _, _, h.2, k1 rfl h.1⟩
      · exact h.elim
    · exact h.elim
  · rename_i t x y ho
    split at h
    · rename_i i hi
      simp only [A.step, need] at h
      split at h
      · rename_i n off c hx hy
        split at h
        · rename_i ob hn; exact ⟨_, _, _, _, h.2, ok_store t x y i n off ob c ho hi hx hy hn h.1.1 h.1.2⟩
        · exact h.elim
      · exact h.elim
    · exact h.elim
  · rename_i x ho
    simp only [A.step, need] at h
    split at h
    · rename_i n k hx; exact ⟨_, _, _, _, h, ok_chk x _ ho hx (.inl ⟨_, _, rfl⟩)⟩
    · rename_i n k hx; exact ⟨_, _, _, _, h, ok_chk x _ ho hx (.inr (.inl ⟨_, _, rfl⟩))⟩
    · rename_i n k hx; exact ⟨_, _, _, _, h, ok_chk x _ ho hx (.inr (.inr (.inl ⟨_, _, rfl⟩)))⟩
    · rename_i n k hx; exact ⟨_, _, _, _, h, ok_chk x _ ho hx (.inr (.inr (.inr ⟨_, _, rfl⟩)))⟩
    · exact h.elim
  · rename_i op t x y t' ho
    have hbin : (A.bin op (X.of x) (X.of y)).step P T H K → ∃ x' H' rd wr, K x' H' rd wr ∧ StepOK P o ((X.of x).slots ++ (X.of y).slots) T H x' H' rd wr := by
      intro h
      simp only [A.step, need] at h
      split at h
      · rename_i k a k' b hx hy
        obtain ⟨d, h1, h2⟩ := ok_bin (P := P) (H := H) op t t' x y k k' a b ho hx hy _ h
        exact ⟨_, _, _, _, h1, h2⟩
      · rename_i a b hx hy
        obtain ⟨d, h1, h2⟩ := ok_bins (P := P) (H := H) op t t' x y a b ho hx hy _ h
        exact ⟨_, _, _, _, h1, h2⟩
      · exact h.elim
    have hbeq : ∀ hop : op = .eql ∨ op = .neq, P.underlying t = some .bool → (A.beq (op == .neq) (X.of x) (X.of y)).step P T H K → ∃ x' H' rd wr, K x' H' rd wr ∧ StepOK P o ((X.of x).slots ++ (X.of y).slots) T H x' H' rd wr := by
      intro hop hu h
      simp only [A.step, need] at h
      split at h
      · rename_i a b hx hy
        exact ⟨_, _, _, _, h, ok_beq op t t' x y a b hop ho hu hx hy⟩
      · exact h.elim
    have hsnl : ∀ hop : op = .eql ∨ op = .neq, ∀ e l k, P.underlying t = some (.slice e) → o.op = .binOp op t x (.const (.slice none l k)) t' → (A.snl (op == .neq) (X.of x)).step P T H K → ∃ x' H' rd wr, K x' H' rd wr ∧ StepOK P o (X.of x).slots T H x' H' rd wr := by
      intro hop e l k hu ho hh
      simp only [A.step, need] at hh
      split at hh
      · rename_i hx; exact ⟨_, _, _, _, hh, by have := ok_snl (P := P) (H := H) op t t' e x l k _ true hop ho hu hx (.inl ⟨rfl, rfl⟩); cases hop <;> (rename_i hop; subst hop; exact this)⟩
      · rename_i n c hx; exact ⟨_, _, _, _, hh.2, by have := ok_snl (P := P) (H := H) op t t' e x l k _ false hop ho hu hx (.inr ⟨rfl, .inl ⟨_, _, rfl, hh.1⟩⟩); cases hop <;> (rename_i hop; subst hop; exact this)⟩
      · rename_i hx; exact ⟨_, _, _, _, hh, by have := ok_snl (P := P) (H := H) op t t' e x l k _ false hop ho hu hx (.inr ⟨rfl, .inr (.inl ⟨_, _, _, rfl⟩)⟩); cases hop <;> (rename_i hop; subst hop; exact this)⟩
      · rename_i hx; exact ⟨_, _, _, _, hh, by have := ok_snl (P := P) (H := H) op t t' e x l k _ false hop ho hu hx (.inr ⟨rfl, .inr (.inr (.inl rfl))⟩); cases hop <;> (rename_i hop; subst hop; exact this)⟩
      · rename_i hx; exact ⟨_, _, _, _, hh, by have := ok_snl (P := P) (H := H) op t t' e x l k _ false hop ho hu hx (.inr ⟨rfl, .inr (.inr (.inr ⟨_, _, _, rfl⟩))⟩); cases hop <;> (rename_i hop; subst hop; exact this)⟩
      · exact hh.elim
    have hinl : ∀ hop : op = .eql ∨ op = .neq, ∀ ms, P.underlying t = some (.interface ms) → o.op = .binOp op t x (.const .nilIface) t' → (A.inl (op == .neq) (X.of x)).step P T H K → ∃ x' H' rd wr, K x' H' rd wr ∧ StepOK P o (X.of x).slots T H x' H' rd wr := by
      intro hop ms hu ho hh
      simp only [A.step, need] at hh
      split at hh
      · rename_i hx; exact ⟨_, _, _, _, hh, by have := ok_inl (P := P) (H := H) op t t' x ms _ true hop ho hu hx (.inl ⟨rfl, rfl⟩); cases hop <;> (rename_i hop; subst hop; exact this)⟩
      · rename_i hx; exact ⟨_, _, _, _, hh, by have := ok_inl (P := P) (H := H) op t t' x ms _ false hop ho hu hx (.inr ⟨rfl, _, _, rfl⟩); cases hop <;> (rename_i hop; subst hop; exact this)⟩
      · exact hh.elim
    have hpnl : ∀ hop : op = .eql ∨ op = .neq, ∀ e, P.underlying t = some (.pointer e) → o.op = .binOp op t x (.const (.pointer none)) t' → (A.pnl (op == .neq) (X.of x)).step P T H K → ∃ x' H' rd wr, K x' H' rd wr ∧ StepOK P o (X.of x).slots T H x' H' rd wr := by
      intro hop e hu ho hh
      simp only [A.step, need] at hh
      split at hh
      · rename_i hx; exact ⟨_, _, _, _, hh, by have := ok_pnl (P := P) (H := H) op t t' e x _ true hop ho hu hx (.inl ⟨rfl, rfl⟩); cases hop <;> (rename_i hop; subst hop; exact this)⟩
      · rename_i hx; exact ⟨_, _, _, _, hh, by have := ok_pnl (P := P) (H := H) op t t' e x _ false hop ho hu hx (.inr ⟨rfl, _, _, rfl⟩); cases hop <;> (rename_i hop; subst hop; exact this)⟩
      · exact hh.elim
    have haeq : ∀ hop : op = .eql ∨ op = .neq, ∀ fs ks, P.underlying t = some (.struct fs) → P.stoodInHeld t = false → P.eqGuardType P.depth t = false → flatK P 0 fs.toList = some ks → (A.aeq (op == .neq) ks (X.of x) (X.of y)).step P T H K → ∃ x' H' rd wr, K x' H' rd wr ∧ StepOK P o ((X.of x).slots ++ (X.of y).slots) T H x' H' rd wr := by
      intro hop fs ks hu h1 h2 h3 h
      simp only [A.step, need] at h
      split at h
      · rename_i l r hx hy
        split at h
        · rename_i b he; exact ⟨_, _, _, _, h, ok_aeq op t t' x y fs ks l r b hop ho hu h1 h2 h3 hx hy he⟩
        · exact h.elim
      · exact h.elim
    have hall : ∀ hop : op = .eql ∨ op = .neq, (rEq P op t x y).step P T H K → ∃ x' H' rd wr, K x' H' rd wr ∧ StepOK P o (rEq P op t x y).slots T H x' H' rd wr := by
      intro hop h
      unfold rEq at h ⊢
      split at h
      · exact hbin h
      · exact hbin h
      · rename_i hu; exact hbeq hop hu h
      · rename_i e hu
        clear hbin hbeq haeq
        split at h
        · exact hsnl hop e _ _ hu ho h
        · exact h.elim
      · rename_i ms hu
        clear hbin hbeq haeq
        split at h
        · exact hinl hop ms hu ho h
        · exact h.elim
      · rename_i e hu
        clear hbin hbeq haeq
        split at h
        · exact hpnl hop e hu ho h
        · exact h.elim
      · rename_i fs hu
        split at h
        · rename_i ks h1 h2 h3
          exact haeq hop fs ks hu h1 h2 h3 h
        · exact h.elim
      · exact h.elim
    unfold rBin at h ⊢
    split at h
    · exact hall (.inl rfl) h
    · exact hall (.inr rfl) h
    · exact hbin h
  · rename_i op t x ho
    simp only [A.step, need] at h
    split at h
    · rename_i b hx; exact ⟨_, _, _, _, h, (ok_un _ t x _ ho rfl).1 b rfl hx⟩
    · rename_i k n hx; exact ⟨_, _, _, _, h, (ok_un _ t x _ ho rfl).2.1 k n rfl hx⟩
    · rename_i k n hx; exact ⟨_, _, _, _, h, (ok_un _ t x _ ho rfl).2.2 k n rfl hx⟩
    · exact h.elim
  · rename_i src dst x ho
    split at h
    · rename_i kk k h1 h2
      simp only [A.step, need] at h
      split at h
      · rename_i k' n hx; exact ⟨_, _, _, _, h, ok_conv src dst x k k' kk n ho h1 h2 hx⟩
      · exact h.elim
    · rename_i h1 h2
      simp only [A.step, need] at h
      split at h
      · rename_i s hx; exact ⟨_, _, _, _, h, ok_cstr src dst x s ho h1 h2 hx⟩
      · exact h.elim
    · exact h.elim
  · rename_i t x ho
    split at h
    · exact h.elim
    · exact h.elim
    · rename_i d hd h1
      simp only [A.step, need] at h
      split at h
      · rename_i y hx
        exact ⟨_, _, _, _, h, ok_ifc t x d y ho h1 (fun ms e => hd ms (by rw [e])) hx⟩
      · exact h.elim
  · rename_i fn first caps ho
    split at h
    · rename_i hf
      simp only [A.step, need] at h
      rw [if_pos hf]
      exact ⟨_, _, _, _, h, ok_mkf fn first caps ho hf⟩
    · exact h.elim
  · rename_i t n c ho
    split at h
    · rename_i e hu
      split at h
      · rename_i i hi
        split at h
        · rename_i z hz
          split at h
          · rename_i l hd
            split at h
            · rename_i hl
              simp only [A.step, need] at h
              split at h
              · rename_i k a k' b hx hy
                obtain ⟨⟨h0, rfl, h2, h3, h4⟩, h⟩ := h
                simp only [hi, hz, hd, if_pos hl]
                exact ⟨_, _, _, _, h, ok_mksl t e n c i z l k k' a ho hu hi hz hd hl hx hy h0 h2 h3 h4⟩
              · exact h.elim
            · exact h.elim
          · exact h.elim
        · exact h.elim
      · exact h.elim
    · exact h.elim
  · rename_i t x f ho
    split at h
    · rename_i fs hu
      split at h
      · rename_i g hf
        split at h
        · rename_i i hi
          split at h
          · exact h.elim
          · rename_i h0
            simp only [A.step, need] at h
            simp only [hf, hi, if_neg h0]
            obtain ⟨k1, k2⟩ := ok_fa (P := P) (H := H) (T := T) t x f fs g i ho hu hf hi h0
            split at h
            · rename_i n k hx; exact ⟨_, _, _, _, h, k1 _ _ hx⟩
            · rename_i n k hx; exact ⟨_, _, _, _, h, k2 _ _ hx⟩
            · exact h.elim
        · exact h.elim
      · exact h.elim
    · exact h.elim
  · rename_i t x f ho
    split at h
    · rename_i fs hu
      split at h
      · rename_i g hf
        split at h
        · rename_i q i hq hi
          simp only [A.step, need] at h
          obtain ⟨k1, k2⟩ := ok_fld (P := P) (H := H) (T := T) t x f fs g i q ho hu hf hq hi
          split at h
          · rename_i l hx
            cases q
            · simp only [Bool.false_eq_true, if_false] at h; exact ⟨_, _, _, _, h.2, (k1 l hx).2 rfl h.1⟩
            · simp only [if_true] at h; exact ⟨_, _, _, _, h.2, (k1 l hx).1 rfl h.1⟩
          · rename_i l hx
            cases q
            · simp only [Bool.false_eq_true, if_false] at h; exact ⟨_, _, _, _, h.2, (k2 l hx).2 rfl h.1⟩
            · simp only [if_true] at h; exact ⟨_, _, _, _, h.2, (k2 l hx).1 rfl h.1⟩
          · exact h.elim
        · exact h.elim
      · exact h.elim
    · exact h.elim
  · rename_i t x y ho
    split at h
    · rename_i e hu
      split at h
      · rename_i i hi
        simp only [A.step, need] at h
        split at h
        · rename_i n l k a hx hy
          obtain ⟨⟨h0, h1, h2⟩, h⟩ := h
          exact ⟨_, _, _, _, h, (ok_ix t e x y i k a ho hu hi hy h0).1 n l hx h1 h2⟩
        · rename_i n s' len k a hx hy
          obtain ⟨⟨h0, h1, rfl⟩, h⟩ := h
          exact ⟨_, _, _, _, h, (ok_ix t e x y i k a ho hu hi hy h0).2.1 n len hx h1⟩
        · rename_i n off len k a hx hy
          obtain ⟨⟨h0, h1⟩, h⟩ := h
          exact ⟨_, _, _, _, h, (ok_ix t e x y i k a ho hu hi hy h0).2.2 n off len hx h1⟩
        · exact h.elim
      · exact h.elim
    · rename_i n e hu
      split at h
      · rename_i i hi
        simp only [A.step, need] at h
        split at h
        · rename_i m off k a hx hy
          exact ⟨_, _, _, _, h.2, (ok_ixa t e x y n i k a ho hu hi hy h.1.1 h.1.2).1 m off hx⟩
        · rename_i l off k a hx hy
          exact ⟨_, _, _, _, h.2, (ok_ixa t e x y n i k a ho hu hi hy h.1.1 h.1.2).2 l off hx⟩
        · exact h.elim
      · exact h.elim
    · exact h.elim
  · rename_i x i ho
    simp only [A.step, need] at h
    split at h
    · rename_i l hx; exact ⟨_, _, _, _, h.2, ok_ext x i l ho hx h.1⟩
    · exact h.elim
  · rename_i t x y ho
    split at h
    · rename_i hu
      simp only [A.step, need] at h
      split at h
      · rename_i s k a hx hy
        exact ⟨_, _, _, _, h.2, ok_gstr t x y s k a ho hu hx hy h.1.1 h.1.2⟩
      · exact h.elim
    · exact h.elim
  · rename_i t x lo hi mx ho
    split at h
    · rename_i e hu
      split at h
      · rename_i i hi'
        simp only [A.step, need] at h
        obtain ⟨v, h1, h2⟩ := ok_slice (P := P) (H := H) t e x lo hi mx i ho hu hi' _ h
        exact ⟨_, _, _, _, h1, h2⟩
      · exact h.elim
    · rename_i hu
      split at h
      · rename_i hmx
        obtain rfl : mx = none := by cases mx with
          | none => rfl
          | some _ => simp at hmx
        simp only [A.step, need] at h
        split at h
        · rename_i s hx
          split at h
          · rename_i a b ha hb
            exact ⟨_, _, _, _, h.2, ok_sstr t x lo hi s a b ho hu hx ha hb h.1.1 h.1.2.1 h.1.2.2⟩
          · exact h.elim
        · exact h.elim
      · exact h.elim
    · exact h.elim
  · rename_i t n ps ho
    split at h
    · rename_i e hu
      split at h
      · rename_i i hi
        split at h
        · rename_i z hz
          split at h
          · rename_i hn0
            obtain ⟨rfl, hps⟩ := hn0
            simp only [A.step] at h
            simp only [hi, hz]
            rw [if_pos ⟨trivial, hps⟩]
            exact ⟨_, _, _, _, h, ok_bsl0 t e ps i ho hps hu hi⟩
          rename_i hn0
          split at h
          · exact h.elim
          · rename_i hn
            split at h
            · rename_i zl l hd hp
              simp only [A.step, need] at h
              split at h
              · rename_i c hc
                simp only [hi, hz, if_neg hn0, if_neg hn, hd, hp]
                exact ⟨_, _, _, _, h, ok_bsl t e n ps i z zl l c ho hu hi hz (by omega) (by omega) hd hp hc⟩
              · exact h.elim
            · exact h.elim
        · exact h.elim
      · exact h.elim
    · exact h.elim
  · rename_i c ho
    split at h
    · rename_i f hc
      simp only [A.step, need] at h
      simp only [A.slots]
      exact callS_ok h fun m a hs => call_args (S := []) c f ho hc hs
    · rename_i f _ hc
      simp only [A.step, need] at h
      split at h
      · rename_i g caps hf
        exact callS_ok h fun m a hs => callv_args c f g caps ho hc hf hs
      · exact h.elim
    · rename_i r name hc
      simp only [A.step, need] at h
      split at h
      · rename_i t d hr
        obtain ⟨g, hg, h⟩ := h
        exact callS_ok h fun m a hs => inv_args c r name t d g hg ho hc hr hs
      · exact h.elim
    · rename_i hc
      split at h
      · rename_i x h1 h2
        simp only [A.step, need] at h
        rw [Option.bind_eq_some_iff] at h1
        obtain ⟨t, ht, hd⟩ := h1
        split at h
        · rename_i s hn
          exact ⟨_, _, _, _, h, ok_lens c x t s ho hc ht hd h2 hn⟩
        · exact h.elim
      · rename_i e x h1 h2
        simp only [A.step, need] at h
        rw [Option.bind_eq_some_iff] at h1
        obtain ⟨t, ht, hd⟩ := h1
        split at h
        · rename_i n hn
          exact ⟨_, _, _, _, h, ok_len c x t e n ho hc ht hd h2 hn⟩
        · exact h.elim
      · exact h.elim
    · rename_i hc
      split at h
      · rename_i t u x y ht ha
        split at h
        · rename_i e e' hu1 hu2
          split at h
          · rename_i i hi
            split at h
            · rename_i z hz
              split at h
              · rename_i hzs
                simp only [A.step, need] at h
                simp only [hi, hz, if_pos hzs]
                split at h
                · rename_i k cs rd hy
                  split at h
                  · rename_i hx
                    split at h
                    · rename_i hk; subst hk
                      exact ⟨_, _, _, _, h.2, ok_app_none c x y t u e e' i rd _ cs ho hc ht ha hu1 hu2 hi hx (.inl rfl) hy h.1⟩
                    · rename_i hk
                      obtain ⟨⟨h1, h2, h3, h4⟩, h⟩ := h
                      exact ⟨_, _, _, _, h, ok_app_new c x y t u e e' i z k rd _ cs ho hc ht ha hu1 hu2 hi hz hzs hx (.inl rfl) hy hk h1 h2 h3 h4⟩
                  · rename_i hx
                    split at h
                    · rename_i hk; subst hk
                      exact ⟨_, _, _, _, h.2, ok_app_none c x y t u e e' i rd _ cs ho hc ht ha hu1 hu2 hi hx (.inr rfl) hy h.1⟩
                    · rename_i hk
                      obtain ⟨⟨h1, h2, h3, h4⟩, h⟩ := h
                      exact ⟨_, _, _, _, h, ok_app_new c x y t u e e' i z k rd _ cs ho hc ht ha hu1 hu2 hi hz hzs hx (.inr rfl) hy hk h1 h2 h3 h4⟩
                  · rename_i n s' q hx
                    split at h
                    · rename_i ob hn
                      obtain ⟨⟨rfl, h1, h2, h3, h4, h5, h6⟩, h⟩ := h
                      exact ⟨_, _, _, _, h, ok_app_own c x y t u e e' i z n q k rd ob cs ho hc ht ha hu1 hu2 hi hz hzs hx hn hy h1 h2 h3 h4 h5 h6⟩
                    · exact h.elim
                  · exact h.elim
                · exact h.elim
              · exact h.elim
            · exact h.elim
          · exact h.elim
        · exact h.elim
      · exact h.elim
    · rename_i hc
      split at h
      · rename_i t u x y ht ha
        split at h
        · rename_i e e' hu1 hu2
          split at h
          · rename_i i hi
            simp only [A.step, need] at h
            split at h
            · rename_i k cs rd n off q hy hx
              split at h
              · rename_i ob hn
                obtain ⟨⟨h1, h2, h3⟩, h⟩ := h
                exact ⟨_, _, _, _, h, ok_cpy c x y t u e e' i n off q k rd ob cs ho hc ht ha hu1 hu2 hi hx hn hy h1 h2 h3⟩
              · exact h.elim
            · exact h.elim
          · exact h.elim
        · exact h.elim
      · exact h.elim
    · rename_i hc
      simp only [A.step, need] at h
      split at h
      · rename_i k n hn; exact ⟨_, _, _, _, h, ok_mm true c k n ho hc hn⟩
      · exact h.elim
    · rename_i hc
      simp only [A.step, need] at h
      split at h
      · rename_i k n hn; exact ⟨_, _, _, _, h, ok_mm false c k n ho hc hn⟩
      · exact h.elim
    · exact h.elim
  · exact h.elim

end

end
end Go.Proofs.Ytakjegcjeffmgaa.Am

namespace Go.Proofs.Ytakjegcjeffmgaa.Am
section
open Go.RowKit
set_option linter.unusedVariables false
set_option linter.unusedSimpArgs false

/-- An operation in a region: its slot, its guard (a slot, what it has to hold), what comes ahead of it. -/
structure O where
  dst : Option Nat
  a : A
  g : Option (Nat × Bool)
  after : List Nat
  deriving Inhabited

/-- Code, its types resolved. -/
inductive C where
  | skip | ret | bad
  | exit (id : Nat)
  | seq (a b : C)
  | cond (c : X) (a b : C)
  | block (id : Nat) (a : C)
  | loop (a : C)
  | reg (draw : Bool) (ops : List O)
  deriving Inhabited

def afterOf (o : Oper) : List Nat := o.after.toList.filterMap fun e => if Region.binds .any e then some e.on else none
def resolveO (P : Program) (ops : Array Oper) (o : Oper) : O :=
  match o.guard with
  | none => ⟨o.dst, resolve P o, none, afterOf o⟩
  | some (j, w) => match (ops[j]?).bind (·.dst) with
    | some d => ⟨o.dst, resolve P o, some (d, w), afterOf o⟩
    | none => ⟨o.dst, .bad, none, []⟩
def resolveC (P : Program) : Code → C
  | .skip => .skip
  | .ret => .ret
  | .exit id => .exit id
  | .seq a b => .seq (resolveC P a) (resolveC P b)
  | .cond c a b => .cond (X.of c) (resolveC P a) (resolveC P b)
  | .block id a => .block id (resolveC P a)
  | .loop a => .loop (resolveC P a)
  | .region _ ops draw => .reg draw (ops.toList.map (resolveO P ops))
  | _ => .bad

/-- The walk's state fits the run's. -/
structure Sat (m : Mem) (a : Act) (T : List V) (H : List (Option Ob)) : Prop where
  base : m.base
  slots : ∀ s, (T.getD s .junk).rep m (a.tmps.getD s undef)
  obj : ∀ n ob, H.getD n none = some ob → m.obj n ob
  inj : ∀ n k b, live H n → live H k → m.ρ n = some b → m.ρ k = some b → n = k
  top : ∀ n, H.length ≤ n → m.ρ n = none
  size : a.tmps.size = T.length
  defers : a.defers = []

def putT (T : List V) (d : Option Nat) (x : V) : List V := match d with
  | some d => T.set d x
  | none => T

/-- What an operation touches: slots it reads, its slot, variables it reads and writes, what comes ahead. -/
structure E where
  srd : List Nat
  dst : Option Nat
  rd : List Nat
  wr : List Nat
  after : List Nat

def E.clash (i j : E) : Bool :=
  (match i.dst with
    | some d => j.srd.contains d || j.dst == some d
    | none => false) ||
  (match j.dst with
    | some d => i.srd.contains d
    | none => false) ||
  i.wr.any (fun n => j.rd.contains n || j.wr.contains n) || j.wr.any (fun n => i.rd.contains n)

/-- all that come ahead, at last -/
def ancs : List E → List (List Nat)
  | [] => []
  | e :: r => let t := ancs r; (e.after.flatMap fun j => j :: t.getD (r.length - 1 - j) []).eraseDups :: t

/-- (the last one first) those that clash are in order, and what comes ahead is ahead -/
def okTrace : List E → Bool
  | [] => true
  | e :: r => e.after.all (· < r.length) && ((List.range r.length).all fun k => !(E.clash (r.getD k ⟨[], none, [], [], []⟩) e) || ((ancs (e :: r)).headD []).contains (r.length - 1 - k)) && okTrace r

def gslots : Option (Nat × Bool) → List Nat
  | some (s, _) => [s]
  | none => []

/-- A region, in the order of its text. -/
def vops (P : Program) (draw : Bool) (K : List V → List (Option Ob) → Prop) : List O → List E → List V → List (Option Ob) → Prop
  | [], tr, T, H => if draw then need (okTrace tr = true) (K T H) else K T H
  | o :: os, tr, T, H => match o.g with
    | none => o.a.step P T H fun x H' rd wr => vops P draw K os (⟨o.a.slots, o.dst, rd, wr, o.after⟩ :: tr) (putT T o.dst x) H'
    | some (s, w) => match T.getD s .junk with
      | .d (.bool b) => (b = w → o.a.step P T H fun x H' rd wr => vops P draw K os (⟨s :: o.a.slots, o.dst, rd, wr, o.after⟩ :: tr) (putT T o.dst x) H') ∧
        (b ≠ w → vops P draw K os (⟨[s], o.dst, [], [], o.after⟩ :: tr) (putT T o.dst .junk) H)
      | _ => False

/-- A step of a region that is known. -/
def StepI (P : Program) (ops : Array Oper) (o : Oper) (T : List V) (H : List (Option Ob)) (x : V) (H' : List (Option Ob)) (e : E) : Prop :=
  e.dst = o.dst ∧ e.after = afterOf o ∧
  ((∃ S, (∀ s ∈ S, s ∈ e.srd) ∧ StepOK P o S T H x H' e.rd e.wr ∧
    (o.guard = none ∨ ∃ j w d, o.guard = some (j, w) ∧ (ops[j]?).bind (·.dst) = some d ∧ d ∈ e.srd ∧ T.getD d .junk = .d (.bool w))) ∨
   (x = .junk ∧ H' = H ∧ e.wr = [] ∧ ∃ j w d b, o.guard = some (j, w) ∧ (ops[j]?).bind (·.dst) = some d ∧ d ∈ e.srd ∧ T.getD d .junk = .d (.bool b) ∧ b ≠ w))

theorem vops_run {P : Program} {draw : Bool} {K : List V → List (Option Ob) → Prop} {ops : Array Oper} : ∀ (os : List Oper) (tr : List E) (T : List V) (H : List (Option Ob)), vops P draw K (os.map (resolveO P ops)) tr T H →
    ∃ (Ts : Nat → List V) (Hs : Nat → List (Option Ob)) (xs : Nat → V) (es : Nat → E), Ts 0 = T ∧ Hs 0 = H ∧ (∀ i o, os[i]? = some o → StepI P ops o (Ts i) (Hs i) (xs i) (Hs (i + 1)) (es i) ∧ Ts (i + 1) = putT (Ts i) o.dst (xs i)) ∧
      (draw = true → okTrace (((List.range os.length).map es).reverse ++ tr) = true) ∧ K (Ts os.length) (Hs os.length)
  | [], tr, T, H, h => by
    refine ⟨fun _ => T, fun _ => H, fun _ => .junk, fun _ => ⟨[], none, [], [], []⟩, rfl, rfl, by simp, fun hd => ?_, ?_⟩
    · subst hd; simpa [vops] using h.1
    · cases draw
      · simpa [vops] using h
      · exact h.2
  | o :: os, tr, T, H, h => by
    have fin : ∀ (x : V) (H1 : List (Option Ob)) (e : E), StepI P ops o T H x H1 e → vops P draw K (os.map (resolveO P ops)) (e :: tr) (putT T o.dst x) H1 →
        ∃ (Ts : Nat → List V) (Hs : Nat → List (Option Ob)) (xs : Nat → V) (es : Nat → E), Ts 0 = T ∧ Hs 0 = H ∧ (∀ i o', (o :: os)[i]? = some o' → StepI P ops o' (Ts i) (Hs i) (xs i) (Hs (i + 1)) (es i) ∧ Ts (i + 1) = putT (Ts i) o'.dst (xs i)) ∧
          (draw = true → okTrace (((List.range (o :: os).length).map es).reverse ++ tr) = true) ∧ K (Ts (o :: os).length) (Hs (o :: os).length) := by
      intro x H1 e hst hv
      obtain ⟨Ts, Hs, xs, es, h1, h2, h3, h4, h5⟩ := vops_run os _ _ _ hv
      refine ⟨fun i => match i with | 0 => T | i + 1 => Ts i, fun i => match i with | 0 => H | i + 1 => Hs i, fun i => match i with | 0 => x | i + 1 => xs i, fun i => match i with | 0 => e | i + 1 => es i, rfl, rfl, ?_, ?_, h5⟩
      · intro i o' ho
        cases i with
        | zero => simp at ho; subst ho; exact ⟨by simpa [h2] using hst, by simpa using h1⟩
        | succ i => exact h3 i o' (by simpa using ho)
      · intro hd
        have := h4 hd
        rw [List.length_cons, List.range_succ_eq_map, List.map_cons, List.reverse_cons, List.map_map]
        simpa [List.append_assoc, Function.comp_def] using this
    simp only [List.map_cons, vops] at h
    cases hg : o.guard with
    | none =>
      simp only [resolveO, hg] at h
      obtain ⟨x, H1, rd, wr, h1, h2⟩ := step_ok h
      exact fin x H1 _ ⟨rfl, rfl, .inl ⟨_, fun s hs => hs, h2, .inl hg⟩⟩ h1
    | some jw =>
      obtain ⟨j, w⟩ := jw
      cases hd : (ops[j]?).bind (·.dst) with
      | none => simp [resolveO, hg, hd, A.step] at h
      | some d =>
        simp only [resolveO, hg, hd] at h
        split at h
        · rename_i b hb
          by_cases hbw : b = w
          · subst hbw
            obtain ⟨x, H1, rd, wr, h1, h2⟩ := step_ok (h.1 rfl)
            exact fin x H1 _ ⟨rfl, rfl, .inl ⟨_, fun s hs => by simp [hs], h2, .inr ⟨j, _, d, hg, hd, by simp, hb⟩⟩⟩ h1
          · exact fin .junk H _ ⟨rfl, rfl, .inr ⟨rfl, rfl, rfl, j, w, d, b, hg, hd, by simp, hb, hbw⟩⟩ (h.2 hbw)
        · exact h.elim


end
end Go.Proofs.Ytakjegcjeffmgaa.Am
