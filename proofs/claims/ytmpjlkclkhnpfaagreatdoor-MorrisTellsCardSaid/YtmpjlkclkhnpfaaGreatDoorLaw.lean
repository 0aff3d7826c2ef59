/- Parts of the proof: DecM, Chain1, Yu1, YuX, YuW, YuAt, YuAt2, Yu2, Float2, Yu3, Chain2, Chain3, Chain4, Chain5, Chain6, ChainP, Chain7, Chain8, ChainA, ChainM, ChainB, ChainC, ChainD, ChainE, Chain9, ChainF, ThinM, Thin1, Thin2, Thin3, Reg1, BitsM, Bits1, Bits2, Bits3, Reg2, Reg3, Reg4, PackM, Pack1, Pack2, Carr1, Carr2, Carr3, Carr6, AmUn, Cms1, Dec1, Dec2, Dec3, Dec4, Dec5, HashM, Dec6, RtA, RtB, DecT, RtC, FlatM, Float3, Rise1, Val1, MorM, Mor1, DecP, AmLaw, AmTT, TabL, PmfM, PmfN, Pmf1, Pmf4, Pmf2, Pmf3, Pmf5, Pmf6, Pmf7, Pmf8, PmfG, Pmf9, PmfA, PmfB, PmfK, PmfC, PmfI, PmfJ, Mor3, Mor4, Mor5, MtL. -/
import Derived.Test.YtmpjlkclkhnpfaaGreatDoorPd
set_option linter.unusedVariables false
set_option linter.unusedSimpArgs false
set_option maxRecDepth 100000
namespace Go.Proofs.YtmpjlkclkhnpfaaGreatDoor.Am
section
def dval : List Nat → Nat
 | [] => 0
 | x :: l => x + 10000 * dval l
def dsmall (ws : List Nat) : Prop := ∀ x ∈ ws, x < 10000

theorem o_lj : ∀ (a b : List Nat), dval (a ++ b) = dval a + 10000 ^ a.length * dval b := by
 intro a
 induction a with
 | nil => intro b; simp [dval]
 | cons x a ih => intro b; simp only [List.cons_append, dval, List.length_cons]; rw [ih, Nat.pow_succ, Nat.mul_add, ← Nat.mul_assoc, Nat.mul_comm 10000 (10000 ^ a.length)]; omega
theorem o_lk : ∀ n, dval (List.replicate n 0) = 0 := by
 intro n
 induction n with
 | zero => rfl
 | succ n ih => rw [List.replicate_succ, dval, ih]
theorem o_ll : ∀ {ws : List Nat}, dsmall ws → dval ws < 10000 ^ ws.length := by
 intro ws
 induction ws with
 | nil => intro _; simp [dval]
 | cons x l ih =>
  intro h
  have h1 := h x (by simp)
  have h2 := ih (fun y hy => h y (by simp [hy]))
  rw [dval, List.length_cons, Nat.pow_succ]
  omega

theorem o_lm (ws : List Nat) : ∀ n, n ≤ ws.length → dval (ws.take (trimN ws n)) = dval (ws.take n) := by
 intro n
 induction n with
 | zero => intro _; rfl
 | succ n ih =>
  intro h
  unfold trimN
  split
  ·rename_i h0
   rw [ih (by omega), o_do _ _ (by omega), o_lj, h0]
   simp [dval]
  ·rfl
theorem dsmall.take {ws : List Nat} (h : dsmall ws) (n : Nat) : dsmall (ws.take n) := fun x hx => h x (List.mem_of_mem_take hx)

theorem o_ln {ws : List Nat} (h : dsmall ws) (ht : top1 ws) (h0 : dval ws = 0) : ws = [] := by
 rcases ws.eq_nil_or_concat with rfl | ⟨l, x, rfl⟩
 ·rfl
 ·exfalso
  have := ht l.length (by simp)
  simp at this
  simp [o_lj, dval] at h0
  rcases Nat.mul_eq_zero.1 h0.2 with h | h
  ·exact absurd h (Nat.pos_iff_ne_zero.1 (Nat.pow_pos (by decide)))
  ·exact this h

theorem o_lo : ∀ {a b : List Nat}, dsmall a → dsmall b → top1 a → top1 b → dval a = dval b → a = b := by
 intro a
 induction a with
 | nil => intro b _ hb _ tb h; exact (o_ln hb tb h.symm).symm
 | cons x a ih =>
  intro b ha hb ta tb h
  cases b with
  | nil => exact absurd (o_ln ha ta h) (by simp)
  | cons y b =>
   have h1 := ha x (by simp)
   have h2 := hb y (by simp)
   simp only [dval] at h
   have e : x = y := by omega
   subst e
   have e2 : dval a = dval b := by omega
   have e3 : a = b := ih (fun z hz => ha z (by simp [hz])) (fun z hz => hb z (by simp [hz])) (fun k hk => by have := ta (k + 1) (by simp [hk]); simpa using this) (fun k hk => by have := tb (k + 1) (by simp [hk]); simpa using this) e2
   rw [e3]

theorem o_lp : ∀ {ws : List Nat} {m : Nat}, top1 ws → dval ws < 10000 ^ m → ws.length ≤ m := by
 intro ws
 induction ws with
 | nil => intro m _ _; exact Nat.zero_le _
 | cons x l ih =>
  intro m ht h
  cases m with
  | zero =>
   exfalso
   rw [Nat.pow_zero] at h
   rw [dval] at h
   cases l with
   | nil =>
    have := ht 0 rfl
    simp [dval] at this h
    omega
   | cons y l =>
    have hw : dval (y :: l) = 0 := by omega
    have : (y :: l).length ≤ 0 := ih (m := 0) (fun k hk => by have := ht (k + 1) (by simp [hk]); simpa using this) (by rw [hw]; decide)
    simp at this
  | succ m =>
   rw [List.length_cons]
   have : l.length ≤ m := by
    cases l with
    | nil => exact Nat.zero_le _
    | cons y l =>
     refine ih (fun k hk => by have := ht (k + 1) (by simp [hk]); simpa using this) ?_
     rw [dval, Nat.pow_succ] at h
     omega
   omega

theorem o_lq (f : Nat → Nat) (n : Nat) : dval ((List.range (n + 1)).map f) = dval ((List.range n).map f) + 10000 ^ n * f n := by
 rw [List.range_succ, List.map_append, o_lj]
 simp [dval]
theorem o_lr (l : List Nat) (n : Nat) : dval (l.take (n + 1)) = dval (l.take n) + 10000 ^ n * l.getD n 0 := by
 by_cases h : n < l.length
 ·rw [o_do _ _ h, o_lj, List.length_take, Nat.min_eq_left (Nat.le_of_lt h)]
  simp [dval]
 ·rw [List.take_of_length_le (by omega), List.take_of_length_le (by omega)]
  simp [List.getD, List.getElem?_eq_none (show l.length ≤ n by omega)]

def carryD (a b : List Nat) : Nat → Nat
 | 0 => 0
 | n + 1 => (a.getD n 0 + b.getD n 0 + carryD a b n) / 10000
def addD (a b : List Nat) (n : Nat) : Nat := (a.getD n 0 + b.getD n 0 + carryD a b n) % 10000

theorem dsmall.getD {l : List Nat} (h : dsmall l) (n : Nat) : l.getD n 0 < 10000 := by
 by_cases hn : n < l.length
 ·rw [List.getD, List.getElem?_eq_getElem hn]; exact h _ (List.getElem_mem hn)
 ·simp [List.getD, List.getElem?_eq_none (show l.length ≤ n by omega)]
theorem o_ls {a b : List Nat} (ha : dsmall a) (hb : dsmall b) : ∀ n, carryD a b n ≤ 1 := by
 intro n
 induction n with
 | zero => exact Nat.zero_le _
 | succ n ih =>
  have h1 := ha.getD n
  have h2 := hb.getD n
  simp only [carryD]
  omega
theorem o_lt (a b : List Nat) : ∀ n, dval ((List.range n).map (addD a b)) + 10000 ^ n * carryD a b n = dval (a.take n) + dval (b.take n) := by
 intro n
 induction n with
 | zero => simp [dval, carryD]
 | succ n ih =>
  rw [o_lq, o_lr, o_lr]
  have := Nat.div_add_mod (a.getD n 0 + b.getD n 0 + carryD a b n) 10000
  simp only [addD, carryD]
  rw [Nat.pow_succ]
  generalize 10000 ^ n = P at *
  generalize (a.getD n 0 + b.getD n 0 + carryD a b n) / 10000 = q at *
  generalize (a.getD n 0 + b.getD n 0 + carryD a b n) % 10000 = r at *
  have e : P * (10000 * q + r) = P * a.getD n 0 + P * b.getD n 0 + P * carryD a b n := by rw [this]; simp [Nat.mul_add]
  rw [Nat.mul_add, ← Nat.mul_assoc] at e
  omega

def borrowD (a b : List Nat) : Nat → Nat
 | 0 => 0
 | n + 1 => if a.getD n 0 < b.getD n 0 + borrowD a b n then 1 else 0
def subD (a b : List Nat) (n : Nat) : Nat := (a.getD n 0 + 10000 - b.getD n 0 - borrowD a b n) % 10000
theorem o_lu (a b : List Nat) : ∀ n, borrowD a b n ≤ 1 := by
 intro n
 cases n with
 | zero => exact Nat.zero_le _
 | succ n => simp only [borrowD]; split <;> omega
theorem o_lv {a b : List Nat} (ha : dsmall a) (hb : dsmall b) : ∀ n, dval ((List.range n).map (subD a b)) + dval (b.take n) = dval (a.take n) + 10000 ^ n * borrowD a b n := by
 intro n
 induction n with
 | zero => simp [dval, borrowD]
 | succ n ih =>
  rw [o_lq, o_lr, o_lr]
  have h1 := ha.getD n
  have h2 := hb.getD n
  have h3 := o_lu a b n
  have e : subD a b n + b.getD n 0 + borrowD a b n = a.getD n 0 + 10000 * borrowD a b (n + 1) := by
   simp only [subD, borrowD]
   split <;> omega
  rw [Nat.pow_succ, Nat.mul_assoc]
  generalize 10000 ^ n = P at *
  have e2 : P * subD a b n + P * b.getD n 0 + P * borrowD a b n = P * a.getD n 0 + P * (10000 * borrowD a b (n + 1)) := by rw [← Nat.mul_add, ← Nat.mul_add, e, Nat.mul_add]
  omega
theorem o_lw {f : Nat → Nat} (h : ∀ i, f i < 10000) (n : Nat) : dsmall ((List.range n).map f) := by
 intro x hx
 obtain ⟨i, _, rfl⟩ := List.mem_map.1 hx
 exact h i
theorem o_lx (a b : List Nat) (i : Nat) : addD a b i < 10000 := Nat.mod_lt _ (by decide)
theorem o_ly (a b : List Nat) (i : Nat) : subD a b i < 10000 := Nat.mod_lt _ (by decide)

theorem o_lz {a b : List Nat} (ha : dsmall a) (hb : top1 b) (h : a.length < b.length) : dval a < dval b := by
 refine Nat.lt_of_lt_of_le (o_ll ha) ?_
 apply Nat.le_of_not_lt
 intro hlt
 have := o_lp hb hlt
 omega
theorem o_m0 {l : List Nat} (h : dsmall l) (n : Nat) : dval (l.take n) < 10000 ^ n := by
 have := o_ll (h.take n)
 rw [List.length_take] at this
 exact Nat.lt_of_lt_of_le this (Nat.pow_le_pow_right (by decide) (Nat.min_le_left _ _))
theorem o_m1 {a b : List Nat} (ha : dsmall a) (hb : dsmall b) : ∀ n, cmpN a b n = if dval (a.take n) < dval (b.take n) then -1 else if dval (b.take n) < dval (a.take n) then 1 else 0 := by
 intro n
 induction n with
 | zero => simp [cmpN, dval]
 | succ n ih =>
  rw [o_lr, o_lr]
  have h1 := o_m0 ha n
  have h2 := o_m0 hb n
  simp only [cmpN]
  generalize 10000 ^ n = P at *
  generalize a.getD n 0 = x at *
  generalize b.getD n 0 = y at *
  by_cases hxy : x < y
  ·rw [if_pos hxy, if_pos]
   have : P * (x + 1) ≤ P * y := Nat.mul_le_mul_left _ hxy
   rw [Nat.mul_add] at this
   omega
  ·rw [if_neg hxy]
   by_cases hyx : y < x
   ·have : P * (y + 1) ≤ P * x := Nat.mul_le_mul_left _ hyx
    rw [Nat.mul_add] at this
    rw [if_pos hyx, if_neg (by omega), if_pos (by omega)]
   ·obtain rfl : x = y := by omega
    rw [if_neg hyx, ih]
    simp only [Nat.add_lt_add_iff_right]

def decsF : Nat → Nat → List Nat
 | 0, _ => []
 | f + 1, n => if n = 0 then [] else (n % 10000) :: decsF f (n / 10000)
def decs (n : Nat) : List Nat := decsF n n

theorem o_m2 : ∀ (f n : Nat), n ≤ f → dval (decsF f n) = n ∧ dsmall (decsF f n) ∧ top1 (decsF f n)
 | 0, n, h => by
  obtain rfl : n = 0 := by omega
  exact ⟨rfl, by simp [dsmall, decsF], by intro k hk; simp [decsF] at hk⟩
 | f + 1, n, h => by
  by_cases h0 : n = 0
  ·subst h0
   simp only [decsF, if_true]
   exact ⟨rfl, by simp [dsmall], by intro k hk; simp at hk⟩
  ·obtain ⟨h1, h2, h3⟩ := o_m2 f (n / 10000) (by omega)
   simp only [decsF, if_neg h0]
   refine ⟨by simp only [dval, h1]; omega, fun x hx => ?_, fun k hk => ?_⟩
   ·rcases List.mem_cons.1 hx with rfl | hx
    ·omega
    ·exact h2 x hx
   ·cases hl : decsF f (n / 10000) with
    | nil =>
     rw [hl] at h1 hk
     simp [dval] at h1 hk
     subst hk
     simp; omega
    | cons y r =>
     rw [hl] at hk h3
     simp at hk
     subst hk
     have := h3 r.length rfl
     simpa using this
theorem o_m3 (n : Nat) : dval (decs n) = n := (o_m2 n n (Nat.le_refl _)).1
theorem o_m4 (n : Nat) : dsmall (decs n) := (o_m2 n n (Nat.le_refl _)).2.1
theorem o_m5 (n : Nat) : top1 (decs n) := (o_m2 n n (Nat.le_refl _)).2.2
theorem o_m6 {ws : List Nat} (h : dsmall ws) (ht : top1 ws) : decs (dval ws) = ws := o_lo (o_m4 _) h (o_m5 _) ht (o_m3 _)
theorem o_m7 {n : Nat} : decs n = [] ↔ n = 0 := by
 constructor
 ·intro h; have := o_m3 n; rw [h] at this; exact this.symm
 ·rintro rfl; rfl


def sizeD (n : Nat) : Nat := (decs n).length
end
end Go.Proofs.YtmpjlkclkhnpfaaGreatDoor.Am
namespace Go.Proofs.YtmpjlkclkhnpfaaGreatDoor.Am
section
open Go.RowKit
def kindD (k a : Int) : D := if k = 1 then .ifc 223 (.int .i64 a) else if k = 2 then .ifc 224 (.int .i64 a) else if k = 3 then .ifc 225 (.int .i64 a) else .nilifc
end
end Go.Proofs.YtmpjlkclkhnpfaaGreatDoor.Am
namespace Go.Proofs.YtmpjlkclkhnpfaaGreatDoor.Am
section
open Go.RowKit
def plD (p : Pl) : D := .agg [.int .i64 p.x, .int .i64 p.shift, natW p.value, natW p.reply]
end
end Go.Proofs.YtmpjlkclkhnpfaaGreatDoor.Am
namespace Go.Proofs.YtmpjlkclkhnpfaaGreatDoor.Am
section
open Go.RowKit
structure WalkS where
 r0 : C
 r1 : C
 g : C
 os : List O
 call : Option (Nat × List Nat × Option Nat)
 o4 : O
 cy : X
 r5 : C
 r6 : C
 ids : Nat × Nat
 calm : Bool
 res : Nat
 nt : Nat
def callS (o : Oper) : Option (Nat × List Nat × Option Nat) := match o.op, o.guard with
 | .call c, none => match c.callee, c.args.toList with
  | .value (.tmp f), [.tmp x, .tmp y] => some (f, [x, y], o.dst)
  | _, _ => none
 | _, _ => none
def walkS (P : Program) (f : FuncId) : Option WalkS := match P.funcs[f]? with
 | some fn => match fn.body with
  | some (.seq r0 (.seq r1 (.block i0 (.loop (.seq g (.seq (.block i1 (.seq (.seq (.region _ ops false) (.cond cy .ret .skip)) r5)) r6)))))) => match ops.toList with
   | [o0, o1, o2, o3, o4] => some ⟨resolveC P r0, resolveC P r1, resolveC P g, [o0, o1, o2].map (resolveO P ops), callS o3, resolveO P ops o4, X.of cy, resolveC P r5, resolveC P r6, (i0, i1), [o0, o1, o2].all notDefer && [o4].all notDefer, fn.results.size, fn.ntmps⟩
   | _ => none
  | _ => none
 | none => none
structure AtS where
 a1 : C
 a2 : C
 a3 : C
 a4 : C
 g : X
 ps : List Nat
 asg : C
 bd : C
 a5 : List O
 id : Nat
 calm : Bool
 rs : List RV
 nt : Nat
def atS (P : Program) (f : FuncId) : Option AtS := match P.funcs[f]? with
 | some fn => match fn.body with
  | some (.seq a1 (.seq a2 (.seq a3 (.seq (.seq a4 (.block id (.rangeFunc g ps asg bd))) (.seq (.region _ ops false) .ret))))) =>
   some ⟨resolveC P a1, resolveC P a2, resolveC P a3, resolveC P a4, X.of g, ps.toList, resolveC P asg, resolveC P bd, ops.toList.map (resolveO P ops), id, Code.calm asg && (Code.calm bd && ops.toList.all notDefer), fn.results.toList.map (resolveR P), fn.ntmps⟩
  | _ => none
 | none => none
def C.l : C → C
 | .seq a _ => a
 | c => c
def C.r : C → C
 | .seq _ b => b
 | c => c
def C.b : C → C
 | .block _ a | .loop a => a
 | c => c
def C.os : C → List O
 | .reg _ l => l
 | _ => []
def cAsg : C := .seq (.reg false [⟨some 7, .mv (.t 24), none, []⟩]) (.reg false [⟨some 8, .new 331 [.int .i64 0, .int .i64 0, .nilsl, .nilsl], none, []⟩, ⟨none, .store 4 (.t 8) (.t 25), none, [0, 0]⟩])
def cBd : C := .block 2 (.seq (.reg false [⟨some 26, .load true 4 (.t 8), none, []⟩, ⟨none, .store 4 (.t 6) (.t 26), none, [0, 0]⟩])
 (.seq (.reg false [⟨some 27, .mv (.t 7), none, []⟩, ⟨some 28, .load false 1 (.t 3), none, []⟩, ⟨some 29, .bin .eql (.t 27) (.t 28), none, [0, 1]⟩]) (.cond (.t 29) (.exit 1) .skip)))
abbrev cWb : C := o_dg.r.r.b.b
abbrev kO (K : Nat) : Ob := ⟨3, [.d (.int .i64 K)]⟩
abbrev plO (c : List V) : Ob := ⟨331, c⟩

def Tr (i : Nat) (p : List D) : List V := [.junk, .junk, .junk, .p 0 0, .junk, .junk, .p 2 0] ++ List.replicate 17 .junk ++ [.d (.int .i64 i), .d (.agg p)] ++ List.replicate 5 .junk

def RoundR (K i : Nat) (p : List D) (m : Mem) (l : Nat) (rec : LoopState → Option Code → Loop) (e : Ending) (w' : World) : Prop :=
 ∃ m' : Mem, m'.w = w' ∧ m'.base ∧ m'.obj 0 (kO K) ∧ m'.obj 2 (plO (p.map .d)) ∧
  if i = K then e = .returned (.bool false) ∧ (m.at (m.w.putObj l (.loop (rec .done (some (.exit 1)))))).le m' (· < 3) else e = .returned (.bool true) ∧ m.le m' (· < 3)
end
end Go.Proofs.YtmpjlkclkhnpfaaGreatDoor.Am
namespace Go.Proofs.YtmpjlkclkhnpfaaGreatDoor.Am
section
open Go.RowKit
theorem Sat.put {m : Mem} {a : Act} {T : List V} {H : List (Option Ob)} (sat : Sat m a T H) (s : Nat) {x : V} {v : Value} (hv : x.rep m v) : Sat m (a.put (some s) v) (T.set s x) H := by
 refine ⟨sat.base, fun i => ?_, sat.obj, sat.inj, sat.top, by rw [o_42]; simpa using sat.size, by rw [o_43]; exact sat.defers⟩
 have h1 : T.set s x = putT T (some s) x := rfl
 rw [h1, o_44, o_41, sat.size]
 split
 ·exact hv
 ·exact sat.slots i

abbrev sO (s : Nat) : Ob := ⟨3, [.d (.int .i64 s)]⟩
def plC (p : Pl) : List D := [.int .i64 p.x, .int .i64 p.shift, natW p.value, natW p.reply]
abbrev fnY (l : Nat) : V := .fn (.yield l) []
def Tw0 (l : Nat) : List V := [fnY l, .p 3 0, .junk, .p 5 0] ++ List.replicate 19 .junk
def Tw (l i : Nat) : List V := [fnY l, .p 3 0, .junk, .p 5 0, .d (.int .i64 i)] ++ List.replicate 18 .junk
def Hw (K s i : Nat) (c : List V) : List (Option Ob) := [some (kO K), none, some (plO c), some (sO s), none, some (plO ((plC (placeY s i)).map .d))]
end
end Go.Proofs.YtmpjlkclkhnpfaaGreatDoor.Am
namespace Go.Proofs.YtmpjlkclkhnpfaaGreatDoor.Am
section
open Go.RowKit
def zD : List D := [.int .i64 0, .int .i64 0, .nilsl, .nilsl]
def SS : Nat → Bool := fun n => n == 0 || n == 2
end
end Go.Proofs.YtmpjlkclkhnpfaaGreatDoor.Am
namespace Go.Proofs.YtmpjlkclkhnpfaaGreatDoor.Am
section
open Go.RowKit
def atE (s k : Int) : Int := if 1 ≤ s ∧ s ≤ 5 then (if 0 ≤ k ∧ k ≤ 1023 then 0 else 2) else 10
def atP (s k : Int) : Pl := if atE s k = 0 then placeY s.toNat k.toNat else ⟨0, 0, 0, 0⟩

def Ta (s k : Nat) (x23 : V) : List V := [.d (.int .i64 s), .d (.int .i64 k), .junk, .p 0 0, .p 1 0, .d (.int .i64 0), .p 2 0] ++ List.replicate 16 .junk ++ [x23] ++ List.replicate 7 .junk
def Ta0 (s k : Nat) : List V := [.d (.int .i64 s), .d (.int .i64 k), .junk, .p 0 0, .p 1 0, .d (.int .i64 0)] ++ List.replicate 25 .junk
abbrev zO : Ob := plO (zD.map V.d)

def SC : Nat → Bool := fun n => n == 0 || n == 2 || n == 3

theorem Sub1.aggd {l r : List D} (h : Subs (l.map V.d) (r.map V.d)) : Sub1 (.d (.agg l)) (.d (.agg r)) := fun m v k => by
 rw [V.rep_d] at k ⊢
 unfold D.rep at k ⊢
 obtain ⟨vs, h1, h2, h3⟩ := k
 exact ⟨vs, h1, h2, V.reps_map_d.1 (h m vs (V.reps_map_d.2 h3))⟩
end
end Go.Proofs.YtmpjlkclkhnpfaaGreatDoor.Am
namespace Go.Proofs.YtmpjlkclkhnpfaaGreatDoor.Am
section
open Go.RowKit
end
end Go.Proofs.YtmpjlkclkhnpfaaGreatDoor.Am
namespace Go.Proofs.YtmpjlkclkhnpfaaGreatDoor.Am
section
open Go.RowKit
def p2 (n : Nat) : Nat := 2 ^ n
def halfO (cs : List Bool) : Nat → Nat → Bool × Nat × Int
 | 0, i => (true, i, 0)
 | r + 1, i => if i < cs.length then (if cs.getD i false then halfO cs r (i + 1) else (false, i + 1, 0)) else (false, i, 8)
end
end Go.Proofs.YtmpjlkclkhnpfaaGreatDoor.Am
namespace Go.Proofs.YtmpjlkclkhnpfaaGreatDoor.Am
section
open Go.RowKit
def stepY (cs : List Bool) (s k : Int) : Bool × Int × Nat × Bool := if atE s k = 0 then halfR cs (atP s k).shift 0 false else (false, atE s k, 0, false)
def againE (s k j : Int) : Int := if atE s k = 0 then atE s j else atE s k
def againY (cs : List Bool) (s k j : Int) : Bool × Int × Nat × Bool := if againE s k j = 0 then halfR cs ((atP s k).shift - (atP s j).shift) 0 false else (false, againE s k j, 0, false)
end
end Go.Proofs.YtmpjlkclkhnpfaaGreatDoor.Am
namespace Go.Proofs.YtmpjlkclkhnpfaaGreatDoor.Am
section
open Go.RowKit
end
end Go.Proofs.YtmpjlkclkhnpfaaGreatDoor.Am
namespace Go.Proofs.YtmpjlkclkhnpfaaGreatDoor.Am
section
open Go.RowKit
def parD (k a w : Int) : D := .agg [.int .i64 k, .int .i64 a, .int .i64 w]
end
end Go.Proofs.YtmpjlkclkhnpfaaGreatDoor.Am
namespace Go.Proofs.YtmpjlkclkhnpfaaGreatDoor.Am
section
open Go.RowKit
end
end Go.Proofs.YtmpjlkclkhnpfaaGreatDoor.Am
namespace Go.Proofs.YtmpjlkclkhnpfaaGreatDoor.Am
section
open Go.RowKit
end
end Go.Proofs.YtmpjlkclkhnpfaaGreatDoor.Am
namespace Go.Proofs.YtmpjlkclkhnpfaaGreatDoor.Am
section
open Go.RowKit
def stepG (cs : List Bool) (d k : Int) (p : Nat) (dd : Bool) : Bool × Int × Nat × Bool := if wrongZ d [k] = 0 then halfR cs (k.toNat / 2 ^ d.toNat) p dd else (false, wrongZ d [k], p, dd)

def stepYG (cs : List Bool) (s k : Int) (q : Nat) (dd : Bool) : Bool × Int × Nat × Bool := if atE s k = 0 then halfR cs (atP s k).shift q dd else (false, atE s k, q, dd)
end
end Go.Proofs.YtmpjlkclkhnpfaaGreatDoor.Am
namespace Go.Proofs.YtmpjlkclkhnpfaaGreatDoor.Am
section
abbrev StepT := Nat → Nat → Bool → Bool × Int × Nat × Bool
def addL (st : StepT) (top : Nat) : Nat → Nat → Bool → Nat → Bool → Int × Nat × Bool × Nat × Bool
 | 0, x, f, p, d => (0, x, f, p, d)
 | n + 1, x, f, p, d =>
  if x = top then (0, x, true, p, d)
  else if (st x p d).2.1 = 0 then
   if f = true ∧ (if (st x p d).1 then x + 1 else x) = top then (0, top, f, (st x p d).2.2.1, (st x p d).2.2.2)
   else addL st top n (if (st x p d).1 then x + 1 else x) f (st x p d).2.2.1 (st x p d).2.2.2
  else ((st x p d).2.1, x, f, (st x p d).2.2.1, (st x p d).2.2.2)
end
end Go.Proofs.YtmpjlkclkhnpfaaGreatDoor.Am
namespace Go.Proofs.YtmpjlkclkhnpfaaGreatDoor.Am
section
open Go.RowKit
structure StepOf (cs : List Bool) (ti : TypeId) (d : D) (g : FuncId) (st : StepT) : Prop where
 meth : MethOK Tryz.prog ti "tallymark/chain.step" g
 run : ∀ (x p : Nat) (dd : Bool), p ≤ cs.length → Eqn Tryz.prog g [.d d, .p 0 0, .d (.int .i64 x)] [tapeO cs p dd] (.tup [.d (.bool (st x p dd).1), .d (.int .i64 (st x p dd).2.1)]) [tapeO cs (st x p dd).2.2.1 (st x p dd).2.2.2]
 le : ∀ (x p : Nat) (dd : Bool), p ≤ cs.length → (st x p dd).2.2.1 ≤ cs.length
end
end Go.Proofs.YtmpjlkclkhnpfaaGreatDoor.Am
namespace Go.Proofs.YtmpjlkclkhnpfaaGreatDoor.Am
section
open Go.RowKit
def stOf (cs : List Bool) (k a : Int) : StepT := fun x p dd => if k = 1 then stepM cs a x p dd else if k = 2 then stepG cs a x p dd else stepYG cs a x p dd
def GoodS (k a w : Nat) : Prop := (k = 1 ∧ 1 ≤ a ∧ a ≤ 4 ∨ k = 2 ∧ a ≤ 1 ∨ k = 3 ∧ 1 ≤ a ∧ a ≤ 2) ∧ 1 ≤ w ∧ w ≤ 4
end
end Go.Proofs.YtmpjlkclkhnpfaaGreatDoor.Am
namespace Go.Proofs.YtmpjlkclkhnpfaaGreatDoor.Am
section
open Go.RowKit
abbrev AgT := Nat → Nat → Nat → Bool → Bool × Int × Nat × Bool
def agOf (cs : List Bool) (k a : Nat) : AgT := fun x r p dd => if k = 1 then powerR cs a (a + 1) (x - r) p dd else if k = 2 then halfR cs (x / 2 ^ a - r / 2 ^ a) p dd else halfR cs ((placeY a x).shift - (placeY a r).shift) p dd

structure AgainOf (cs : List Bool) (ti : TypeId) (d : D) (g : FuncId) (ag : AgT) : Prop where
 meth : MethOK Tryz.prog ti "tallymark/chain.again" g
 run : ∀ (x r p : Nat) (dd : Bool), x ≤ 1023 → r ≤ 1023 → p ≤ cs.length → Eqn Tryz.prog g [.d d, .p 0 0, .d (.int .i64 x), .d (.int .i64 r)] [tapeO cs p dd] (.tup [.d (.bool (ag x r p dd).1), .d (.int .i64 (ag x r p dd).2.1)]) [tapeO cs (ag x r p dd).2.2.1 (ag x r p dd).2.2.2]
 le : ∀ (x r p : Nat) (dd : Bool), p ≤ cs.length → (ag x r p dd).2.2.1 ≤ cs.length
end
end Go.Proofs.YtmpjlkclkhnpfaaGreatDoor.Am
namespace Go.Proofs.YtmpjlkclkhnpfaaGreatDoor.Am
section
open Go.RowKit
def mergeL (ag : AgT) (top : Nat) : Nat → Nat → Nat → Bool → Nat → Bool → Int × Nat × Bool × Nat × Bool
 | 0, _, x, f, p, d => (0, x, f, p, d)
 | n + 1, r, x, f, p, d =>
  if x = top then mergeL ag top n (r + 1) x true p d
  else if (ag x r p d).2.1 = 0 then mergeL ag top n (r + 1) (if (ag x r p d).1 then x + 1 else x) f (ag x r p d).2.2.1 (ag x r p d).2.2.2
  else ((ag x r p d).2.1, x, f, (ag x r p d).2.2.1, (ag x r p d).2.2.2)
end
end Go.Proofs.YtmpjlkclkhnpfaaGreatDoor.Am
namespace Go.Proofs.YtmpjlkclkhnpfaaGreatDoor.Am
section
open Go.RowKit
def outD (p : Nat) (R : Bool × Int × Nat × Bool) : D := .agg [.bool R.1, .int .i64 (R.2.2.1 - p : Nat), .int .i64 R.2.1]
end
end Go.Proofs.YtmpjlkclkhnpfaaGreatDoor.Am
namespace Go.Proofs.YtmpjlkclkhnpfaaGreatDoor.Am
section
open Go.RowKit
end
end Go.Proofs.YtmpjlkclkhnpfaaGreatDoor.Am
namespace Go.Proofs.YtmpjlkclkhnpfaaGreatDoor.Am
section
open Go.RowKit
structure Live (p : Nat) (R : Bool × Int × Nat × Bool) : Prop where
 err : R.2.1 = 0 ∨ R.2.1 = 8
 dead : R.2.2.2 = true ↔ R.2.1 ≠ 0
 no : R.2.1 ≠ 0 → R.1 = false
 le : p ≤ R.2.2.1

theorem Live.mono {p q : Nat} {R : Bool × Int × Nat × Bool} (h : Live q R) (hq : p ≤ q) : Live p R := ⟨h.err, h.dead, h.no, Nat.le_trans hq h.le⟩
theorem Live.ok {p : Nat} {R : Bool × Int × Nat × Bool} (h : Live p R) (h1 : R.2.1 = 0) : R.2.2.2 = false := by
 cases hd : R.2.2.2 with
 | false => rfl
 | true => exact absurd h1 (h.dead.1 hd)
end
end Go.Proofs.YtmpjlkclkhnpfaaGreatDoor.Am
namespace Go.Proofs.YtmpjlkclkhnpfaaGreatDoor.Am
section
open Go.RowKit
def halfD (e : Nat) : D := .agg [natW 1, .bool false, natW (2 ^ e - 1)]
def expOf (k a x : Nat) : Nat := if k = 2 then x / 2 ^ a else (placeY a x).shift
end
end Go.Proofs.YtmpjlkclkhnpfaaGreatDoor.Am
namespace Go.Proofs.YtmpjlkclkhnpfaaGreatDoor.Am
section
open Go.RowKit
end
end Go.Proofs.YtmpjlkclkhnpfaaGreatDoor.Am
namespace Go.Proofs.YtmpjlkclkhnpfaaGreatDoor.Am
section
open Go.RowKit
end
end Go.Proofs.YtmpjlkclkhnpfaaGreatDoor.Am
namespace Go.Proofs.YtmpjlkclkhnpfaaGreatDoor.Am
section
structure TR where
 e : Int
 y : Nat
 t : Nat
 f : Bool
 p : Nat
 d : Bool
end
end Go.Proofs.YtmpjlkclkhnpfaaGreatDoor.Am
namespace Go.Proofs.YtmpjlkclkhnpfaaGreatDoor.Am
section
open Go.RowKit
def binM (cs : List Bool) : Nat → Nat → Nat → Bool → Int × Nat × Nat × Bool
 | 0, c, p, d => (0, c, p, d)
 | n + 1, c, p, d => if flipE cs p d = 0 then binM cs n (if flipB cs p d then c + 1 else c) (flipP cs p d) (flipD cs p d) else (flipE cs p d, 0, flipP cs p d, flipD cs p d)
def thinM (cs : List Bool) (f : Bool) : Nat → Nat → Nat → Nat → Bool → TR
 | 0, y, t, p, d => ⟨0, y, t, f, p, d⟩
 | n + 1, y, t, p, d => if (binM cs y 0 p d).1 = 0 then thinM cs f n (binM cs y 0 p d).2.1 (t + 1) (binM cs y 0 p d).2.2.1 (binM cs y 0 p d).2.2.2 else ⟨(binM cs y 0 p d).1, y, t, f, (binM cs y 0 p d).2.2.1, (binM cs y 0 p d).2.2.2⟩
def downM (cs : List Bool) (most times : Nat) : Nat → Nat → Nat → Bool → Nat → Bool → TR
 | 0, y, t, f, p, d => ⟨0, y, t, f, p, d⟩
 | k + 1, y, t, f, p, d =>
  if most < y then
   if t = times then ⟨0, most, t, true, p, d⟩
   else if (thinM cs f 1 y t p d).e = 0 then downM cs most times k (thinM cs f 1 y t p d).y (thinM cs f 1 y t p d).t f (thinM cs f 1 y t p d).p (thinM cs f 1 y t p d).d
   else ⟨(thinM cs f 1 y t p d).e, y, t, f, (thinM cs f 1 y t p d).p, (thinM cs f 1 y t p d).d⟩
  else ⟨0, y, t, f, p, d⟩
def oneM (cs : List Bool) (most times y t : Nat) (f : Bool) (p : Nat) (d : Bool) : TR :=
 if (halfR cs t p d).1 then downM cs most times (times - t + 1) (y + 1) t f (halfR cs t p d).2.2.1 (halfR cs t p d).2.2.2
 else ⟨(halfR cs t p d).2.1, y, t, f, (halfR cs t p d).2.2.1, (halfR cs t p d).2.2.2⟩
def addTM (cs : List Bool) (most times : Nat) : Nat → Nat → Nat → Bool → Nat → Bool → TR
 | 0, y, t, f, p, d => ⟨0, y, t, f, p, d⟩
 | n + 1, y, t, f, p, d => if (oneM cs most times y t f p d).e = 0 then addTM cs most times n (oneM cs most times y t f p d).y (oneM cs most times y t f p d).t (oneM cs most times y t f p d).f (oneM cs most times y t f p d).p (oneM cs most times y t f p d).d else oneM cs most times y t f p d
def mergeTM (cs : List Bool) (most times y t : Nat) (f : Bool) (z u : Nat) (g : Bool) (p : Nat) (d : Bool) : TR :=
 let A := thinM cs f (u - t) y t p d
 if A.e = 0 then
  let B := thinM cs g (t - u) z u A.p A.d
  if B.e = 0 then downM cs most times (times - A.t + 1) (A.y + B.y) A.t (f || g) B.p B.d else B
 else A

def tsD (y t : Nat) (f : Bool) : D := .agg [.int .i64 y, .int .i64 t, .bool f]
end
end Go.Proofs.YtmpjlkclkhnpfaaGreatDoor.Am
namespace Go.Proofs.YtmpjlkclkhnpfaaGreatDoor.Am
section
open Go.RowKit
def tpD (a b : Int) : D := .agg [.int .i64 a, .int .i64 b]

def GoodT (a b : Nat) : Prop := 1 ≤ a ∧ a ≤ 1023 ∧ b ≤ 20
def WellT (a b y t : Nat) (f : Bool) : Prop := y ≤ a ∧ t ≤ b ∧ (f = true → t = b)
end
end Go.Proofs.YtmpjlkclkhnpfaaGreatDoor.Am
namespace Go.Proofs.YtmpjlkclkhnpfaaGreatDoor.Am
section
open Go.RowKit
end
end Go.Proofs.YtmpjlkclkhnpfaaGreatDoor.Am
namespace Go.Proofs.YtmpjlkclkhnpfaaGreatDoor.Am
section
open Go.RowKit
def GoodC (k a w : Nat) : Prop := (k = 1 ∧ 1 ≤ a ∧ a ≤ 4096 ∧ bitsN (a + 1) * (2 ^ w - 1) ≤ 8192 ∨ k = 2 ∧ a ≤ 8 ∨ k = 3 ∧ 1 ≤ a ∧ a ≤ 5) ∧ 1 ≤ w ∧ w ≤ 10
def GoodR (k a b : Nat) : Prop := k = 4 ∧ GoodT a b ∨ k ≠ 4 ∧ GoodC k a b
def WellR (k a b y t : Nat) (f : Bool) : Prop := k = 4 ∧ WellT a b y t f ∨ k ≠ 4 ∧ t = 0 ∧ y ≤ 2 ^ b - 1 ∧ (f = true → y = 2 ^ b - 1)
def addRM (cs : List Bool) (k a b n y t : Nat) (f : Bool) (p : Nat) (d : Bool) : TR :=
 if k = 4 then addTM cs a b n y t f p d
 else ⟨(addL (stOf cs k a) (2 ^ b - 1) n y f p d).1, (addL (stOf cs k a) (2 ^ b - 1) n y f p d).2.1, 0, (addL (stOf cs k a) (2 ^ b - 1) n y f p d).2.2.1, (addL (stOf cs k a) (2 ^ b - 1) n y f p d).2.2.2.1, (addL (stOf cs k a) (2 ^ b - 1) n y f p d).2.2.2.2⟩
def mergeRM (cs : List Bool) (k a b y t : Nat) (f : Bool) (z u : Nat) (g : Bool) (p : Nat) (d : Bool) : TR :=
 if k = 4 then mergeTM cs a b y t f z u g p d
 else ⟨(mergeL (agOf cs k a) (2 ^ b - 1) z 0 y f p d).1, (mergeL (agOf cs k a) (2 ^ b - 1) z 0 y f p d).2.1, 0, (mergeL (agOf cs k a) (2 ^ b - 1) z 0 y f p d).2.2.1 || g, (mergeL (agOf cs k a) (2 ^ b - 1) z 0 y f p d).2.2.2.1, (mergeL (agOf cs k a) (2 ^ b - 1) z 0 y f p d).2.2.2.2⟩
end
end Go.Proofs.YtmpjlkclkhnpfaaGreatDoor.Am
namespace Go.Proofs.YtmpjlkclkhnpfaaGreatDoor.Am
section
def b2n (b : Bool) : Nat := if b then 1 else 0
@[simp] theorem o_m8 (b : Bool) : b2n b ≤ 1 := by cases b <;> decide
def numB : List Bool → Nat → Nat
 | [], n => n
 | b :: l, n => numB l (2 * n + b2n b)
theorem o_m9 : ∀ (l : List Bool) (n : Nat), numB l n = n * 2 ^ l.length + numB l 0
 | [], n => by simp [numB]
 | b :: l, n => by
  rw [numB, o_m9 l, numB, o_m9 l (2 * 0 + b2n b), List.length_cons, Nat.pow_succ, Nat.add_mul, Nat.mul_zero, Nat.zero_add, ← Nat.add_assoc, Nat.mul_comm 2 n, Nat.mul_assoc, Nat.mul_comm 2]
theorem o_ma : ∀ l : List Bool, numB l 0 < 2 ^ l.length
 | [] => by simp [numB]
 | b :: l => by
  rw [numB, o_m9, List.length_cons, Nat.pow_succ]
  have := o_ma l
  have := o_m8 b
  generalize 2 ^ l.length = v at *
  cases b <;> simp [b2n] <;> omega
def bitsW (n w : Nat) : List Bool := (List.range w).map fun i => decide (n / 2 ^ (w - 1 - i) % 2 = 1)
@[simp] theorem o_mb (n w : Nat) : (bitsW n w).length = w := by simp [bitsW]
theorem o_mc (n w : Nat) : bitsW n (w + 1) = bitsW (n / 2) w ++ [decide (n % 2 = 1)] := by
 simp only [bitsW, List.range_succ, List.map_append, List.map_cons, List.map_nil]
 congr 1
 ·apply List.map_congr_left
  intro i hi
  have := List.mem_range.1 hi
  rw [Nat.div_div_eq_div_mul, ← Nat.pow_succ', show w + 1 - 1 - i = (w - 1 - i).succ by omega]
 ·simp
def bit (bs : List Bool) (i : Nat) : Nat := b2n (bs.getD i false)
def byteAt (bs : List Bool) (i : Nat) : Nat := bit bs (8 * i) * 128 + bit bs (8 * i + 1) * 64 + bit bs (8 * i + 2) * 32 + bit bs (8 * i + 3) * 16 + bit bs (8 * i + 4) * 8 + bit bs (8 * i + 5) * 4 + bit bs (8 * i + 6) * 2 + bit bs (8 * i + 7)
def bytesOf (bs : List Bool) : List Nat := (List.range ((bs.length + 7) / 8)).map (byteAt bs)
@[simp] theorem o_md (bs : List Bool) : (bytesOf bs).length = (bs.length + 7) / 8 := by simp [bytesOf]
theorem o_me {bs : List Bool} {i : Nat} (h : bs.length ≤ i) : bit bs i = 0 := by
 unfold bit; rw [List.getD_eq_getElem?_getD, List.getElem?_eq_none h]; rfl
def bitsOf1 (x : Nat) : List Bool := bitsW x 8
def bitsOf : List Nat → List Bool
 | [] => []
 | x :: l => bitsOf1 x ++ bitsOf l
@[simp] theorem o_mf : ∀ l : List Nat, (bitsOf l).length = 8 * l.length
 | [] => rfl
 | x :: l => by simp [bitsOf, bitsOf1, o_mf l]; omega
theorem o_mg : ∀ l k : List Nat, bitsOf (l ++ k) = bitsOf l ++ bitsOf k
 | [], k => rfl
 | x :: l, k => by simp [bitsOf, o_mg l k]
end
end Go.Proofs.YtmpjlkclkhnpfaaGreatDoor.Am
namespace Go.Proofs.YtmpjlkclkhnpfaaGreatDoor.Am
section
open Go.RowKit
def u8s (ws : List Nat) : List V := ws.map fun x : Nat => V.d (.int .u8 x)
def BY (ws : List Nat) : D := .sl ws.length (ws.map fun x : Nat => .int .u8 x)
@[simp] theorem o_mh (n : Nat) (ws : List Nat) : V.lowl n (u8s ws) = true := by induction ws <;> simp_all [u8s]
@[simp] theorem o_mi (θ : Nat → Nat) (ws : List Nat) : V.rens θ (u8s ws) = u8s ws := by induction ws <;> simp_all [u8s]
def wrB (bs : List Bool) : Ob := ⟨5, u8s (bytesOf bs)⟩
end
end Go.Proofs.YtmpjlkclkhnpfaaGreatDoor.Am
namespace Go.Proofs.YtmpjlkclkhnpfaaGreatDoor.Am
section
open Go.RowKit
def smallB (ws : List Nat) : Prop := ∀ x ∈ ws, x < 256
end
end Go.Proofs.YtmpjlkclkhnpfaaGreatDoor.Am
namespace Go.Proofs.YtmpjlkclkhnpfaaGreatDoor.Am
section
open Go.RowKit
def numAt (ws : List Nat) (a w : Nat) : Nat := numB (((bitsOf ws).drop a).take w) 0
end
end Go.Proofs.YtmpjlkclkhnpfaaGreatDoor.Am
namespace Go.Proofs.YtmpjlkclkhnpfaaGreatDoor.Am
section
open Go.RowKit
def wellTB (a b y t : Nat) (f : Bool) : Bool := decide (y ≤ a) && (decide (t ≤ b) && (!f || t == b))
def wellRB (k a b y t : Nat) (f : Bool) : Bool := if k = 4 then wellTB a b y t f else (t == 0) && (decide (y ≤ 2 ^ b - 1) && (!f || y == 2 ^ b - 1))
end
end Go.Proofs.YtmpjlkclkhnpfaaGreatDoor.Am
namespace Go.Proofs.YtmpjlkclkhnpfaaGreatDoor.Am
section
open Go.RowKit
def stR (R : TR) (y t : Nat) (f : Bool) : D := if R.e = 0 then tsD R.y R.t R.f else tsD y t f
end
end Go.Proofs.YtmpjlkclkhnpfaaGreatDoor.Am
namespace Go.Proofs.YtmpjlkclkhnpfaaGreatDoor.Am
section
open Go.RowKit
def kwR (k a b : Nat) : Nat := if k = 4 then bitsN a else b
def twR (k b : Nat) : Nat := if k = 4 then bitsN b else 0
def encR (k a b y t : Nat) (f : Bool) : List Bool := bitsW y (kwR k a b) ++ bitsW t (twR k b) ++ [f]
theorem o_mj (k a b y t : Nat) (f : Bool) : (encR k a b y t f).length = kwR k a b + twR k b + 1 := by simp [encR]; omega

def readR (ws : List Nat) (k a b at_ : Nat) : (Nat × Nat × Bool) × Int × Nat :=
 if 8 * ws.length - at_ < kwR k a b + twR k b + 1 then ((0, 0, false), 5, at_)
 else if wellRB k a b (numAt ws at_ (kwR k a b)) (numAt ws (at_ + kwR k a b) (twR k b)) ((bitsOf ws).getD (at_ + kwR k a b + twR k b) false) then ((numAt ws at_ (kwR k a b), numAt ws (at_ + kwR k a b) (twR k b), (bitsOf ws).getD (at_ + kwR k a b + twR k b) false), 0, at_ + kwR k a b + twR k b + 1)
 else ((0, 0, false), 4, at_ + kwR k a b + twR k b + 1)
end
end Go.Proofs.YtmpjlkclkhnpfaaGreatDoor.Am
namespace Go.Proofs.YtmpjlkclkhnpfaaGreatDoor.Am
section
def ofB (f : Nat → Bool) : Nat → Nat
 | 0 => 0
 | n + 1 => ofB f n + (if f n then 2 ^ n else 0)
def bitX (w : Nat) (xs : List Nat) (k : Nat) : Bool := (xs.getD (k / w) 0).testBit (k % w)
def nwP (n w : Nat) : Nat := (n * w + 63) / 64
def wordsP (w : Nat) (xs : List Nat) : List Nat := (List.range (nwP xs.length w)).map fun j => ofB (fun b => bitX w xs (64 * j + b)) 64
@[simp] theorem o_mk (w : Nat) (xs : List Nat) : (wordsP w xs).length = nwP xs.length w := by simp [wordsP]
theorem o_ml {w : Nat} {xs : List Nat} {j : Nat} (h : j < nwP xs.length w) : (wordsP w xs).getD j 0 = ofB (fun b => bitX w xs (64 * j + b)) 64 := by
 unfold wordsP; rw [List.getD_eq_getElem?_getD, List.getElem?_map, List.getElem?_range h]; rfl
def smallP (w : Nat) (xs : List Nat) : Prop := ∀ x ∈ xs, x < 2 ^ w
def andN (x y : Nat) : Nat := x &&& (2 ^ 64 - 1 - y)
def setW1 (w : Nat) (x v r : Nat) : Nat := andN x ((2 ^ w - 1) * 2 ^ r % 2 ^ 64) ||| v * 2 ^ r % 2 ^ 64
def setW2 (w : Nat) (x v s : Nat) : Nat := andN x ((2 ^ w - 1) / 2 ^ s) ||| v / 2 ^ s
end
end Go.Proofs.YtmpjlkclkhnpfaaGreatDoor.Am
namespace Go.Proofs.YtmpjlkclkhnpfaaGreatDoor.Am
section
open Go.RowKit
def u64s (ws : List Nat) : List V := ws.map fun x : Nat => V.d (.int .u64 x)
@[simp] theorem o_mm (n : Nat) (ws : List Nat) : V.lowl n (u64s ws) = true := by induction ws <;> simp_all [u64s]
@[simp] theorem o_mn (θ : Nat → Nat) (ws : List Nat) : V.rens θ (u64s ws) = u64s ws := by induction ws <;> simp_all [u64s]
def vecB (w : Nat) (xs : List Nat) : Ob := ⟨194, u64s (wordsP w xs)⟩

def vecD (w : Nat) (xs : List Nat) : List D := [.sl (nwP xs.length w) ((wordsP w xs).map fun x : Nat => D.int .u64 x), .int .i64 xs.length, .int .i64 w]
end
end Go.Proofs.YtmpjlkclkhnpfaaGreatDoor.Am
namespace Go.Proofs.YtmpjlkclkhnpfaaGreatDoor.Am
section
open Go.RowKit
end
end Go.Proofs.YtmpjlkclkhnpfaaGreatDoor.Am
namespace Go.Proofs.YtmpjlkclkhnpfaaGreatDoor.Am
section
open Go.RowKit
def encN (k a b y t : Nat) (f : Bool) : Nat := numB (encR k a b y t f) 0
def wdR (k a b : Nat) : Nat := kwR k a b + twR k b + 1
theorem o_mo (k a b y t : Nat) (f : Bool) : encN k a b y t f < 2 ^ wdR k a b := by have := o_ma (encR k a b y t f); rw [o_mj] at this; exact this
abbrev ST := Nat × Nat × Bool
def encs (k a b : Nat) (l : List ST) : List Nat := l.map fun s => encN k a b s.1 s.2.1 s.2.2
def wells (k a b : Nat) (l : List ST) : Prop := ∀ s ∈ l, WellR k a b s.1 s.2.1 s.2.2
@[simp] theorem o_mp (k a b : Nat) (l : List ST) : (encs k a b l).length = l.length := by simp [encs]
theorem o_mq (k a b : Nat) (l : List ST) : smallP (wdR k a b) (encs k a b l) := by
 intro x hx
 obtain ⟨s, -, rfl⟩ := List.mem_map.1 hx
 exact o_mo _ _ _ _ _ _
def arrB (k a b : Nat) (l : List ST) : Ob := vecB (wdR k a b) (encs k a b l)
end
end Go.Proofs.YtmpjlkclkhnpfaaGreatDoor.Am
namespace Go.Proofs.YtmpjlkclkhnpfaaGreatDoor.Am
section
open Go.RowKit
end
end Go.Proofs.YtmpjlkclkhnpfaaGreatDoor.Am
namespace Go.Proofs.YtmpjlkclkhnpfaaGreatDoor.Am
section
open Go.RowKit
end
end Go.Proofs.YtmpjlkclkhnpfaaGreatDoor.Am
namespace Go.Proofs.YtmpjlkclkhnpfaaGreatDoor.Am
section
open Go.RowKit
theorem o_mr (n s : Nat) (ds : List D) (l : List D) : V.frzs n s ds (l.map V.d) = l.map V.d := by
 rw [o_53]; simp [V.frz]
end
end Go.Proofs.YtmpjlkclkhnpfaaGreatDoor.Am
namespace Go.Proofs.YtmpjlkclkhnpfaaGreatDoor.Am
section
open Go.RowKit
section
variable {P : Program} {L : Nat} {Q : Exit → List V → List (Option Ob) → Prop} {T : List V} {H : List (Option Ob)} {x : C}
def AWu (P : Program) (L : Nat) (x : C) (Q : Exit → List V → List (Option Ob) → Prop) : Nat → List V → List (Option Ob) → Prop
 | 0, _, _ => False
 | n + 1, T, H => AW P L x (thenQ (AWu P L x Q n) Q) T H
theorem AW.rounds (n : Nat) (h : AWu P L x Q n T H) : AW P L (.loop x) Q T H := by
 refine AW.loop (fun k T H => AWu P L x Q k T H) n h fun k T H hk => ?_
 cases k with
 | zero => exact hk.elim
 | succ k =>
  refine AW.mono hk fun e T' H' hq => ?_
  cases e <;> first | exact ⟨k, Nat.lt_succ_self k, hq⟩ | exact hq
theorem AWu.next {n : Nat} (h : AW P L x (thenQ (AWu P L x Q n) Q) T H) : AWu P L x Q (n + 1) T H := h
end
theorem EqnD.sub {P : Program} {f : FuncId} {args args' : List V} {Hs Hs' : List Ob} {X : V} {dead : List Nat} (E : EqnD P f args' Hs X Hs' dead) (h : Subs args args') : EqnD P f args Hs X Hs' dead :=
 ⟨E.len, E.old, E.lowx, E.lowo, fun m vs hb hv => E.run m vs hb (h m vs hv)⟩
end
end Go.Proofs.YtmpjlkclkhnpfaaGreatDoor.Am
namespace Go.Proofs.YtmpjlkclkhnpfaaGreatDoor.Am
section
open Go.RowKit
attribute [simp] o_mr o_5v o_5w
@[simp] theorem o_ms (θ : Nat → Nat) : ∀ l k : List V, V.rens θ (l ++ k) = V.rens θ l ++ V.rens θ k
 | [], k => by simp [V.rens]
 | x :: l, k => by simp [V.rens, o_ms θ l k]
@[simp] theorem o_mt (n : Nat) : ∀ l k : List V, V.lowl n (l ++ k) = (V.lowl n l && V.lowl n k)
 | [], k => by simp [V.lowl]
 | x :: l, k => by simp [V.lowl, o_mt n l k, Bool.and_assoc]
def arrD (k a b : Nat) (l : List ST) : List D := [.ptr (vecD (wdR k a b) (encs k a b l)) 0, .int .i64 k, .int .i64 a, .int .i64 b]
end
end Go.Proofs.YtmpjlkclkhnpfaaGreatDoor.Am
namespace Go.Proofs.YtmpjlkclkhnpfaaGreatDoor.Am
section
open Go.RowKit
def dsD (l : List Nat) : List D := l.map fun x : Nat => D.int .i64 x
def nD (n : Nat) : D := .sl (sizeD n) (dsD (decs n))
theorem o_mu (l : List Nat) : (dsD l).length = l.length := by simp [dsD]
theorem o_mv (l : List Nat) (i : Nat) (h : i < l.length) : (dsD l)[i]? = some (.int .i64 (l.getD i 0 : Nat)) := by simp [dsD, h]
theorem o_mw : decs 0 = [] := rfl
theorem o_mx : nD 0 = .sl 0 [] := rfl

theorem o_my (l : List Nat) (hs : dsmall l) (hn : l.length ≤ 1000000) : Eqn Tryz.prog o_bm [.d (.sl l.length (dsD l))] [] (.d (nD (dval l))) [] := by
 refine Eqn.pure o_bo Plain.ok ?_
 have hlen := o_mu l
 have hget := o_mv l
 have htk : ∀ i, i ≤ l.length → trimN l i = trimN l l.length → trimN l i = i → D.sl i ((dsD l).take i) = nD (dval l) := by
  intro i hi h1 h2
  have h3 := o_lm l l.length (Nat.le_refl _)
  have h4 := o_dq l l.length (Nat.le_refl _)
  rw [← h1, h2, List.take_length] at h3
  rw [← h1, h2] at h4
  have h5 := o_m6 (hs.take i) h4
  rw [h3] at h5
  unfold nD sizeD dsD
  rw [h5, List.length_take, Nat.min_eq_left hi, List.map_take]
 have htk' : ∀ i, i ≤ l.length → trimN l i = trimN l l.length → trimN l i = i → D.sl i ((l.map fun x : Nat => D.int .i64 x).take i) = nD (dval l) := htk
 simp only [o_bn, dsD]
 clear hlen hget htk
 generalize nD (dval l) = N at *
 refine A00 ?_; try with_reducible exact tt
 refine AW.loopT (α := Nat) 0 (fun i => [(3, .d (.int .i64 (i : Nat)))]) (fun i => []) (fun i => i ≤ l.length ∧ trimN l i = trimN l l.length) (fun i => i) l.length ?_ ?_ ⟨Nat.le_refl _, rfl⟩ ?_ ?_ ?_
 ·simp
 ·simp
 ·simp
 ·simp
 rintro i ⟨hi, ht⟩
 simp
 rcases i with _ | m
 ·have hf := htk' 0 hi ht rfl
  refine A00 ?_; try with_reducible exact tt
  exact Sub1.of (by rw [← hf]; simp)
 ·have hm : m < l.length := by omega
  have hm2 : ¬ l.length ≤ m := by omega
  have hge : l.getD m 0 = l[m] := by simp [List.getD, hm]
  have ew : IntKind.i64.wrap (m : Int) = (m : Int) := w64 (by omega) (by omega)
  by_cases h0 : l[m] = 0
  ·have ht2 : trimN l m = trimN l l.length := by rw [← ht, trimN, if_pos (by rw [hge]; exact h0)]
   refine A10 (fs hm (fs hm2 (fs hi (fs h0 ew)))) ?_; try with_reducible exact tt
   exact ⟨m, ⟨by omega, ht2⟩, by omega, Sub1.refl _⟩
  ·have hf := htk' (m + 1) hi ht (by rw [trimN, if_neg (by rw [hge]; exact h0)])
   have h0' : ¬ ((l[m] : Nat) : Int) = 0 := by omega
   refine A10 (fs hm (fs hm2 (fs hi (fs h0 (fs h0' ew))))) ?_; try with_reducible exact tt
   exact Sub1.of (by rw [hf])
theorem o_mz {m : Nat} (h : m ≠ 0) : decs m = (m % 10000) :: decs (m / 10000) := by
 obtain ⟨k, rfl⟩ : ∃ k, m = k + 1 := ⟨m - 1, by omega⟩
 conv => lhs; unfold decs
 rw [decsF, if_neg h]
 obtain ⟨h1, h2, h3⟩ := o_m2 k ((k + 1) / 10000) (by omega)
 rw [o_lo h2 (o_m4 _) h3 (o_m5 _) (by rw [h1, o_m3])]
theorem o_n0 (l : List Nat) (x : Nat) : (dsD (l ++ [x])).map V.d = (dsD l).map V.d ++ [.d (.int .i64 x)] := by simp [dsD]

theorem o_n1 (n : Nat) (hn : n < 9223372036854775808) : Eqn Tryz.prog o_94 [.d (.int .i64 n)] [] (.d (nD n)) [] := by
 refine Eqn.pure o_96 Plain.ok ?_
 have hsz : (decs n).length ≤ 5 := o_lp (o_m5 n) (by rw [o_m3]; omega)
 simp only [o_95]
 refine A00 ?_; try with_reducible exact tt
 refine AW.loopG (α := List Nat × Nat) (fun s => setS (List.replicate 14 .junk) [(0, .d (.int .i64 (s.2 : Nat))), (3, if s.1 = [] then .d .nilsl else .own 0 1 s.1.length)]) (fun s => if s.1 = [] then [] else [some ⟨3, (dsD s.1).map .d⟩]) (fun s => s.1 ++ decs s.2 = decs n ∧ s.2 ≤ n) (fun s => s.2) ([], n) ?_ ⟨rfl, Nat.le_refl _⟩ ?_ ?_ ?_
 ·intro i hi; split <;> simp
 ·simp
 ·simp
 rintro ⟨pre, m⟩ ⟨hp, hm⟩
 simp only at hp hm
 have hpl : pre.length ≤ 5 := by rw [← hp, List.length_append] at hsz; omega
 by_cases h0 : m = 0
 ·subst h0
  rw [o_mw, List.append_nil] at hp
  subst hp
  by_cases hpe : decs n = []
  ·have hn0 := o_m7.1 hpe
   subst hn0
   rw [if_pos hpe, if_pos hpe]
   simp
   refine A00 ?_; try with_reducible exact tt
   exact Sub1.nil
  ·rw [if_neg hpe, if_neg hpe]
   have htk : (dsD (decs n)).take (decs n).length = dsD (decs n) := List.take_of_length_le (by rw [o_mu]; omega)
   simp
   refine AW.freeze 0 1 ⟨3, (dsD (decs n)).map .d⟩ (dsD (decs n)) (by simp) rfl ?_
   simp [frzH, htk]
   refine A00 ?_; try with_reducible exact tt
   exact Sub1.refl _
 ·have hst := o_mz h0
  rw [hst, List.append_cons] at hp
  have hmp : 0 < m := by omega
  have hmp' : (0 : Int) < m := by omega
  have e1 : (m : Int).tmod 10000 = ((m % 10000 : Nat) : Int) := by rw [Int.tmod_eq_emod_of_nonneg (by omega)]; omega
  have e2 : (m : Int).tdiv 10000 = ((m / 10000 : Nat) : Int) := by rw [Int.tdiv_eq_ediv_of_nonneg (by omega)]; omega
  have hlt : m / 10000 < m := by omega
  have hle : m / 10000 ≤ n := by omega
  have hsn := o_n0 pre (m % 10000)
  clear hst
  generalize m % 10000 = x at *
  generalize m / 10000 = y at *
  by_cases hpe : pre = []
  ·subst hpe
   simp
   refine A10 (fs hmp (fs hmp' (fs e1 e2))) ?_; try with_reducible exact tt
   refine ⟨[x], y, 0, 1, by simp, ⟨hp, hle⟩, hlt, ?_, ?_⟩
   ·simp [swT, swH, sw, Ob.sw, V.ren, V.rens]
   ·simp [swT, swH, sw, Ob.sw, V.ren, V.rens, dsD]
  ·rw [if_neg hpe, if_neg hpe]
   simp
   have hlen := o_mu pre
   refine A10 (fs hmp (fs hmp' (fs e1 (fs e2 (fs hlen hpl))))) ?_; try with_reducible exact tt
   refine ⟨pre ++ [x], y, 0, 2, by simp, ⟨hp, hle⟩, hlt, ?_, ?_⟩
   ·simp [swT, swH, sw, Ob.sw, V.ren, V.rens]
   ·simp [swT, swH, sw, Ob.sw, V.ren, V.rens, hsn]
end
end Go.Proofs.YtmpjlkclkhnpfaaGreatDoor.Am
namespace Go.Proofs.YtmpjlkclkhnpfaaGreatDoor.Am
section
open Go.RowKit
theorem o_n2 (f : Nat → Nat) (i : Nat) : dsD ((List.range (i + 1)).map f) = dsD ((List.range i).map f) ++ [.int .i64 (f i)] := by
 rw [List.range_succ, List.map_append]; simp [dsD]
set_option maxHeartbeats 1000000 in
theorem o_n3 (a b : List Nat) (ha : dsmall a) (hb : dsmall b) (hla : a.length ≤ 100000) (hlb : b.length ≤ 100000) : Eqn Tryz.prog o_9a [.d (.sl a.length (dsD a)), .d (.sl b.length (dsD b))] [] (.d (nD (dval a + dval b))) [] := by
 refine Eqn.pure o_9c Plain.ok ?_
 obtain ⟨F, hF⟩ : ∃ F : Nat → List D, F = fun i => dsD ((List.range i).map (addD a b)) := ⟨_, rfl⟩
 have hFl : ∀ i, (F i).length = i := by intro i; rw [hF]; simp [dsD]
 have hFs : ∀ i, F (i + 1) = F i ++ [.int .i64 (addD a b i)] := by intro i; rw [hF]; exact o_n2 _ i
 have hF0 : F 0 = [] := by rw [hF]; rfl
 have htr : ∀ i, i ≤ 200001 → Eqn Tryz.prog o_bm [.d (.sl i (F i))] [] (.d (nD (dval ((List.range i).map (addD a b))))) [] := by
  intro i hi
  have := o_my ((List.range i).map (addD a b)) (o_lw (o_lx a b) i) (by simp; omega)
  rw [hF]
  simpa using this
 have hcl := o_ls ha hb
 have hval := o_lt a b
 clear hF
 simp only [o_9b, dsD]
 refine A00 ?_; try with_reducible exact tt
 refine AW.loopG (α := Nat) (fun i => setS (List.replicate 53 .junk) [(0, .d (.sl a.length (a.map fun x : Nat => D.int .i64 x))), (1, .d (.sl b.length (b.map fun x : Nat => D.int .i64 x))), (5, if i = 0 then .d .nilsl else .own 0 1 i), (6, .d (.int .i64 (carryD a b i : Nat))), (7, .d (.int .i64 (i : Nat)))]) (fun i => if i = 0 then [] else [some ⟨3, (F i).map .d⟩]) (fun i => i ≤ max a.length b.length + 1) (fun i => max a.length b.length + 1 - i) 0 ?_ (Nat.zero_le _) ?_ ?_ ?_
 ·intro i hi; split <;> simp
 ·simp [carryD]
 ·simp
 rintro i hi
 have hc1 := hcl i
 have hqb := hcl (i + 1)
 have hsn := hFs i
 have hqd : carryD a b (i + 1) = (a.getD i 0 + b.getD i 0 + carryD a b i) / 10000 := rfl
 have hrd : addD a b i = (a.getD i 0 + b.getD i 0 + carryD a b i) % 10000 := rfl
 have g1 := ha.getD i
 have g2 := hb.getD i
 have ew : IntKind.i64.wrap ((i : Int) + 1) = (i : Int) + 1 := w64 (by omega) (by omega)
 have e3 : ((a.getD i 0 + b.getD i 0 + carryD a b i : Nat) : Int).tmod 10000 = (addD a b i : Int) := by rw [Int.tmod_eq_emod_of_nonneg (by omega), hrd]; omega
 have e4 : ((a.getD i 0 + b.getD i 0 + carryD a b i : Nat) : Int).tdiv 10000 = (carryD a b (i + 1) : Int) := by rw [Int.tdiv_eq_ediv_of_nonneg (by omega), hqd]; omega
 by_cases pa : i < a.length
 ·have ga : a[i] = a.getD i 0 := by simp [List.getD, pa]
  by_cases pb : i < b.length
  ·have gb : b[i] = b.getD i 0 := by simp [List.getD, pb]
   have e1 : IntKind.i64.wrap ((carryD a b i : Int) + (a.getD i 0 : Nat)) = (carryD a b i : Int) + (a.getD i 0 : Nat) := w64 (by omega) (by omega)
   have e2 : IntKind.i64.wrap ((carryD a b i : Int) + (a.getD i 0 : Nat) + (b.getD i 0 : Nat)) = ((a.getD i 0 + b.getD i 0 + carryD a b i : Nat) : Int) := by rw [w64 (by omega) (by omega)]; omega
   clear hqd hrd
   generalize a.getD i 0 + b.getD i 0 + carryD a b i = s at *
   generalize a.getD i 0 = ai at *
   generalize b.getD i 0 = bi at *
   have hii : (i : Int) < a.length := by omega
   have hij : (i : Int) < b.length := by omega
   have hl := hFl i
   clear hval htr
   generalize carryD a b i = c at *
   generalize hq : carryD a b (i + 1) = q at *
   have e5 : IntKind.i64.wrap (q : Int) = (q : Int) := w64 (by omega) (by omega)
   generalize addD a b i = r at *
   by_cases hi0 : i = 0
   ·rw [if_pos hi0, if_pos hi0]
    rw [hi0] at hsn
    rw [hF0] at hsn
    have hq1 : carryD a b 1 = q := by rw [← hq, hi0]
    simp
    refine A10 (fs pa (fs pb (fs hii (fs hij (fs ga (fs gb (fs e1 (fs e2 (fs e3 (fs e4 (fs e5 (fs ew hl)))))))))))) ?_; try with_reducible exact tt
    refine ⟨i + 1, 0, 1, by simp, by omega, by omega, ?_, ?_⟩
    ·simp [swT, swH, sw, Ob.sw, V.ren, V.rens, hi0, hq1]
    ·simp [swT, swH, sw, Ob.sw, V.ren, V.rens, hi0, hsn]
   ·rw [if_neg hi0, if_neg hi0]
    simp
    refine A10 (fs pa (fs pb (fs hii (fs hij (fs ga (fs gb (fs e1 (fs e2 (fs e3 (fs e4 (fs e5 (fs ew hl)))))))))))) ?_; try with_reducible exact tt
    refine ⟨i + 1, 0, 2, by simp, by omega, by omega, ?_, ?_⟩
    ·simp [swT, swH, sw, Ob.sw, V.ren, V.rens, hq]
    ·simp [swT, swH, sw, Ob.sw, V.ren, V.rens, hsn]
  ·have gb : b.getD i 0 = 0 := by simp [List.getD, List.getElem?_eq_none (show b.length ≤ i by omega)]
   have e1 : IntKind.i64.wrap ((carryD a b i : Int) + (a.getD i 0 : Nat)) = ((a.getD i 0 + b.getD i 0 + carryD a b i : Nat) : Int) := by rw [w64 (by omega) (by omega)]; omega
   clear hqd hrd
   generalize a.getD i 0 + b.getD i 0 + carryD a b i = s at *
   generalize a.getD i 0 = ai at *
   generalize b.getD i 0 = bi at *
   have hii : (i : Int) < a.length := by omega
   have hij : ¬ (i : Int) < b.length := by omega
   have hl := hFl i
   clear hval htr
   generalize carryD a b i = c at *
   generalize hq : carryD a b (i + 1) = q at *
   have e5 : IntKind.i64.wrap (q : Int) = (q : Int) := w64 (by omega) (by omega)
   generalize addD a b i = r at *
   by_cases hi0 : i = 0
   ·rw [if_pos hi0, if_pos hi0]
    rw [hi0] at hsn
    rw [hF0] at hsn
    have hq1 : carryD a b 1 = q := by rw [← hq, hi0]
    simp
    refine A10 (fs pa (fs pb (fs hii (fs hij (fs ga (fs e1 (fs e3 (fs e4 (fs e5 (fs ew hl)))))))))) ?_; try with_reducible exact tt
    refine ⟨i + 1, 0, 1, by simp, by omega, by omega, ?_, ?_⟩
    ·simp [swT, swH, sw, Ob.sw, V.ren, V.rens, hi0, hq1]
    ·simp [swT, swH, sw, Ob.sw, V.ren, V.rens, hi0, hsn]
   ·rw [if_neg hi0, if_neg hi0]
    simp
    refine A10 (fs pa (fs pb (fs hii (fs hij (fs ga (fs e1 (fs e3 (fs e4 (fs e5 (fs ew hl)))))))))) ?_; try with_reducible exact tt
    refine ⟨i + 1, 0, 2, by simp, by omega, by omega, ?_, ?_⟩
    ·simp [swT, swH, sw, Ob.sw, V.ren, V.rens, hq]
    ·simp [swT, swH, sw, Ob.sw, V.ren, V.rens, hsn]
 ·have ga : a.getD i 0 = 0 := by simp [List.getD, List.getElem?_eq_none (show a.length ≤ i by omega)]
  have hii : ¬ (i : Int) < a.length := by omega
  by_cases pb : i < b.length
  ·have gb : b[i] = b.getD i 0 := by simp [List.getD, pb]
   have e1 : IntKind.i64.wrap ((carryD a b i : Int) + (b.getD i 0 : Nat)) = ((a.getD i 0 + b.getD i 0 + carryD a b i : Nat) : Int) := by rw [w64 (by omega) (by omega)]; omega
   clear hqd hrd
   generalize a.getD i 0 + b.getD i 0 + carryD a b i = s at *
   generalize a.getD i 0 = ai at *
   generalize b.getD i 0 = bi at *
   have hij : (i : Int) < b.length := by omega
   have hl := hFl i
   clear hval htr
   generalize carryD a b i = c at *
   generalize hq : carryD a b (i + 1) = q at *
   have e5 : IntKind.i64.wrap (q : Int) = (q : Int) := w64 (by omega) (by omega)
   generalize addD a b i = r at *
   by_cases hi0 : i = 0
   ·rw [if_pos hi0, if_pos hi0]
    rw [hi0] at hsn
    rw [hF0] at hsn
    have hq1 : carryD a b 1 = q := by rw [← hq, hi0]
    simp
    refine A10 (fs pa (fs pb (fs hii (fs hij (fs gb (fs e1 (fs e3 (fs e4 (fs e5 (fs ew hl)))))))))) ?_; try with_reducible exact tt
    refine ⟨i + 1, 0, 1, by simp, by omega, by omega, ?_, ?_⟩
    ·simp [swT, swH, sw, Ob.sw, V.ren, V.rens, hi0, hq1]
    ·simp [swT, swH, sw, Ob.sw, V.ren, V.rens, hi0, hsn]
   ·rw [if_neg hi0, if_neg hi0]
    simp
    refine A10 (fs pa (fs pb (fs hii (fs hij (fs gb (fs e1 (fs e3 (fs e4 (fs e5 (fs ew hl)))))))))) ?_; try with_reducible exact tt
    refine ⟨i + 1, 0, 2, by simp, by omega, by omega, ?_, ?_⟩
    ·simp [swT, swH, sw, Ob.sw, V.ren, V.rens, hq]
    ·simp [swT, swH, sw, Ob.sw, V.ren, V.rens, hsn]
  ·have gb : b.getD i 0 = 0 := by simp [List.getD, List.getElem?_eq_none (show b.length ≤ i by omega)]
   have hij : ¬ (i : Int) < b.length := by omega
   simp only [ga, gb, Nat.zero_add] at e3 e4 hqd
   by_cases hc0 : 0 < carryD a b i
   ·have hc0' : (0 : Int) < carryD a b i := by omega
    have hlt : i < max a.length b.length + 1 := by
     rcases Nat.lt_or_ge i (max a.length b.length + 1) with h | h
     ·exact h
     ·exfalso
      obtain ⟨j, rfl⟩ : ∃ j, i = j + 1 := ⟨i - 1, by omega⟩
      have h1 := hcl j
      have h2 : carryD a b (j + 1) = (a.getD j 0 + b.getD j 0 + carryD a b j) / 10000 := rfl
      have h3 : a.getD j 0 = 0 := by simp [List.getD, List.getElem?_eq_none (show a.length ≤ j by omega)]
      have h4 : b.getD j 0 = 0 := by simp [List.getD, List.getElem?_eq_none (show b.length ≤ j by omega)]
      omega
    clear hqd hrd
    have hl := hFl i
    clear hval htr
    generalize carryD a b i = c at *
    generalize hq : carryD a b (i + 1) = q at *
    have e5 : IntKind.i64.wrap (q : Int) = (q : Int) := w64 (by omega) (by omega)
    generalize addD a b i = r at *
    by_cases hi0 : i = 0
    ·rw [if_pos hi0, if_pos hi0]
     rw [hi0] at hsn
     rw [hF0] at hsn
     have hq1 : carryD a b 1 = q := by rw [← hq, hi0]
     simp
     refine A10 (fs pa (fs pb (fs hii (fs hij (fs hc0 (fs hc0' (fs e3 (fs e4 (fs e5 (fs ew hl)))))))))) ?_; try with_reducible exact tt
     refine ⟨i + 1, 0, 1, by simp, by omega, by omega, ?_, ?_⟩
     ·simp [swT, swH, sw, Ob.sw, V.ren, V.rens, hi0, hq1]
     ·simp [swT, swH, sw, Ob.sw, V.ren, V.rens, hi0, hsn]
    ·rw [if_neg hi0, if_neg hi0]
     simp
     refine A10 (fs pa (fs pb (fs hii (fs hij (fs hc0 (fs hc0' (fs e3 (fs e4 (fs e5 (fs ew hl)))))))))) ?_; try with_reducible exact tt
     refine ⟨i + 1, 0, 2, by simp, by omega, by omega, ?_, ?_⟩
     ·simp [swT, swH, sw, Ob.sw, V.ren, V.rens, hq]
     ·simp [swT, swH, sw, Ob.sw, V.ren, V.rens, hsn]
   ·have hc0' : ¬ (0 : Int) < carryD a b i := by omega
    have hcz : carryD a b i = 0 := by omega
    have hv := hval i
    rw [hcz, Nat.mul_zero, Nat.add_zero, List.take_of_length_le (by omega), List.take_of_length_le (by omega)] at hv
    have ht := htr i (by omega)
    rw [hv] at ht
    clear e3 e4 hqd hrd hval htr
    generalize carryD a b i = c at *
    by_cases hi0 : i = 0
    ·rw [if_pos hi0, if_pos hi0]
     subst hi0
     rw [hF0] at ht
     replace ht : Eqn Tryz.prog o_bm [.d .nilsl] [] (.d (nD (dval a + dval b))) [] := ht.sub (Subs.cons Sub1.nil (Subs.refl _))
     simp
     refine A11 (fs pa (fs pb (fs hii (fs hij (fs hc0 hc0'))))) ht ?_; try with_reducible exact tt
    ·rw [if_neg hi0, if_neg hi0]
     have htk : (F i).take i = F i := List.take_of_length_le (by rw [hFl]; exact Nat.le_refl _)
     simp
     refine AW.freeze 0 1 ⟨3, (F i).map .d⟩ (F i) (by simp) rfl ?_
     simp [frzH, htk]
     refine A11 (fs pa (fs pb (fs hii (fs hij (fs hc0 hc0'))))) ht ?_; try with_reducible exact tt
theorem o_n4 (x y : Nat) (hx : sizeD x ≤ 100000) (hy : sizeD y ≤ 100000) : Eqn Tryz.prog o_9a [.d (nD x), .d (nD y)] [] (.d (nD (x + y))) [] := by
 have := o_n3 (decs x) (decs y) (o_m4 x) (o_m4 y) hx hy
 rwa [o_m3, o_m3] at this
end
end Go.Proofs.YtmpjlkclkhnpfaaGreatDoor.Am
namespace Go.Proofs.YtmpjlkclkhnpfaaGreatDoor.Am
section
open Go.RowKit
theorem o_n5 (x y : Nat) (hx : sizeD x ≤ 1000000) (hy : sizeD y ≤ 1000000) : Eqn Tryz.prog o_bd [.d (nD x), .d (nD y)] [] (.d (.int .i64 (cmpZ x y))) [] := by
 refine Eqn.pure o_bf Plain.ok ?_
 unfold sizeD at hx hy
 have ha := o_m4 x
 have hb := o_m4 y
 have ta := o_m5 x
 have tb := o_m5 y
 have va := o_m3 x
 have vb := o_m3 y
 simp only [o_be, nD, sizeD, dsD]
 generalize decs x = a at *
 generalize decs y = b at *
 by_cases hl : a.length = b.length
 ·have hlp : (a.length : Int) = b.length := by omega
  have hc := o_m1 ha hb a.length
  rw [List.take_length, hl, List.take_length, va, vb] at hc
  replace hc : cmpN a b b.length = cmpZ x y := hc
  rw [← hc]
  have ew0 : IntKind.i64.wrap ((b.length : Int) - 1) = (b.length : Int) - 1 := w64 (by omega) (by omega)
  refine A10 (fs hl (fs hlp ew0)) ?_; try with_reducible exact tt
  refine AW.loopT (α := Nat) 0 (fun j => [(5, .d (.int .i64 ((j : Int) - 1)))]) (fun j => []) (fun j => j ≤ b.length ∧ cmpN a b j = cmpN a b b.length) (fun j => j) b.length ?_ ?_ ⟨Nat.le_refl _, rfl⟩ ?_ ?_ ?_
  ·simp
  ·simp
  ·simp
  ·simp
  rintro j ⟨hj, hje⟩
  rcases j with _ | m
  ·simp
   have h0 : cmpN a b b.length = 0 := by rw [← hje]; rfl
   rw [h0]
   refine A00 ?_; try with_reducible exact tt
  ·rw [cmpN] at hje
   have hm : m < a.length := by omega
   have hm2 : m < b.length := by omega
   have g1 : a.getD m 0 = a[m] := by simp [List.getD, hm]
   have g2 : b.getD m 0 = b[m] := by simp [List.getD, hm2]
   have ew : IntKind.i64.wrap ((m : Int) - 1) = (m : Int) - 1 := w64 (by omega) (by omega)
   have hmi : (m : Int) < b.length := by omega
   rw [g1, g2] at hje
   by_cases h1 : a[m] < b[m]
   ·rw [if_pos h1] at hje
    rw [← hje]
    have h1' : ((a[m] : Nat) : Int) < (b[m] : Nat) := by omega
    simp
    refine A10 (fs hm (fs hm2 (fs hmi (fs hl (fs hlp (fs h1 h1')))))) ?_; try with_reducible exact tt
   ·rw [if_neg h1] at hje
    have h1' : ¬ ((a[m] : Nat) : Int) < (b[m] : Nat) := by omega
    by_cases h2 : b[m] < a[m]
    ·rw [if_pos h2] at hje
     rw [← hje]
     have h2' : ((b[m] : Nat) : Int) < (a[m] : Nat) := by omega
     simp
     refine A10 (fs hm (fs hm2 (fs hmi (fs hl (fs hlp (fs h1 (fs h1' (fs h2 h2')))))))) ?_; try with_reducible exact tt
    ·rw [if_neg h2] at hje
     have h2' : ¬ ((b[m] : Nat) : Int) < (a[m] : Nat) := by omega
     simp
     refine A10 (fs hm (fs hm2 (fs hmi (fs hl (fs hlp (fs h1 (fs h1' (fs h2 (fs h2' ew))))))))) ?_; try with_reducible exact tt
     exact ⟨m, ⟨by omega, hje⟩, by omega, Sub1.refl _⟩
 ·have hlp : ¬ (a.length : Int) = b.length := by omega
  by_cases h1 : a.length < b.length
  ·have h1' : (a.length : Int) < b.length := by omega
   have h3 := o_lz ha tb h1
   rw [va, vb] at h3
   rw [show cmpZ x y = -1 by unfold cmpZ; rw [if_pos h3]]
   refine A10 (fs hl (fs hlp (fs h1 h1'))) ?_; try with_reducible exact tt
  ·have h1' : ¬ (a.length : Int) < b.length := by omega
   have h3 := o_lz hb ta (show b.length < a.length by omega)
   rw [va, vb] at h3
   rw [show cmpZ x y = 1 by unfold cmpZ; rw [if_neg (by omega), if_pos h3]]
   refine A10 (fs hl (fs hlp (fs h1 h1'))) ?_; try with_reducible exact tt

set_option maxHeartbeats 1000000 in
theorem o_n6 (x y : Nat) (hxy : y ≤ x) (hx : sizeD x ≤ 100000) (hy : sizeD y ≤ 100000) : Eqn Tryz.prog o_ca [.d (nD x), .d (nD y)] [] (.d (nD (x - y))) [] := by
 refine Eqn.pure o_cc Plain.ok ?_
 unfold sizeD at hx hy
 have ha := o_m4 x
 have hb := o_m4 y
 have tb := o_m5 y
 have ta := o_m5 x
 have va := o_m3 x
 have vb := o_m3 y
 have hll : (decs y).length ≤ (decs x).length := by
  rcases Nat.lt_or_ge (decs x).length (decs y).length with h | h
  ·have := o_lz ha tb h
   omega
  ·exact h
 simp only [o_cb, nD, sizeD, dsD]
 generalize decs x = a at *
 generalize decs y = b at *
 have hval := o_lv ha hb a.length
 have hbl := o_lu a b
 rw [List.take_length, List.take_of_length_le hll, va, vb] at hval
 have hsz := o_m0 (l := (List.range a.length).map (subD a b)) (o_lw (o_ly a b) a.length) a.length
 rw [List.take_of_length_le (by simp)] at hsz
 have hxa : dval a < 10000 ^ a.length := by have := o_m0 ha a.length; rwa [List.take_length] at this
 have hfin : dval ((List.range a.length).map (subD a b)) = x - y := by
  have h1 := hbl a.length
  rcases Nat.lt_or_ge (borrowD a b a.length) 1 with h | h
  ·have : borrowD a b a.length = 0 := by omega
   rw [this] at hval
   omega
  ·have : borrowD a b a.length = 1 := by omega
   rw [this] at hval
   omega
 obtain ⟨F, hF⟩ : ∃ F : Nat → List D, F = fun i => dsD ((List.range i).map (subD a b)) := ⟨_, rfl⟩
 have hFl : ∀ i, (F i).length = i := by intro i; rw [hF]; simp [dsD]
 have hFs : ∀ i, F (i + 1) = F i ++ [.int .i64 (subD a b i)] := by intro i; rw [hF]; exact o_n2 _ i
 have hF0 : F 0 = [] := by rw [hF]; rfl
 have htr : Eqn Tryz.prog o_bm [.d (.sl a.length (F a.length))] [] (.d (nD (x - y))) [] := by
  have := o_my ((List.range a.length).map (subD a b)) (o_lw (o_ly a b) _) (by simp; omega)
  rw [hF, ← hfin]
  simpa using this
 clear hF hfin hxa hsz
 simp only [nD, sizeD, dsD] at htr
 generalize D.sl (decs (x - y)).length (List.map (fun x : Nat => D.int .i64 x) (decs (x - y))) = N at *
 refine A00 ?_; try with_reducible exact tt
 refine AW.loopG (α := Nat) (fun i => setS (List.replicate 41 .junk) [(0, .d (.sl a.length (a.map fun x : Nat => D.int .i64 x))), (1, .d (.sl b.length (b.map fun x : Nat => D.int .i64 x))), (5, if i = 0 then .d .nilsl else .own 0 1 i), (6, .d (.int .i64 (borrowD a b i : Nat))), (7, .d (.int .i64 (i : Nat)))]) (fun i => if i = 0 then [] else [some ⟨3, (F i).map .d⟩]) (fun i => i ≤ a.length) (fun i => a.length - i) 0 ?_ (Nat.zero_le _) ?_ ?_ ?_
 ·intro i hi; split <;> simp
 ·simp [borrowD]
 ·simp
 rintro i hi
 by_cases pa : i < a.length
 ·have hii : (i : Int) < a.length := by omega
  have hc1 := hbl i
  have hqb := hbl (i + 1)
  have hsn := hFs i
  have ga : a[i] = a.getD i 0 := by simp [List.getD, pa]
  have g1 := ha.getD i
  have g2 := hb.getD i
  have hqd : borrowD a b (i + 1) = if a.getD i 0 < b.getD i 0 + borrowD a b i then 1 else 0 := rfl
  have hrd : subD a b i = (a.getD i 0 + 10000 - b.getD i 0 - borrowD a b i) % 10000 := rfl
  have ew : IntKind.i64.wrap ((i : Int) + 1) = (i : Int) + 1 := w64 (by omega) (by omega)
  have e1 : IntKind.i64.wrap ((a.getD i 0 : Nat) - (borrowD a b i : Int)) = (a.getD i 0 : Nat) - (borrowD a b i : Int) := w64 (by omega) (by omega)
  by_cases pb : i < b.length
  ·have hij : (i : Int) < b.length := by omega
   have gb : b[i] = b.getD i 0 := by simp [List.getD, pb]
   by_cases hz : a.getD i 0 < b.getD i 0 + borrowD a b i
   ·have q0 : borrowD a b (i + 1) = 1 := by rw [hqd]; rw [if_pos hz]
    have e2 : IntKind.i64.wrap ((a.getD i 0 : Nat) - (borrowD a b i : Int) - (b.getD i 0 : Nat)) = (subD a b i : Int) - 10000 := by rw [w64 (by omega) (by omega), hrd]; omega
    have e3 : IntKind.i64.wrap ((subD a b i : Int) - 10000 + 10000) = (subD a b i : Int) := by rw [w64 (by omega) (by omega)]; omega
    have e3' : IntKind.i64.wrap (subD a b i : Int) = (subD a b i : Int) := w64 (by omega) (by omega)
    have e4 : (subD a b i : Int) - 10000 < 0 := by omega
    have e5 : (subD a b i : Int) < 10000 := by omega
    clear hqd hrd
    generalize a.getD i 0 = ai at *
    generalize b.getD i 0 = bi at *
    have hl := hFl i
    clear hval htr
    generalize hq : borrowD a b (i + 1) = q at *
    generalize borrowD a b i = c at *
    generalize subD a b i = r at *
    by_cases hi0 : i = 0
    ·rw [if_pos hi0, if_pos hi0]
     rw [hi0] at hsn
     rw [hF0] at hsn
     have hq1 : borrowD a b 1 = q := by rw [← hq, hi0]
     simp
     refine A10 (fs pa (fs pb (fs hii (fs hij (fs ga (fs gb (fs e1 (fs e2 (fs e3 (fs e3' (fs e4 (fs e5 (fs ew hl))))))))))))) ?_; try with_reducible exact tt
     refine ⟨i + 1, 0, 1, by simp, by omega, by omega, ?_, ?_⟩
     ·simp [swT, swH, sw, Ob.sw, V.ren, V.rens, hi0, hq1, q0]
     ·simp [swT, swH, sw, Ob.sw, V.ren, V.rens, hi0, hsn]
    ·rw [if_neg hi0, if_neg hi0]
     simp
     refine A10 (fs pa (fs pb (fs hii (fs hij (fs ga (fs gb (fs e1 (fs e2 (fs e3 (fs e3' (fs e4 (fs e5 (fs ew hl))))))))))))) ?_; try with_reducible exact tt
     refine ⟨i + 1, 0, 2, by simp, by omega, by omega, ?_, ?_⟩
     ·simp [swT, swH, sw, Ob.sw, V.ren, V.rens, hq, q0]
     ·simp [swT, swH, sw, Ob.sw, V.ren, V.rens, hsn]
   ·have q0 : borrowD a b (i + 1) = 0 := by rw [hqd]; rw [if_neg hz]
    have e2 : IntKind.i64.wrap ((a.getD i 0 : Nat) - (borrowD a b i : Int) - (b.getD i 0 : Nat)) = (subD a b i : Int) := by rw [w64 (by omega) (by omega), hrd]; omega
    have e4 : ¬ (subD a b i : Int) < 0 := by omega
    clear hqd hrd
    generalize a.getD i 0 = ai at *
    generalize b.getD i 0 = bi at *
    have hl := hFl i
    clear hval htr
    generalize hq : borrowD a b (i + 1) = q at *
    generalize borrowD a b i = c at *
    generalize subD a b i = r at *
    by_cases hi0 : i = 0
    ·rw [if_pos hi0, if_pos hi0]
     rw [hi0] at hsn
     rw [hF0] at hsn
     have hq1 : borrowD a b 1 = q := by rw [← hq, hi0]
     simp
     refine A10 (fs pa (fs pb (fs hii (fs hij (fs ga (fs gb (fs e1 (fs e2 (fs e4 (fs ew hl)))))))))) ?_; try with_reducible exact tt
     refine ⟨i + 1, 0, 1, by simp, by omega, by omega, ?_, ?_⟩
     ·simp [swT, swH, sw, Ob.sw, V.ren, V.rens, hi0, hq1, q0]
     ·simp [swT, swH, sw, Ob.sw, V.ren, V.rens, hi0, hsn]
    ·rw [if_neg hi0, if_neg hi0]
     simp
     refine A10 (fs pa (fs pb (fs hii (fs hij (fs ga (fs gb (fs e1 (fs e2 (fs e4 (fs ew hl)))))))))) ?_; try with_reducible exact tt
     refine ⟨i + 1, 0, 2, by simp, by omega, by omega, ?_, ?_⟩
     ·simp [swT, swH, sw, Ob.sw, V.ren, V.rens, hq, q0]
     ·simp [swT, swH, sw, Ob.sw, V.ren, V.rens, hsn]
  ·have hij : ¬ (i : Int) < b.length := by omega
   have gb : b.getD i 0 = 0 := by simp [List.getD, List.getElem?_eq_none (show b.length ≤ i by omega)]
   by_cases hz : a.getD i 0 < b.getD i 0 + borrowD a b i
   ·have q0 : borrowD a b (i + 1) = 1 := by rw [hqd]; rw [if_pos hz]
    have e2 : IntKind.i64.wrap ((a.getD i 0 : Nat) - (borrowD a b i : Int)) = (subD a b i : Int) - 10000 := by rw [w64 (by omega) (by omega), hrd]; omega
    have e3 : IntKind.i64.wrap ((subD a b i : Int) - 10000 + 10000) = (subD a b i : Int) := by rw [w64 (by omega) (by omega)]; omega
    have e3' : IntKind.i64.wrap (subD a b i : Int) = (subD a b i : Int) := w64 (by omega) (by omega)
    have e4 : (subD a b i : Int) - 10000 < 0 := by omega
    have e5 : (subD a b i : Int) < 10000 := by omega
    clear hqd hrd e1
    generalize a.getD i 0 = ai at *
    generalize b.getD i 0 = bi at *
    have hl := hFl i
    clear hval htr
    generalize hq : borrowD a b (i + 1) = q at *
    generalize borrowD a b i = c at *
    generalize subD a b i = r at *
    by_cases hi0 : i = 0
    ·rw [if_pos hi0, if_pos hi0]
     rw [hi0] at hsn
     rw [hF0] at hsn
     have hq1 : borrowD a b 1 = q := by rw [← hq, hi0]
     simp
     refine A10 (fs pa (fs pb (fs hii (fs hij (fs ga (fs e2 (fs e3 (fs e3' (fs e4 (fs e5 (fs ew hl))))))))))) ?_; try with_reducible exact tt
     refine ⟨i + 1, 0, 1, by simp, by omega, by omega, ?_, ?_⟩
     ·simp [swT, swH, sw, Ob.sw, V.ren, V.rens, hi0, hq1, q0]
     ·simp [swT, swH, sw, Ob.sw, V.ren, V.rens, hi0, hsn]
    ·rw [if_neg hi0, if_neg hi0]
     simp
     refine A10 (fs pa (fs pb (fs hii (fs hij (fs ga (fs e2 (fs e3 (fs e3' (fs e4 (fs e5 (fs ew hl))))))))))) ?_; try with_reducible exact tt
     refine ⟨i + 1, 0, 2, by simp, by omega, by omega, ?_, ?_⟩
     ·simp [swT, swH, sw, Ob.sw, V.ren, V.rens, hq, q0]
     ·simp [swT, swH, sw, Ob.sw, V.ren, V.rens, hsn]
   ·have q0 : borrowD a b (i + 1) = 0 := by rw [hqd]; rw [if_neg hz]
    have e2 : IntKind.i64.wrap ((a.getD i 0 : Nat) - (borrowD a b i : Int)) = (subD a b i : Int) := by rw [w64 (by omega) (by omega), hrd]; omega
    have e4 : ¬ (subD a b i : Int) < 0 := by omega
    clear hqd hrd e1
    generalize a.getD i 0 = ai at *
    generalize b.getD i 0 = bi at *
    have hl := hFl i
    clear hval htr
    generalize hq : borrowD a b (i + 1) = q at *
    generalize borrowD a b i = c at *
    generalize subD a b i = r at *
    by_cases hi0 : i = 0
    ·rw [if_pos hi0, if_pos hi0]
     rw [hi0] at hsn
     rw [hF0] at hsn
     have hq1 : borrowD a b 1 = q := by rw [← hq, hi0]
     simp
     refine A10 (fs pa (fs pb (fs hii (fs hij (fs ga (fs e2 (fs e4 (fs ew hl)))))))) ?_; try with_reducible exact tt
     refine ⟨i + 1, 0, 1, by simp, by omega, by omega, ?_, ?_⟩
     ·simp [swT, swH, sw, Ob.sw, V.ren, V.rens, hi0, hq1, q0]
     ·simp [swT, swH, sw, Ob.sw, V.ren, V.rens, hi0, hsn]
    ·rw [if_neg hi0, if_neg hi0]
     simp
     refine A10 (fs pa (fs pb (fs hii (fs hij (fs ga (fs e2 (fs e4 (fs ew hl)))))))) ?_; try with_reducible exact tt
     refine ⟨i + 1, 0, 2, by simp, by omega, by omega, ?_, ?_⟩
     ·simp [swT, swH, sw, Ob.sw, V.ren, V.rens, hq, q0]
     ·simp [swT, swH, sw, Ob.sw, V.ren, V.rens, hsn]
 ·have hi2 : i = a.length := by omega
  have hii : ¬ (i : Int) < a.length := by omega
  rw [← hi2] at htr
  clear hval
  generalize borrowD a b i = c at *
  by_cases hi0 : i = 0
  ·rw [if_pos hi0, if_pos hi0]
   rw [hi0, hF0] at htr
   replace htr : Eqn Tryz.prog o_bm [.d .nilsl] [] (.d N) [] := htr.sub (Subs.cons Sub1.nil (Subs.refl _))
   simp
   refine A11 (fs pa hii) htr ?_; try with_reducible exact tt
  ·rw [if_neg hi0, if_neg hi0]
   have htk : (F i).take i = F i := List.take_of_length_le (by rw [hFl]; exact Nat.le_refl _)
   simp
   refine AW.freeze 0 1 ⟨3, (F i).map .d⟩ (F i) (by simp) rfl ?_
   simp [frzH, htk]
   refine A11 (fs pa hii) htr ?_; try with_reducible exact tt
end
end Go.Proofs.YtmpjlkclkhnpfaaGreatDoor.Am
namespace Go.Proofs.YtmpjlkclkhnpfaaGreatDoor.Am
section
open Go.RowKit
theorem o_n7 : ∀ (ws : List Nat) (j v : Nat), j < ws.length → dval (ws.set j v) + 10000 ^ j * ws.getD j 0 = dval ws + 10000 ^ j * v
 | [], j, v, h => by simp at h
 | x :: ws, 0, v, h => by simp [dval]; omega
 | x :: ws, j + 1, v, h => by
  have ih := o_n7 ws j v (by simpa using h)
  simp only [List.set_cons_succ, dval, List.getD_cons_succ]
  rw [Nat.pow_succ]
  generalize 10000 ^ j = P at *
  generalize ws.getD j 0 = g at *
  have e1 : P * 10000 * g = 10000 * (P * g) := by rw [Nat.mul_comm P, Nat.mul_assoc]
  have e2 : P * 10000 * v = 10000 * (P * v) := by rw [Nat.mul_comm P, Nat.mul_assoc]
  rw [e1, e2]
  omega
theorem o_n8 {l : List Nat} {i j v : Nat} (h : i ≠ j) : (l.set i v).getD j 0 = l.getD j 0 := by
 rw [List.getD_eq_getElem?_getD, List.getElem?_set_ne h, ← List.getD_eq_getElem?_getD]
theorem dsmall.set {l : List Nat} (h : dsmall l) (j v : Nat) (hv : v < 10000) : dsmall (l.set j v) := fun x hx => by
 rcases List.mem_or_eq_of_mem_set hx with h1 | h1
 ·exact h x h1
 ·rw [h1]; exact hv
theorem o_n9 {V A c o x D1 D2 Bk bk P K : Nat} (hv : D1 + P * K * c = V + P * (A * Bk)) (hs : D2 + P * K * o = D1 + P * K * (x % 10000)) (hx : x = o + c + A * bk) : D2 + P * (K * 10000) * (x / 10000) = V + P * (A * (Bk + K * bk)) := by
 have h1 : 10000 * (x / 10000) + x % 10000 = o + c + A * bk := by rw [Nat.div_add_mod]; exact hx
 have h2 : P * K * (10000 * (x / 10000) + x % 10000) = P * K * (o + c + A * bk) := by rw [h1]
 have h3 : P * (K * 10000) * (x / 10000) = P * K * (10000 * (x / 10000)) := by
  rw [← Nat.mul_assoc P K 10000, Nat.mul_assoc (P * K)]
 have h4 : P * (A * (Bk + K * bk)) = P * (A * Bk) + P * K * (A * bk) := by
  rw [Nat.mul_add, Nat.mul_add, show A * (K * bk) = K * (A * bk) by rw [← Nat.mul_assoc, Nat.mul_comm A K, Nat.mul_assoc], ← Nat.mul_assoc P K]
 rw [Nat.mul_add] at h2
 rw [Nat.mul_add, Nat.mul_add] at h2
 rw [h3, h4]
 generalize P * K * (10000 * (x / 10000)) = t1 at *
 generalize P * K * (x % 10000) = t2 at *
 generalize P * K * o = t3 at *
 generalize P * K * c = t4 at *
 generalize P * K * (A * bk) = t5 at *
 generalize P * (A * Bk) = t6 at *
 omega

@[simp] theorem lowI (n : Nat) : ∀ l : List Nat, V.lowl n (l.map fun x : Nat => V.d (D.int .i64 x)) = true
 | [] => rfl
 | x :: l => by
  have := lowI n l
  simp only [List.map_cons, V.lowl, this]; rfl
@[simp] theorem lowR (n m : Nat) (x : D) : V.lowl n (List.replicate m (V.d x)) = true := by
 induction m with
 | zero => rfl
 | succ m ih => simp only [List.replicate_succ, V.lowl, ih]; rfl
set_option maxHeartbeats 2000000 in
theorem o_na (a b : List Nat) (ha : dsmall a) (hb : dsmall b) (hla : a.length ≤ 100000) (hlb : b.length ≤ 100000) : Eqn Tryz.prog o_9d [.d (.sl a.length (dsD a)), .d (.sl b.length (dsD b))] [] (.d (nD (dval a * dval b))) [] := by
 refine Eqn.pure o_9f Plain.ok ?_
 obtain ⟨n, hn⟩ : ∃ n, n = a.length + b.length + 1 := ⟨_, rfl⟩
 have ew1 : IntKind.i64.wrap ((a.length : Int) + b.length) = (a.length : Int) + b.length := w64 (by omega) (by omega)
 have ew2 : IntKind.i64.wrap ((a.length : Int) + b.length + 1) = (n : Int) := by rw [w64 (by omega) (by omega)]; omega
 have hnb : (n : Int) * 8 ≤ 140737488355328 := by omega
 have hnb2 : n ≤ 17592186044416 := by omega
 simp only [o_9e, dsD]
 refine A10 (fs ew1 (fs ew2 (fs hnb hnb2))) ?_; try with_reducible exact tt
 have hrep : List.replicate n (V.d (D.int .i64 0)) = (List.replicate n 0).map fun x : Nat => V.d (D.int .i64 x) := by simp
 rw [hrep]
 refine AW.loopT (α := Nat × List Nat) 1 (fun s => [(6, .d (.int .i64 (s.1 : Nat)))]) (fun s => [(0, ⟨3, s.2.map fun x : Nat => V.d (D.int .i64 x)⟩)]) (fun s => s.1 ≤ a.length ∧ s.2.length = n ∧ dsmall s.2 ∧ dval s.2 = dval (a.take s.1) * dval b ∧ ∀ j, s.1 + b.length ≤ j → s.2.getD j 0 = 0) (fun s => a.length - s.1) (0, List.replicate n 0) ?_ ?_ ⟨Nat.zero_le _, by simp, by intro x hx; simp [List.mem_replicate] at hx; omega, by rw [o_lk]; simp [dval], by intro j _; simp only [List.getD, List.getElem?_replicate]; split <;> rfl⟩ ?_ ?_ ?_
 ·simp
 ·simp
 ·simp
 ·simp
 rintro ⟨i, out⟩ ⟨hi, hol, hos, hov, hoz⟩
 simp only at hi hol hos hov hoz
 simp
 by_cases pa : i < a.length
 ·have hii : (i : Int) < a.length := by omega
  have ewi : IntKind.i64.wrap ((i : Int) + 1) = ((i + 1 : Nat) : Int) := by rw [w64 (by omega) (by omega)]; omega
  have g1 := ha.getD i
  have ga : a[i] = a.getD i 0 := by simp [List.getD, pa]
  have hta := o_lr a i
  have hal : ∀ j, i + max 0 b.length ≤ j → out.getD j 0 = 0 := fun j hj => hoz j (by omega)
  refine A10 (fs pa hii) ?_; try with_reducible exact tt
  refine AW.loopT (α := Nat × Nat × List Nat) 1 (fun s => [(8, .d (.int .i64 (s.1 : Nat))), (7, .d (.int .i64 (s.2.1 : Nat)))]) (fun s => [(0, ⟨3, s.2.2.map fun x : Nat => V.d (D.int .i64 x)⟩)]) (fun s => s.1 ≤ b.length + 1 ∧ s.2.1 ≤ 9999 ∧ (s.1 = b.length + 1 → s.2.1 = 0) ∧ s.2.2.length = n ∧ dsmall s.2.2 ∧ dval s.2.2 + 10000 ^ i * 10000 ^ s.1 * s.2.1 = dval out + 10000 ^ i * (a.getD i 0 * dval (b.take s.1)) ∧ ∀ j, i + max s.1 b.length ≤ j → s.2.2.getD j 0 = 0) (fun s => b.length + 1 - s.1) (0, 0, out) ?_ ?_ ⟨Nat.zero_le _, by simp, by simp, hol, hos, by simp [dval], hal⟩ ?_ ?_ ?_
  ·simp
  ·simp
  ·simp
  ·simp
  rintro ⟨k, c, o⟩ ⟨hk, hc, hck, hl, hs, hv, hz⟩
  simp only at hk hc hck hl hs hv hz
  simp
  have ewk : IntKind.i64.wrap ((k : Int) + 1) = ((k + 1 : Nat) : Int) := by rw [w64 (by omega) (by omega)]; omega
  have e99 : ∀ x : Nat, ((x : Int).tmod 10000 = ((x % 10000 : Nat) : Int)) ∧ ((x : Int).tdiv 10000 = ((x / 10000 : Nat) : Int)) := fun x => ⟨by rw [Int.tmod_eq_emod_of_nonneg (by omega)]; omega, by rw [Int.tdiv_eq_ediv_of_nonneg (by omega)]; omega⟩
  by_cases pb : k < b.length
  ·have hij : (k : Int) < b.length := by omega
   have g2 := hb.getD k
   have gb : b[k] = b.getD k 0 := by simp [List.getD, pb]
   have htb := o_lr b k
   obtain ⟨m, hm⟩ : ∃ m, m = i + k := ⟨_, rfl⟩
   have hmo : m < o.length := by omega
   have hmn : m < n := by omega
   have go := hs.getD m
   have gm : o[m] = o.getD m 0 := by simp [List.getD, hmo]
   have em : IntKind.i64.wrap ((i : Int) + k) = (m : Int) := by rw [w64 (by omega) (by omega)]; omega
   have hpm := Nat.mul_le_mul (show a.getD i 0 ≤ 9999 by omega) (show b.getD k 0 ≤ 9999 by omega)
   obtain ⟨p, hp⟩ : ∃ p, p = a.getD i 0 * b.getD k 0 := ⟨_, rfl⟩
   rw [← hp] at hpm
   have ep : IntKind.i64.wrap (((a.getD i 0 : Nat) : Int) * (b.getD k 0 : Nat)) = (p : Int) := by rw [hp, ← Int.natCast_mul]; exact w64 (by omega) (by rw [← hp]; omega)
   obtain ⟨x, hx⟩ : ∃ x, x = o.getD m 0 + c + p := ⟨_, rfl⟩
   have e1 : IntKind.i64.wrap ((o.getD m 0 : Nat) + (c : Int)) = (o.getD m 0 : Nat) + (c : Int) := w64 (by omega) (by omega)
   have e2 : IntKind.i64.wrap ((o.getD m 0 : Nat) + (c : Int) + p) = (x : Int) := by rw [w64 (by omega) (by omega)]; omega
   obtain ⟨e3, e4⟩ := e99 x
   have hds := o_n7 o m (x % 10000) hmo
   rw [show 10000 ^ m = 10000 ^ i * 10000 ^ k by rw [hm, Nat.pow_add]] at hds
   have hst := o_n9 (A := a.getD i 0) (bk := b.getD k 0) hv hds (by rw [hx, hp])
   have hset : (o.map fun x : Nat => V.d (D.int .i64 x)).set m (.d (.int .i64 (x % 10000 : Nat))) = (o.set m (x % 10000)).map fun x : Nat => V.d (D.int .i64 x) := by rw [List.map_set]
   have hs2 := hs.set m (x % 10000) (Nat.mod_lt _ (by decide))
   have hl2 : (o.set m (x % 10000)).length = n := by simpa using hl
   have hz2 : ∀ j, i + max (k + 1) b.length ≤ j → (o.set m (x % 10000)).getD j 0 = 0 := fun j hj => by rw [o_n8 (by omega)]; exact hz j (by omega)
   have hxq : x / 10000 ≤ 9999 := by omega
   have e5 : IntKind.i64.wrap ((x / 10000 : Nat) : Int) = ((x / 10000 : Nat) : Int) := w64 (by omega) (by omega)
   rw [← htb] at hst
   clear hv hz hs hal hov hoz hta e99
   generalize o.set m (x % 10000) = o2 at *
   generalize x % 10000 = r at *
   generalize x / 10000 = q at *
   generalize a.getD i 0 = ai at *
   generalize b.getD k 0 = bk at *
   generalize o.getD m 0 = om at *
   refine A10 (fs pa (fs hii (fs pb (fs hij (fs ga (fs gb (fs hmo (fs hmn (fs hl (fs gm (fs em (fs ep (fs e1 (fs e2 (fs e3 (fs e4 (fs e5 (fs ewk hset)))))))))))))))))) ?_; try with_reducible exact tt
   exact ⟨k + 1, q, o2, ⟨by omega, hxq, by omega, hl2, hs2, hst, hz2⟩, by omega, ⟨Sub1.refl _, Sub1.int (by omega)⟩, Subs.refl _⟩
  ·have hij : ¬ (k : Int) < b.length := by omega
   by_cases hc0 : 0 < c
   ·have hc0' : (0 : Int) < c := by omega
    have hkb : k = b.length := by
     rcases Nat.lt_or_ge b.length k with h | h
     ·have := hck (by omega); omega
     ·omega
    obtain ⟨m, hm⟩ : ∃ m, m = i + k := ⟨_, rfl⟩
    have hmo : m < o.length := by omega
    have hmn : m < n := by omega
    have gz : o.getD m 0 = 0 := hz m (by omega)
    have gm : o[m] = 0 := by rw [← gz]; simp [List.getD, hmo]
    have em : IntKind.i64.wrap ((i : Int) + k) = (m : Int) := by rw [w64 (by omega) (by omega)]; omega
    have e2 : IntKind.i64.wrap (c : Int) = (c : Int) := w64 (by omega) (by omega)
    have e3 : (c : Int).tmod 10000 = (c : Int) := by rw [Int.tmod_eq_emod_of_nonneg (by omega)]; omega
    have e4 : (c : Int).tdiv 10000 = 0 := by rw [Int.tdiv_eq_ediv_of_nonneg (by omega)]; omega
    have hds := o_n7 o m c hmo
    rw [gz, Nat.mul_zero, Nat.add_zero, show 10000 ^ m = 10000 ^ i * 10000 ^ k by rw [hm, Nat.pow_add]] at hds
    have hst : dval (o.set m c) + 10000 ^ i * 10000 ^ (k + 1) * 0 = dval out + 10000 ^ i * (a.getD i 0 * dval (b.take (k + 1))) := by
     rw [Nat.mul_zero, Nat.add_zero, hds, hv, List.take_of_length_le (by omega), List.take_of_length_le (by omega)]
    have hset : (o.map fun x : Nat => V.d (D.int .i64 x)).set m (.d (.int .i64 (c : Nat))) = (o.set m c).map fun x : Nat => V.d (D.int .i64 x) := by rw [List.map_set]
    have hs2 := hs.set m c (by omega)
    have hl2 : (o.set m c).length = n := by simpa using hl
    have hz2 : ∀ j, i + max (k + 1) b.length ≤ j → (o.set m c).getD j 0 = 0 := fun j hj => by rw [o_n8 (by omega)]; exact hz j (by omega)
    clear hv hz hs hal hov hoz hta e99 hds
    generalize o.set m c = o2 at *
    generalize a.getD i 0 = ai at *
    refine A10 (fs pa (fs hii (fs pb (fs hij (fs hc0 (fs hc0' (fs hmo (fs hmn (fs hl (fs gm (fs em (fs e2 (fs e3 (fs e4 (fs ewk hset))))))))))))))) ?_; try with_reducible exact tt
    exact ⟨k + 1, 0, o2, ⟨by omega, by omega, fun _ => rfl, hl2, hs2, by rw [ga]; exact hst, hz2⟩, by omega, ⟨Sub1.int (by omega), Sub1.int (by omega)⟩, Subs.refl _⟩
   ·have hc0' : ¬ (0 : Int) < c := by omega
    have hcz : c = 0 := by omega
    rw [hcz, Nat.mul_zero, Nat.add_zero, List.take_of_length_le (by omega)] at hv
    have hnv : dval o = dval (a.take (i + 1)) * dval b := by
     rw [hv, hta, hov, Nat.add_mul, Nat.mul_assoc]
    have hnz : ∀ j, i + 1 + b.length ≤ j → o.getD j 0 = 0 := fun j hj => hz j (by omega)
    clear hv hz hal hov hoz hta e99
    refine A10 (fs pa (fs hii (fs pb (fs hij (fs hc0 (fs hc0' ewi)))))) ?_; try with_reducible exact tt
    exact ⟨i + 1, o, ⟨by omega, hl, hs, hnv, hnz⟩, by omega, Sub1.int (by omega), Subs.refl _⟩
 ·have hii : ¬ (i : Int) < a.length := by omega
  have hi2 : i = a.length := by omega
  rw [hi2, List.take_length] at hov
  have ht := o_my out hos (by omega)
  rw [hov, hol] at ht
  have htk : (dsD out).take n = dsD out := List.take_of_length_le (by rw [o_mu]; omega)
  have hob : (out.map fun x : Nat => V.d (D.int .i64 x)) = (dsD out).map V.d := by simp [dsD]
  rw [hob]
  refine AW.freeze 0 1 ⟨3, (dsD out).map .d⟩ (dsD out) (by simp) rfl ?_
  simp [frzH, htk]
  refine A11 (fs pa hii) ht ?_; try with_reducible exact tt
theorem o_nb (x y : Nat) (hx : sizeD x ≤ 100000) (hy : sizeD y ≤ 100000) : Eqn Tryz.prog o_9d [.d (nD x), .d (nD y)] [] (.d (nD (x * y))) [] := by
 have := o_na (decs x) (decs y) (o_m4 x) (o_m4 y) hx hy
 rwa [o_m3, o_m3] at this
end
end Go.Proofs.YtmpjlkclkhnpfaaGreatDoor.Am
namespace Go.Proofs.YtmpjlkclkhnpfaaGreatDoor.Am
section
open Go.RowKit
theorem o_nc {n m : Nat} (h : n < 10000 ^ m) : sizeD n ≤ m := o_lp (o_m5 n) (by rw [o_m3]; exact h)
theorem o_nd {l : List Nat} {m : Nat} (h : m < l.length) : dval (l.drop m) = l.getD m 0 + 10000 * dval (l.drop (m + 1)) := by
 rw [List.drop_eq_getElem_cons h, dval]
 simp [List.getD, h]
theorem o_ne {l : List Nat} {m v : Nat} (h : m < l.length) : dval ((l.set m v).drop m) = v + 10000 * dval (l.drop (m + 1)) := by
 rw [o_nd (by simpa using h), List.drop_set_of_lt (by omega)]
 simp [List.getD, h]

set_option maxHeartbeats 2000000 in
theorem o_nf (x y N : Nat) (h0 : 0 < y) (hN : N ≤ 50000) (hx : x < 10000 ^ N) (hy : y < 10000 ^ N) : Eqn Tryz.prog o_b4 [.d (nD x), .d (nD y)] [] (.tup [.d (nD (x / y)), .d (nD (x % y))]) [] := by
 refine Eqn.pure o_b6 Plain.ok ?_
 have sx := o_nc hx
 have sy := o_nc hy
 have ha := o_m4 x
 have va := o_m3 x
 have hfin : ∀ q r, q * y + r = x → r < y → nD q = nD (x / y) ∧ nD r = nD (x % y) := by
  intro q r h1 h2
  rw [← h1, Nat.mul_comm q y, Nat.mul_add_div h0, Nat.div_eq_of_lt h2, Nat.mul_add_mod, Nat.mod_eq_of_lt h2]
  exact ⟨rfl, rfl⟩
 simp only [o_b5]
 rw [show nD x = .sl (decs x).length ((decs x).map fun x : Nat => D.int .i64 x) from rfl]
 unfold sizeD at sx
 generalize decs x = a at *
 rcases Nat.eq_zero_or_pos a.length with hz | hz
 ·have hx0 : x = 0 := by rw [← va, List.eq_nil_of_length_eq_zero hz]; rfl
  obtain ⟨f1, f2⟩ := hfin 0 0 (by rw [hx0]; simp) h0
  rw [← f1, ← f2]
  clear f1 f2 hfin
  have ha0 : a = [] := List.eq_nil_of_length_eq_zero hz
  subst ha0
  have ht := o_my [] (by simp [dsmall]) (by simp)
  have hm : IntKind.i64.wrap (-1) = -1 := by decide
  have hm2 : IntKind.i64.wrap (0 - 1) = -1 := by decide
  rw [show dval [] = 0 from rfl, show D.sl ([] : List Nat).length (dsD []) = .sl 0 [] from rfl] at ht
  rw [o_mx] at ht ⊢
  refine A10 (fs hm hm2) ?_; try with_reducible exact tt
  refine AW.rounds 1 ?_
  refine AW.freeze 0 1 ⟨3, []⟩ [] (by simp) rfl ?_
  simp [frzH]
  refine A01 ht ?_; try with_reducible exact tt
  exact Sub1.tup (Subs.cons (Sub1.refl _) (Subs.cons Sub1.nil (Subs.refl _)))
 ·have hnb : (a.length : Int) * 8 ≤ 140737488355328 := by omega
  have hnb2 : a.length ≤ 17592186044416 := by omega
  have hnz : a.length ≠ 0 := by omega
  have ew0 : IntKind.i64.wrap ((a.length : Int) - 1) = (a.length : Int) - 1 := w64 (by omega) (by omega)
  refine A10 (fs hz (fs hnb (fs hnb2 (fs hnz ew0)))) ?_; try with_reducible exact tt
  have hrep : List.replicate a.length (V.d (D.int .i64 0)) = (List.replicate a.length 0).map fun x : Nat => V.d (D.int .i64 x) := by simp
  rw [hrep]
  refine AW.loopT (α := Nat × Nat × List Nat) 1 (fun s => [(8, .d (.int .i64 ((s.1 : Int) - 1))), (7, .d (nD s.2.1))]) (fun s => [(0, ⟨3, s.2.2.map fun x : Nat => V.d (D.int .i64 x)⟩)]) (fun s => s.1 ≤ a.length ∧ s.2.1 < y ∧ s.2.2.length = a.length ∧ dsmall s.2.2 ∧ dval (s.2.2.drop s.1) * y + s.2.1 = dval (a.drop s.1)) (fun s => s.1) (a.length, 0, List.replicate a.length 0) ?_ ?_ ⟨Nat.le_refl _, h0, by simp, by intro x hx; simp [List.mem_replicate] at hx; omega, by simp [dval]⟩ ?_ ?_ ?_
  ·simp
  ·simp
  ·simp
   exact Sub1.nil
  ·simp
  rintro ⟨j, r, out⟩ ⟨hj, hr, hol, hos, hov⟩
  simp only at hj hr hol hos hov
  rcases j with _ | m
  ·rw [List.drop_zero, List.drop_zero, va] at hov
   obtain ⟨f1, f2⟩ := hfin _ _ hov hr
   rw [← f1, ← f2]
   have ht := o_my out hos (by omega)
   rw [hol] at ht
   have htk : (dsD out).take a.length = dsD out := List.take_of_length_le (by rw [o_mu]; omega)
   have hob : (out.map fun x : Nat => V.d (D.int .i64 x)) = (dsD out).map V.d := by simp [dsD]
   rw [hob]
   clear f1 f2 hfin
   simp
   refine AW.freeze 0 1 ⟨3, (dsD out).map .d⟩ (dsD out) (by simp) rfl ?_
   simp [frzH, htk]
   refine A01 ht ?_; try with_reducible exact tt
  ·have hm : m < a.length := by omega
   have hmo : m < out.length := by omega
   have ga : a[m] = a.getD m 0 := by simp [List.getD, hm]
   have gl := ha.getD m
   have hda := o_nd hm
   have ewm : IntKind.i64.wrap ((m : Int) - 1) = (m : Int) - 1 := w64 (by omega) (by omega)
   have hr2 : a.getD m 0 + 10000 * r < 10000 * y := by omega
   have hy1 : 10000 * y < 10000 ^ (N + 1) := by rw [Nat.pow_succ]; omega
   have sr := o_nc (Nat.lt_trans hr hy)
   have ht := o_my (a.getD m 0 :: decs r) (fun x hx => by
    rcases List.mem_cons.1 hx with rfl | hx
    ·exact gl
    ·exact o_m4 r x hx) (by simp; unfold sizeD at sr; omega)
   rw [show dval (a.getD m 0 :: decs r) = a.getD m 0 + 10000 * r by rw [dval, o_m3]] at ht
   simp only [List.length_cons, dsD, List.map_cons] at ht
   generalize a.getD m 0 = am at *
   obtain ⟨r2, hr2d⟩ : ∃ r2, r2 = am + 10000 * r := ⟨_, rfl⟩
   rw [← hr2d] at ht hr2
   have hr2' := hr2
   simp
   by_cases hr0 : r = 0
   ·have ht0 : decs r = [] := by rw [hr0]; rfl
    rw [ht0] at ht
    rw [show nD r = .sl 0 [] by rw [hr0]; rfl]
    refine A10 (fs hm (fs ga ewm)) ?_; try with_reducible exact tt
    refine CallS.pf 2 1 ⟨3, [.d (.int .i64 am)]⟩ [.int .i64 am] (ht) (by first | rfl | (simp; done)) (R0 ?_); try with_reducible exact tt
    refine A00 ?_; try with_reducible exact tt
    refine AW.loopT (α := Nat × Nat) 3 (fun s => [(9, .d (.int .i64 (s.1 : Nat))), (10, .d (.int .i64 (s.2 : Nat)))]) (fun s => []) (fun s => s.1 < s.2 ∧ s.2 ≤ 10000 ∧ s.1 * y ≤ r2 ∧ r2 < s.2 * y) (fun s => s.2 - s.1) (0, 10000) ?_ ?_ ⟨by decide, by decide, by omega, hr2⟩ ?_ ?_ ?_
    ·simp
    ·simp
    ·simp
    ·simp
    rintro ⟨lo, hi⟩ ⟨h1, h2, h3, h4⟩
    simp only at h1 h2 h3 h4
    simp
    by_cases hs : 1 < hi - lo
    ·obtain ⟨mid, hmid⟩ : ∃ mid, mid = (lo + hi) / 2 := ⟨_, rfl⟩
     have w1 : IntKind.i64.wrap ((hi : Int) - lo) = ((hi - lo : Nat) : Int) := by rw [w64 (by omega) (by omega)]; omega
     have w2 : IntKind.i64.wrap ((lo : Int) + hi) = ((lo + hi : Nat) : Int) := by rw [w64 (by omega) (by omega)]; omega
     have w3 : ((lo : Int) + hi).tdiv 2 = (mid : Int) := by rw [Int.tdiv_eq_ediv_of_nonneg (by omega)]; omega
     have w4 : IntKind.i64.wrap (mid : Int) = (mid : Int) := w64 (by omega) (by omega)
     have hs' : (1 : Int) < ((hi - lo : Nat) : Int) := by omega
     have c1 := o_n1 mid (by omega)
     have hym : y * mid < 10000 ^ (N + 1) := by
      refine Nat.lt_of_le_of_lt (Nat.mul_le_mul_left y (show mid ≤ 10000 by omega)) ?_
      rw [Nat.mul_comm]; exact hy1
     have c2 := o_nb y mid (by omega) (Nat.le_trans (o_nc (show mid < 10000 ^ 2 by omega)) (by omega))
     have c3 := o_n5 (y * mid) r2 (Nat.le_trans (o_nc hym) (by omega)) (Nat.le_trans (o_nc (Nat.lt_trans hr2' hy1)) (by omega))
     have d1 : lo < mid ∧ mid < hi := by omega
     clear hmid
     by_cases hle : y * mid ≤ r2
     ·have hz : ¬ 0 < cmpZ (y * mid) r2 := by unfold cmpZ; split <;> (try split) <;> omega
      have hz' : cmpZ (y * mid) r2 ≤ 0 := by omega
      generalize cmpZ (y * mid) r2 = z at *
      generalize hq : hi - lo = q at *
      refine A13 (fs w1 (fs hs (fs hs' (fs w2 (fs w3 (fs w4 (fs hz hz'))))))) c1 c2 c3 ?_; try with_reducible exact tt
      exact ⟨mid, hi, ⟨by omega, h2, by rw [Nat.mul_comm]; exact hle, h4⟩, by omega, ⟨Sub1.refl _, Sub1.refl _⟩⟩
     ·have hz : 0 < cmpZ (y * mid) r2 := by unfold cmpZ; rw [if_neg (by omega), if_pos (by omega)]; decide
      have hz' : ¬ cmpZ (y * mid) r2 ≤ 0 := by omega
      generalize cmpZ (y * mid) r2 = z at *
      generalize hq : hi - lo = q at *
      refine A13 (fs w1 (fs hs (fs hs' (fs w2 (fs w3 (fs w4 (fs hz hz'))))))) c1 c2 c3 ?_; try with_reducible exact tt
      exact ⟨lo, mid, ⟨by omega, by omega, h3, by rw [Nat.mul_comm]; omega⟩, by omega, ⟨Sub1.refl _, Sub1.refl _⟩⟩
    ·have hhi : hi = lo + 1 := by omega
     subst hhi
     have w1 : IntKind.i64.wrap (((lo + 1 : Nat) : Int) - lo) = 1 := by rw [w64 (by omega) (by omega)]; omega
     have w1' : IntKind.i64.wrap ((lo : Int) + 1 - lo) = 1 := by rw [w64 (by omega) (by omega)]; omega
     have w5 : (lo : Int) + 1 - lo = 1 := by omega
     have c1 := o_n1 lo (by omega)
     have hyl : y * lo ≤ r2 := by rw [Nat.mul_comm]; exact h3
     have hylN : y * lo < 10000 ^ (N + 1) := Nat.lt_of_le_of_lt hyl (Nat.lt_trans hr2' hy1)
     have c2 := o_nb y lo (by omega) (Nat.le_trans (o_nc (show lo < 10000 ^ 2 by omega)) (by omega))
     have c3 := o_n6 r2 (y * lo) hyl (Nat.le_trans (o_nc (Nat.lt_trans hr2' hy1)) (by omega)) (Nat.le_trans (o_nc hylN) (by omega))
     have hset : (out.map fun x : Nat => V.d (D.int .i64 x)).set m (.d (.int .i64 (lo : Nat))) = (out.set m lo).map fun x : Nat => V.d (D.int .i64 x) := by rw [List.map_set]
     have hnr : r2 - y * lo < y := by
      rw [Nat.add_mul, Nat.one_mul, Nat.mul_comm lo y] at h4
      omega
     have hnv : dval ((out.set m lo).drop m) * y + (r2 - y * lo) = dval (a.drop m) := by
      rw [o_ne hmo, hda, ← hov, hr2d, Nat.add_mul, Nat.mul_add, Nat.mul_comm lo y, Nat.mul_assoc]
      generalize dval (List.drop (m + 1) out) * y = t at *
      omega
     have hs2 := hos.set m lo (by omega)
     have hl2 : (out.set m lo).length = a.length := by simpa using hol
     have w6 : IntKind.i64.wrap 1 = 1 := by decide
     generalize y * lo = yl at *
     generalize r2 - yl = r3 at *
     generalize out.set m lo = out2 at *
     refine A13 (fs w1 (fs w1' (fs w5 (fs w6 (fs hm (fs hmo (fs hol (fs hset ewm)))))))) c1 c2 c3 ?_; try with_reducible exact tt
     exact ⟨m, r3, out2, ⟨by omega, hnr, hl2, hs2, hnv⟩, by omega, ⟨Sub1.refl _, Sub1.refl _⟩, Subs.refl _⟩
   ·have hlr : (decs r).length ≠ 0 := fun h => hr0 (o_m7.1 (List.eq_nil_of_length_eq_zero h))
    have hlp : 0 < (decs r).length := by omega
    rw [show nD r = .sl (decs r).length ((decs r).map fun x : Nat => D.int .i64 x) from rfl]
    have hsb : ((decs r).length : Int) + 1 ≤ 17592186044416 := by unfold sizeD at sr; omega
    have hrl : ((decs r).map fun x : Nat => D.int .i64 x).length = (decs r).length := by simp
    generalize (decs r).map (fun x : Nat => D.int .i64 x) = RD at *
    generalize (decs r).length = L at *
    have htk : (D.int .i64 am :: RD).take (1 + L) = .int .i64 am :: RD := List.take_of_length_le (by simp; omega)
    rw [Nat.add_comm L 1, ← htk] at ht
    refine A10 (fs hm (fs ga (fs ewm (fs hlr (fs hlp (fs hsb hrl)))))) ?_; try with_reducible exact tt
    refine CallS.pf 2 1 ⟨3, ([D.int .i64 am] ++ RD).map V.d⟩ ([D.int .i64 am] ++ RD) (ht) (by first | rfl | (simp; done)) (R0 ?_); try with_reducible exact tt
    refine A00 ?_; try with_reducible exact tt
    refine AW.loopT (α := Nat × Nat) 3 (fun s => [(9, .d (.int .i64 (s.1 : Nat))), (10, .d (.int .i64 (s.2 : Nat)))]) (fun s => []) (fun s => s.1 < s.2 ∧ s.2 ≤ 10000 ∧ s.1 * y ≤ r2 ∧ r2 < s.2 * y) (fun s => s.2 - s.1) (0, 10000) ?_ ?_ ⟨by decide, by decide, by omega, hr2⟩ ?_ ?_ ?_
    ·simp
    ·simp
    ·simp
    ·simp
    rintro ⟨lo, hi⟩ ⟨h1, h2, h3, h4⟩
    simp only at h1 h2 h3 h4
    simp
    by_cases hs : 1 < hi - lo
    ·obtain ⟨mid, hmid⟩ : ∃ mid, mid = (lo + hi) / 2 := ⟨_, rfl⟩
     have w1 : IntKind.i64.wrap ((hi : Int) - lo) = ((hi - lo : Nat) : Int) := by rw [w64 (by omega) (by omega)]; omega
     have w2 : IntKind.i64.wrap ((lo : Int) + hi) = ((lo + hi : Nat) : Int) := by rw [w64 (by omega) (by omega)]; omega
     have w3 : ((lo : Int) + hi).tdiv 2 = (mid : Int) := by rw [Int.tdiv_eq_ediv_of_nonneg (by omega)]; omega
     have w4 : IntKind.i64.wrap (mid : Int) = (mid : Int) := w64 (by omega) (by omega)
     have hs' : (1 : Int) < ((hi - lo : Nat) : Int) := by omega
     have c1 := o_n1 mid (by omega)
     have hym : y * mid < 10000 ^ (N + 1) := by
      refine Nat.lt_of_le_of_lt (Nat.mul_le_mul_left y (show mid ≤ 10000 by omega)) ?_
      rw [Nat.mul_comm]; exact hy1
     have c2 := o_nb y mid (by omega) (Nat.le_trans (o_nc (show mid < 10000 ^ 2 by omega)) (by omega))
     have c3 := o_n5 (y * mid) r2 (Nat.le_trans (o_nc hym) (by omega)) (Nat.le_trans (o_nc (Nat.lt_trans hr2' hy1)) (by omega))
     have d1 : lo < mid ∧ mid < hi := by omega
     clear hmid
     by_cases hle : y * mid ≤ r2
     ·have hz : ¬ 0 < cmpZ (y * mid) r2 := by unfold cmpZ; split <;> (try split) <;> omega
      have hz' : cmpZ (y * mid) r2 ≤ 0 := by omega
      generalize cmpZ (y * mid) r2 = z at *
      generalize hq : hi - lo = q at *
      refine A13 (fs w1 (fs hs (fs hs' (fs w2 (fs w3 (fs w4 (fs hz hz'))))))) c1 c2 c3 ?_; try with_reducible exact tt
      exact ⟨mid, hi, ⟨by omega, h2, by rw [Nat.mul_comm]; exact hle, h4⟩, by omega, ⟨Sub1.refl _, Sub1.refl _⟩⟩
     ·have hz : 0 < cmpZ (y * mid) r2 := by unfold cmpZ; rw [if_neg (by omega), if_pos (by omega)]; decide
      have hz' : ¬ cmpZ (y * mid) r2 ≤ 0 := by omega
      generalize cmpZ (y * mid) r2 = z at *
      generalize hq : hi - lo = q at *
      refine A13 (fs w1 (fs hs (fs hs' (fs w2 (fs w3 (fs w4 (fs hz hz'))))))) c1 c2 c3 ?_; try with_reducible exact tt
      exact ⟨lo, mid, ⟨by omega, by omega, h3, by rw [Nat.mul_comm]; omega⟩, by omega, ⟨Sub1.refl _, Sub1.refl _⟩⟩
    ·have hhi : hi = lo + 1 := by omega
     subst hhi
     have w1 : IntKind.i64.wrap (((lo + 1 : Nat) : Int) - lo) = 1 := by rw [w64 (by omega) (by omega)]; omega
     have w1' : IntKind.i64.wrap ((lo : Int) + 1 - lo) = 1 := by rw [w64 (by omega) (by omega)]; omega
     have w5 : (lo : Int) + 1 - lo = 1 := by omega
     have c1 := o_n1 lo (by omega)
     have hyl : y * lo ≤ r2 := by rw [Nat.mul_comm]; exact h3
     have hylN : y * lo < 10000 ^ (N + 1) := Nat.lt_of_le_of_lt hyl (Nat.lt_trans hr2' hy1)
     have c2 := o_nb y lo (by omega) (Nat.le_trans (o_nc (show lo < 10000 ^ 2 by omega)) (by omega))
     have c3 := o_n6 r2 (y * lo) hyl (Nat.le_trans (o_nc (Nat.lt_trans hr2' hy1)) (by omega)) (Nat.le_trans (o_nc hylN) (by omega))
     have hset : (out.map fun x : Nat => V.d (D.int .i64 x)).set m (.d (.int .i64 (lo : Nat))) = (out.set m lo).map fun x : Nat => V.d (D.int .i64 x) := by rw [List.map_set]
     have hnr : r2 - y * lo < y := by
      rw [Nat.add_mul, Nat.one_mul, Nat.mul_comm lo y] at h4
      omega
     have hnv : dval ((out.set m lo).drop m) * y + (r2 - y * lo) = dval (a.drop m) := by
      rw [o_ne hmo, hda, ← hov, hr2d, Nat.add_mul, Nat.mul_add, Nat.mul_comm lo y, Nat.mul_assoc]
      generalize dval (List.drop (m + 1) out) * y = t at *
      omega
     have hs2 := hos.set m lo (by omega)
     have hl2 : (out.set m lo).length = a.length := by simpa using hol
     have w6 : IntKind.i64.wrap 1 = 1 := by decide
     generalize y * lo = yl at *
     generalize r2 - yl = r3 at *
     generalize out.set m lo = out2 at *
     refine A13 (fs w1 (fs w1' (fs w5 (fs w6 (fs hm (fs hmo (fs hol (fs hset ewm)))))))) c1 c2 c3 ?_; try with_reducible exact tt
     exact ⟨m, r3, out2, ⟨by omega, hnr, hl2, hs2, hnv⟩, by omega, ⟨Sub1.refl _, Sub1.refl _⟩, Subs.refl _⟩
end
end Go.Proofs.YtmpjlkclkhnpfaaGreatDoor.Am
namespace Go.Proofs.YtmpjlkclkhnpfaaGreatDoor.Am
section
open Go.RowKit
def hP : Nat := 2305843009213693951
def hsum (a b key : Nat) : Nat := (a * key % hP + b) % hP
end
end Go.Proofs.YtmpjlkclkhnpfaaGreatDoor.Am
namespace Go.Proofs.YtmpjlkclkhnpfaaGreatDoor.Am
section
open Go.RowKit
theorem o_ng (B hi lo w : Nat) (hB : B ≤ 4294967296) (h1 : hi ≤ 4294967296) (h2 : lo ≤ 4294967296) (hw : hi * B + lo = w) : ∃ N0 N1 N2 N3 N4 N5 : D, Eqn Tryz.prog o_94 [.d (.int .i64 B)] [] (.d N3) [] ∧ Eqn Tryz.prog o_9d [.d N3, .d N3] [] (.d N1) [] ∧ Eqn Tryz.prog o_9d [.d .nilsl, .d N1] [] (.d N0) [] ∧ Eqn Tryz.prog o_94 [.d (.int .i64 hi)] [] (.d N4) [] ∧ Eqn Tryz.prog o_94 [.d (.int .i64 lo)] [] (.d N5) [] ∧ Eqn Tryz.prog o_9d [.d N4, .d N3] [] (.d N2) [] ∧ Eqn Tryz.prog o_9a [.d N2, .d N5] [] (.d (nD w)) [] ∧ Eqn Tryz.prog o_9a [.d N0, .d (nD w)] [] (.d (nD w)) [] := by
 have sz : ∀ x, x ≤ 4294967296 → sizeD x ≤ 100000 := fun x hx => Nat.le_trans (o_nc (show x < 10000 ^ 3 by omega)) (by omega)
 have bb : ∀ x y, x ≤ 4294967296 → y ≤ 4294967296 → x * y < 10000 ^ 6 := fun x y hx hy => Nat.lt_of_le_of_lt (Nat.mul_le_mul hx hy) (by decide)
 have szm : ∀ x y, x ≤ 4294967296 → y ≤ 4294967296 → sizeD (x * y) ≤ 100000 := fun x y hx hy => Nat.le_trans (o_nc (bb x y hx hy)) (by omega)
 have sw : sizeD w ≤ 100000 := Nat.le_trans (o_nc (m := 7) (by have := bb hi B h1 hB; omega)) (by omega)
 refine ⟨nD (0 * (B * B)), nD (B * B), nD (hi * B), nD B, nD hi, nD lo, o_n1 B (by omega), o_nb B B (sz B hB) (sz B hB), (o_nb 0 (B * B) (sz 0 (by omega)) (szm B B hB hB)).sub (Subs.cons Sub1.nil (Subs.refl _)), o_n1 hi (by omega), o_n1 lo (by omega), o_nb hi B (sz hi h1) (sz B hB), ?_, ?_⟩
 ·have := o_n4 (hi * B) lo (szm hi B h1 hB) (sz lo h2)
  rwa [hw] at this
 ·have := o_n4 (0 * (B * B)) w (by rw [Nat.zero_mul]; exact sz 0 (by omega)) sw
  rwa [show 0 * (B * B) + w = w by rw [Nat.zero_mul, Nat.zero_add]] at this
theorem o_nh (w : Nat) (h : w < 18446744073709551616) : Eqn Tryz.prog o_cd [.d (.sl 1 [.int .u64 w])] [] (.d (nD w)) [] := by
 refine Eqn.pure o_cf Plain.ok ?_
 obtain ⟨hi, hhi⟩ : ∃ x, x = w / 4294967296 := ⟨_, rfl⟩
 obtain ⟨lo, hlo⟩ : ∃ x, x = w % 4294967296 := ⟨_, rfl⟩
 have hw : hi * 4294967296 + lo = w := by omega
 have e1 : (w : Int).tdiv 4294967296 = (hi : Int) := by rw [Int.tdiv_eq_ediv_of_nonneg (by omega)]; omega
 have e2 : (w : Int).tmod 4294967296 = (lo : Int) := by rw [Int.tmod_eq_emod_of_nonneg (by omega)]; omega
 have e3 : IntKind.i64.wrap (hi : Int) = (hi : Int) := w64 (by omega) (by omega)
 have e4 : IntKind.i64.wrap (lo : Int) = (lo : Int) := w64 (by omega) (by omega)
 have e5 : IntKind.u64.wrap (hi : Int) = (hi : Int) := by rw [IntKind.wrap_u64]; omega
 obtain ⟨N0, N1, N2, N3, N4, N5, s0, m0, m1, s1, s2, m2, a1, a2⟩ := o_ng 4294967296 hi lo w (by omega) (by omega) (by omega) hw
 have m9 : IntKind.i64.wrap (-1) = -1 := by decide
 have m8 : IntKind.i64.wrap (0 - 1) = -1 := by decide
 clear hhi hlo hw
 generalize nD w = N6 at *
 simp only [o_ce]
 refine A02 s0 m0 ?_; try with_reducible exact tt
 refine AW.rounds 2 ?_
 refine A18 (fs e1 (fs e2 (fs e3 (fs e4 (fs e5 (fs m8 m9)))))) s1 s2 s0 m1 m2 a1 a2 a2 ?_; try with_reducible exact tt
end
end Go.Proofs.YtmpjlkclkhnpfaaGreatDoor.Am
namespace Go.Proofs.YtmpjlkclkhnpfaaGreatDoor.Am
section
open Go.RowKit
def txtZ (z : Int) : ByteArray := if z < 0 then ⟨#[45]⟩ ++ txt z.natAbs else txt z.natAbs
def txtQ (q : Rat) : ByteArray := if q.den = 1 then txtZ q.num else txtZ q.num ++ ⟨#[47]⟩ ++ txt q.den
theorem o_ni (n : Nat) : (txt n).size = ndig n := by
 unfold txt bst
 show ((decN n).map UInt8.ofNat).toArray.size = ndig n
 simp [o_gr]
theorem o_nj {n E : Nat} (h : n < 2 ^ E) (h0 : 0 < E) : (txt n).size ≤ E := by
 rw [o_ni]
 exact o_gk n E (Nat.lt_of_lt_of_le h (Nat.pow_le_pow_left (by decide) E)) h0
theorem o_nk (n : Nat) : n < 2 ^ (64 * size n) := by
 have h := o_dn (o_ej n)
 rw [o_ei] at h
 rw [Nat.pow_mul]
 exact h
theorem o_nl {n : Nat} (h : size n ≤ 1000) : (txt n).size ≤ 64000 := by
 obtain ⟨k, hk⟩ : ∃ k, k = 64000 := ⟨_, rfl⟩
 rw [← hk]
 exact o_nj (Nat.lt_of_lt_of_le (o_nk n) (Nat.pow_le_pow_right (by decide) (by omega))) (by omega)
theorem o_nm {z : Int} (h : size z.natAbs ≤ 1000) : (txtZ z).size ≤ 64001 := by
 have := o_nl h
 unfold txtZ
 split
 ·rw [ByteArray.size_append]
  show 1 + _ ≤ _
  omega
 ·omega
theorem o_nn (z : Int) (h : size z.natAbs ≤ 1000) : Eqn Tryz.prog o_7y [.d (wD z)] [] (.d (.str (txtZ z))) [] := by
 refine Eqn.pure o_80 (o_58 _) ?_
 have h1 := o_ja z.natAbs h
 have hs := o_nl h
 have e : txtZ z = if z < 0 then ⟨#[45]⟩ ++ txt z.natAbs else txt z.natAbs := rfl
 simp only [o_7z, wD]
 by_cases hz : z < 0
 ·rw [if_pos hz] at e
  rw [e]
  have hd : decide (z < 0) = true := by simp [hz]
  have hl : (⟨#[45]⟩ : ByteArray).size = 1 := rfl
  rw [hd]
  generalize txt z.natAbs = S at *
  generalize natW z.natAbs = N at *
  refine A11 hl h1 ?_; try with_reducible exact tt
 ·rw [if_neg hz] at e
  rw [e]
  have hd : decide (z < 0) = false := by simp; omega
  rw [hd]
  generalize txt z.natAbs = S at *
  generalize natW z.natAbs = N at *
  refine A01 h1 ?_; try with_reducible exact tt
theorem o_no (q : Rat) (h : RS q 1000) : Eqn Tryz.prog o_6s [.d (rD q)] [] (.d (.str (txtQ q))) [] := by
 refine Eqn.pure o_6u (o_58 _) ?_
 have hwh : Eqn Tryz.prog o_7v [.d (rD q)] [] (.d (.bool (q.den - 1 == 0))) [] := by
  refine Eqn.pure o_7x Plain.ok ?_
  have hz := o_et (q.den - 1)
  simp only [o_7w, rD]
  generalize (q.den - 1 == 0) = b at *
  generalize natW (q.den - 1) = N at *
  refine A01 hz ?_; try with_reducible exact tt
 have hpos := q.den_pos
 have h1 := o_nn q.num h.1
 have h2 := o_l0 q (by have := h.2; omega)
 have h3 := o_ja q.den h.2
 have s1 := o_nm h.1
 have s2 := o_nl h.2
 have e : txtQ q = if q.den = 1 then txtZ q.num else txtZ q.num ++ ⟨#[47]⟩ ++ txt q.den := rfl
 simp only [o_6t, rD, wD] at *
 by_cases hd : q.den = 1
 ·rw [if_pos hd] at e
  rw [e]
  rw [show (q.den - 1 == 0) = true by simp; omega] at hwh
  generalize txtZ q.num = S at *
  generalize natW (q.den - 1) = N2 at *
  generalize natW q.num.natAbs = N at *
  generalize decide (q.num < 0) = b at *
  refine A02 hwh h1 ?_; try with_reducible exact tt
 ·rw [if_neg hd] at e
  rw [e]
  rw [show (q.den - 1 == 0) = false by simp; omega] at hwh
  generalize txtZ q.num = S at *
  generalize txt q.den = S2 at *
  generalize natW q.den = N3 at *
  generalize natW (q.den - 1) = N2 at *
  generalize natW q.num.natAbs = N at *
  generalize decide (q.num < 0) = b at *
  have hl : (⟨#[47]⟩ : ByteArray).size = 1 := rfl
  refine A14 hl hwh h1 h2 h3 ?_; try with_reducible exact tt
end
end Go.Proofs.YtmpjlkclkhnpfaaGreatDoor.Am
namespace Go.Proofs.YtmpjlkclkhnpfaaGreatDoor.Am
section
open Go.RowKit
theorem o_np {x E : Nat} (h : x < 2 ^ E) : x < 10000 ^ E := Nat.lt_of_lt_of_le h (Nat.pow_le_pow_left (by decide) E)
theorem sizeB {x E m : Nat} (h : x < 2 ^ E) (hm : E ≤ 13 * m) : sizeD x ≤ m := by
 refine o_nc (Nat.lt_of_lt_of_le h (Nat.le_trans (Nat.pow_le_pow_right (by decide) hm) ?_))
 rw [Nat.pow_mul]
 exact Nat.pow_le_pow_left (by decide) m
theorem o_nq {x y E F : Nat} (hx : x < 2 ^ E) (hy : y < 2 ^ F) : x * y < 2 ^ (E + F) := by
 rw [Nat.pow_add]
 exact Nat.mul_lt_mul'' hx hy
theorem o_nr {x E F : Nat} (hx : x < 2 ^ E) (h : E ≤ F) : x < 2 ^ F := Nat.lt_of_lt_of_le hx (Nat.pow_le_pow_right (by decide) h)
set_option maxHeartbeats 1000000 in
theorem o_ns (x y E : Nat) (hE : E ≤ 50000) (hx : x < 2 ^ E) (hy : y < 2 ^ E) : Eqn Tryz.prog o_b1 [.d (nD x), .d (nD y)] [] (.d (nD (Nat.gcd x y))) [] := by
 refine Eqn.pure o_b3 Plain.ok ?_
 obtain ⟨g, hg⟩ : ∃ g, g = Nat.gcd x y := ⟨_, rfl⟩
 rw [← hg]
 simp only [o_b2]
 refine A00 ?_; try with_reducible exact tt
 refine AW.loopT (α := Nat × Nat) 0 (fun s => [(0, .d (nD s.1)), (1, .d (nD s.2))]) (fun _ => []) (fun s => s.1 < 2 ^ E ∧ s.2 < 2 ^ E ∧ Nat.gcd s.1 s.2 = g) (fun s => s.2) (x, y) ?_ ?_ ⟨hx, hy, hg.symm⟩ ?_ ?_ ?_
 ·simp
 ·simp
 ·simp
 ·simp
 rintro ⟨a, b⟩ ⟨ha, hb, hgab⟩
 simp only at ha hb hgab
 simp
 by_cases hb0 : b = 0
 ·subst hb0
  rw [Nat.gcd_zero_right] at hgab
  subst hgab
  rw [o_mx]
  generalize qA : nD a = A at *
  obtain ⟨nA, lA, rfl⟩ : ∃ n l, A = D.sl n l := ⟨_, _, qA.symm⟩
  clear qA
  refine A00 ?_; try with_reducible exact tt
 ·have hdiv := o_nf a b E (by omega) hE (o_np ha) (o_np hb)
  have hm : a % b < b := Nat.mod_lt _ (by omega)
  have hgr : Nat.gcd b (a % b) = g := by rw [← hgab, Nat.gcd_comm a b, Nat.gcd_rec b a, Nat.gcd_comm]
  have hsz : sizeD b ≠ 0 := fun h => hb0 (o_m7.1 (List.eq_nil_of_length_eq_zero h))
  have hsz2 : 0 < sizeD b := by omega
  have hsz3 : (0 : Int) < sizeD b := by omega
  generalize a % b = r at *
  generalize a / b = q at *
  simp only [nD] at hdiv ⊢
  refine A11 (fs hsz2 hsz3) hdiv ?_; try with_reducible exact tt
  exact ⟨b, r, ⟨hb, Nat.lt_trans hm hb, hgr⟩, hm, ⟨Sub1.refl _, Sub1.refl _⟩⟩
def zW (p m : Nat) : D := .agg [nD p, nD m]
theorem o_nt (p m E : Nat) (hE : E ≤ 200000) (h1 : p < 2 ^ E) (h2 : m < 2 ^ E) : Eqn Tryz.prog o_ba [.d (zW p m)] [] (.d (.bool (decide (p < m)))) [] := by
 refine Eqn.pure o_bc Plain.ok ?_
 have a1 := o_n5 p m (sizeB h1 (by omega)) (sizeB h2 (by omega))
 simp only [o_bb, zW]
 have hz : decide (cmpZ p m < 0) = decide (p < m) := by unfold cmpZ; split <;> (try split) <;> simp <;> omega
 rw [← hz]
 generalize cmpZ p m = z at *
 generalize qD3 : nD p = D3 at *
 obtain ⟨nD3, lD3, rfl⟩ : ∃ n l, D3 = D.sl n l := ⟨_, _, qD3.symm⟩
 clear qD3
 generalize qD4 : nD m = D4 at *
 obtain ⟨nD4, lD4, rfl⟩ : ∃ n l, D4 = D.sl n l := ⟨_, _, qD4.symm⟩
 clear qD4
 refine A01 a1 ?_; try with_reducible exact tt
theorem o_nu (p m E : Nat) (hE : E ≤ 200000) (h1 : p < 2 ^ E) (h2 : m < 2 ^ E) : Eqn Tryz.prog o_ay [.d (zW p m)] [] (.d (nD ((p : Int) - m).natAbs)) [] := by
 refine Eqn.pure o_b0 Plain.ok ?_
 have a1 := o_n5 p m (sizeB h1 (by omega)) (sizeB h2 (by omega))
 simp only [o_az, zW]
 rcases Nat.lt_or_ge p m with h | h
 ·have a2 := o_n6 m p (by omega) (sizeB h2 (by omega)) (sizeB h1 (by omega))
  rw [show ((p : Int) - m).natAbs = m - p by omega]
  have hz : ¬ 0 ≤ cmpZ p m := by unfold cmpZ; rw [if_pos h]; decide
  have hz' : cmpZ p m < 0 := by omega
  generalize cmpZ p m = z at *
  generalize qD1 : nD (m - p) = D1 at *
  obtain ⟨nD1, lD1, rfl⟩ : ∃ n l, D1 = D.sl n l := ⟨_, _, qD1.symm⟩
  clear qD1
  generalize qD3 : nD p = D3 at *
  obtain ⟨nD3, lD3, rfl⟩ : ∃ n l, D3 = D.sl n l := ⟨_, _, qD3.symm⟩
  clear qD3
  generalize qD4 : nD m = D4 at *
  obtain ⟨nD4, lD4, rfl⟩ : ∃ n l, D4 = D.sl n l := ⟨_, _, qD4.symm⟩
  clear qD4
  refine A12 (fs hz hz') a1 a2 ?_; try with_reducible exact tt
 ·have a2 := o_n6 p m h (sizeB h1 (by omega)) (sizeB h2 (by omega))
  rw [show ((p : Int) - m).natAbs = p - m by omega]
  have hz : 0 ≤ cmpZ p m := by unfold cmpZ; rw [if_neg (by omega)]; split <;> decide
  have hz' : ¬ cmpZ p m < 0 := by omega
  generalize cmpZ p m = z at *
  generalize qD1 : nD (p - m) = D1 at *
  obtain ⟨nD1, lD1, rfl⟩ : ∃ n l, D1 = D.sl n l := ⟨_, _, qD1.symm⟩
  clear qD1
  generalize qD3 : nD p = D3 at *
  obtain ⟨nD3, lD3, rfl⟩ : ∃ n l, D3 = D.sl n l := ⟨_, _, qD3.symm⟩
  clear qD3
  generalize qD4 : nD m = D4 at *
  obtain ⟨nD4, lD4, rfl⟩ : ∃ n l, D4 = D.sl n l := ⟨_, _, qD4.symm⟩
  clear qD4
  refine A12 (fs hz hz') a1 a2 ?_; try with_reducible exact tt
theorem o_nv (n : Nat) (h : n < 9223372036854775808) : Eqn Tryz.prog o_bj [.d (.int .i64 n)] [] (.d (zW n 0)) [] := by
 refine Eqn.pure o_bl Plain.ok ?_
 have h1 := o_nh n (by omega)
 have e1 : IntKind.u64.wrap (n : Int) = n := by rw [IntKind.wrap_u64]; omega
 have e2 : (0 : Int) ≤ n := by omega
 have e3 : ¬ (n : Int) < 0 := by omega
 simp only [o_bk, zW]
 rw [o_mx]
 generalize qN : nD n = N at *
 obtain ⟨nN, lN, rfl⟩ : ∃ n l, N = D.sl n l := ⟨_, _, qN.symm⟩
 clear qN
 refine A10 (fs e1 (fs e2 e3)) ?_; try with_reducible exact tt
 refine CallS.pf 1 1 ⟨194, [.d (.int .u64 n)]⟩ [.int .u64 n] (h1) (by first | rfl | (simp [e1, e2, e3]; done)) (R1 (fs e1 (fs e2 e3)) ?_); try with_reducible exact tt
 exact Sub1.aggd (Subs.cons (Sub1.refl _) (Subs.cons Sub1.nil (Subs.refl _)))
end
end Go.Proofs.YtmpjlkclkhnpfaaGreatDoor.Am
namespace Go.Proofs.YtmpjlkclkhnpfaaGreatDoor.Am
section
open Go.RowKit
@[simp] theorem o_nw : intsV [] = some [] := rfl
@[simp] theorem o_nx (n : Int) : intsV [.d (.int .u8 n)] = some [n] := rfl
theorem o_ny (n : Nat) : ∀ i, i ≤ sizeD n → dval ((decs n).take i) = n % 10000 ^ i := by
 intro i hi
 have h1 := o_lj ((decs n).take i) ((decs n).drop i)
 rw [List.take_append_drop, o_m3, List.length_take, Nat.min_eq_left (show i ≤ (decs n).length from hi)] at h1
 have h2 := o_m0 (o_m4 n) i
 generalize dval ((decs n).take i) = T at *
 generalize dval ((decs n).drop i) = R at *
 rw [h1, Nat.add_mul_mod_self_left, Nat.mod_eq_of_lt h2]
theorem o_nz (n i : Nat) (hi : i < sizeD n) : (decs n).getD i 0 = n / 10000 ^ i % 10000 := by
 have h1 := o_lr (decs n) i
 rw [o_ny n (i + 1) hi, o_ny n i (by omega), Nat.pow_succ, Nat.mod_mul] at h1
 have hp : 0 < 10000 ^ i := Nat.pow_pos (by decide)
 have h2 : 10000 ^ i * (n / 10000 ^ i % 10000) = 10000 ^ i * (decs n).getD i 0 := by omega
 exact (Nat.eq_of_mul_eq_mul_left hp h2).symm
theorem o_o0 (n : Nat) : n < 10000 ^ sizeD n := by
 have := o_ll (o_m4 n)
 rwa [o_m3] at this
theorem o_o1 (n i : Nat) (hi : i < sizeD n) : 0 < n / 10000 ^ i := by
 rcases Nat.eq_zero_or_pos (n / 10000 ^ i) with h | h
 ·have hp : 0 < 10000 ^ i := Nat.pow_pos (by decide)
  have h1 : n < 10000 ^ i := (Nat.div_eq_zero_iff_lt hp).1 h
  have h2 := o_lp (ws := decs n) (m := i) (o_m5 n) (by rw [o_m3]; exact h1)
  unfold sizeD at hi
  omega
 ·exact h
theorem pow4 (i : Nat) : 10000 ^ i = 10 ^ (4 * i) := by rw [Nat.pow_mul]
def dN (n i : Nat) : List Nat := if i < sizeD n then padN (4 * i) n else decN n
def qD (w k : Nat) : Nat := w / 10 ^ k
theorem o_o2 (w k : Nat) : qD w (k + 1) = qD w k / 10 := by rw [qD, qD, Nat.div_div_eq_div_mul, Nat.pow_succ]
theorem o_o3 (w k : Nat) : padN (k + 1) w = (48 + qD w k % 10) :: padN k w := by
 rw [Nat.add_comm, o_gb]; rfl
theorem o_o4 (c : Nat) (l : List Nat) : bst [c] ++ bst l = bst (c :: l) := o_go [c] l
theorem o_o5 (c : Nat) : strOf [(c : Int)] = bst [c] := rfl
set_option maxHeartbeats 2000000 in
theorem o_o6 (n : Nat) (hn : sizeD n ≤ 10000) : Eqn Tryz.prog o_b7 [.d (nD n)] [] (.d (.str (txt n))) [] := by
 refine Eqn.pure o_b9 Plain.ok ?_
 simp only [o_b8, nD]
 by_cases h0 : n = 0
 ·subst h0
  have e : sizeD 0 = 0 := rfl
  rw [e, o_j5]
  refine A00 ?_; try with_reducible exact tt
 have hL : 0 < sizeD n := by
  rcases Nat.eq_zero_or_pos (sizeD n) with h | h
  ·exact absurd (o_m7.1 (List.eq_nil_of_length_eq_zero h)) h0
  ·exact h
 have hL' : ¬ (sizeD n : Int) = 0 := by omega
 have hL2 : ¬ sizeD n = 0 := by omega
 have hdl : (dsD (decs n)).length = sizeD n := o_mu _
 have hget := fun i h => o_nz n i h
 have hgd := fun i => o_mv (decs n) i
 obtain ⟨DS, hDS⟩ : ∃ DS, DS = dsD (decs n) := ⟨_, rfl⟩
 rw [← hDS] at hdl hgd ⊢
 refine A10 (fs hL' hL2) ?_; try with_reducible exact tt
 refine AW.loopT (α := Nat) 0 (fun i => [(3, .d (.str (bst (dN n i)))), (4, .d (.int .i64 (i : Nat)))]) (fun i => []) (fun i => i ≤ sizeD n) (fun i => sizeD n - i) 0 ?_ ?_ (Nat.zero_le _) ?_ ?_ ?_
 ·simp
 ·simp
 ·simp [dN, hL, padN, o_gq]
 ·simp
 intro i hi
 simp
 by_cases hin : i < sizeD n
 ·have hin' : (i : Int) < sizeD n := by omega
  have hge := o_o1 n i hin
  have hgi := hget i hin
  have hgdi := hgd i (by unfold sizeD at hin; exact hin)
  rw [hgi] at hgdi
  obtain ⟨w, hw⟩ : ∃ w, w = n / 10000 ^ i % 10000 := ⟨_, rfl⟩
  rw [← hw] at hgdi
  have hw4 : w < 10000 := by rw [hw]; exact Nat.mod_lt _ (by decide)
  have hd0 : dN n i = padN (4 * i) n := if_pos hin
  have hlen : (padN (4 * i) n).length = 4 * i := o_ga _ _
  obtain ⟨K, hK4, hKc, hKe⟩ : ∃ K, K ≤ 4 ∧ (∀ k, k ≤ K → (k < K ↔ (k < 4 ∧ (i < sizeD n - 1 ∨ 0 < qD w k)))) ∧ padN K w ++ padN (4 * i) n = dN n (i + 1) := by
   by_cases hlast : i < sizeD n - 1
   ·refine ⟨4, Nat.le_refl _, fun k hk => by simp [hlast], ?_⟩
    rw [dN, if_pos (by omega), show 4 * (i + 1) = 4 + 4 * i by omega, o_gb, ← pow4, hw, show (10000 : Nat) = 10 ^ 4 from rfl, o_gg]
   ·have hi1 : i + 1 = sizeD n := by omega
    have hwv : w = n / 10000 ^ i := by
     rw [hw, Nat.mod_eq_of_lt]
     have := o_o0 n
     rw [← hi1, Nat.pow_succ] at this
     exact Nat.div_lt_of_lt_mul this
    refine ⟨ndig w, o_gk w 4 hw4 (by decide), fun k hk => ?_, ?_⟩
    ·have h4 := o_gk w 4 hw4 (by decide)
     constructor
     ·intro hlt
      refine ⟨by omega, .inr ?_⟩
      rcases Nat.eq_zero_or_pos (qD w k) with h | h
      ·have h5 : w < 10 ^ k := (Nat.div_eq_zero_iff_lt (Nat.pow_pos (by decide))).1 h
       rcases Nat.eq_zero_or_pos k with rfl | hk0
       ·simp at h5; omega
       ·have := o_gk w k h5 hk0; omega
      ·exact h
     ·rintro ⟨-, h | h⟩
      ·exact absurd h hlast
      ·have := o_gl k w h
       have := o_gi (w / 10 ^ k)
       omega
    ·rw [dN, if_neg (by omega), o_gm (4 * i) n (by rw [← pow4]; exact hge), hwv, ← pow4]
     rfl
  rw [hd0]
  obtain ⟨P0, hP0⟩ : ∃ P, P = padN (4 * i) n := ⟨_, rfl⟩
  rw [← hP0] at hKe hlen ⊢
  have hgd2 : ∀ h, DS[i]'h = .int .i64 (w : Nat) := fun h => by
   rw [List.getElem?_eq_getElem h] at hgdi
   exact Option.some.inj hgdi
  have hi48 : i < DS.length := by omega
  clear hDS hgd hget hgi hgdi hge hd0
  refine A10 (fs hin (fs hin' (fs hgd2 hi48))) ?_; try with_reducible exact tt
  refine AW.loopT (α := Nat) 0 (fun k => [(3, .d (.str (bst (padN k w ++ P0)))), (5, .d (.int .i64 (qD w k : Nat))), (6, .d (.int .i64 (k : Nat)))]) (fun k => []) (fun k => k ≤ K) (fun k => K - k) 0 ?_ ?_ (Nat.zero_le _) ?_ ?_ ?_
  ·simp
  ·simp
  ·simp [padN, qD]
  ·simp
  intro k hk
  simp
  have xel : IntKind.i64.wrap ((sizeD n : Int) - 1) = ((sizeD n - 1 : Nat) : Int) := by rw [w64 (by omega) (by omega)]; omega
  have hkc := hKc k hk
  have hqle : qD w k ≤ w := Nat.div_le_self _ _
  obtain ⟨q, hq⟩ : ∃ q, q = qD w k := ⟨_, rfl⟩
  rw [← hq] at hkc hqle ⊢
  generalize hL1 : sizeD n - 1 = L1 at *
  by_cases hk4 : k < 4
  ·have hk4' : (k : Int) < 4 := by omega
   by_cases hla : i < L1
   ·have hla' : (i : Int) < L1 := by omega
    have hkK : k < K := hkc.2 ⟨hk4, .inl hla⟩
    have xek : IntKind.i64.wrap ((k : Int) + 1) = ((k + 1 : Nat) : Int) := by rw [w64 (by omega) (by omega)]; omega
    obtain ⟨r, hr⟩ : ∃ r, r = q % 10 := ⟨_, rfl⟩
    have xm10 : (q : Int).tmod 10 = r := by rw [hr]; exact modN q 10
    have r10 : r < 10 := by rw [hr]; exact Nat.mod_lt _ (by decide)
    obtain ⟨c, hc⟩ : ∃ c, c = 48 + r := ⟨_, rfl⟩
    have xa48 : IntKind.i64.wrap (48 + (r : Int)) = c := by rw [w64 (by omega) (by omega)]; omega
    have xu8c : IntKind.u8.wrap (c : Int) = c := by rw [IntKind.wrap_u8]; omega
    obtain ⟨q1, hq1⟩ : ∃ q1, q1 = q / 10 := ⟨_, rfl⟩
    have xdq : IntKind.i64.wrap ((q : Int) / 10) = q1 := by rw [hq1, w64 (by omega) (by omega)]; omega
    have xsO := o_o5 c
    obtain ⟨X, hX⟩ : ∃ X, X = padN k w ++ P0 := ⟨_, rfl⟩
    have hXl : X.length ≤ 50000 := by rw [hX, List.length_append, o_ga, hlen]; omega
    have xbc := o_o4 c X
    have hst : padN (k + 1) w ++ P0 = c :: X := by rw [o_o3, hX, hc, hr, hq]; rfl
    have hq' : qD w (k + 1) = q1 := by rw [o_o2, ← hq, hq1]
    rw [← hX]
    clear hr hc hq1 hX hKc hKe
    refine A10 (fs hk4 (fs hk4' (fs hla (fs hla' (fs xel (fs xek (fs xm10 (fs xa48 (fs xu8c (fs xdq (fs xsO xbc))))))))))) ?_; try with_reducible exact tt
    exact ⟨k + 1, by omega, by omega, Sub1.of (by rw [hst]), Sub1.int (by rw [hq']), Sub1.int (by omega)⟩
   ·have hla' : ¬ (i : Int) < L1 := by omega
    by_cases hq0 : 0 < q
    ·have hq0' : (0 : Int) < q := by omega
     have hkK : k < K := hkc.2 ⟨hk4, .inr hq0⟩
     have xek : IntKind.i64.wrap ((k : Int) + 1) = ((k + 1 : Nat) : Int) := by rw [w64 (by omega) (by omega)]; omega
     obtain ⟨r, hr⟩ : ∃ r, r = q % 10 := ⟨_, rfl⟩
     have xm10 : (q : Int).tmod 10 = r := by rw [hr]; exact modN q 10
     have r10 : r < 10 := by rw [hr]; exact Nat.mod_lt _ (by decide)
     obtain ⟨c, hc⟩ : ∃ c, c = 48 + r := ⟨_, rfl⟩
     have xa48 : IntKind.i64.wrap (48 + (r : Int)) = c := by rw [w64 (by omega) (by omega)]; omega
     have xu8c : IntKind.u8.wrap (c : Int) = c := by rw [IntKind.wrap_u8]; omega
     obtain ⟨q1, hq1⟩ : ∃ q1, q1 = q / 10 := ⟨_, rfl⟩
     have xdq : IntKind.i64.wrap ((q : Int) / 10) = q1 := by rw [hq1, w64 (by omega) (by omega)]; omega
     have xsO := o_o5 c
     obtain ⟨X, hX⟩ : ∃ X, X = padN k w ++ P0 := ⟨_, rfl⟩
     have hXl : X.length ≤ 50000 := by rw [hX, List.length_append, o_ga, hlen]; omega
     have xbc := o_o4 c X
     have hst : padN (k + 1) w ++ P0 = c :: X := by rw [o_o3, hX, hc, hr, hq]; rfl
     have hq' : qD w (k + 1) = q1 := by rw [o_o2, ← hq, hq1]
     rw [← hX]
     clear hr hc hq1 hX hKc hKe
     refine A10 (fs hk4 (fs hk4' (fs hla (fs hla' (fs hq0 (fs hq0' (fs xel (fs xek (fs xm10 (fs xa48 (fs xu8c (fs xdq (fs xsO xbc))))))))))))) ?_; try with_reducible exact tt
     exact ⟨k + 1, by omega, by omega, Sub1.of (by rw [hst]), Sub1.int (by rw [hq']), Sub1.int (by omega)⟩
    ·have hq0' : ¬ (0 : Int) < q := by omega
     have hkK : k = K := by
      rcases Nat.lt_or_ge k K with h | h
      ·have := (hKc k hk).1 h; omega
      ·omega
     subst hkK
     rw [hKe]
     have xei : IntKind.i64.wrap ((i : Int) + 1) = ((i + 1 : Nat) : Int) := by rw [w64 (by omega) (by omega)]; omega
     refine A10 (fs hk4 (fs hk4' (fs hla (fs hla' (fs hq0 (fs hq0' (fs xel xei))))))) ?_; try with_reducible exact tt
     exact ⟨i + 1, by omega, by omega, Sub1.refl _, Sub1.int (by omega)⟩
  ·have hk4' : ¬ (k : Int) < 4 := by omega
   have hkK : k = K := by
    rcases Nat.lt_or_ge k K with h | h
    ·have := (hKc k hk).1 h; omega
    ·omega
   subst hkK
   rw [hKe]
   have xei : IntKind.i64.wrap ((i : Int) + 1) = ((i + 1 : Nat) : Int) := by rw [w64 (by omega) (by omega)]; omega
   refine A10 (fs hk4 (fs hk4' (fs xel xei))) ?_; try with_reducible exact tt
   exact ⟨i + 1, by omega, by omega, Sub1.refl _, Sub1.int (by omega)⟩
 ·have h2 : i = sizeD n := by omega
  subst h2
  have hd : dN n (sizeD n) = decN n := if_neg (by omega)
  rw [hd]
  refine A00 ?_; try with_reducible exact tt
  exact Sub1.of rfl
end
end Go.Proofs.YtmpjlkclkhnpfaaGreatDoor.Am
namespace Go.Proofs.YtmpjlkclkhnpfaaGreatDoor.Am
section
open Go.RowKit
def qD3 (p m d : Nat) : D := .agg [nD p, nD m, nD d]
def qval (p m d : Nat) : Rat := mkRat ((p : Int) - m) d
theorem o_o7 (n : Nat) (h : n < 9223372036854775808) : Eqn Tryz.prog o_97 [.d (.int .i64 n)] [] (.d (qD3 n 0 1)) [] := by
 refine Eqn.pure o_99 Plain.ok ?_
 have a1 := o_nv n h
 have a2 := o_n1 1 (by decide)
 simp only [o_98, qD3, zW] at a1 ⊢
 generalize qD1 : nD n = D1 at *
 obtain ⟨nD1, lD1, rfl⟩ : ∃ n l, D1 = D.sl n l := ⟨_, _, qD1.symm⟩
 clear qD1
 generalize qD2 : nD 0 = D2 at *
 obtain ⟨nD2, lD2, rfl⟩ : ∃ n l, D2 = D.sl n l := ⟨_, _, qD2.symm⟩
 clear qD2
 generalize qD3 : nD 1 = D3 at *
 obtain ⟨nD3, lD3, rfl⟩ : ∃ n l, D3 = D.sl n l := ⟨_, _, qD3.symm⟩
 clear qD3
 refine A02 a1 a2 ?_; try with_reducible exact tt
theorem o_o8 (p m d : Nat) : Eqn Tryz.prog o_bg [.d (zW p m), .d (nD d)] [] (.d (qD3 p m d)) [] := by
 refine Eqn.pure o_bi Plain.ok ?_
 simp only [o_bh, qD3, zW]
 generalize qD1 : nD p = D1 at *
 obtain ⟨nD1, lD1, rfl⟩ : ∃ n l, D1 = D.sl n l := ⟨_, _, qD1.symm⟩
 clear qD1
 generalize qD2 : nD m = D2 at *
 obtain ⟨nD2, lD2, rfl⟩ : ∃ n l, D2 = D.sl n l := ⟨_, _, qD2.symm⟩
 clear qD2
 generalize qD3 : nD d = D3 at *
 obtain ⟨nD3, lD3, rfl⟩ : ∃ n l, D3 = D.sl n l := ⟨_, _, qD3.symm⟩
 clear qD3
 refine A00 ?_; try with_reducible exact tt
theorem o_o9 (n : Nat) : qval n 0 1 = (n : Rat) := by
 unfold qval
 rw [Int.natCast_zero, Int.sub_zero]
 exact Rat.mkRat_one n
theorem o_oa (p m d E : Nat) (hE : E ≤ 50000) (h1 : p < 2 ^ E) (h2 : m < 2 ^ E) (h3 : d < 2 ^ E) (h0 : 0 < d) : Eqn Tryz.prog o_8v [.d (qD3 p m d)] [] (.d (.str (txtQ (qval p m d)))) [] := by
 refine Eqn.pure o_8x (o_58 _) ?_
 obtain ⟨q1, q2, q3⟩ := o_kk ((p : Int) - m) d h0
 obtain ⟨z, hz⟩ : ∃ z, z = ((p : Int) - m).natAbs := ⟨_, rfl⟩
 have hzb : z < 2 ^ E := by rw [hz]; omega
 have a1 := o_nu p m E (by omega) h1 h2
 rw [← hz] at a1 q1 q2
 have a2 := o_ns z d E (by omega) hzb h3
 have hg0 : 0 < Nat.gcd z d := Nat.gcd_pos_of_pos_right _ h0
 have hgb : Nat.gcd z d < 2 ^ E := Nat.lt_of_le_of_lt (Nat.gcd_le_right _ h0) h3
 have a3 := o_nf z (Nat.gcd z d) E hg0 (by omega) (o_np hzb) (o_np hgb)
 have a4 := o_nf d (Nat.gcd z d) E hg0 (by omega) (o_np h3) (o_np hgb)
 have b1 : z / Nat.gcd z d < 2 ^ E := Nat.lt_of_le_of_lt (Nat.div_le_self _ _) hzb
 have b2 : d / Nat.gcd z d < 2 ^ E := Nat.lt_of_le_of_lt (Nat.div_le_self _ _) h3
 have hE0 : 0 < E := by
  rcases Nat.eq_zero_or_pos E with h | h
  ·subst h; simp at h3; omega
  ·exact h
 have a5 := o_o6 (z / Nat.gcd z d) (sizeB b1 (by omega))
 have a6 := o_nt p m E (by omega) h1 h2
 have a7 := o_n5 (d / Nat.gcd z d) 1 (sizeB b2 (by omega)) (by decide)
 have a8 := o_o6 (d / Nat.gcd z d) (sizeB b2 (by omega))
 have a9 := o_n1 1 (by decide)
 have s1 := o_nj b1 hE0
 have hl5 : (⟨#[45]⟩ : ByteArray).size = 1 := rfl
 have hl7 : (⟨#[47]⟩ : ByteArray).size = 1 := rfl
 have s2 := o_nj b2 hE0
 have hneg : decide (p < m) = decide ((qval p m d).num < 0) := by
  rw [decide_eq_decide]
  unfold qval
  rw [q3]; omega
 rw [hneg] at a6
 have e : txtQ (qval p m d) = if (qval p m d).den = 1 then txtZ (qval p m d).num else txtZ (qval p m d).num ++ ⟨#[47]⟩ ++ txt (qval p m d).den := rfl
 have e2 : txtZ (qval p m d).num = if (qval p m d).num < 0 then ⟨#[45]⟩ ++ txt (qval p m d).num.natAbs else txt (qval p m d).num.natAbs := rfl
 rw [show (qval p m d).num.natAbs = z / Nat.gcd z d from q1] at e2
 rw [show (qval p m d).den = d / Nat.gcd z d from q2] at e
 rw [e2] at e
 generalize (qval p m d).num = Q at *
 generalize txtQ (qval p m d) = T at *
 clear q1 q2 q3 hz hzb hg0 hgb e2 hneg b1 b2 h1 h2 h3
 simp only [o_8w, qD3, zW] at a1 a6 ⊢
 generalize z % Nat.gcd z d = r1 at *
 generalize d % Nat.gcd z d = r2 at *
 generalize z / Nat.gcd z d = A at *
 generalize d / Nat.gcd z d = B at *
 generalize Nat.gcd z d = G at *
 generalize qD4 : nD z = D4 at *
 obtain ⟨nD4, lD4, rfl⟩ : ∃ n l, D4 = D.sl n l := ⟨_, _, qD4.symm⟩
 clear qD4
 generalize qD1 : nD p = D1 at *
 obtain ⟨nD1, lD1, rfl⟩ : ∃ n l, D1 = D.sl n l := ⟨_, _, qD1.symm⟩
 clear qD1
 generalize qD2 : nD m = D2 at *
 obtain ⟨nD2, lD2, rfl⟩ : ∃ n l, D2 = D.sl n l := ⟨_, _, qD2.symm⟩
 clear qD2
 generalize qD3 : nD d = D3 at *
 obtain ⟨nD3, lD3, rfl⟩ : ∃ n l, D3 = D.sl n l := ⟨_, _, qD3.symm⟩
 clear qD3
 generalize qD5 : nD G = D5 at *
 obtain ⟨nD5, lD5, rfl⟩ : ∃ n l, D5 = D.sl n l := ⟨_, _, qD5.symm⟩
 clear qD5
 generalize qD6 : nD A = D6 at *
 obtain ⟨nD6, lD6, rfl⟩ : ∃ n l, D6 = D.sl n l := ⟨_, _, qD6.symm⟩
 clear qD6
 generalize qD7 : nD B = D7 at *
 obtain ⟨nD7, lD7, rfl⟩ : ∃ n l, D7 = D.sl n l := ⟨_, _, qD7.symm⟩
 clear qD7
 generalize qD8 : nD r1 = D8 at *
 obtain ⟨nD8, lD8, rfl⟩ : ∃ n l, D8 = D.sl n l := ⟨_, _, qD8.symm⟩
 clear qD8
 generalize qD9 : nD r2 = D9 at *
 obtain ⟨nD9, lD9, rfl⟩ : ∃ n l, D9 = D.sl n l := ⟨_, _, qD9.symm⟩
 clear qD9
 generalize qD0 : nD 1 = D0 at *
 obtain ⟨nD0, lD0, rfl⟩ : ∃ n l, D0 = D.sl n l := ⟨_, _, qD0.symm⟩
 clear qD0
 by_cases hB : B = 1
 ·rw [if_pos hB] at e
  have hc : cmpZ B 1 = 0 := by subst hB; rfl
  rw [hc] at a7
  clear hc
  generalize txt A = S1 at *
  generalize txt B = S2 at *
  by_cases hQ : Q < 0
  ·rw [if_pos hQ] at e
   subst e
   rw [show decide (Q < 0) = true by simp [hQ]] at a6
   refine A110 (fs hl5 hl7) a1 a2 a3 a4 a5 a6 a7 a8 a9 a9 ?_; try with_reducible exact tt
  ·rw [if_neg hQ] at e
   subst e
   rw [show decide (Q < 0) = false by simp; omega] at a6
   refine A110 (fs hl5 hl7) a1 a2 a3 a4 a5 a6 a7 a8 a9 a9 ?_; try with_reducible exact tt
 ·rw [if_neg hB] at e
  have hc : ¬ cmpZ B 1 = 0 := by unfold cmpZ; split <;> (try split) <;> omega
  generalize cmpZ B 1 = y at *
  generalize txt A = S1 at *
  generalize txt B = S2 at *
  by_cases hQ : Q < 0
  ·rw [if_pos hQ] at e
   subst e
   rw [show decide (Q < 0) = true by simp [hQ]] at a6
   refine A110 (fs hl5 (fs hl7 hc)) a1 a2 a3 a4 a5 a6 a7 a8 a9 a9 ?_; try with_reducible exact tt
  ·rw [if_neg hQ] at e
   subst e
   rw [show decide (Q < 0) = false by simp; omega] at a6
   refine A110 (fs hl5 (fs hl7 hc)) a1 a2 a3 a4 a5 a6 a7 a8 a9 a9 ?_; try with_reducible exact tt
theorem o_ob (x : Rat) (p m d E : Nat) (hx : x = qval p m d) (hs : RS x 1000) (hE : E ≤ 50000) (h1 : p < 2 ^ E) (h2 : m < 2 ^ E) (h3 : d < 2 ^ E) (h0 : 0 < d) : Eqn Tryz.prog o_77 [.d (rD x), .d (qD3 p m d)] [] (.d (.bool true)) [] := by
 refine Eqn.pure o_79 Plain.ok ?_
 have a1 := o_no x hs
 have a2 := o_oa p m d E hE h1 h2 h3 h0
 rw [← hx] at a2
 simp only [o_78, rD, qD3] at a1 a2 ⊢
 generalize txtQ x = S at *
 generalize natW x.num.natAbs = N1 at *
 generalize natW (x.den - 1) = N2 at *
 generalize decide (x.num < 0) = b at *
 generalize qD1 : nD p = D1 at *
 obtain ⟨nD1, lD1, rfl⟩ : ∃ n l, D1 = D.sl n l := ⟨_, _, qD1.symm⟩
 clear qD1
 generalize qD2 : nD m = D2 at *
 obtain ⟨nD2, lD2, rfl⟩ : ∃ n l, D2 = D.sl n l := ⟨_, _, qD2.symm⟩
 clear qD2
 generalize qD3 : nD d = D3 at *
 obtain ⟨nD3, lD3, rfl⟩ : ∃ n l, D3 = D.sl n l := ⟨_, _, qD3.symm⟩
 clear qD3
 refine A02 a1 a2 ?_; try with_reducible exact tt
end
end Go.Proofs.YtmpjlkclkhnpfaaGreatDoor.Am
namespace Go.Proofs.YtmpjlkclkhnpfaaGreatDoor.Am
section
section
variable {α β : Type} {f : α → List β} {n : Nat}
theorem o_oc (hf : ∀ x, (f x).length = n) : ∀ (l : List α) (i : Nat), (l.flatMap f).drop (i * n) = (l.drop i).flatMap f
 | l, 0 => by simp
 | [], i + 1 => by simp
 | x :: l, i + 1 => by
  rw [List.flatMap_cons, List.drop_succ_cons, ← o_oc hf l i]
  have h := hf x
  rw [List.drop_append, List.drop_of_length_le (by rw [h, Nat.add_mul]; omega), h, Nat.add_mul]
  simp
theorem o_od (hf : ∀ x, (f x).length = n) (l : List α) (i : Nat) (h : i < l.length) : ((l.flatMap f).drop (i * n)).take n = f l[i] := by
 rw [o_oc hf, List.drop_eq_getElem_cons h, List.flatMap_cons]
 conv => lhs; arg 1; rw [← hf l[i]]
 simp
end
end
end Go.Proofs.YtmpjlkclkhnpfaaGreatDoor.Am
namespace Go.Proofs.YtmpjlkclkhnpfaaGreatDoor.Am
section
open Go.RowKit
end
end Go.Proofs.YtmpjlkclkhnpfaaGreatDoor.Am
namespace Go.Proofs.YtmpjlkclkhnpfaaGreatDoor.Am
section
open Go.RowKit
end
end Go.Proofs.YtmpjlkclkhnpfaaGreatDoor.Am
namespace Go.Proofs.YtmpjlkclkhnpfaaGreatDoor.Am
section
open Go.RowKit
def valM (a k : Nat) : Rat := (a : Rat) * ((mkRat ((a + 1 : Nat) : Int) a) ^ k - ((1 : Nat) : Rat))

theorem o_oe {a : Nat} (ha : 1 ≤ a) : (mkRat ((a + 1 : Nat) : Int) a).num = ((a + 1 : Nat) : Int) ∧ (mkRat ((a + 1 : Nat) : Int) a).den = a := by
 obtain ⟨p1, p2, p3⟩ := o_kk ((a + 1 : Nat) : Int) a (by omega)
 rw [Int.natAbs_natCast] at p1 p2
 have hg : Nat.gcd (a + 1) a = 1 := by
  rw [Nat.gcd_comm, Nat.gcd_rec, show (a + 1) % a = 1 % a by rw [Nat.add_mod_left], ← Nat.gcd_rec, Nat.gcd_one_right]
 rw [hg, Nat.div_one] at p1 p2
 refine ⟨?_, p2⟩
 have : ¬ (mkRat ((a + 1 : Nat) : Int) a).num < 0 := fun h => by have := p3.1 h; omega
 omega

theorem o_of {x n : Nat} (h : bitsN x * n ≤ 8192) : size (x ^ n) ≤ 129 := by
 refine o_im (n := bitsN x * n + 1) ?_ (by omega)
 rw [Nat.pow_succ]
 have h3 : x ^ n ≤ (2 ^ bitsN x) ^ n := Nat.pow_le_pow_left (Nat.le_of_lt (o_gu x)) n
 rw [← Nat.pow_mul] at h3
 have := Nat.two_pow_pos (bitsN x * n)
 omega

theorem o_og (a k : Nat) (h1 : 1 ≤ a) (h2 : a ≤ 4096) (hk : k ≤ 1023) (hb : bitsN (a + 1) * k ≤ 8192) : Eqn Tryz.prog o_6j [.d (.int .i64 a), .d (.int .i64 k)] [] (.tup [.d (rD (valM a k)), .d (.int .i64 0)]) [] ∧ RS (valM a k) 300 := by
 obtain ⟨q1, q2⟩ := o_oe h1
 have hmk := o_li (a + 1) a (by omega) (by omega) (by omega)
 obtain ⟨x, hx⟩ : ∃ x, x = mkRat ((a + 1 : Nat) : Int) a := ⟨_, rfl⟩
 have hv : valM a k = (a : Rat) * (x ^ k - ((1 : Nat) : Rat)) := by rw [hx]; rfl
 rw [← hx] at q1 q2 hmk
 have hba : bitsN a ≤ bitsN (a + 1) := o_gv (Nat.lt_trans (Nat.lt_succ_self a) (o_gu _))
 have hb2 : bitsN a * k ≤ 8192 := Nat.le_trans (Nat.mul_le_mul_right _ hba) hb
 have le8 : ∀ q : Nat, q * k ≤ 8192 → q ≤ 1 ∨ k ≤ 8192 / q := fun q h => by
  by_cases h1 : q ≤ 1
  ·exact .inl h1
  ·right; rw [Nat.le_div_iff_mul_le (by omega), Nat.mul_comm]; exact h
 have hxs : RS x 129 := ⟨by rw [q1, Int.natAbs_natCast]; exact Nat.le_trans (o_fr (by omega)) (by omega), by rw [q2]; exact Nat.le_trans (o_fr (by omega)) (by omega)⟩
 have hpow := o_lg x k (by omega) (by omega) (by rw [q1, Int.natAbs_natCast]; exact le8 _ hb) (by rw [q2]; exact le8 _ hb2) hxs (by rw [q1, Int.natAbs_natCast]; exact Nat.le_trans (o_of hb) (by omega)) (by rw [q2]; exact Nat.le_trans (o_of hb2) (by omega))
 have hps : RS (x ^ k) 129 := ⟨by rw [Rat.num_pow, Int.natAbs_pow, q1, Int.natAbs_natCast]; exact o_of hb, by rw [Rat.den_pow, q2]; exact o_of hb2⟩
 have h1s : RS ((1 : Nat) : Rat) 1 := ⟨by rw [Rat.num_natCast]; exact o_fr (by omega), by rw [Rat.den_natCast]; exact o_fr (by omega)⟩
 have has : RS (a : Rat) 1 := ⟨by rw [Rat.num_natCast, Int.natAbs_natCast]; exact o_fr (by omega), by rw [Rat.den_natCast]; exact o_fr (by omega)⟩
 have hsub := o_l4 (x ^ k) ((1 : Nat) : Rat) (hps.le (by omega)) (h1s.le (by omega))
 have hss := RS.sub hps h1s
 have hmul := o_l2 (a : Rat) (x ^ k - ((1 : Nat) : Rat)) (has.le (by omega)) (hss.le (by omega))
 refine ⟨?_, by rw [hv]; exact (RS.mul has hss).le (by omega)⟩
 have hoa := o_lh a (by omega)
 have ho1 := o_lh 1 (by omega)
 have hw := o_ld a k
 rw [show wrongM (a : Int) [(k : Int)] = 0 by unfold wrongM; rw [if_pos (by omega), if_pos (by simp [okK]; omega)]] at hw
 have e1 : IntKind.i64.wrap ((a : Int) + 1) = ((a + 1 : Nat) : Int) := by rw [w64 (by omega) (by omega)]; omega
 refine Eqn.pure o_6l Plain.ok ?_
 rw [hv]
 clear hv hxs hps h1s has hss q1 q2 hx
 generalize x ^ k - ((1 : Nat) : Rat) = xd at *
 generalize x ^ k = xk at *
 generalize (a : Rat) * xd = v at *
 generalize (a : Rat) = aq at *
 generalize ((1 : Nat) : Rat) = oq at *
 generalize ha1 : a + 1 = a' at *
 simp only [o_6k, rD] at hmk hpow hsub hmul hoa ho1 ⊢
 refine G0 ?_; try with_reducible exact tt
 refine CallS.pf 1 1 ⟨3, _⟩ [.int .i64 k] (hw) (by first | rfl | (simp [e1]; done)) (R1 e1 ?_); try with_reducible exact tt
 refine AW.cond rfl (fun h => ?_) (fun h => ?_)
 ·simp at h
 refine G1 e1 ?_; try with_reducible exact tt
 refine CallS.pu (hmk) (R0 ?_); try with_reducible exact tt
 refine CallS.pu (hpow) (R0 ?_); try with_reducible exact tt
 refine AW.cond rfl (fun h => ?_) (fun h => ?_)
 ·simp at h
 refine G0 ?_; try with_reducible exact tt
 refine CallS.pu (hoa) (R0 ?_); try with_reducible exact tt
 refine CallS.pu (ho1) (R0 ?_); try with_reducible exact tt
 refine CallS.pu (hsub) (R0 ?_); try with_reducible exact tt
 refine CallS.pu (hmul) (R0 ?_); try with_reducible exact tt
end
end Go.Proofs.YtmpjlkclkhnpfaaGreatDoor.Am
namespace Go.Proofs.YtmpjlkclkhnpfaaGreatDoor.Am
section
open Go.RowKit
def chM (a k : Nat) : Rat := mkRat (a : Int) (a + 1) ^ k
theorem o_oh {a : Nat} : (mkRat (a : Int) (a + 1)).num = (a : Int) ∧ (mkRat (a : Int) (a + 1)).den = a + 1 := by
 obtain ⟨p1, p2, p3⟩ := o_kk (a : Int) (a + 1) (by omega)
 rw [Int.natAbs_natCast] at p1 p2
 have hg : Nat.gcd a (a + 1) = 1 := by
  rcases Nat.eq_zero_or_pos a with rfl | h
  ·rfl
  ·rw [Nat.gcd_rec, show (a + 1) % a = 1 % a by rw [Nat.add_mod_left], ← Nat.gcd_rec, Nat.gcd_one_right]
 rw [hg, Nat.div_one] at p1 p2
 refine ⟨?_, p2⟩
 have : ¬ (mkRat (a : Int) (a + 1)).num < 0 := fun h => by have := p3.1 h; omega
 omega
theorem o_oi {a : Nat} (ha : 1 ≤ a) : (a : Rat) * mkRat ((a + 1 : Nat) : Int) a = (a : Rat) + 1 := by
 have h0 : (a : Rat) ≠ 0 := by
  intro h
  have := Rat.natCast_eq_zero_iff.1 h
  omega
 rw [Rat.mkRat_eq_div]
 have : (((a + 1 : Nat) : Int) : Rat) = (a : Rat) + 1 := by push_cast; rfl
 rw [this]
 have e : ((a : Int) : Rat) = (a : Rat) := rfl
 grind
theorem o_oj {a : Nat} (ha : 1 ≤ a) (k : Nat) : valM a (k + 1) - valM a k = mkRat ((a + 1 : Nat) : Int) a ^ k := by
 have h := o_oi ha
 unfold valM
 rw [Rat.pow_succ]
 generalize mkRat ((a + 1 : Nat) : Int) a = r at *
 generalize r ^ k = y at *
 grind
theorem o_ok (x : Rat) : cmpQ x x = 0 := by unfold cmpQ; rw [if_neg Rat.lt_irrefl, if_neg Rat.lt_irrefl]
end
end Go.Proofs.YtmpjlkclkhnpfaaGreatDoor.Am

namespace Go.Proofs.YtmpjlkclkhnpfaaGreatDoor.Am
section
open Go.RowKit
theorem o_ol (a k : Nat) (h1 : 1 ≤ a) (h2 : a ≤ 4096) (hk : k ≤ 1023) (hb : bitsN (a + 1) * k ≤ 8192) : Eqn Tryz.prog o_6g [.d (.int .i64 a), .d (.int .i64 k)] [] (.tup [.d (rD (chM a k)), .d (.int .i64 0)]) [] ∧ RS (chM a k) 300 := by
 obtain ⟨q1, q2⟩ := o_oh (a := a)
 have hmk := o_li a (a + 1) (by omega) (by omega) (by omega)
 obtain ⟨x, hx⟩ : ∃ x, x = mkRat (a : Int) (a + 1) := ⟨_, rfl⟩
 have hv : chM a k = x ^ k := by rw [hx]; rfl
 rw [← hx] at q1 q2 hmk
 have hba : bitsN a ≤ bitsN (a + 1) := o_gv (Nat.lt_trans (Nat.lt_succ_self a) (o_gu _))
 have hb2 : bitsN a * k ≤ 8192 := Nat.le_trans (Nat.mul_le_mul_right _ hba) hb
 have le8 : ∀ q : Nat, q * k ≤ 8192 → q ≤ 1 ∨ k ≤ 8192 / q := fun q h => by
  by_cases h1 : q ≤ 1
  ·exact .inl h1
  ·right; rw [Nat.le_div_iff_mul_le (by omega), Nat.mul_comm]; exact h
 have hxs : RS x 129 := ⟨by rw [q1, Int.natAbs_natCast]; exact Nat.le_trans (o_fr (by omega)) (by omega), by rw [q2]; exact Nat.le_trans (o_fr (by omega)) (by omega)⟩
 have hpow := o_lg x k (by omega) (by omega) (by rw [q1, Int.natAbs_natCast]; exact le8 _ hb2) (by rw [q2]; exact le8 _ hb) hxs (by rw [q1, Int.natAbs_natCast]; exact Nat.le_trans (o_of hb2) (by omega)) (by rw [q2]; exact Nat.le_trans (o_of hb) (by omega))
 have hps : RS (x ^ k) 129 := ⟨by rw [Rat.num_pow, Int.natAbs_pow, q1, Int.natAbs_natCast]; exact o_of hb2, by rw [Rat.den_pow, q2]; exact o_of hb⟩
 refine ⟨?_, by rw [hv]; exact hps.le (by omega)⟩
 have hw := o_ld a k
 rw [show wrongM (a : Int) [(k : Int)] = 0 by unfold wrongM; rw [if_pos (by omega), if_pos (by simp [okK]; omega)]] at hw
 have e1 : IntKind.i64.wrap ((a : Int) + 1) = ((a + 1 : Nat) : Int) := by rw [w64 (by omega) (by omega)]; omega
 refine Eqn.pure o_6i Plain.ok ?_
 rw [hv]
 clear hv hxs hps q1 q2 hx
 generalize x ^ k = xk at *
 generalize ha1 : a + 1 = a' at *
 simp only [o_6h, rD] at hmk hpow ⊢
 refine G0 ?_; try with_reducible exact tt
 refine CallS.pf 1 1 ⟨3, _⟩ [.int .i64 k] (hw) (by first | rfl | (simp [e1]; done)) (R1 e1 ?_); try with_reducible exact tt
 refine AW.cond rfl (fun h => ?_) (fun h => ?_)
 ·simp at h
 refine G1 e1 ?_; try with_reducible exact tt
 refine CallS.pu (hmk) (R0 ?_); try with_reducible exact tt
 refine CallS.pu (hpow) (R0 ?_); try with_reducible exact tt
theorem o_om (n : Nat) (h : n < 100) : Eqn Tryz.prog o_6s [.d (rD ((n : Nat) : Rat))] [] (.d (.str (smallS n))) [] := by
 refine Eqn.pure o_6u Plain.ok ?_
 have h1 := o_g8 n h
 have hz := o_et 0
 have e : rD ((n : Nat) : Rat) = .agg [natW n, .bool false, natW 0] := by
  unfold rD
  rw [Rat.num_natCast, Rat.den_natCast, Int.natAbs_natCast]
  congr 4
 rw [e]
 simp only [o_6t]
 have hwh : Eqn Tryz.prog o_7v [.d (.agg [natW n, .bool false, natW 0])] [] (.d (.bool true)) [] := by
  refine Eqn.pure o_7x Plain.ok ?_
  simp only [o_7w]
  refine A01 hz ?_; try with_reducible exact tt
 refine A02 hwh h1 ?_; try with_reducible exact tt
theorem o_on : Eqn Tryz.prog o_6d [] [] (.d (.bool true)) [] := by
 refine Eqn.pure o_6f Plain.ok ?_
 have h1 := (o_og 1 3 (by omega) (by omega) (by omega) (by decide)).1
 have h2 := (o_ol 1 2 (by omega) (by omega) (by omega) (by decide)).1
 have e1 : valM 1 3 = ((7 : Nat) : Rat) := by unfold valM; decide +kernel
 have e2 : rD (chM 1 2) = .agg [natW 1, .bool false, natW 3] := by
  have : chM 1 2 = mkRat 1 4 := by unfold chM; decide +kernel
  rw [this]
  obtain ⟨e3, e4⟩ : (mkRat 1 4).num = 1 ∧ (mkRat 1 4).den = 4 := by decide +kernel
  unfold rD
  rw [e3, e4]
  rfl
 have t1 := o_om 7 (by omega)
 have t2 := o_g9 1 3 (by omega) (by omega) (by omega)
 have hg := o_lb 1
 have hs1 : (smallS 7).toList = [55] := by kernel_rfl
 have hs2 : (smallS 1 ++ ⟨#[47]⟩ ++ smallS (3 + 1)).toList = [49, 47, 52] := by kernel_rfl
 rw [e1] at h1
 rw [e2] at h2
 generalize ((7 : Nat) : Rat) = q7 at *
 simp only [rD] at h1 t1
 generalize natW 1 = N1 at *
 generalize natW 3 = N3 at *
 generalize smallS 1 ++ ⟨#[47]⟩ ++ smallS (3 + 1) = s2 at *
 generalize smallS 7 = s1 at *
 simp only [o_6e]
 refine A16 (fs hs1 hs2) h1 h2 t1 t2 hg hg ?_; try with_reducible exact tt
end
end Go.Proofs.YtmpjlkclkhnpfaaGreatDoor.Am
namespace Go.Proofs.YtmpjlkclkhnpfaaGreatDoor.Am
section
open Go.RowKit
theorem o_oo (x n : Nat) (hn : n ≤ 100000) (hx : ∀ i, i ≤ n → sizeD (x ^ i) ≤ 100000) (hx1 : sizeD x ≤ 100000) : Eqn Tryz.prog o_91 [.d (nD x), .d (.int .i64 n)] [] (.d (nD (x ^ n))) [] := by
 refine Eqn.pure o_93 Plain.ok ?_
 simp only [o_92]
 have h1 := o_n1 1 (by decide)
 refine A01 h1 ?_; try with_reducible exact tt
 refine AW.loopT (α := Nat) 0 (fun i => [(5, .d (nD (x ^ i))), (6, .d (.int .i64 (i : Nat)))]) (fun i => []) (fun i => i ≤ n) (fun i => n - i) 0 ?_ ?_ (Nat.zero_le _) ?_ ?_ ?_
 ·simp
 ·simp
 ·simp
 ·simp
 intro i hi
 simp
 by_cases hin : i < n
 ·have hin' : (i : Int) < n := by omega
  have hm := o_nb (x ^ i) x (hx i hi) hx1
  rw [← Nat.pow_succ] at hm
  have xei : IntKind.i64.wrap ((i : Int) + 1) = ((i + 1 : Nat) : Int) := by rw [w64 (by omega) (by omega)]; omega
  obtain ⟨Y, hY⟩ : ∃ Y, Y = x ^ (i + 1) := ⟨_, rfl⟩
  rw [← hY] at hm
  generalize x ^ i = Y0 at *
  refine A11 (fs hin (fs hin' xei)) hm ?_; try with_reducible exact tt
  exact ⟨i + 1, by omega, by omega, Sub1.of (by rw [hY]), Sub1.int (by omega)⟩
 ·have : i = n := by omega
  subst this
  refine A00 ?_; try with_reducible exact tt
end
end Go.Proofs.YtmpjlkclkhnpfaaGreatDoor.Am
namespace Go.Proofs.YtmpjlkclkhnpfaaGreatDoor.Am
section
open Go.RowKit

theorem o_op {P : Program} {f : FuncId} {c : C} {rs : List RV} {nt : Nat} (hf : fnOf P f = some (c, rs, nt, false)) (vs : Array Value) (w : World) : (callFunc f vs).run P w = .ok (.enter f vs) w := by
 unfold fnOf at hf
 split at hf
 ·rename_i fn hfn
  split at hf
  ·rename_i b hb
   simp only [Option.some.injEq, Prod.mk.injEq] at hf
   obtain ⟨h1, h2, h3, h4⟩ := hf
   have h1 : ¬ fn.name = "runtime.NumGoroutine" := by simpa using h4
   simp [callFunc, hfn, h1, hb]
  ·cases hf
 ·cases hf

abbrev memW (W : World) : Mem := ⟨fun _ => none, fun b => b < W.heap.size, W⟩

theorem o_oq {P : Program} {f : FuncId} {args : List V} {c : C} {rs : List RV} {nt : Nat} (hf : fnOf P f = some (c, rs, nt, false)) (E : Eqn P f args [] (.d (.bool true)) []) {W : World} {vs : List Value} (h : V.reps (memW W) args vs) (ht : Tabs (memW W)) :
  Calls P f vs.toArray W (fun e W' => e = .returned (.bool true) ∧ Same W W') := by
 rcases E.run (memW W) vs ⟨fun b h => h, fun n b h => (by cases h), ht⟩ h (by simp) (fun n i b h => by simp at h) (fun _ _ => rfl) with ⟨v, h1, _⟩ | ⟨_, h2⟩
 ·rw [o_op hf] at h1; cases h1
 ·refine h2.mono ?_
  rintro e w' ⟨v, m', rfl, rfl, hE⟩
  have hv := hE.rep
  rw [V.rep_d] at hv
  unfold D.rep at hv
  subst hv
  exact ⟨rfl, hE.le.os, hE.le.tape, hE.le.output, hE.le.size, fun k hk _ => hE.le.imm k hk⟩

theorem reps_of {I : Nat → Prop} {w : World} {α : Type} (f : α → D) (g : α → Value) (h : ∀ a, D.rep I w (f a) (g a)) : ∀ l : List α, D.reps I w (l.map f) (l.map g)
 | [] => by simp
 | a :: l => by
  rw [List.map_cons, List.map_cons, D.reps_cons]
  exact ⟨h a, reps_of f g h l⟩
end
end Go.Proofs.YtmpjlkclkhnpfaaGreatDoor.Am
namespace Go.Proofs.YtmpjlkclkhnpfaaGreatDoor.Am
section
open Go.RowKit
theorem o_or {W : World} {g0 : Nat} {zs : List Int} (ht : ∀ g l, tab g = some l → g = g0 ∧ l = zs.map fun z : Int => D.int .u64 z) (hlt : g0 < W.heap.size) (hc : ∀ (i : Nat) u, (zs.map (Value.int .u64))[i]? = some u → W.cell? ⟨g0, i, none⟩ = some u) : Tabs (memW W) := by
 intro g l hg
 obtain ⟨rfl, rfl⟩ := ht g l hg
 unfold D.rep
 refine ⟨g, 0, rfl, hlt, zs.map (Value.int .u64), fun u hu => ?_, reps_of (fun z : Int => D.int .u64 z) (Value.int .u64) (fun _ => by unfold D.rep; rfl) zs, fun i u hu => ?_⟩
 ·obtain ⟨z, -, rfl⟩ := List.mem_map.1 hu
  rfl
 ·rw [Nat.zero_add]; exact hc i u hu
end
end Go.Proofs.YtmpjlkclkhnpfaaGreatDoor.Am
namespace Go.Proofs.YtmpjlkclkhnpfaaGreatDoor.Am
section
open Go.RowKit

theorem tabsIn {W : World} {g0 : Nat} {zs : List Int} (ht : ∀ g l, tab g = some l → g = g0 ∧ l = zs.map fun z : Int => D.int .u64 z) (hlt : g0 < W.heap.size) (hc : ∀ (i : Nat) u, (zs.map (Value.int .u64))[i]? = some u → W.cell? ⟨g0, i, none⟩ = some u) : Tabs (memW W) := o_or ht hlt hc
theorem tabAll : ∀ g l, tab g = some l → g = 2 ∧ l = ([1, 10, 100, 1000, 10000, 100000, 1000000, 10000000, 100000000, 1000000000, 10000000000, 100000000000, 1000000000000, 10000000000000, 100000000000000, 1000000000000000, 10000000000000000, 100000000000000000, 1000000000000000000, 10000000000000000000] : List Int).map fun z : Int => D.int .u64 z := by
 intro g l h
 unfold tab at h
 split at h
 ·cases h
  exact ⟨‹_›, rfl⟩
 ·cases h
end
end Go.Proofs.YtmpjlkclkhnpfaaGreatDoor.Am
namespace Go.Proofs.YtmpjlkclkhnpfaaGreatDoor.Am
section
open Go.RowKit
@[simp] theorem o_os (l : List D) : V.toDs (l.map .d) = some l := by induction l <;> simp_all [V.toDs]
abbrev St := Nat × Nat × Bool
def stD (s : St) : List D := [.int .i64 s.1, .int .i64 s.2.1, .bool s.2.2]
@[simp] theorem o_ot (s : St) : (stD s).length = 3 := rfl
theorem o_ou (s t : St) : eqKs [0, 0, 1] (stD s) (stD t) = some (decide (s = t)) := by
 obtain ⟨a, b, c⟩ := s
 obtain ⟨a', b', c'⟩ := t
 unfold stD eqKs
 simp only [eqK, if_true, eqKs]
 simp only [Option.some.injEq, Bool.and_true]
 rw [Bool.eq_iff_iff]
 simp only [Bool.and_eq_true, beq_iff_eq, decide_eq_true_eq, Prod.mk.injEq]
 constructor
 ·rintro ⟨h1, h2, h3⟩; exact ⟨by omega, by omega, h3⟩
 ·rintro ⟨h1, h2, h3⟩; exact ⟨by omega, by omega, h3⟩

abbrev Sp := List (St × Rat)
section
variable (rc : Rat → List D) (hrc : ∀ q, (rc q).length = 3)
def spD (l : Sp) : List D := l.flatMap fun p => stD p.1 ++ rc p.2
def idxQ (s : St) : Sp → Option Nat
 | [] => none
 | p :: l => if s = p.1 then some 0 else (idxQ s l).map (· + 1)
def getQ (l : Sp) (s : St) : Rat := match l with
 | [] => 0
 | p :: r => if s = p.1 then p.2 else getQ r s
def setQ (l : Sp) (s : St) (q : Rat) : Sp := match l with
 | [] => [(s, q)]
 | p :: r => if s = p.1 then (s, q) :: r else p :: setQ r s q
def lookD (z : List D) (s : St) : Sp → D
 | [] => .agg z
 | p :: r => if s = p.1 then .agg (rc p.2) else lookD z s r
end
end
end Go.Proofs.YtmpjlkclkhnpfaaGreatDoor.Am
namespace Go.Proofs.YtmpjlkclkhnpfaaGreatDoor.Am
section
open Go.RowKit
def addQ (l : Sp) (s : St) (x : Rat) : Sp := setQ l s (getQ l s + x)
def exQ (g : St → Rat) : Sp → Rat
 | [] => 0
 | p :: l => p.2 * g p.1 + exQ g l
def Uq (l : Sp) : Prop := (l.map (·.1)).Nodup
def ltS (s t : St) : Bool := decide (s.1 < t.1) || (decide (s.1 = t.1) && (decide (s.2.1 < t.2.1) || (decide (s.2.1 = t.2.1) && (!s.2.2 && t.2.2))))
def leP (p q : St × Rat) : Bool := !(ltS q.1 p.1)
def nzQ (l : Sp) : Sp := l.filter fun p => decide (p.2 ≠ 0)
def atQ (l : Sp) : Sp := (nzQ l).mergeSort leP
def innQ (q : Rat) (out l : Sp) : Sp := l.foldl (fun o b => addQ o b.1 (q * b.2)) out
def timesQ (next : St → Sp) (l : Sp) : Sp := (atQ l).foldl (fun out a => innQ a.2 out (atQ (next a.1))) []
def eitQ (x : Rat) (s o : St) : Sp := addQ (addQ [] s x) o (1 - x)
def stepQ (top : Nat) (c : Nat → Rat) (s : St) : Sp := if s.1 = top then [((s.1, s.2.1, true), 1)] else eitQ (c s.1) (s.1 + 1, s.2) s
def ofQ (next : St → Sp) (s : St) : Nat → Sp
 | 0 => [(s, 1)]
 | n + 1 => timesQ next (ofQ next s n)
def okQ (top : Nat) (s : St) : Prop := s.1 ≤ top ∧ s.2.1 = 0 ∧ (s.2.2 = true → s.1 = top)
def oklQ (top : Nat) (l : Sp) : Prop := ∀ p ∈ l, okQ top p.1 ∧ 0 ≤ p.2
end
end Go.Proofs.YtmpjlkclkhnpfaaGreatDoor.Am
namespace Go.Proofs.YtmpjlkclkhnpfaaGreatDoor.Am
section
open Go.RowKit
@[simp] theorem o_ov (θ : Nat → Nat) (l : List D) : V.rens θ (l.map V.d) = l.map V.d := o_5v θ l
@[simp] theorem o_ow (n : Nat) (l : List D) : V.lowl n (l.map V.d) = true := o_5w n l
def rcD (q : Rat) : List D := [natW q.num.natAbs, .bool (decide (q.num < 0)), natW (q.den - 1)]
theorem o_ox (q : Rat) : rD q = .agg (rcD q) := rfl
def zR : List D := [.nilsl, .bool false, .nilsl]
def spO (l : Sp) : Ob := ⟨1000391, (spD rcD l).map .d⟩
end
end Go.Proofs.YtmpjlkclkhnpfaaGreatDoor.Am
namespace Go.Proofs.YtmpjlkclkhnpfaaGreatDoor.Am
section
open Go.RowKit
theorem rof1 : Eqn Tryz.prog o_6y [.d (.int .i64 1)] [] (.d (rD 1)) [] := by
 have := o_lh 1 (by omega)
 simpa using this
@[simp] theorem o_oy (ks : List Nat) (vw : Nat) (kl dv : List D) : mset ks vw kl dv [] = some (kl ++ dv) := by simp [mset, mfind]
theorem o_oz (s : St) : Eqn Tryz.prog o_9g [.d (.agg (stD s))] [] (.mp 0) [spO [(s, 1)]] := by
 refine Eqn.gen [1] o_9i (by simp) (by simp) (by rfl) (by decide) (by simp) (by simp [spO]) ?_
 have ho := rof1
 simp only [o_9h, spO, o_ox, stD, rcD, spD, List.flatMap_cons, List.flatMap_nil] at ho ⊢
 simp
 refine A00 ?_; try with_reducible exact tt
 refine CallS.pu (ho) (R0 ?_); try with_reducible exact tt

def chP (k a x : Nat) : Rat := if k = 1 then chM a x else mkRat 1 (2 ^ expOf k a x)
end
end Go.Proofs.YtmpjlkclkhnpfaaGreatDoor.Am
namespace Go.Proofs.YtmpjlkclkhnpfaaGreatDoor.Am
section
open Go.RowKit
def cmpG (x y : Int) : Int := if x < y then -1 else if y < x then 1 else 0
def orG (a b c : Int) : Int := if a ≠ 0 then a else if b ≠ 0 then b else c
end
end Go.Proofs.YtmpjlkclkhnpfaaGreatDoor.Am
namespace Go.Proofs.YtmpjlkclkhnpfaaGreatDoor.Am
section
open Go.RowKit
def ordI (p q : St × Rat) : Int := orG (cmpG p.1.1 q.1.1) (cmpG p.1.2.1 q.1.2.1) (cmpG (if p.1.2.2 then 1 else 0) (if q.1.2.2 then 1 else 0))
section
variable {aC : St × Rat → List D}
def rowA (aC : St × Rat → List D) (l : Sp) : List V := (l.flatMap aC).map .d
@[simp] theorem o_p0 (n : Nat) (l : Sp) : V.lowl n (rowA aC l) = true := o_5w _ _
@[simp] theorem o_p1 (θ : Nat → Nat) (l : Sp) : V.rens θ (rowA aC l) = rowA aC l := o_5v _ _
theorem o_p2 (h6 : ∀ p, (aC p).length = 6) (l : Sp) (i : Nat) (h : i < l.length) : ((rowA aC l).drop (i * 6)).take 6 = (aC l[i]).map .d := by
 rw [rowA, ← List.map_drop, ← List.map_take, o_od h6 l i h]
def SortTo (L K : Sp) : Prop := ∀ K' : Sp, K'.Perm L → K'.Pairwise (fun a b => ltS a.1 b.1 = true) → K' = K
end
end
end Go.Proofs.YtmpjlkclkhnpfaaGreatDoor.Am
namespace Go.Proofs.YtmpjlkclkhnpfaaGreatDoor.Am
section
open Go.RowKit
def ChOk (k a w : Nat) : Prop := GoodS k a w
def topC (w : Nat) : Nat := 2 ^ w - 1
def onQ (w : Nat) (s : St) (x : Rat) : Sp := if s.1 = topC w then [((s.1, s.2.1, true), 1)] else eitQ x (s.1 + 1, s.2) s
end
end Go.Proofs.YtmpjlkclkhnpfaaGreatDoor.Am
namespace Go.Proofs.YtmpjlkclkhnpfaaGreatDoor.Am
section
open Go.RowKit
end
end Go.Proofs.YtmpjlkclkhnpfaaGreatDoor.Am
namespace Go.Proofs.YtmpjlkclkhnpfaaGreatDoor.Am
section
open Go.RowKit
def atomC (p : St × Rat) : List D := stD p.1 ++ rcD p.2
def seenV (σ : List Nat) : List V := σ.map fun i : Nat => V.d (.int .i64 (i : Int))
@[simp] theorem o_p3 : ∀ σ : List Nat, seenOf (seenV σ) = some σ
 | [] => rfl
 | i :: σ => by
  have := o_p3 σ
  unfold seenV at *
  rw [List.map_cons, seenOf, if_pos (by omega), this]
  simp
@[simp] theorem o_p4 (σ : List Nat) (i : Nat) : seenV σ ++ [V.d (.int .i64 (i : Int))] = seenV (σ ++ [i]) := by simp [seenV]
@[simp] theorem o_p5 (n : Nat) (σ : List Nat) : V.lowl n (seenV σ) = true := by
 induction σ with
 | nil => rfl
 | cons i σ ih => unfold seenV at *; simp [V.lowl, V.low, ih]
@[simp] theorem o_p6 (θ : Nat → Nat) (σ : List Nat) : V.rens θ (seenV σ) = seenV σ := by
 induction σ with
 | nil => rfl
 | cons i σ ih => unfold seenV at *; simp [V.rens, V.ren, ih]
theorem o_p7 : seenV [] = [] := rfl
def metQ (l : Sp) (σ : List Nat) : Sp := σ.flatMap fun i => match l[i]? with
 | some p => if p.2 = 0 then [] else [p]
 | none => []
end
end Go.Proofs.YtmpjlkclkhnpfaaGreatDoor.Am
namespace Go.Proofs.YtmpjlkclkhnpfaaGreatDoor.Am
section
open Go.RowKit
@[simp] theorem o_p8 (n s : Nat) (ds l : List D) : V.frzs n s ds (l.map V.d) = l.map V.d := by
 rw [o_53, List.map_map]
 apply List.map_congr_left
 intro x _
 simp
def slM (l : Sp) (σ : List Nat) : List V := setS (List.replicate 26 .junk) [(0, .mp 0), (3, if (metQ l σ).length = 0 then .d .nilsl else .own 2 6 (metQ l σ).length), (7, .p 1 0)]
def hpM (l : Sp) (σ : List Nat) : List (Option Ob) := [some (spO l), some ⟨1000000, .mp 0 :: .d (.int .i64 (l.length : Nat)) :: seenV σ⟩] ++ if (metQ l σ).length = 0 then [] else [some ⟨91, rowA atomC (metQ l σ)⟩]
end
end Go.Proofs.YtmpjlkclkhnpfaaGreatDoor.Am
namespace Go.Proofs.YtmpjlkclkhnpfaaGreatDoor.Am
section
open Go.RowKit
def Gr (D B : Nat) (q : Rat) : Prop := ∃ z : Nat, q * (D : Rat) = (z : Rat) ∧ z ≤ B * D
theorem o_p9 {D : Nat} (h : 0 < D) : (D : Rat) ≠ 0 := by
 intro e
 have : D = 0 := by exact_mod_cast e
 omega
theorem Gr.rs {D B N : Nat} {q : Rat} (hD : 0 < D) (hB : 1 ≤ B) (h : Gr D B q) (hN : size (B * D) ≤ N) : RS q N := by
 obtain ⟨z, h1, h2⟩ := h
 have hd := o_p9 hD
 have e : q = mkRat (z : Int) D := by
  rw [Rat.mkRat_eq_div]
  have : ((z : Int) : Rat) = (z : Rat) := rfl
  rw [this, ← h1]
  rw [Rat.mul_div_cancel hd]
 rw [e]
 refine RS.mk' hD ?_ ?_
 ·exact Nat.le_trans (o_fc (by simpa using h2)) hN
 ·exact Nat.le_trans (o_fc (by exact Nat.le_mul_of_pos_left D hB)) hN
theorem Gr.zero (D B : Nat) : Gr D B 0 := ⟨0, by grind, Nat.zero_le _⟩
theorem Gr.add {D B C : Nat} {x y : Rat} (hx : Gr D B x) (hy : Gr D C y) : Gr D (B + C) (x + y) := by
 obtain ⟨z, h1, h2⟩ := hx
 obtain ⟨w, h3, h4⟩ := hy
 refine ⟨z + w, ?_, by rw [Nat.add_mul]; omega⟩
 have : ((z + w : Nat) : Rat) = (z : Rat) + (w : Rat) := by simp
 rw [this, ← h1, ← h3]; grind
theorem Gr.mul {D E B C : Nat} {x y : Rat} (hx : Gr D B x) (hy : Gr E C y) : Gr (D * E) (B * C) (x * y) := by
 obtain ⟨z, h1, h2⟩ := hx
 obtain ⟨w, h3, h4⟩ := hy
 refine ⟨z * w, ?_, ?_⟩
 ·have e1 : ((z * w : Nat) : Rat) = (z : Rat) * (w : Rat) := by simp
  have e2 : ((D * E : Nat) : Rat) = (D : Rat) * (E : Rat) := by simp
  rw [e1, e2, ← h1, ← h3]; grind
 ·have := Nat.mul_le_mul h2 h4
  refine Nat.le_trans this (Nat.le_of_eq ?_)
  rw [Nat.mul_mul_mul_comm]
theorem Gr.le {D B C : Nat} {x : Rat} (h : Gr D B x) (hbc : B ≤ C) : Gr D C x := by
 obtain ⟨z, h1, h2⟩ := h
 exact ⟨z, h1, Nat.le_trans h2 (Nat.mul_le_mul_right _ hbc)⟩
theorem Gr.one (D : Nat) : Gr D 1 1 := ⟨D, by grind, by omega⟩
end
end Go.Proofs.YtmpjlkclkhnpfaaGreatDoor.Am
namespace Go.Proofs.YtmpjlkclkhnpfaaGreatDoor.Am
section
open Go.RowKit
def outQ (next : St → Sp) (A : Sp) (i : Nat) : Sp := (A.take i).foldl (fun out a => innQ a.2 out (atQ (next a.1))) []
end
end Go.Proofs.YtmpjlkclkhnpfaaGreatDoor.Am
namespace Go.Proofs.YtmpjlkclkhnpfaaGreatDoor.Am
section
open Go.RowKit
def PO (k a w : Nat) : Ob := ⟨73, [.d (.int .i64 k), .d (.int .i64 a), .d (.int .i64 w)]⟩
end
end Go.Proofs.YtmpjlkclkhnpfaaGreatDoor.Am
namespace Go.Proofs.YtmpjlkclkhnpfaaGreatDoor.Am
section
open Go.RowKit
end
end Go.Proofs.YtmpjlkclkhnpfaaGreatDoor.Am
namespace Go.Proofs.YtmpjlkclkhnpfaaGreatDoor.Am
section
open Go.RowKit
def kyQ (P : St → Prop) (l : Sp) : Prop := ∀ p ∈ l, P p.1
def reach (top k : Nat) (i : Nat) (t : St) : Prop := t = (top, 0, true) ∨ t.2 = (0, false) ∧ k ≤ t.1 ∧ t.1 ≤ k + i ∧ t.1 ≤ top
end
end Go.Proofs.YtmpjlkclkhnpfaaGreatDoor.Am
namespace Go.Proofs.YtmpjlkclkhnpfaaGreatDoor.Am
section
open Go.RowKit
def dstQ (k a w : Nat) (s : St) (n : Nat) : Sp := ofQ (stepQ (topC w) (chP k a)) s n
end
end Go.Proofs.YtmpjlkclkhnpfaaGreatDoor.Am
namespace Go.Proofs.YtmpjlkclkhnpfaaGreatDoor.Am
section
open Go.RowKit
structure NextOK (next : St → Sp) (G : Nat) (s : St) : Prop where
 uq : Uq (next s)
 nz : nzQ (next s) ≠ []
 len : (next s).length ≤ 2
 gr : ∀ p ∈ next s, Gr G 1 p.2
end
end Go.Proofs.YtmpjlkclkhnpfaaGreatDoor.Am
namespace Go.Proofs.YtmpjlkclkhnpfaaGreatDoor.Am
section
open Go.RowKit
theorem o_pa (n : Nat) : wD (n : Int) = .agg [natW n, .bool false] := by
 unfold wD
 rw [Int.natAbs_natCast]
 congr 4
theorem o_pb (p q : Nat) (h0 : 0 < q) (hp : size p ≤ 900000) (hq : size q ≤ 900000) : Eqn Tryz.prog o_87 [.d (.agg [natW p, .bool false]), .d (.agg [natW q, .bool false])] [] (.tup [.d (rD (mkRat p q)), .d (.int .i64 0)]) [] := by
 refine Eqn.pure o_89 Plain.ok ?_
 have ha := o_ft q false
 have hp1 := o_ft p false
 have hn1 := o_fu p false
 have hn2 := o_fu q false
 have hz := o_et q
 have hq0 : (q == 0) = false := by simp; omega
 rw [hq0] at hz
 have h4 := o_ks false p (p : Int) rfl
 have h5 := o_kz (p : Int) q h0 (by rw [Int.natAbs_natCast]; exact hp) hq
 rw [o_pa] at h4 h5
 simp only [o_88, rD] at h5 ⊢
 refine G0 ?_; try with_reducible exact tt
 refine CallS.pu (ha) (R0 ?_); try with_reducible exact tt
 refine CallS.pu (hz) (R0 ?_); try with_reducible exact tt
 refine AW.cond rfl (fun h => ?_) (fun h => ?_)
 ·simp at h
 refine G0 ?_; try with_reducible exact tt
 refine CallS.pu (hn1) (R0 ?_); try with_reducible exact tt
 refine CallS.pu (hn2) (R0 ?_); try with_reducible exact tt
 refine CallS.pu (hp1) (R0 ?_); try with_reducible exact tt
 refine CallS.pu (h4) (R0 ?_); try with_reducible exact tt
 refine CallS.pu (ha) (R0 ?_); try with_reducible exact tt
 refine CallS.pu (h5) (R0 ?_); try with_reducible exact tt
theorem o_pc (x y : Rat) (hx : RS x 100000) (hy : RS y 100000) (hx0 : 0 ≤ x.num) (hy0 : 0 < y.num) : Eqn Tryz.prog o_6v [.d (rD x), .d (rD y)] [] (.tup [.d (rD (x / y)), .d (.int .i64 0)]) [] := by
 refine Eqn.pure o_6x Plain.ok ?_
 have x1 := hx.1; have x2 := hx.2; have y1 := hy.1; have y2 := hy.2
 obtain ⟨u, hu⟩ : ∃ u : Nat, x.num = (u : Int) := ⟨x.num.natAbs, by omega⟩
 obtain ⟨v, hv⟩ : ∃ v : Nat, y.num = (v : Int) := ⟨y.num.natAbs, by omega⟩
 have hu2 : x.num.natAbs = u := by omega
 have hv2 : y.num.natAbs = v := by omega
 have h1 := o_kv x.num y.den (by omega) (by rw [Int.natAbs_natCast]; omega)
 have h2 := o_kv y.num x.den (by omega) (by rw [Int.natAbs_natCast]; omega)
 have h3 := o_l1 x (by omega)
 have h4 := o_l1 y (by omega)
 rw [hu2] at x1; rw [hv2] at y1
 have s1 := o_ko u y.den
 have s2 := o_ko v x.den
 have h5 := o_pb (u * y.den) (v * x.den) (Nat.mul_pos (by omega) x.den_pos) (by omega) (by omega)
 have e : mkRat ((u * y.den : Nat) : Int) (v * x.den) = x / y := by
  have hd := o_p9 x.den_pos
  have hd2 := o_p9 y.den_pos
  have hv0 : (v : Rat) ≠ 0 := o_p9 (by omega)
  have ex : x = (u : Rat) / (x.den : Rat) := by
   have h := Rat.mkRat_self x
   rw [Rat.mkRat_eq_div, hu] at h
   exact h.symm
  have ey : y = (v : Rat) / (y.den : Rat) := by
   have h := Rat.mkRat_self y
   rw [Rat.mkRat_eq_div, hv] at h
   exact h.symm
  rw [Rat.mkRat_eq_div]
  have k1 : (((u * y.den : Nat) : Int) : Rat) = (u : Rat) * (y.den : Rat) := by push_cast; rfl
  have k2 : ((v * x.den : Nat) : Rat) = (v : Rat) * (x.den : Rat) := by simp
  rw [k1, k2]
  generalize hxd : (x.den : Rat) = xd at *
  generalize hyd : (y.den : Rat) = yd at *
  generalize (u : Rat) = uu at *
  generalize (v : Rat) = vv at *
  rw [ex, ey]
  grind
 rw [e] at h5
 rw [hu] at h1; rw [hv] at h2
 rw [← Int.natCast_mul, o_pa, o_pa, o_pa] at h1 h2
 rw [o_pa] at h3 h4
 simp only [o_6w, rD, hu2, hv2, hu, hv] at h1 h2 h3 h4 h5 ⊢
 refine G0 ?_; try with_reducible exact tt
 refine CallS.pu (h4) (R0 ?_); try with_reducible exact tt
 refine CallS.pu (h1) (R0 ?_); try with_reducible exact tt
 refine CallS.pu (h3) (R0 ?_); try with_reducible exact tt
 refine CallS.pu (h2) (R0 ?_); try with_reducible exact tt
 refine CallS.pu (h5) (R0 ?_); try with_reducible exact tt
end
end Go.Proofs.YtmpjlkclkhnpfaaGreatDoor.Am
namespace Go.Proofs.YtmpjlkclkhnpfaaGreatDoor.Am
section
open Go.RowKit
theorem o_pd (a n : Nat) (h1 : 1 < bitsN a) (hb : 8192 < bitsN a * n) (hn : n ≤ 100000) (has : size a ≤ 129) : Eqn Tryz.prog o_9m [.d (.agg [natW a]), .d (.int .i64 n)] [] (.tup [.d (.agg [natW 0]), .d (.int .i64 3)]) [] := by
 refine Eqn.pure o_9o (o_f7 _ _) ?_
 have hbits := o_he a (by omega)
 generalize bitsN a = q at *
 have hn0 : ¬ (n : Int) < 0 := by omega
 have hq1 : (1 : Int) < q := by omega
 have hq0 : (q : Int) ≠ 0 := by omega
 have hle : 8192 / q < n := by rw [Nat.div_lt_iff_lt_mul (by omega), Nat.mul_comm]; exact hb
 have hdq0 : (8192 : Int).tdiv q = ((8192 / q : Nat) : Int) := rfl
 have hd8 := Nat.div_le_self 8192 q
 generalize 8192 / q = dq at *
 have hdq : IntKind.i64.wrap ((8192 : Int).tdiv q) = (dq : Int) := by rw [hdq0, w64 (by omega) (by omega)]
 clear hdq0
 have hle2 : (dq : Int) < n := by omega
 simp only [o_9n]
 refine G1 hn0 ?_; try with_reducible exact tt
 refine AW.cond rfl (fun h => ?_) (fun h => ?_)
 ·simp [hn0] at h
 refine G0 ?_; try with_reducible exact tt
 refine CallS.pu (hbits) (R1 (fs hq1 h1) ?_); try with_reducible exact tt
 refine CallS.pu (hbits) (R1 (fs hq0 (fs hdq (fs hle2 (fs hle (fs hq1 h1))))) ?_); try with_reducible exact tt
 refine AW.cond rfl (fun h => ?_) (fun h => ?_)
 rotate_left
 ·simp [hle2, hle] at h
 refine G0 ?_; try with_reducible exact tt
 exact Sub1.tup (Subs.cons Sub1.nat0 (Subs.refl _))
theorem o_pe (x : Rat) (n : Nat) (h1 : 1 < bitsN x.num.natAbs) (hb : 8192 < bitsN x.num.natAbs * n) (hn : n ≤ 100000) (hs : RS x 129) : Eqn Tryz.prog o_7s [.d (rD x), .d (.int .i64 n)] [] (.tup [.d (.agg [natW 0, .bool false, natW 0]), .d (.int .i64 3)]) [] := by
 refine Eqn.pure o_7u (o_f7 _ _) ?_
 have a1 := o_pd x.num.natAbs n h1 hb hn hs.1
 have hab := o_ft x.num.natAbs (decide (x.num < 0))
 simp only [o_7t, rD] at hab ⊢
 generalize decide (x.num < 0) = b at *
 generalize natW (x.den - 1) = N2 at *
 generalize natW x.num.natAbs = N1 at *
 refine A02 hab a1 ?_; try with_reducible exact tt
 exact Sub1.tup (Subs.cons (Sub1.aggd (Subs.cons Sub1.nil (Subs.cons (Sub1.refl _) (Subs.cons Sub1.nil (Subs.refl _))))) (Subs.refl _))
theorem o_pf (x : Rat) (n : Nat) (h0 : bitsN x.num.natAbs ≤ 1 ∨ n ≤ 8192 / bitsN x.num.natAbs) (hn8 : n ≤ 8192) (h1 : 1 < bitsN x.den) (hb : 8192 < bitsN x.den * n) (hs : RS x 129) : Eqn Tryz.prog o_7s [.d (rD x), .d (.int .i64 n)] [] (.tup [.d (.agg [natW 0, .bool false, natW 0]), .d (.int .i64 3)]) [] := by
 refine Eqn.pure o_7u (o_f7 _ _) ?_
 have a0 := o_la x.num.natAbs n hn8 h0 hs.1
 have a1 := o_pd x.den n h1 hb (by omega) hs.2
 have a2 := o_l0 x (by have := hs.2; omega)
 have hab := o_ft x.num.natAbs (decide (x.num < 0))
 simp only [o_7t, rD] at hab a2 ⊢
 generalize decide (x.num < 0) = b at *
 generalize natW (x.num.natAbs ^ n) = N4 at *
 generalize natW (x.den - 1) = N2 at *
 generalize natW x.den = N3 at *
 generalize natW x.num.natAbs = N1 at *
 refine A04 hab a0 a2 a1 ?_; try with_reducible exact tt
 exact Sub1.tup (Subs.cons (Sub1.aggd (Subs.cons Sub1.nil (Subs.cons (Sub1.refl _) (Subs.cons Sub1.nil (Subs.refl _))))) (Subs.refl _))
def zeroR : D := .agg [natW 0, .bool false, natW 0]
theorem o_pg {n : Nat} (h : 2 ≤ n) : 1 < bitsN n := by
 rcases Nat.lt_or_ge 1 (bitsN n) with h1 | h1
 ·exact h1
 ·have h2 := o_gu n
  have h3 := Nat.pow_le_pow_right (n := 2) (by omega) h1
  omega
theorem o_ph (a k : Nat) (h1 : 1 ≤ a) (h2 : a ≤ 4096) (hk : k ≤ 1023) (hb : 8192 < bitsN (a + 1) * k) : Eqn Tryz.prog o_6g [.d (.int .i64 a), .d (.int .i64 k)] [] (.tup [.d zeroR, .d (.int .i64 3)]) [] := by
 obtain ⟨q1, q2⟩ := o_oh (a := a)
 have hmk := o_li a (a + 1) (by omega) (by omega) (by omega)
 obtain ⟨x, hx⟩ : ∃ x, x = mkRat (a : Int) (a + 1) := ⟨_, rfl⟩
 rw [← hx] at q1 q2 hmk
 have hxs : RS x 129 := ⟨by rw [q1, Int.natAbs_natCast]; exact Nat.le_trans (o_fr (by omega)) (by omega), by rw [q2]; exact Nat.le_trans (o_fr (by omega)) (by omega)⟩
 have hpow : Eqn Tryz.prog o_7s [.d (rD x), .d (.int .i64 k)] [] (.tup [.d zeroR, .d (.int .i64 3)]) [] := by
  have hq : x.num.natAbs = a := by rw [q1, Int.natAbs_natCast]
  by_cases hA : bitsN a ≤ 1 ∨ k ≤ 8192 / bitsN a
  ·exact o_pf x k (by rw [hq]; exact hA) (by omega) (by rw [q2]; exact o_pg (by omega)) (by rw [q2]; exact hb) hxs
  ·have hA1 : 1 < bitsN a := by omega
   have hA2 : 8192 / bitsN a < k := by omega
   rw [Nat.div_lt_iff_lt_mul (by omega), Nat.mul_comm] at hA2
   exact o_pe x k (by rw [hq]; exact hA1) (by rw [hq]; exact hA2) (by omega) hxs
 have hw := o_ld a k
 rw [show wrongM (a : Int) [(k : Int)] = 0 by unfold wrongM; rw [if_pos (by omega), if_pos (by simp [okK]; omega)]] at hw
 have e1 : IntKind.i64.wrap ((a : Int) + 1) = ((a + 1 : Nat) : Int) := by rw [w64 (by omega) (by omega)]; omega
 refine Eqn.pure o_6i Plain.ok ?_
 clear hxs q1 q2 hx hb
 generalize ha1 : a + 1 = a' at *
 simp only [o_6h, rD, zeroR] at hmk hpow ⊢
 refine G0 ?_; try with_reducible exact tt
 refine CallS.pf 1 1 ⟨3, _⟩ [.int .i64 k] (hw) (by first | rfl | (simp [e1]; done)) (R1 e1 ?_); try with_reducible exact tt
 refine A12 e1 hmk hpow ?_; try with_reducible exact tt
theorem o_pi (a k : Nat) (h1 : 1 ≤ a) (h2 : a ≤ 4096) (hk : k ≤ 1023) (hb : 8192 < bitsN (a + 1) * k) : Eqn Tryz.prog o_6j [.d (.int .i64 a), .d (.int .i64 k)] [] (.tup [.d zeroR, .d (.int .i64 3)]) [] := by
 obtain ⟨q1, q2⟩ := o_oe h1
 have hmk := o_li (a + 1) a (by omega) (by omega) (by omega)
 obtain ⟨x, hx⟩ : ∃ x, x = mkRat ((a + 1 : Nat) : Int) a := ⟨_, rfl⟩
 rw [← hx] at q1 q2 hmk
 have hxs : RS x 129 := ⟨by rw [q1, Int.natAbs_natCast]; exact Nat.le_trans (o_fr (by omega)) (by omega), by rw [q2]; exact Nat.le_trans (o_fr (by omega)) (by omega)⟩
 have hq : x.num.natAbs = a + 1 := by rw [q1, Int.natAbs_natCast]
 have hpow := o_pe x k (by rw [hq]; exact o_pg (by omega)) (by rw [hq]; exact hb) (by omega) hxs
 have hw := o_ld a k
 rw [show wrongM (a : Int) [(k : Int)] = 0 by unfold wrongM; rw [if_pos (by omega), if_pos (by simp [okK]; omega)]] at hw
 have e1 : IntKind.i64.wrap ((a : Int) + 1) = ((a + 1 : Nat) : Int) := by rw [w64 (by omega) (by omega)]; omega
 refine Eqn.pure o_6l (o_f7 _ _) ?_
 clear hxs q1 q2 hx hb hq
 generalize ha1 : a + 1 = a' at *
 simp only [o_6k, rD, zeroR] at hmk hpow ⊢
 refine G0 ?_; try with_reducible exact tt
 refine CallS.pf 1 1 ⟨3, _⟩ [.int .i64 k] (hw) (by first | rfl | (simp [e1]; done)) (R1 e1 ?_); try with_reducible exact tt
 refine A12 e1 hmk hpow ?_; try with_reducible exact tt
 exact Sub1.tup (Subs.cons (Sub1.aggd (Subs.cons Sub1.nil (Subs.cons (Sub1.refl _) (Subs.cons Sub1.nil (Subs.refl _))))) (Subs.refl _))
theorem o_pj (d k : Int) (h : wrongM d [k] ≠ 0) : Eqn Tryz.prog o_6g [.d (.int .i64 d), .d (.int .i64 k)] [] (.tup [.d zeroR, .d (.int .i64 (wrongM d [k]))]) [] := by
 refine Eqn.pure o_6i (o_f7 _ _) ?_
 simp only [o_6h, zeroR]
 have hw := o_ld d k
 generalize wrongM d [k] = w at *
 refine A00 ?_; try with_reducible exact tt
 refine CallS.pf 1 1 ⟨3, _⟩ [.int .i64 k] (hw) (by first | rfl | (simp [h]; done)) (R1 h ?_); try with_reducible exact tt
 refine A10 h ?_; try with_reducible exact tt
 exact Sub1.tup (Subs.cons (Sub1.aggd (Subs.cons Sub1.nil (Subs.cons (Sub1.refl _) (Subs.cons Sub1.nil (Subs.refl _))))) (Subs.refl _))
theorem o_pk (d k : Int) (h : wrongM d [k] ≠ 0) : Eqn Tryz.prog o_6j [.d (.int .i64 d), .d (.int .i64 k)] [] (.tup [.d zeroR, .d (.int .i64 (wrongM d [k]))]) [] := by
 refine Eqn.pure o_6l (o_f7 _ _) ?_
 simp only [o_6k, zeroR]
 have hw := o_ld d k
 generalize wrongM d [k] = w at *
 refine A00 ?_; try with_reducible exact tt
 refine CallS.pf 1 1 ⟨3, _⟩ [.int .i64 k] (hw) (by first | rfl | (simp [h]; done)) (R1 h ?_); try with_reducible exact tt
 refine A10 h ?_; try with_reducible exact tt
 exact Sub1.tup (Subs.cons (Sub1.aggd (Subs.cons Sub1.nil (Subs.cons (Sub1.refl _) (Subs.cons Sub1.nil (Subs.refl _))))) (Subs.refl _))
theorem o_pl (d k : Int) : Eqn Tryz.prog o_6m [.d (.int .i64 d), .d (.int .i64 k)] [] (.d (.int .i64 (wrongM d [k]))) [] := by
 refine Eqn.pure o_6o Plain.ok ?_
 simp only [o_6n]
 by_cases h1 : 1 ≤ d ∧ d ≤ 4096
 ·have e1 : ¬ d < 1 := by omega
  have e2 : ¬ 4096 < d := by omega
  by_cases h2 : 0 ≤ k ∧ k ≤ 1023
  ·rw [show wrongM d [k] = 0 by unfold wrongM; rw [if_pos h1, if_pos (by simp [okK]; omega)]]
   have e3 : ¬ k < 0 := by omega
   have e4 : ¬ 1023 < k := by omega
   refine A10 (fs e1 (fs e2 (fs e3 e4))) ?_; try with_reducible exact tt
  ·rw [show wrongM d [k] = 2 by unfold wrongM; rw [if_pos h1, if_neg (by simp [okK]; omega)]]
   by_cases e3 : k < 0
   ·refine A10 (fs e1 (fs e2 e3)) ?_; try with_reducible exact tt
   ·have e4 : 1023 < k := by omega
    refine A10 (fs e1 (fs e2 (fs e3 e4))) ?_; try with_reducible exact tt
 ·rw [show wrongM d [k] = 10 by unfold wrongM; rw [if_neg h1]]
  by_cases e1 : d < 1
  ·refine A10 e1 ?_; try with_reducible exact tt
  ·have e2 : 4096 < d := by omega
   refine A10 (fs e1 e2) ?_; try with_reducible exact tt
end
end Go.Proofs.YtmpjlkclkhnpfaaGreatDoor.Am
namespace Go.Proofs.YtmpjlkclkhnpfaaGreatDoor.Am
section
open Go.RowKit
theorem powB {a E k : Nat} (h : a < 2 ^ E) : a ^ k < 2 ^ (E * k + 1) := by
 have h1 : a ^ k ≤ (2 ^ E) ^ k := Nat.pow_le_pow_left (Nat.le_of_lt h) k
 rw [← Nat.pow_mul] at h1
 have := Nat.two_pow_pos (E * k)
 rw [Nat.pow_succ]; omega
theorem dpowB (a k : Nat) (ha : a ≤ 4097) (hk : k ≤ 24) : Eqn Tryz.prog o_91 [.d (nD a), .d (.int .i64 k)] [] (.d (nD (a ^ k))) [] :=
 have h13 : a < 2 ^ 13 := by omega
 o_oo a k (by omega) (fun i hi => sizeB (powB (k := i) h13) (by omega)) (sizeB h13 (by omega))
theorem o_pm (p q : Nat) : Eqn Tryz.prog o_8y [.d (nD p), .d (nD q)] [] (.d (qD3 p 0 q)) [] := by
 refine Eqn.pure o_90 Plain.ok ?_
 have h1 := (o_o8 p 0 q).sub (args := [.d (.agg [nD p, .nilsl]), .d (nD q)]) (Subs.cons (Sub1.aggd (l := [nD p, .nilsl]) (Subs.cons (Sub1.refl _) (Subs.cons Sub1.nil (Subs.refl _)))) (Subs.refl _))
 simp only [o_8z, qD3] at h1 ⊢
 generalize qD1 : nD p = D1 at *
 obtain ⟨nD1, lD1, rfl⟩ : ∃ n l, D1 = D.sl n l := ⟨_, _, qD1.symm⟩
 clear qD1
 generalize qD2 : nD q = D2 at *
 obtain ⟨nD2, lD2, rfl⟩ : ∃ n l, D2 = D.sl n l := ⟨_, _, qD2.symm⟩
 clear qD2
 generalize qD3 : nD 0 = D3 at *
 obtain ⟨nD3, lD3, rfl⟩ : ∃ n l, D3 = D.sl n l := ⟨_, _, qD3.symm⟩
 clear qD3
 refine A01 h1 ?_; try with_reducible exact tt
theorem o_pn (a k : Nat) (ha : a ≤ 4096) (hk : k ≤ 24) : Eqn Tryz.prog o_7a [.d (.int .i64 a), .d (.int .i64 k)] [] (.d (qD3 (a ^ k) 0 ((a + 1) ^ k))) [] := by
 refine Eqn.pure o_7c Plain.ok ?_
 have s1 := o_n1 a (by omega)
 have s2 := o_n1 (a + 1) (by omega)
 have p1 := dpowB a k (by omega) hk
 have p2 := dpowB (a + 1) k (by omega) hk
 have f1 := o_pm (a ^ k) ((a + 1) ^ k)
 have e1 : IntKind.i64.wrap ((a : Int) + 1) = ((a + 1 : Nat) : Int) := by rw [w64 (by omega) (by omega)]; omega
 simp only [o_7b, qD3] at f1 ⊢
 generalize qD1 : nD ((a + 1) ^ k) = D1 at *
 obtain ⟨nD1, lD1, rfl⟩ : ∃ n l, D1 = D.sl n l := ⟨_, _, qD1.symm⟩
 clear qD1
 generalize qD2 : nD (a ^ k) = D2 at *
 obtain ⟨nD2, lD2, rfl⟩ : ∃ n l, D2 = D.sl n l := ⟨_, _, qD2.symm⟩
 clear qD2
 generalize qD4 : nD (a + 1) = D4 at *
 obtain ⟨nD4, lD4, rfl⟩ : ∃ n l, D4 = D.sl n l := ⟨_, _, qD4.symm⟩
 clear qD4
 generalize qD5 : nD a = D5 at *
 obtain ⟨nD5, lD5, rfl⟩ : ∃ n l, D5 = D.sl n l := ⟨_, _, qD5.symm⟩
 clear qD5
 generalize qD3 : nD 0 = D3 at *
 obtain ⟨nD3, lD3, rfl⟩ : ∃ n l, D3 = D.sl n l := ⟨_, _, qD3.symm⟩
 clear qD3
 generalize a + 1 = A1 at *
 refine A16 e1 s1 p1 s2 p2 f1 f1 ?_; try with_reducible exact tt
def svM (a k i : Nat) : Nat := a ^ (k - i) * (a + 1) ^ i - a ^ k
theorem o_po (a k i : Nat) (h : i ≤ k) : a ^ k ≤ a ^ (k - i) * (a + 1) ^ i := by
 have : a ^ k = a ^ (k - i) * a ^ i := by rw [← Nat.pow_add]; congr 1; omega
 rw [this]
 exact Nat.mul_le_mul_left _ (Nat.pow_le_pow_left (by omega) i)
theorem o_pp (a k : Nat) : svM a k 0 = 0 := by simp [svM]
theorem o_pq (a k i : Nat) (h : i < k) : svM a k i + a ^ (k - 1 - i) * (a + 1) ^ i = svM a k (i + 1) := by
 have h1 := o_po a k i (by omega)
 have h2 := o_po a k (i + 1) h
 unfold svM
 have e : k - i = (k - 1 - i) + 1 := by omega
 have e2 : k - (i + 1) = k - 1 - i := by omega
 have e3 : a ^ (k - i) * (a + 1) ^ i + a ^ (k - 1 - i) * (a + 1) ^ i = a ^ (k - (i + 1)) * (a + 1) ^ (i + 1) := by
  rw [e, e2, Nat.pow_succ, Nat.pow_succ, Nat.mul_assoc, ← Nat.mul_add, ]
  congr 1
  rw [Nat.mul_add, Nat.mul_one, Nat.mul_comm a]
 omega
theorem o_pr (E a k i : Nat) (hE : 700 ≤ E) (ha : a ≤ 4096) (hk : k ≤ 24) (h : i ≤ k) : svM a k i < 2 ^ E := by
 have h1 : a ^ (k - i) < 2 ^ (13 * (k - i) + 1) := powB (by omega)
 have h2 : (a + 1) ^ i < 2 ^ (13 * i + 1) := powB (by omega)
 have h3 := o_nq h1 h2
 refine Nat.lt_of_le_of_lt (Nat.sub_le _ _) (o_nr h3 (by omega))
set_option maxHeartbeats 1000000 in
theorem o_ps (a k : Nat) (ha : a ≤ 4096) (hk : k ≤ 24) : Eqn Tryz.prog o_7d [.d (.int .i64 a), .d (.int .i64 k)] [] (.d (if k = 0 then qD3 0 0 1 else qD3 (svM a k k) 0 (a ^ (k - 1)))) [] := by
 refine Eqn.pure o_7f Plain.ok ?_
 have s1 := o_n1 a (by omega)
 have s2 := o_n1 (a + 1) (by omega)
 have e1 : IntKind.i64.wrap ((a : Int) + 1) = ((a + 1 : Nat) : Int) := by rw [w64 (by omega) (by omega)]; omega
 simp only [o_7e]
 by_cases h0 : k = 0
 ·rw [if_pos h0]
  subst h0
  have q0 := o_o7 0 (by decide)
  rw [qD3] at q0 ⊢
  generalize qD1 : nD 0 = D1 at *
  obtain ⟨nD1, lD1, rfl⟩ : ∃ n l, D1 = D.sl n l := ⟨_, _, qD1.symm⟩
  clear qD1
  generalize qD2 : nD 1 = D2 at *
  obtain ⟨nD2, lD2, rfl⟩ : ∃ n l, D2 = D.sl n l := ⟨_, _, qD2.symm⟩
  clear qD2
  refine A01 q0 ?_; try with_reducible exact tt
 ·rw [if_neg h0]
  have h0' : ¬ (k : Int) = 0 := by omega
  have f1 := o_pm (svM a k k) (a ^ (k - 1))
  have p9 := dpowB a (k - 1) (by omega) (by omega)
  have e2 : IntKind.i64.wrap ((k : Int) - 1) = ((k - 1 : Nat) : Int) := by rw [w64 (by omega) (by omega)]; omega
  refine A10 (fs h0 h0') ?_; try with_reducible exact tt
  refine AW.loopT (α := Nat) 1 (fun i => [(5, .d (nD (svM a k i))), (6, .d (.int .i64 (i : Nat)))]) (fun i => []) (fun i => i ≤ k) (fun i => k - i) 0 ?_ ?_ (Nat.zero_le _) ?_ ?_ ?_
  ·simp
  ·simp
  ·simp [o_pp]
   exact Sub1.nil
  ·simp
  intro i hi
  simp
  by_cases hin : i < k
  ·have hin' : (i : Int) < k := by omega
   have p1 := dpowB a (k - 1 - i) (by omega) (by omega)
   have p2 := dpowB (a + 1) i (by omega) (by omega)
   have b1 : a ^ (k - 1 - i) < 2 ^ (13 * (k - 1 - i) + 1) := powB (by omega)
   have b2 : (a + 1) ^ i < 2 ^ (13 * i + 1) := powB (by omega)
   have m1 := o_nb (a ^ (k - 1 - i)) ((a + 1) ^ i) (sizeB b1 (by omega)) (sizeB b2 (by omega))
   obtain ⟨E7, hE7⟩ : ∃ E, E = 700 := ⟨_, rfl⟩
   have a1 := o_n4 (svM a k i) (a ^ (k - 1 - i) * (a + 1) ^ i) (sizeB (o_pr E7 a k i (by omega) ha hk hi) (by omega)) (sizeB (o_nq b1 b2) (by omega))
   rw [o_pq a k i hin] at a1
   have e3 : IntKind.i64.wrap (((k - 1 : Nat) : Int) - i) = ((k - 1 - i : Nat) : Int) := by rw [w64 (by omega) (by omega)]; omega
   have xei : IntKind.i64.wrap ((i : Int) + 1) = ((i + 1 : Nat) : Int) := by rw [w64 (by omega) (by omega)]; omega
   clear f1 p9 b1 b2
   generalize hS1 : svM a k (i + 1) = S1 at *
   generalize svM a k i = S0 at *
   generalize a ^ (k - 1 - i) * (a + 1) ^ i = M1 at *
   generalize a ^ (k - 1 - i) = M2 at *
   generalize (a + 1) ^ i = M3 at *
   generalize hA1 : a + 1 = A1 at *
   generalize hk1 : k - 1 - i = k1 at *
   generalize hk2 : k - 1 = k2 at *
   refine A16 (fs hin (fs hin' (fs e1 (fs e2 (fs e3 xei))))) s1 p1 s2 p2 m1 a1 ?_; try with_reducible exact tt
   exact ⟨i + 1, by omega, by omega, Sub1.of (by rw [hS1]), Sub1.int (by omega)⟩
  ·have : i = k := by omega
   subst this
   generalize svM a i i = S0 at *
   generalize a ^ (i - 1) = M2 at *
   generalize hk2 : i - 1 = k2 at *
   simp only [qD3] at f1 ⊢
   generalize qD1 : nD S0 = D1 at *
   obtain ⟨nD1, lD1, rfl⟩ : ∃ n l, D1 = D.sl n l := ⟨_, _, qD1.symm⟩
   clear qD1
   generalize qD2 : nD M2 = D2 at *
   obtain ⟨nD2, lD2, rfl⟩ : ∃ n l, D2 = D.sl n l := ⟨_, _, qD2.symm⟩
   clear qD2
   generalize qD4 : nD a = D4 at *
   obtain ⟨nD4, lD4, rfl⟩ : ∃ n l, D4 = D.sl n l := ⟨_, _, qD4.symm⟩
   clear qD4
   generalize qD5 : nD 0 = D5 at *
   obtain ⟨nD5, lD5, rfl⟩ : ∃ n l, D5 = D.sl n l := ⟨_, _, qD5.symm⟩
   clear qD5
   refine A13 e2 s1 p9 f1 ?_; try with_reducible exact tt
theorem o_pt (a k : Nat) (ha : 1 ≤ a) : chM a k = qval (a ^ k) 0 ((a + 1) ^ k) := by
 unfold chM qval
 rw [o_lf]
 obtain ⟨q1, q2⟩ := o_oh (a := a)
 rw [q1, q2, Int.natCast_zero, Int.sub_zero, Int.natCast_pow]
theorem o_pu (a k : Nat) (ha : 1 ≤ a) (hk : 0 < k) : valM a k = qval (svM a k k) 0 (a ^ (k - 1)) := by
 unfold valM qval
 rw [o_lf]
 obtain ⟨q1, q2⟩ := o_oe ha
 rw [q1, q2, Int.natCast_zero, Int.sub_zero]
 have h1 := o_po a k k (Nat.le_refl _)
 have h2 : svM a k k = (a + 1) ^ k - a ^ k := by unfold svM; simp
 rw [Nat.sub_self, Nat.pow_zero, Nat.one_mul] at h1
 have h3 : a ^ k = a * a ^ (k - 1) := by rw [Nat.mul_comm, ← Nat.pow_succ]; congr 1; omega
 have h5 : 0 < a ^ (k - 1) := Nat.pow_pos (by omega)
 have h6 : ((svM a k k : Nat) : Rat) = (((a + 1) ^ k : Nat) : Rat) - ((a ^ k : Nat) : Rat) := by
  have : (a + 1) ^ k = svM a k k + a ^ k := by omega
  rw [this]
  simp
  grind
 rw [← Int.natCast_pow, Rat.mkRat_eq_div, Rat.mkRat_eq_div]
 have e1 : (((svM a k k : Nat) : Int) : Rat) = ((svM a k k : Nat) : Rat) := rfl
 have e2 : ((((a + 1) ^ k : Nat) : Int) : Rat) = (((a + 1) ^ k : Nat) : Rat) := rfl
 have e3 : ((a ^ k : Nat) : Rat) = (a : Rat) * ((a ^ (k - 1) : Nat) : Rat) := by rw [h3]; simp
 have n1 := o_p9 h5
 have n2 := o_p9 ha
 rw [e1, e2, h6, e3]
 generalize ((a ^ (k - 1) : Nat) : Rat) = A at *
 generalize (((a + 1) ^ k : Nat) : Rat) = B at *
 generalize (a : Rat) = x at *
 have n3 : x * A ≠ 0 := fun h => by
  rcases Rat.mul_eq_zero.1 h with h | h
  ·exact n2 h
  ·exact n1 h
 grind
end
end Go.Proofs.YtmpjlkclkhnpfaaGreatDoor.Am
namespace Go.Proofs.YtmpjlkclkhnpfaaGreatDoor.Am
section
open Go.RowKit
theorem o_pv (d : Int) : (wrongM d [0] == 0) = decide (1 ≤ d ∧ d ≤ 4096) := by
 unfold wrongM
 by_cases h : 1 ≤ d ∧ d ≤ 4096
 ·simp [h, okK]
 ·rw [if_neg h]; simp [h]
theorem o_pw : zeroR = rD 0 := by
 unfold zeroR rD
 rfl
theorem o_px {x y : Rat} (h : x * y = 1) : ∀ n : Nat, x ^ n * y ^ n = 1
 | 0 => by simp
 | n + 1 => by
  have := o_px h n
  rw [Rat.pow_succ, Rat.pow_succ]
  grind
theorem o_py {a : Nat} (ha : 1 ≤ a) (k : Nat) : valM a k + 1 / chM a k = valM a (k + 1) := by
 have h := o_oj ha k
 have e : chM a k * mkRat ((a + 1 : Nat) : Int) a ^ k = 1 := by
  unfold chM
  refine o_px ?_ k
  have : mkRat (a : Int) (a + 1) * mkRat ((a + 1 : Nat) : Int) a = 1 := by
   rw [Rat.mkRat_mul_mkRat, Int.mul_comm, Rat.mkRat_eq_div]
   have n1 : (((a + 1) * a : Nat) : Rat) ≠ 0 := o_p9 (Nat.mul_pos (by omega) ha)
   have : (((a + 1 : Nat) : Int) * (a : Int) : Int) = (((a + 1) * a : Nat) : Int) := by simp
   rw [this]
   rw [Rat.div_def]; exact Rat.mul_inv_cancel _ n1
  exact this
 generalize mkRat ((a + 1 : Nat) : Int) a ^ k = y at *
 generalize chM a k = x at *
 have hx : x ≠ 0 := fun h0 => by rw [h0] at e; simp at e
 have : 1 / x = y := by
  rw [← e]
  grind
 rw [this]; grind
theorem o_pz {a : Nat} (ha : 1 ≤ a) (k : Nat) : 0 < (chM a k).num := by
 unfold chM
 rw [Rat.num_pow]
 obtain ⟨q1, q2⟩ := o_oh (a := a)
 rw [q1]
 exact Int.pow_pos (by omega)
set_option maxHeartbeats 8000000 in
theorem o_q0 (d k : Int) : Eqn Tryz.prog o_6a [.d (.int .i64 d), .d (.int .i64 k)] [] (.d (.bool true)) [] := by
 refine Eqn.pure o_6c (o_58 _) ?_
 have haw := o_on
 have hg := o_lb d
 have hgw := o_pv d
 have hw0 := o_pl d 0
 have hw := o_pl d k
 generalize decide (1 ≤ d ∧ d ≤ 4096) = gd at *
 generalize wrongM d [0] = E0 at *
 by_cases hE : wrongM d [k] = 0
 ·obtain ⟨g1, g2, g3, g4⟩ := o_le hE
  rw [hE] at hw
  obtain ⟨a, ha⟩ : ∃ a : Nat, d = a := ⟨d.toNat, by omega⟩
  obtain ⟨K, hK⟩ : ∃ K : Nat, k = K := ⟨k.toNat, by omega⟩
  subst ha
  subst hK
  have a1 : 1 ≤ a := by omega
  have a2 : a ≤ 4096 := by omega
  have k3 : K ≤ 1023 := by omega
  have hb13 : bitsN (a + 1) ≤ 13 := o_gv (by omega)
  by_cases hbig : bitsN (a + 1) * K ≤ 8192
  ·obtain ⟨hc, rc⟩ := o_ol a K a1 a2 k3 hbig
   obtain ⟨hv, rv⟩ := o_og a K a1 a2 k3 hbig
   by_cases h24 : 24 < K
   ·have h24' : (24 : Int) < K := by omega
    obtain ⟨J, hJ⟩ : ∃ J, K = J + 1 := ⟨K - 1, by omega⟩
    have xk : IntKind.i64.wrap ((K : Int) - 1) = J := by rw [w64 (by omega) (by omega)]; omega
    have hbJ : bitsN (a + 1) * J ≤ 8192 := Nat.le_trans (Nat.mul_le_mul_left _ (by omega)) hbig
    obtain ⟨hc2, rc2⟩ := o_ol a J a1 a2 (by omega) hbJ
    obtain ⟨hv2, rv2⟩ := o_og a J a1 a2 (by omega) hbJ
    have ho := o_lh 1 (by decide)
    have r1 : RS ((1 : Nat) : Rat) 1 := ⟨by decide, by decide⟩
    have hd := o_pc ((1 : Nat) : Rat) (chM a J) (r1.le (by omega)) (rc2.le (by omega)) (by decide) (o_pz a1 J)
    have rdv : RS (((1 : Nat) : Rat) / chM a J) 1000 := by
     have e := o_py a1 J
     have : ((1 : Nat) : Rat) / chM a J = valM a (J + 1) - valM a J := by
      rw [← e]
      show (1 : Rat) / chM a J = _
      grind
     rw [this, ← hJ]
     exact (RS.sub rv rv2).le (by omega)
    have hadd := o_l3 (valM a J) (((1 : Nat) : Rat) / chM a J) (rv2.le (by omega)) (rdv.le (by omega))
    have hcm := o_l5 (valM a K) (valM a K) (rv.le (by omega)) (rv.le (by omega))
    rw [o_ok] at hcm
    have en : valM a J + ((1 : Nat) : Rat) / chM a J = valM a K := by rw [hJ]; exact o_py a1 J
    rw [en] at hadd
    clear en rc rv rc2 rv2 rdv r1 hb13 hbJ hbig
    generalize ((1 : Nat) : Rat) / chM a J = x1 at *
    generalize ((1 : Nat) : Rat) = x0 at *
    generalize valM a J = x2 at *
    generalize chM a J = x3 at *
    generalize valM a K = x4 at *
    generalize chM a K = x5 at *
    simp only [o_6b, rD] at hc hv hc2 hv2 ho hd hadd hcm ⊢
    refine A16 (fs hgw (fs h24 (fs h24' xk))) haw hc hv hg hw0 hw ?_; try with_reducible exact tt
    refine A16 xk hv2 hc2 ho hd hadd hcm ?_; try with_reducible exact tt
   ·have h24' : ¬ (24 : Int) < K := by omega
    obtain ⟨E, hE7⟩ : ∃ E, E = 700 := ⟨_, rfl⟩
    have rch := o_pn a K a2 (by omega)
    have rva := o_ps a K a2 (by omega)
    have b1 : a ^ K < 2 ^ E := o_nr (powB (E := 13) (by omega)) (by omega)
    have b2 : (a + 1) ^ K < 2 ^ E := o_nr (powB (E := 13) (by omega)) (by omega)
    have i1 := o_ob (chM a K) (a ^ K) 0 ((a + 1) ^ K) E (o_pt a K a1) (rc.le (by omega)) (by omega) b1 (Nat.two_pow_pos _) b2 (Nat.pow_pos (by omega))
    obtain ⟨P1, P2, P3, hP⟩ : ∃ P1 P2 P3 : Nat, (if K = 0 then qD3 0 0 1 else qD3 (svM a K K) 0 (a ^ (K - 1))) = qD3 P1 P2 P3 ∧ valM a K = qval P1 P2 P3 ∧ P1 < 2 ^ E ∧ P2 < 2 ^ E ∧ P3 < 2 ^ E ∧ 0 < P3 := by
     by_cases h0 : K = 0
     ·subst h0
      refine ⟨0, 0, 1, if_pos rfl, ?_, Nat.two_pow_pos _, Nat.two_pow_pos _, Nat.one_lt_two_pow (by omega), by decide⟩
      unfold valM
      rw [Rat.pow_zero, o_o9]
      simp
      grind
     ·refine ⟨_, _, _, if_neg h0, o_pu a K a1 (by omega), o_pr E a K K (by omega) a2 (by omega) (Nat.le_refl _), Nat.two_pow_pos _, o_nr (powB (E := 13) (show a < 2 ^ 13 by omega)) (by omega), Nat.pow_pos (by omega)⟩
    obtain ⟨hP, hPv, p1, p2, p3, p4⟩ := hP
    rw [hP] at rva
    have i2 := o_ob (valM a K) P1 P2 P3 E hPv (rv.le (by omega)) (by omega) p1 p2 p3 p4
    clear hP hPv p1 p2 p3 p4 b1 b2 rc rv hb13 hbig
    generalize valM a K = x4 at *
    generalize chM a K = x5 at *
    generalize a ^ K = y1 at *
    generalize (a + 1) ^ K = y2 at *
    simp only [o_6b, rD, qD3] at hc hv rch rva i1 i2 ⊢
    generalize qB1 : nD P1 = B1 at *
    obtain ⟨nB1, lB1, rfl⟩ : ∃ n l, B1 = D.sl n l := ⟨_, _, qB1.symm⟩
    clear qB1
    generalize qB2 : nD P2 = B2 at *
    obtain ⟨nB2, lB2, rfl⟩ : ∃ n l, B2 = D.sl n l := ⟨_, _, qB2.symm⟩
    clear qB2
    generalize qB3 : nD P3 = B3 at *
    obtain ⟨nB3, lB3, rfl⟩ : ∃ n l, B3 = D.sl n l := ⟨_, _, qB3.symm⟩
    clear qB3
    generalize qB4 : nD y1 = B4 at *
    obtain ⟨nB4, lB4, rfl⟩ : ∃ n l, B4 = D.sl n l := ⟨_, _, qB4.symm⟩
    clear qB4
    generalize qB5 : nD y2 = B5 at *
    obtain ⟨nB5, lB5, rfl⟩ : ∃ n l, B5 = D.sl n l := ⟨_, _, qB5.symm⟩
    clear qB5
    generalize qB6 : nD 0 = B6 at *
    obtain ⟨nB6, lB6, rfl⟩ : ∃ n l, B6 = D.sl n l := ⟨_, _, qB6.symm⟩
    clear qB6
    refine A16 (fs hgw (fs h24 h24')) haw hc hv hg hw0 hw ?_; try with_reducible exact tt
    refine A04 rch i1 rva i2 ?_; try with_reducible exact tt
  ·have hc := o_ph a K a1 a2 k3 (by omega)
   have hv := o_pi a K a1 a2 k3 (by omega)
   have h600 : 600 < K := by
    apply Classical.byContradiction
    intro h
    have := Nat.mul_le_mul hb13 (show K ≤ 600 by omega)
    omega
   have h600' : (600 : Int) < K := by omega
   have h24 : 24 < K := by omega
   have h24' : (24 : Int) < K := by omega
   clear hb13 hbig
   simp only [o_6b, zeroR] at hc hv ⊢
   refine A16 (fs hgw (fs h24 (fs h24' (fs h600 h600')))) haw hc hv hg hw0 hw ?_; try with_reducible exact tt
 ·have hc := o_pj d k hE
  have hv := o_pk d k hE
  have hr := o_no 0 ⟨by decide, by decide⟩
  have ht : (txtQ 0).toList = [48] := by
   have hk : (⟨#[48]⟩ : ByteArray).toList = [48] := by kernel_rfl
   have : txtQ 0 = txt 0 := by
    unfold txtQ
    rw [if_pos (by rfl)]
    unfold txtZ
    rw [if_neg (by decide)]
    rfl
   rw [this, o_j5]; exact hk
  generalize wrongM d [k] = e at *
  rw [← o_pw] at hr
  generalize txtQ 0 = S at *
  simp only [o_6b, zeroR] at hc hv hr ⊢
  refine A18 (fs hgw (fs hE ht)) haw hc hv hg hw0 hw hr hr ?_; try with_reducible exact tt
end
end Go.Proofs.YtmpjlkclkhnpfaaGreatDoor.Am
namespace Go.Proofs.YtmpjlkclkhnpfaaGreatDoor.Am
section
open Go.RowKit

theorem mt_walk {W : World} (ht : Tabs (memW W)) {a k : Int} : Calls Tryz.prog o_6a #[.int .i64 a, .int .i64 k] W (fun e W' => e = .returned (.bool true) ∧ Same W W') :=
 o_oq o_6c (o_q0 a k) (V.reps_cons.2 ⟨V.rep_int.2 rfl, V.reps_cons.2 ⟨V.rep_int.2 rfl, V.reps_nil.2 rfl⟩⟩) ht
end
end Go.Proofs.YtmpjlkclkhnpfaaGreatDoor.Am
