/- Parts of the proof: AmTT, TabL, PmfM, PmfN, Pmf1, Pmf4, Pmf2, Pmf3, Pmf5, Pmf6, Pmf7, SortK, SortM, SortO, Pmf8, PmfG, Pmf9, PmfA, PmfB, PmfK, PmfC, PmfI, PmfJ, PmfO, PmfP, PmfQ, PmfU, PmfR, PmfS, PmfT, PmfV, PmfW, PtM, PtN, TailN, FalN, TailA, TailB, TailC, PmfY, PmfZ, PmfCa, PmfCb, PmfCc, PmfD, PmfE, PmfF, PmfCd, TailD, TailE, TailF, TailG, Mor3, Mor4, Mor5, TailH, TailI, FalA, PtA, PtB, PtC, PtD, TailJ, PmfEb, TailK, TailM2, TailT, TailO, FalB. -/
import Derived.Test.YtjbcbbfhcbnncaaGreatDoorPe
set_option linter.unusedVariables false
set_option linter.unusedSimpArgs false
set_option maxRecDepth 100000
namespace Go.Proofs.YtjbcbbfhcbnncaaGreatDoor.Am
section
open Go.RowKit
theorem o_v9 {W : World} {g0 : Nat} {zs : List Int} (ht : ∀ g l, tab g = some l → g = g0 ∧ l = zs.map fun z : Int => D.int .u64 z) (hlt : g0 < W.heap.size) (hc : ∀ (i : Nat) u, (zs.map (Value.int .u64))[i]? = some u → W.cell? ⟨g0, i, none⟩ = some u) : Tabs (memW W) := by
 intro g l hg
 obtain ⟨rfl, rfl⟩ := ht g l hg
 unfold D.rep
 refine ⟨g, 0, rfl, hlt, zs.map (Value.int .u64), fun u hu => ?_, reps_of (fun z : Int => D.int .u64 z) (Value.int .u64) (fun _ => by unfold D.rep; rfl) zs, fun i u hu => ?_⟩
 ·obtain ⟨z, -, rfl⟩ := List.mem_map.1 hu
  rfl
 ·rw [Nat.zero_add]; exact hc i u hu
end
section
open Go.RowKit

theorem tabsIn {W : World} {g0 : Nat} {zs : List Int} (ht : ∀ g l, tab g = some l → g = g0 ∧ l = zs.map fun z : Int => D.int .u64 z) (hlt : g0 < W.heap.size) (hc : ∀ (i : Nat) u, (zs.map (Value.int .u64))[i]? = some u → W.cell? ⟨g0, i, none⟩ = some u) : Tabs (memW W) := o_v9 ht hlt hc
theorem tabAll : ∀ g l, tab g = some l → g = 2 ∧ l = ([1, 10, 100, 1000, 10000, 100000, 1000000, 10000000, 100000000, 1000000000, 10000000000, 100000000000, 1000000000000, 10000000000000, 100000000000000, 1000000000000000, 10000000000000000, 100000000000000000, 1000000000000000000, 10000000000000000000] : List Int).map fun z : Int => D.int .u64 z := by
 intro g l h
 unfold tab at h
 split at h
 ·cases h
  exact ⟨‹_›, rfl⟩
 ·cases h
end
section
open Go.RowKit
@[simp] theorem o_va (l : List D) : V.toDs (l.map .d) = some l := by induction l <;> simp_all [V.toDs]
abbrev St := Nat × Nat × Bool
def stD (s : St) : List D := [.int .i64 s.1, .int .i64 s.2.1, .bool s.2.2]
@[simp] theorem o_vb (s : St) : (stD s).length = 3 := rfl
theorem o_vc (s t : St) : eqKs [0, 0, 1] (stD s) (stD t) = some (decide (s = t)) := by
 obtain ⟨a, b, c⟩ := s
 obtain ⟨a', b', c'⟩ := t
 unfold stD eqKs
 simp only [eqK, if_true, eqKs]
 simp only [Option.some.injEq, Bool.and_true]
 rw [Bool.eq_iff_iff]
 simp only [Bool.and_eq_true, beq_iff_eq, decide_eq_true_eq, Prod.mk.injEq]
 constructor
 ·rintro ⟨h1, h2, h3⟩; exact ⟨by omega, by omega, h3⟩
 ·rintro ⟨h1, h2, h3⟩; exact ⟨by omega, by omega, h3⟩

abbrev Sp := List (St × Rat)
section
variable (rc : Rat → List D) (hrc : ∀ q, (rc q).length = 3)
def spD (l : Sp) : List D := l.flatMap fun p => stD p.1 ++ rc p.2
theorem o_vd (rc : Rat → List D) (hrc : ∀ q, (rc q).length = 3) (l : Sp) : (spD rc l).length = l.length * 6 := by
 induction l with
 | nil => rfl
 | cons p l ih => rw [spD, List.flatMap_cons, List.length_append, ← spD, ih]; simp [hrc]; omega
def idxQ (s : St) : Sp → Option Nat
 | [] => none
 | p :: l => if s = p.1 then some 0 else (idxQ s l).map (· + 1)
theorem o_ve (rc : Rat → List D) (hrc : ∀ q, (rc q).length = 3) (s : St) : ∀ l : Sp, mfind [0, 0, 1] 3 (stD s) l.length (spD rc l) = some (idxQ s l)
 | [] => rfl
 | p :: l => by
  have e1 : (spD rc (p :: l)).take 3 = stD p.1 := by
   rw [spD, List.flatMap_cons, List.append_assoc, List.take_append_of_le_length (by simp), List.take_of_length_le (by simp)]
  have e2 : (spD rc (p :: l)).drop 6 = spD rc l := by
   rw [spD, List.flatMap_cons, List.drop_append, List.drop_eq_nil_of_le (by simp [hrc]), List.nil_append]
   simp [hrc, spD]
  simp only [List.length_cons, mfind, List.length_nil]
  rw [e1, o_vc, e2]
  by_cases h : s = p.1
  ·simp [h, idxQ]
  ·simp only [h, decide_false]
   rw [o_ve rc hrc s l]
   simp [idxQ, h]
def getQ (l : Sp) (s : St) : Rat := match l with
 | [] => 0
 | p :: r => if s = p.1 then p.2 else getQ r s
def setQ (l : Sp) (s : St) (q : Rat) : Sp := match l with
 | [] => [(s, q)]
 | p :: r => if s = p.1 then (s, q) :: r else p :: setQ r s q
theorem o_vf (s t : St) (q : Rat) : ∀ l : Sp, getQ (setQ l s q) t = if t = s then q else getQ l t
 | [] => by simp [setQ, getQ]
 | p :: r => by
  unfold setQ
  split
  ·rename_i e
   unfold getQ
   by_cases h : t = s
   ·simp [h]
   ·simp [h, show ¬ t = p.1 from fun h' => h (h'.trans e.symm)]
  ·rename_i e
   unfold getQ
   rw [o_vf s t q r]
   by_cases h : t = s
   ·subst h; simp [e]
   ·simp [h]
theorem o_vg (s : St) (q : Rat) : ∀ l : Sp, (setQ l s q).map (·.1) = if s ∈ l.map (·.1) then l.map (·.1) else l.map (·.1) ++ [s]
 | [] => by simp [setQ]
 | p :: r => by
  unfold setQ
  split
  ·rename_i e; simp [e]
  ·rename_i e
   simp only [List.map_cons, o_vg s q r, List.mem_cons]
   by_cases h : s ∈ r.map (·.1)
   ·simp [h]
   ·simp [h, e]
theorem o_vh {s : St} {q : Rat} {l : Sp} (h : (l.map (·.1)).Nodup) : ((setQ l s q).map (·.1)).Nodup := by
 rw [o_vg]
 split
 ·exact h
 ·rename_i hs
  rw [List.nodup_append]
  refine ⟨h, by simp, fun a ha b hb => ?_⟩
  simp at hb; subst hb
  exact fun e => hs (e ▸ ha)
def lookD (z : List D) (s : St) : Sp → D
 | [] => .agg z
 | p :: r => if s = p.1 then .agg (rc p.2) else lookD z s r
theorem o_vi (rc : Rat → List D) (hrc : ∀ q, (rc q).length = 3) (s : St) (l : Sp) (z : List D) : mlook [0, 0, 1] 3 true z (stD s) (spD rc l) = some (lookD rc z s l) := by
 unfold mlook
 have hn : (spD rc l).length / ([0, 0, 1].length + 3) = l.length := by rw [o_vd rc hrc]; simp
 rw [hn, o_ve rc hrc]
 simp only [Option.map_some, Option.some.injEq]
 have key : ∀ l : Sp, (match idxQ s l with
   | some i => glD true (((spD rc l).drop (i * ([0, 0, 1].length + 3) + [0, 0, 1].length)).take 3)
   | none => glD true z) = lookD rc z s l := by
  intro l
  induction l with
  | nil => simp [idxQ, glD, lookD]
  | cons p l ih =>
   by_cases h : s = p.1
   ·have e1 : ((spD rc (p :: l)).drop 3).take 3 = rc p.2 := by
     rw [spD, List.flatMap_cons, List.append_assoc, List.drop_append, List.drop_eq_nil_of_le (by simp), List.nil_append]
     simp [hrc]
    simp [idxQ, h, lookD, glD, e1]
   ·have e2 : (spD rc (p :: l)).drop 6 = spD rc l := by
     rw [spD, List.flatMap_cons, List.drop_append, List.drop_eq_nil_of_le (by simp [hrc]), List.nil_append]
     simp [hrc, spD]
    rw [lookD, if_neg h, ← ih]
    simp only [idxQ, if_neg h]
    cases hi : idxQ s l with
    | none => rfl
    | some i =>
     simp only [Option.map_some]
     have : (i + 1) * ([0, 0, 1].length + 3) + [0, 0, 1].length = 6 + (i * ([0, 0, 1].length + 3) + [0, 0, 1].length) := by simp; omega
     rw [this, ← List.drop_drop, e2]
 exact key l
theorem o_vj (rc : Rat → List D) (hrc : ∀ q, (rc q).length = 3) (s : St) (l : Sp) (q : Rat) : mset [0, 0, 1] 3 (stD s) (rc q) (spD rc l) = some (spD rc (setQ l s q)) := by
 unfold mset
 have hn : (spD rc l).length / ([0, 0, 1].length + 3) = l.length := by rw [o_vd rc hrc]; simp
 rw [hn, o_ve rc hrc]
 simp only [Option.map_some, Option.some.injEq]
 have key : ∀ l : Sp, (match idxQ s l with
   | some i => (spD rc l).take (i * ([0, 0, 1].length + 3)) ++ (stD s ++ rc q) ++ (spD rc l).drop ((i + 1) * ([0, 0, 1].length + 3))
   | none => spD rc l ++ (stD s ++ rc q)) = spD rc (setQ l s q) := by
  intro l
  induction l with
  | nil => simp [idxQ, setQ, spD]
  | cons p l ih =>
   have e2 : (spD rc (p :: l)).drop 6 = spD rc l := by
    rw [spD, List.flatMap_cons, List.drop_append, List.drop_eq_nil_of_le (by simp [hrc]), List.nil_append]
    simp [hrc, spD]
   have e3 : spD rc (p :: l) = (stD p.1 ++ rc p.2) ++ spD rc l := by rw [spD, List.flatMap_cons]; rfl
   by_cases h : s = p.1
   ·simp only [idxQ, if_pos h, setQ]
    simp only [Nat.zero_mul, List.take_zero, Nat.zero_add, Nat.one_mul, List.nil_append]
    rw [show [0, 0, 1].length + 3 = 6 from rfl, e2]
    rw [show spD rc ((s, q) :: l) = (stD s ++ rc q) ++ spD rc l by rw [spD, List.flatMap_cons]; rfl]
   ·simp only [idxQ, if_neg h, setQ]
    rw [show spD rc (p :: setQ l s q) = (stD p.1 ++ rc p.2) ++ spD rc (setQ l s q) by rw [spD, List.flatMap_cons]; rfl, ← ih]
    have hl6 : (stD p.1 ++ rc p.2).length = 6 := by simp [hrc]
    cases hi : idxQ s l with
    | none => simp only [Option.map_none]; rw [e3]; simp
    | some i =>
     simp only [Option.map_some]
     rw [show [0, 0, 1].length + 3 = 6 from rfl]
     have t1 : (spD rc (p :: l)).take ((i + 1) * 6) = (stD p.1 ++ rc p.2) ++ (spD rc l).take (i * 6) := by
      rw [e3, List.take_append, List.take_of_length_le (by omega), hl6, show (i + 1) * 6 - 6 = i * 6 by omega]
     have t2 : (spD rc (p :: l)).drop ((i + 1 + 1) * 6) = (spD rc l).drop ((i + 1) * 6) := by
      rw [show (i + 1 + 1) * 6 = 6 + (i + 1) * 6 by omega, ← List.drop_drop, e2]
     rw [t1, t2]
     simp
 exact key l
end
end
section
open Go.RowKit
def addQ (l : Sp) (s : St) (x : Rat) : Sp := setQ l s (getQ l s + x)
def exQ (g : St → Rat) : Sp → Rat
 | [] => 0
 | p :: l => p.2 * g p.1 + exQ g l
def Uq (l : Sp) : Prop := (l.map (·.1)).Nodup
theorem o_vk (g : St → Rat) (s : St) (q : Rat) : ∀ l : Sp, Uq l → exQ g (setQ l s q) = exQ g l - getQ l s * g s + q * g s
 | [], _ => by simp only [setQ, exQ, getQ]; grind
 | p :: r, h => by
  have h' : Uq r := by unfold Uq at h ⊢; simp at h; exact h.2
  unfold setQ getQ
  split
  ·rename_i e
   simp only [exQ]
   rw [e]; grind
  ·simp only [exQ]
   rw [o_vk g s q r h']; grind
theorem o_vl {s : St} {q : Rat} {l : Sp} (h : Uq l) : Uq (addQ l s q) := o_vh h
theorem o_vm (g : St → Rat) (s : St) (q : Rat) (l : Sp) (h : Uq l) : exQ g (addQ l s q) = exQ g l + q * g s := by
 unfold addQ; rw [o_vk g s _ l h]; grind
theorem o_vn (g : St → Rat) {l k : Sp} (h : l.Perm k) : exQ g l = exQ g k := by
 induction h with
 | nil => rfl
 | cons x _ ih => simp only [exQ, ih]
 | swap x y l => simp only [exQ]; grind
 | trans _ _ h1 h2 => rw [h1, h2]
theorem o_vo (g : St → Rat) (l k : Sp) : exQ g (l ++ k) = exQ g l + exQ g k := by
 induction l with
 | nil => simp only [List.nil_append, exQ]; grind
 | cons p l ih => simp only [List.cons_append, exQ, ih]; grind
theorem o_vp (g : St → Rat) (l : Sp) : exQ g (l.filter fun p => decide (p.2 ≠ 0)) = exQ g l := by
 induction l with
 | nil => rfl
 | cons p l ih =>
  rw [List.filter_cons]
  split
  ·simp only [exQ, ih]
  ·rename_i h
   have : p.2 = 0 := by simpa using h
   simp only [exQ, ih, this]; grind
def ltS (s t : St) : Bool := decide (s.1 < t.1) || (decide (s.1 = t.1) && (decide (s.2.1 < t.2.1) || (decide (s.2.1 = t.2.1) && (!s.2.2 && t.2.2))))
theorem o_vq (s : St) : ltS s s = false := by unfold ltS; simp
theorem o_vr {s t u : St} (h1 : ltS s t = true) (h2 : ltS t u = true) : ltS s u = true := by
 obtain ⟨a, b, c⟩ := s; obtain ⟨a', b', c'⟩ := t; obtain ⟨a2, b2, c2⟩ := u
 unfold ltS at *
 simp only [Bool.or_eq_true, Bool.and_eq_true, decide_eq_true_eq, Bool.not_eq_true'] at *
 rcases h1 with h1 | ⟨h1, h1' | ⟨h1', h3, h4⟩⟩ <;> rcases h2 with h2 | ⟨h2, h2' | ⟨h2', h5, h6⟩⟩ <;> first | (left; omega) | (right; refine ⟨by omega, ?_⟩; first | (left; omega) | (right; exact ⟨by omega, by assumption, by assumption⟩))
theorem o_vs (s t : St) : ltS s t = true ∨ s = t ∨ ltS t s = true := by
 obtain ⟨a, b, c⟩ := s; obtain ⟨a', b', c'⟩ := t
 unfold ltS
 simp only [Bool.or_eq_true, Bool.and_eq_true, decide_eq_true_eq, Bool.not_eq_true', Prod.mk.injEq]
 rcases Nat.lt_trichotomy a a' with h | h | h
 ·left; left; exact h
 ·rcases Nat.lt_trichotomy b b' with h2 | h2 | h2
  ·left; right; exact ⟨h, .inl h2⟩
  ·cases c <;> cases c' <;> simp [h, h2]
  ·right; right; right; exact ⟨h.symm, .inl h2⟩
 ·right; right; left; exact h
def leP (p q : St × Rat) : Bool := !(ltS q.1 p.1)
theorem o_vt (a b c : St × Rat) (h1 : leP a b = true) (h2 : leP b c = true) : leP a c = true := by
 unfold leP at *
 simp only [Bool.not_eq_true'] at *
 cases h : ltS c.1 a.1 with
 | false => rfl
 | true =>
  rcases o_vs b.1 c.1 with h3 | h3 | h3
  ·rw [o_vr h3 h] at h1; cases h1
  ·rw [h3, h] at h1; cases h1
  ·rw [h3] at h2; cases h2
theorem o_vu (a b : St × Rat) : leP a b || leP b a := by
 unfold leP
 rcases o_vs a.1 b.1 with h | h | h
 ·have : ltS b.1 a.1 = false := by
   cases h2 : ltS b.1 a.1 with
   | false => rfl
   | true => have := o_vr h h2; rw [o_vq] at this; cases this
  simp [this]
 ·simp [h, o_vq]
 ·have : ltS a.1 b.1 = false := by
   cases h2 : ltS a.1 b.1 with
   | false => rfl
   | true => have := o_vr h h2; rw [o_vq] at this; cases this
  simp [this]
def nzQ (l : Sp) : Sp := l.filter fun p => decide (p.2 ≠ 0)
def atQ (l : Sp) : Sp := (nzQ l).mergeSort leP
theorem o_vv (l : Sp) : (atQ l).Perm (nzQ l) := List.mergeSort_perm _ _
theorem o_vw (g : St → Rat) (l : Sp) : exQ g (atQ l) = exQ g l := by rw [o_vn g (o_vv l)]; exact o_vp g l
theorem o_vx {l : Sp} (h : Uq l) : Uq (nzQ l) := by
 unfold Uq nzQ at *
 exact List.Sublist.nodup ((List.filter_sublist (l := l)).map _) h
theorem o_vy {l : Sp} (h : Uq l) : Uq (atQ l) := by
 unfold Uq
 exact ((o_vv l).map _).nodup_iff.2 (o_vx h)
theorem o_vz {a b : St × Rat} : ∀ {l : Sp}, Uq l → a ∈ l → b ∈ l → a.1 = b.1 → a = b
 | [], _, h, _, _ => by cases h
 | p :: l, hu, ha, hb, e => by
  unfold Uq at hu
  rw [List.map_cons, List.nodup_cons] at hu
  rcases List.mem_cons.1 ha with h1 | h1 <;> rcases List.mem_cons.1 hb with h2 | h2
  ·rw [h1, h2]
  ·exact absurd (show p.1 ∈ l.map (·.1) from List.mem_map.2 ⟨b, h2, by rw [← e, h1]⟩) hu.1
  ·exact absurd (show p.1 ∈ l.map (·.1) from List.mem_map.2 ⟨a, h1, by rw [e, h2]⟩) hu.1
  ·exact o_vz hu.2 h1 h2 e
theorem o_w0 {l k : Sp} (hu : Uq l) (hp : k.Perm (nzQ l)) (hs : k.Pairwise fun a b => ltS a.1 b.1 = true) : k = atQ l := by
 have h2 : (atQ l).Pairwise fun a b => leP a b = true := List.pairwise_mergeSort o_vt o_vu _
 refine List.Perm.eq_of_pairwise (le := fun a b => leP a b = true) ?_ (hs.imp ?_) h2 (hp.trans (o_vv l).symm)
 ·intro a b ha hb h3 h4
  have ha' : a ∈ nzQ l := hp.mem_iff.1 ha
  have hb' : b ∈ nzQ l := (o_vv l).mem_iff.1 hb
  have : a.1 = b.1 := by
   unfold leP at h3 h4
   rcases o_vs a.1 b.1 with h | h | h
   ·rw [h] at h4; simp at h4
   ·exact h
   ·rw [h] at h3; simp at h3
  exact o_vz (o_vx hu) ha' hb' this
 ·intro a b h
  unfold leP
  cases h2 : ltS b.1 a.1 with
  | false => rfl
  | true => have := o_vr h h2; rw [o_vq] at this; cases this
def innQ (q : Rat) (out l : Sp) : Sp := l.foldl (fun o b => addQ o b.1 (q * b.2)) out
def timesQ (next : St → Sp) (l : Sp) : Sp := (atQ l).foldl (fun out a => innQ a.2 out (atQ (next a.1))) []
def eitQ (x : Rat) (s o : St) : Sp := addQ (addQ [] s x) o (1 - x)
def stepQ (top : Nat) (c : Nat → Rat) (s : St) : Sp := if s.1 = top then [((s.1, s.2.1, true), 1)] else eitQ (c s.1) (s.1 + 1, s.2) s
def ofQ (next : St → Sp) (s : St) : Nat → Sp
 | 0 => [(s, 1)]
 | n + 1 => timesQ next (ofQ next s n)
theorem o_w1 (g : St → Rat) (q : Rat) : ∀ (l out : Sp), Uq out → Uq (innQ q out l) ∧ exQ g (innQ q out l) = exQ g out + q * exQ g l
 | [], out, h => ⟨h, by simp only [innQ, List.foldl_nil, exQ]; grind⟩
 | b :: l, out, h => by
  obtain ⟨h1, h2⟩ := o_w1 g q l (addQ out b.1 (q * b.2)) (o_vl h)
  refine ⟨h1, ?_⟩
  show exQ g (innQ q (addQ out b.1 (q * b.2)) l) = _
  rw [h2, o_vm g _ _ _ h]
  simp only [exQ]; grind
theorem o_w2 (g : St → Rat) (next : St → Sp) : ∀ (l out : Sp), Uq out → Uq (l.foldl (fun out a => innQ a.2 out (atQ (next a.1))) out) ∧ exQ g (l.foldl (fun out a => innQ a.2 out (atQ (next a.1))) out) = exQ g out + exQ (fun s => exQ g (next s)) l
 | [], out, h => ⟨h, by simp only [List.foldl_nil, exQ]; grind⟩
 | a :: l, out, h => by
  obtain ⟨h0, h3⟩ := o_w1 g a.2 (atQ (next a.1)) out h
  obtain ⟨h1, h2⟩ := o_w2 g next l (innQ a.2 out (atQ (next a.1))) h0
  refine ⟨h1, ?_⟩
  show exQ g (l.foldl (fun out a => innQ a.2 out (atQ (next a.1))) (innQ a.2 out (atQ (next a.1)))) = _
  rw [h2, h3, o_vw]
  simp only [exQ]; grind
theorem o_w3 (next : St → Sp) (l : Sp) : Uq (timesQ next l) := (o_w2 (fun _ => 0) next (atQ l) [] (by simp [Uq])).1
theorem o_w4 (g : St → Rat) (next : St → Sp) (l : Sp) : exQ g (timesQ next l) = exQ (fun s => exQ g (next s)) l := by
 have h := (o_w2 g next (atQ l) [] (by simp [Uq])).2
 rw [o_vw] at h
 have e : exQ g [] = 0 := rfl
 rw [e] at h
 unfold timesQ
 rw [h]; grind
theorem o_w5 (next : St → Sp) (s : St) : ∀ n, Uq (ofQ next s n)
 | 0 => by simp [ofQ, Uq]
 | n + 1 => o_w3 _ _
theorem o_w6 (g : St → Rat) (x : Rat) (s o : St) : Uq (eitQ x s o) ∧ exQ g (eitQ x s o) = x * g s + (1 - x) * g o := by
 have h0 : Uq ([] : Sp) := by simp [Uq]
 refine ⟨o_vl (o_vl h0), ?_⟩
 unfold eitQ
 rw [o_vm g _ _ _ (o_vl h0), o_vm g _ _ _ h0]
 simp only [exQ]; grind
theorem o_w7 (g : St → Rat) (top : Nat) (c : Nat → Rat) (s : St) : Uq (stepQ top c s) ∧ exQ g (stepQ top c s) = if s.1 = top then g (s.1, s.2.1, true) else c s.1 * g (s.1 + 1, s.2) + (1 - c s.1) * g s := by
 unfold stepQ
 split
 ·refine ⟨by simp [Uq], ?_⟩
  simp only [exQ]; grind
 ·exact o_w6 g _ _ _
def okQ (top : Nat) (s : St) : Prop := s.1 ≤ top ∧ s.2.1 = 0 ∧ (s.2.2 = true → s.1 = top)
def oklQ (top : Nat) (l : Sp) : Prop := ∀ p ∈ l, okQ top p.1 ∧ 0 ≤ p.2
theorem o_w8 {top : Nat} {g h : St → Rat} (hgh : ∀ s, okQ top s → g s ≤ h s) : ∀ {l : Sp}, oklQ top l → exQ g l ≤ exQ h l
 | [], _ => Rat.le_refl
 | p :: l, hl => by
  have h1 := o_w8 hgh (l := l) fun q hq => hl q (by simp [hq])
  obtain ⟨h2, h3⟩ := hl p (by simp)
  have h4 := hgh p.1 h2
  simp only [exQ]
  have h5 : p.2 * g p.1 ≤ p.2 * h p.1 := Rat.mul_le_mul_of_nonneg_left h4 h3
  grind
theorem o_w9 {l : Sp} {s : St} {q : Rat} {p : St × Rat} (h : p ∈ setQ l s q) : p ∈ l ∨ p = (s, q) := by
 induction l with
 | nil => simp [setQ] at h; exact .inr h
 | cons r l ih =>
  unfold setQ at h
  split at h
  ·rcases List.mem_cons.1 h with h | h
   ·exact .inr h
   ·exact .inl (by simp [h])
  ·rcases List.mem_cons.1 h with h | h
   ·exact .inl (by simp [h])
   ·exact (ih h).imp (fun h => by simp [h]) id
theorem o_wa {top : Nat} {l : Sp} (h : oklQ top l) (s : St) : 0 ≤ getQ l s := by
 induction l with
 | nil => exact Rat.le_refl
 | cons p l ih =>
  unfold getQ
  split
  ·exact (h p (by simp)).2
  ·exact ih fun q hq => h q (by simp [hq])
theorem o_wb {top : Nat} {l : Sp} (h : oklQ top l) {s : St} {q : Rat} (hs : okQ top s) (hq : 0 ≤ q) : oklQ top (addQ l s q) := by
 intro p hp
 rcases o_w9 hp with hp | rfl
 ·exact h p hp
 ·refine ⟨hs, ?_⟩
  have := o_wa h s
  show 0 ≤ getQ l s + q
  grind
theorem o_wc {top : Nat} {l : Sp} (h : oklQ top l) : oklQ top (atQ l) := fun p hp => h p (List.mem_filter.1 ((o_vv l).mem_iff.1 hp)).1
theorem o_wd {top : Nat} {q : Rat} (hq : 0 ≤ q) : ∀ {l out : Sp}, oklQ top out → oklQ top l → oklQ top (innQ q out l)
 | [], out, h, _ => h
 | b :: l, out, h, hl => by
  obtain ⟨h1, h2⟩ := hl b (by simp)
  exact o_wd (out := addQ out b.1 (q * b.2)) (l := l) hq (o_wb h h1 (Rat.mul_nonneg hq h2)) fun p hp => hl p (by simp [hp])
theorem o_we {top : Nat} {next : St → Sp} (hn : ∀ s, okQ top s → oklQ top (next s)) {l : Sp} (h : oklQ top l) : oklQ top (timesQ next l) := by
 have key : ∀ (k out : Sp), oklQ top out → oklQ top k → oklQ top (k.foldl (fun out a => innQ a.2 out (atQ (next a.1))) out) := by
  intro k
  induction k with
  | nil => intro out h _; exact h
  | cons a k ih =>
   intro out ho hk
   obtain ⟨h1, h2⟩ := hk a (by simp)
   exact ih _ (o_wd h2 ho (o_wc (hn _ h1))) fun p hp => hk p (by simp [hp])
 exact key _ _ (fun p hp => by cases hp) (o_wc h)
theorem o_wf {top : Nat} {c : Nat → Rat} (h0 : ∀ k, k < top → 0 ≤ c k) (h1 : ∀ k, k < top → c k ≤ 1) {s : St} (hs : okQ top s) : oklQ top (stepQ top c s) := by
 obtain ⟨a, b, f⟩ := s
 obtain ⟨s1, s2, s3⟩ := hs
 simp only at s1 s2 s3
 unfold stepQ
 split
 ·rename_i e
  intro p hp
  simp at hp; subst hp
  refine ⟨⟨s1, s2, fun _ => e⟩, ?_⟩
  exact (by decide : (0 : Rat) ≤ 1)
 ·rename_i e
  have hlt : a < top := by simp only at e; omega
  have e0 := h0 a hlt
  have e1 := h1 a hlt
  have hf : f = false := by
   cases f with
   | false => rfl
   | true => exact absurd (s3 rfl) (by omega)
  subst hf
  refine o_wb (o_wb (fun p hp => by cases hp) ⟨by simp only; omega, s2, fun h => by simp at h⟩ e0) ⟨s1, s2, s3⟩ ?_
  show (0 : Rat) ≤ 1 - c a
  grind
theorem o_wg {top : Nat} {c : Nat → Rat} (h0 : ∀ k, k < top → 0 ≤ c k) (h1 : ∀ k, k < top → c k ≤ 1) {s : St} (hs : okQ top s) : ∀ n, oklQ top (ofQ (stepQ top c) s n)
 | 0 => fun p hp => by
  simp [ofQ] at hp; subst hp
  exact ⟨hs, (by decide : (0 : Rat) ≤ 1)⟩
 | n + 1 => o_we (fun s hs => o_wf h0 h1 hs) (o_wg h0 h1 hs n)
theorem o_wh {top : Nat} {c : Nat → Rat} (s : St) : ∀ n, exQ (fun _ => 1) (ofQ (stepQ top c) s n) = 1
 | 0 => by simp only [ofQ, exQ]; grind
 | n + 1 => by
  show exQ (fun _ => 1) (timesQ (stepQ top c) (ofQ (stepQ top c) s n)) = 1
  rw [o_w4]
  have : (fun t => exQ (fun _ => (1 : Rat)) (stepQ top c t)) = fun _ => 1 := by
   funext t
   rw [(o_w7 (fun _ => 1) top c t).2]
   split
   ·rfl
   ·grind
  rw [this, o_wh s n]
end
section
open Go.RowKit
@[simp] theorem o_wi (θ : Nat → Nat) (l : List D) : V.rens θ (l.map V.d) = l.map V.d := o_5v θ l
@[simp] theorem o_wj (n : Nat) (l : List D) : V.lowl n (l.map V.d) = true := o_5w n l
def rcD (q : Rat) : List D := [natW q.num.natAbs, .bool (decide (q.num < 0)), natW (q.den - 1)]
theorem o_wk (q : Rat) : rD q = .agg (rcD q) := rfl
def zR : List D := [.nilsl, .bool false, .nilsl]
theorem Sub1.agg2 {l r : List D} (h : Subs (l.map V.d) (r.map V.d)) : Sub1 (.d (.agg l)) (.d (.agg r)) := fun m v k => by
 rw [V.rep_d] at k ⊢
 unfold D.rep at k ⊢
 obtain ⟨vs, h1, h2, h3⟩ := k
 exact ⟨vs, h1, h2, V.reps_map_d.1 (h m vs (V.reps_map_d.2 h3))⟩
theorem o_wl : Sub1 (.d (.agg zR)) (.d (rD 0)) := Sub1.agg2 (Subs.cons Sub1.nil (Subs.cons (Sub1.refl _) (Subs.cons Sub1.nil (Subs.refl _))))
theorem o_wm (s : St) : ∀ l : Sp, Sub1 (.d (lookD rcD zR s l)) (.d (rD (getQ l s)))
 | [] => o_wl
 | p :: r => by
  unfold lookD getQ
  split
  ·exact Sub1.refl _
  ·exact o_wm s r
def spO (l : Sp) : Ob := ⟨1000391, (spD rcD l).map .d⟩
theorem o_wn (l : Sp) (s : St) (x : Rat) (h1 : RS (getQ l s) 100000) (h2 : RS x 100000) : Eqn Tryz.prog o_b0 [.mp 0, .d (.agg (stD s)), .d (rD x)] [spO l] (.tup []) [spO (addQ l s x)] := by
 refine Eqn.gen [0] o_b2 (by simp) (by simp) (by rfl) (by decide) (by simp) (by simp [spO, o_5w]) ?_
 have ha : Eqn Tryz.prog o_7v [.d (lookD rcD zR s l), .d (rD x)] [] (.d (rD (getQ l s + x))) [] := (o_oj _ _ h1 h2).sub (Subs.cons (o_wm s l) (Subs.refl _))
 have hl := o_vi rcD (fun _ => rfl) s l zR
 have hm := o_vj rcD (fun _ => rfl) s l (getQ l s + x)
 have hn := o_vd rcD (fun _ => rfl) l
 simp only [o_b1, spO, o_wk, stD, zR, addQ, rcD] at ha hl hm hn ⊢
 generalize spD (fun q => _) l = L at *
 generalize spD (fun q => _) (setQ l s (getQ l s + x)) = L2 at *
 refine A10 (fs hl (fs hm hn)) ?_; try with_reducible exact tt
 refine CallS.pu (ha) (R1 (fs hl (fs hm hn)) ?_); try with_reducible exact tt
end
section
open Go.RowKit
theorem o_wo : RS (1 : Rat) 1 := by
 have := RS.mk' (z := 1) (d := 1) (N := 1) (by decide) (by decide) (by decide)
 exact this
theorem rof1 : Eqn Tryz.prog o_7d [.d (.int .i64 1)] [] (.d (rD 1)) [] := by
 have := o_p8 1 (by omega)
 simpa using this
theorem rof0 : Eqn Tryz.prog o_7d [.d (.int .i64 0)] [] (.d (rD 0)) [] := by
 have := o_p8 0 (by omega)
 simpa using this
theorem o_wp (x : Rat) (s o : St) (hx : RS x 1000) (hso : s ≠ o) : Eqn Tryz.prog o_bo [.d (rD x), .d (.agg (stD s)), .d (.agg (stD o))] [] (.mp 0) [spO (eitQ x s o)] := by
 refine Eqn.gen [3] o_bq (by simp) (by simp) (by rfl) (by decide) (by simp) (by simp [spO]) ?_
 have h1 : RS (1 - x) 2000 := (o_wo.sub hx).le (by omega)
 have a1 := o_wn [] s x (by simp only [getQ]; exact ⟨by decide, by decide⟩) (hx.le (by omega))
 have a2 := o_wn (addQ [] s x) o (1 - x) (by rw [addQ, o_vf, if_neg (fun h => hso h.symm)]; show RS (0 : Rat) 100000; exact ⟨by decide, by decide⟩) (h1.le (by omega))
 have hs := o_ok 1 x (o_wo.le (by omega)) (hx.le (by omega))
 have ho := rof1
 simp only [o_bp, spO, o_wk, stD, eitQ, spD, List.flatMap_nil, List.map_nil] at a1 a2 hs ho ⊢
 generalize (addQ [] s x).flatMap _ = L1 at *
 generalize (addQ (addQ [] s x) o (1 - x)).flatMap _ = L2 at *
 generalize rcD (1 - x) = R1 at *
 simp only [rcD] at a1 hs ho ⊢
 refine A00 ?_; try with_reducible exact tt
 refine CallS.g [3] (a1) (R0 ?_); try with_reducible exact tt
 refine CallS.pu (ho) (R0 ?_); try with_reducible exact tt
 refine CallS.pu (hs) (R0 ?_); try with_reducible exact tt
 refine CallS.g [3] (a2) (R0 ?_); try with_reducible exact tt
 done
@[simp] theorem o_wq (ks : List Nat) (vw : Nat) (kl dv : List D) : mset ks vw kl dv [] = some (kl ++ dv) := by simp [mset, mfind]
theorem o_wr (s : St) : Eqn Tryz.prog o_8t [.d (.agg (stD s))] [] (.mp 0) [spO [(s, 1)]] := by
 refine Eqn.gen [1] o_8v (by simp) (by simp) (by rfl) (by decide) (by simp) (by simp [spO]) ?_
 have ho := rof1
 simp only [o_8u, spO, o_wk, stD, rcD, spD, List.flatMap_cons, List.flatMap_nil] at ho ⊢
 simp
 refine A00 ?_; try with_reducible exact tt
 refine CallS.pu (ho) (R0 ?_); try with_reducible exact tt

def chP (k a x : Nat) : Rat := if k = 1 then chM a x else mkRat 1 (2 ^ expOf k a x)
theorem o_ws (e : Nat) : halfD e = rD (mkRat 1 (2 ^ e)) := by
 obtain ⟨h1, h2, h3⟩ := o_o0 1 (2 ^ e) (Nat.two_pow_pos e)
 have hg : Nat.gcd (1 : Int).natAbs (2 ^ e) = 1 := by simp
 rw [hg] at h1 h2
 unfold halfD rD
 rw [h1, h2, show decide ((mkRat 1 (2 ^ e)).num < 0) = false by rw [decide_eq_false_iff_not, h3]; decide]
 simp
theorem o_wt : MethOK Tryz.prog 182 "tallymark/chain.chance" o_gg := fun v w => by kernel_rfl
theorem o_wu (a k : Nat) (h1 : 1 ≤ a) (h2 : a ≤ 4096) (hk : k ≤ 1023) (hb : bitsN (a + 1) * k ≤ 8192) : Eqn Tryz.prog o_gg [.d (.int .i64 a), .d (.int .i64 k)] [] (.tup [.d (rD (chM a k)), .d (.int .i64 0)]) [] := by
 refine Eqn.pure o_gi (o_ke _ _) ?_
 have h := (o_r7 a k h1 h2 hk hb).1
 rw [o_wk] at h ⊢
 simp only [o_gh, rcD] at h ⊢
 refine G0 ?_; try with_reducible exact tt
 refine CallS.pu (h) (R0 ?_); try with_reducible exact tt
theorem o_wv {k a w x : Nat} (h : GoodS k a w) (hx : x ≤ 15) : ∃ ti d g, MethOK Tryz.prog ti "tallymark/chain.chance" g ∧ kindD k a = .ifc ti d ∧ Eqn Tryz.prog g [.d d, .d (.int .i64 x)] [] (.tup [.d (rD (chP k a x)), .d (.int .i64 0)]) [] := by
 by_cases hk : k = 1
 ·subst hk
  have ha : 1 ≤ a ∧ a ≤ 4 := by
   rcases h.1 with ⟨-, h1, h2⟩ | ⟨h1, -⟩ | ⟨h1, -⟩
   ·exact ⟨h1, h2⟩
   ·omega
   ·omega
  refine ⟨_, _, _, o_wt, rfl, ?_⟩
  rw [chP, if_pos rfl]
  have hb : bitsN (a + 1) ≤ 3 := o_l2 (by omega)
  exact o_wu a x ha.1 (by omega) (by omega) (Nat.le_trans (Nat.mul_le_mul hb hx) (by omega))
 ·obtain ⟨ti, d, g, h1, h2, h3⟩ := o_qx h hk hx
  rw [o_ws] at h3
  exact ⟨ti, d, g, h1, h2, by rw [chP, if_neg hk]; exact h3⟩
theorem o_ww {k a w x : Nat} (h : GoodS k a w) (hx : x < 2 ^ w - 1) : Eqn Tryz.prog o_c3 [.d (parD k a w), .d (.int .i64 x)] [] (.tup [.d (rD (chP k a x)), .d (.int .i64 0)]) [] := by
 refine Eqn.pure o_c5 (o_ke _ _) ?_
 have h2 : 2 ^ w - 1 ≤ 15 := by have := Nat.pow_le_pow_right (n := 2) (by omega) h.2.2; omega
 have w2 : w ≤ 10 := by have := h.2.2; omega
 have hc := o_qm h
 have hat := o_ql k a w w2 x (by omega) (by omega) hc
 have ht := o_qk k a w w2 hc
 have hkd := o_pi k a w
 obtain ⟨ti, d, g, hm, hd, hg⟩ := o_wv (x := x) h (by omega)
 rw [hd] at hkd
 rw [o_wk] at hg ⊢
 simp only [o_c4, parD, rcD] at hat ht hg ⊢
 generalize 2 ^ w - 1 = W at *
 have g1 : ¬ x = W := by omega
 have g2 : ¬ (x : Int) = W := by omega
 refine G1 (fs g1 g2) ?_; try with_reducible exact tt
 refine CallS.pf 2 1 ⟨3, _⟩ [.int .i64 x] (hat) (by first | rfl | (simp [g1, g2]; done)) (R1 (fs g1 g2) ?_); try with_reducible exact tt
 refine CallS.pu (ht) (R1 (fs g1 g2) ?_); try with_reducible exact tt
 refine AW.cond rfl (fun h => ?_) (fun h => ?_)
 ·simp [g2] at h
 refine G0 ?_; try with_reducible exact tt
 refine CallS.pu (hkd) (R0 ?_); try with_reducible exact tt
 refine ⟨_, hm, ?_⟩
 refine CallS.pu (hg) (R0 ?_); try with_reducible exact tt
theorem o_wx {k a w : Nat} (h : GoodS k a w) : Eqn Tryz.prog o_c3 [.d (parD k a w), .d (.int .i64 (2 ^ w - 1 : Nat))] [] (.tup [.d (.agg zR), .d (.int .i64 0)]) [] := by
 refine Eqn.pure o_c5 (o_ke _ _) ?_
 have h2 : 2 ^ w - 1 ≤ 15 := by have := Nat.pow_le_pow_right (n := 2) (by omega) h.2.2; omega
 have w2 : w ≤ 10 := by have := h.2.2; omega
 have hc := o_qm h
 have hat := o_ql k a w w2 ((2 ^ w - 1 : Nat) : Int) (by omega) (Int.le_refl _) hc
 have ht := o_qk k a w w2 hc
 simp only [o_c4, parD, zR] at hat ht ⊢
 generalize 2 ^ w - 1 = W at *
 refine G0 ?_; try with_reducible exact tt
 refine CallS.pf 2 1 ⟨3, _⟩ [.int .i64 W] (hat) (by first | rfl | (simp; done)) (R0 ?_); try with_reducible exact tt
 refine CallS.pu (ht) (R0 ?_); try with_reducible exact tt
 refine A00 ?_; try with_reducible exact tt
theorem o_wy (k a b : Int) : Eqn Tryz.prog o_c0 [.d (parD k a b)] [] (.d (parD k a b)) [] := by
 refine Eqn.pure o_c2 Plain.ok ?_
 simp only [o_c1, parD]
 refine A00 ?_; try with_reducible exact tt
end
section
open Go.RowKit
theorem o_wz (x : Int) : Eqn Tryz.prog o_fd [.d (.int .i64 x)] [] (.d (.bool false)) [] := by
 refine Eqn.pure o_ff Plain.ok ?_
 simp only [o_fe]
 refine A00 ?_; try with_reducible exact tt
def cmpG (x y : Int) : Int := if x < y then -1 else if y < x then 1 else 0
theorem o_x0 (x y : Int) : Eqn Tryz.prog o_ea [.d (.int .i64 x), .d (.int .i64 y)] [] (.d (.int .i64 (cmpG x y))) [] := by
 refine Eqn.pure o_ec Plain.ok ?_
 simp only [o_eb]
 have h1 := o_wz x
 have h2 := o_wz y
 unfold cmpG
 by_cases g1 : x < y
 ·rw [if_pos g1]
  refine A12 g1 h1 h2 ?_; try with_reducible exact tt
 ·rw [if_neg g1]
  by_cases g2 : y < x
  ·rw [if_pos g2]
   refine A12 (fs g1 g2) h1 h2 ?_; try with_reducible exact tt
  ·rw [if_neg g2]
   refine A12 (fs g1 g2) h1 h2 ?_; try with_reducible exact tt
theorem o_x1 (f : Bool) : Eqn Tryz.prog o_ed [.d (.bool f)] [] (.d (.int .i64 ((if f then 1 else 0)))) [] := by
 refine Eqn.pure o_ef Plain.ok ?_
 simp only [o_ee]
 cases f
 ·refine A00 ?_; try with_reducible exact tt
 ·refine A00 ?_; try with_reducible exact tt
def orG (a b c : Int) : Int := if a ≠ 0 then a else if b ≠ 0 then b else c
theorem o_x2 (a b c : Int) : Eqn Tryz.prog o_e7 [.d (.sl 3 [.int .i64 a, .int .i64 b, .int .i64 c])] [] (.d (.int .i64 (orG a b c))) [] := by
 refine Eqn.pure o_e9 Plain.ok ?_
 simp only [o_e8]
 unfold orG
 by_cases ha : a = 0
 ·subst ha
  by_cases hb : b = 0
  ·subst hb
   by_cases hc : c = 0
   ·subst hc
    refine A00 ?_; try with_reducible exact tt
    refine AW.rounds 4 ?_
    refine A00 ?_; try with_reducible exact tt
   ·refine A00 ?_; try with_reducible exact tt
    refine AW.rounds 4 ?_
    refine A10 hc ?_; try with_reducible exact tt
  ·refine A00 ?_; try with_reducible exact tt
   refine AW.rounds 4 ?_
   refine A10 hb ?_; try with_reducible exact tt
 ·refine A00 ?_; try with_reducible exact tt
  refine AW.rounds 4 ?_
  refine A10 ha ?_; try with_reducible exact tt
end
section
open Go.RowKit
def ordI (p q : St × Rat) : Int := orG (cmpG p.1.1 q.1.1) (cmpG p.1.2.1 q.1.2.1) (cmpG (if p.1.2.2 then 1 else 0) (if q.1.2.2 then 1 else 0))
theorem o_x3 (p q : St × Rat) : ordI p q < 0 ↔ ltS p.1 q.1 = true := by
 obtain ⟨⟨a, b, c⟩, x⟩ := p; obtain ⟨⟨a', b', c'⟩, x'⟩ := q
 unfold ordI orG cmpG ltS
 simp only [Bool.or_eq_true, Bool.and_eq_true, decide_eq_true_eq, Bool.not_eq_true']
 cases c <;> cases c' <;> simp <;> (repeat' split) <;> omega
theorem o_x4 (p q : St × Rat) (x y z x' y' z' : D) : Eqn Tryz.prog o_ca [.d (.agg [.int .i64 p.1.1, .int .i64 p.1.2.1, .bool p.1.2.2, x, y, z]), .d (.agg [.int .i64 q.1.1, .int .i64 q.1.2.1, .bool q.1.2.2, x', y', z'])] [] (.d (.int .i64 (ordI p q))) [] := by
 refine Eqn.pure o_cc Plain.ok ?_
 simp only [o_cb]
 have t1 := o_x1 p.1.2.2
 have t2 := o_x1 q.1.2.2
 have c1 := o_x0 p.1.1 q.1.1
 have c2 := o_x0 p.1.2.1 q.1.2.1
 have c3 := o_x0 (if p.1.2.2 then 1 else 0) (if q.1.2.2 then 1 else 0)
 have ho := o_x2 (cmpG p.1.1 q.1.1) (cmpG p.1.2.1 q.1.2.1) (cmpG (if p.1.2.2 then 1 else 0) (if q.1.2.2 then 1 else 0))
 unfold ordI
 generalize cmpG (if p.1.2.2 then 1 else 0) (if q.1.2.2 then 1 else 0) = C3 at *
 generalize cmpG p.1.1 q.1.1 = C1 at *
 generalize cmpG p.1.2.1 q.1.2.1 = C2 at *
 generalize (if p.1.2.2 then (1 : Int) else 0) = T1 at *
 generalize (if q.1.2.2 then (1 : Int) else 0) = T2 at *
 generalize p.1.2.2 = F1 at *
 generalize q.1.2.2 = F2 at *
 refine A06B c1 c2 t1 t2 c3 c3 ?_; try with_reducible exact tt
 refine CallS.pf 4 1 ⟨3, [.d (.int .i64 C1), .d (.int .i64 C2), .d (.int .i64 C3)]⟩ [.int .i64 C1, .int .i64 C2, .int .i64 C3] (ho) (by first | rfl | (simp [-Bool.exists_bool]; done)) (R0B ?_); try with_reducible exact tt

section
variable {aC : St × Rat → List D}
def rowA (aC : St × Rat → List D) (l : Sp) : List V := (l.flatMap aC).map .d
theorem o_x5 (h6 : ∀ p, (aC p).length = 6) (l : Sp) : (rowA aC l).length = l.length * 6 := by
 rw [rowA, List.length_map, o_pa h6]
@[simp] theorem o_x6 (n : Nat) (l : Sp) : V.lowl n (rowA aC l) = true := o_5w _ _
@[simp] theorem o_x7 (θ : Nat → Nat) (l : Sp) : V.rens θ (rowA aC l) = rowA aC l := o_5v _ _
theorem o_x8 (h6 : ∀ p, (aC p).length = 6) (l : Sp) (i : Nat) (h : i < l.length) : ((rowA aC l).drop (i * 6)).take 6 = (aC l[i]).map .d := by
 rw [rowA, ← List.map_drop, ← List.map_take, o_pc h6 l i h]
theorem o_x9 (l k : Sp) : rowA aC (l ++ k) = rowA aC l ++ rowA aC k := by simp [rowA]
def SortTo (L K : Sp) : Prop := ∀ K' : Sp, K'.Perm L → K'.Pairwise (fun a b => ltS a.1 b.1 = true) → K' = K
end
end
section
open Go.RowKit
def ChOk (k a w : Nat) : Prop := GoodS k a w
def topC (w : Nat) : Nat := 2 ^ w - 1
def onQ (w : Nat) (s : St) (x : Rat) : Sp := if s.1 = topC w then [((s.1, s.2.1, true), 1)] else eitQ x (s.1 + 1, s.2) s
theorem o_xa {k a w : Nat} (h : GoodS k a w) (s : St) (hs : s.1 ≤ topC w) (x : Rat) (hx : RS x 1000) (X : D) (hX : Sub1 (.d X) (.d (rD x))) (hX2 : ∃ x0 x1 x2, X = .agg [x0, x1, x2]) :
  Eqn Tryz.prog o_c6 [.d (parD k a w), .d (.agg (stD s)), .d X] [] (.mp 0) [spO (onQ w s x)] := by
 have h15 : topC w ≤ 15 := by have := Nat.pow_le_pow_right (n := 2) (by omega) h.2.2; unfold topC; omega
 have w2 : w ≤ 10 := by have := h.2.2; omega
 have hc := o_qm h
 have ht := o_qk k a w w2 hc
 have hl := o_wy k a w
 rw [show 2 ^ w - 1 = topC w from rfl] at ht
 obtain ⟨x0, x1, x2, rfl⟩ := hX2
 obtain ⟨s1, s2, s3⟩ := s
 simp only at hs
 unfold onQ
 generalize topC w = W at *
 by_cases e : s1 = W
 ·subst e
  rw [if_pos rfl]
  refine Eqn.gen [3] o_c8 (by simp) (by simp) (by rfl) (by decide) (by simp) (by simp [spO]) ?_
  have hsu := o_wr (s1, s2, true)
  simp only [o_c7, spO, stD, parD] at ht hl hsu ⊢
  generalize spD rcD [((s1, s2, true), 1)] = L at *
  refine A00 ?_; try with_reducible exact tt
  refine CallS.pu (hl) (R0 ?_); try with_reducible exact tt
  refine CallS.pu (ht) (R0 ?_); try with_reducible exact tt
  refine A00 ?_; try with_reducible exact tt
  refine CallS.nX (hsu) (R0 ?_); try with_reducible exact tt
 ·rw [if_neg e]
  have hei := o_wp x (s1 + 1, s2, s3) (s1, s2, s3) hx (by simp)
  replace hei := hei.sub (Subs.cons hX (Subs.refl _))
  have e1 : ¬ (s1 : Int) = (W : Int) := by omega
  have ew : IntKind.i64.wrap ((s1 : Int) + 1) = ((s1 + 1 : Nat) : Int) := by rw [w64 (by omega) (by omega)]; omega
  refine Eqn.gen [4] o_c8 (by simp) (by simp) (by rfl) (by decide) (by simp) (by simp [spO]) ?_
  simp only [o_c7, spO, stD, parD] at ht hl hei ⊢
  generalize spD rcD _ = L at *
  refine A00 ?_; try with_reducible exact tt
  refine CallS.pu (hl) (R0 ?_); try with_reducible exact tt
  refine CallS.pu (ht) (R1 (fs e e1) ?_); try with_reducible exact tt
  refine A10 (fs e (fs e1 ew)) ?_; try with_reducible exact tt
  refine CallS.nX (hei) (R1 ew ?_); try with_reducible exact tt
end
section
open Go.RowKit
theorem o_xb {k a w x : Nat} (h : GoodS k a w) (hx : x ≤ 15) : RS (chP k a x) 1000 := by
 unfold chP
 by_cases hk : k = 1
 ·subst hk
  rw [if_pos rfl]
  have ha : 1 ≤ a ∧ a ≤ 4 := by
   rcases h.1 with ⟨-, h1, h2⟩ | ⟨h1, -⟩ | ⟨h1, -⟩
   ·exact ⟨h1, h2⟩
   ·omega
   ·omega
  have hb : bitsN (a + 1) ≤ 3 := o_l2 (by omega)
  exact (o_r7 a x ha.1 (by omega) (by omega) (Nat.le_trans (Nat.mul_le_mul hb hx) (by omega))).2.le (by omega)
 ·rw [if_neg hk]
  have he := o_qw h hk hx
  exact RS.mk' (Nat.two_pow_pos _) (by show size 1 ≤ 1000; exact Nat.le_trans (by decide : size 1 ≤ 1) (by omega)) (Nat.le_trans (o_qy he) (by omega))
theorem o_xc {k a w : Nat} (h : GoodS k a w) (s : St) (hs : s.1 ≤ topC w) : Eqn Tryz.prog o_8h [.d (parD k a w), .d (.agg (stD s))] [] (.mp 0) [spO (stepQ (topC w) (chP k a) s)] := by
 have h15 : topC w ≤ 15 := by have := Nat.pow_le_pow_right (n := 2) (by omega) h.2.2; unfold topC; omega
 have hk4 : ¬ (k : Int) = 4 := by have := h.1; omega
 have hk4' : ¬ k = 4 := by have := h.1; omega
 have hl := o_wy k a w
 have hrs := o_xb h (x := s.1) (by omega)
 have hst : stepQ (topC w) (chP k a) s = onQ w s (chP k a s.1) := rfl
 rw [hst]
 have key : ∃ x0 x1 x2 : D, Sub1 (.d (.agg [x0, x1, x2])) (.d (rD (if s.1 = topC w then 0 else chP k a s.1))) ∧ Eqn Tryz.prog o_c3 [.d (parD k a w), .d (.int .i64 s.1)] [] (.tup [.d (.agg [x0, x1, x2]), .d (.int .i64 0)]) [] := by
  by_cases e : s.1 = topC w
  ·refine ⟨_, _, _, by rw [if_pos e]; exact o_wl, ?_⟩
   have := o_wx h
   rw [show 2 ^ w - 1 = s.1 from e.symm] at this
   exact this
  ·refine ⟨_, _, _, by rw [if_neg e]; exact Sub1.refl _, o_ww h (by unfold topC at *; omega)⟩
 obtain ⟨x0, x1, x2, hX, hch⟩ := key
 have hon : Eqn Tryz.prog o_c6 [.d (parD k a w), .d (.agg (stD s)), .d (.agg [x0, x1, x2])] [] (.mp 0) [spO (onQ w s (chP k a s.1))] := by
  by_cases e : s.1 = topC w
  ·rw [if_pos e] at hX
   have := o_xa h s hs 0 (show RS (0 : Rat) 1000 from ⟨by decide, by decide⟩) _ hX ⟨_, _, _, rfl⟩
   have e2 : onQ w s 0 = onQ w s (chP k a s.1) := by unfold onQ; rw [if_pos e, if_pos e]
   rw [e2] at this
   exact this
  ·rw [if_neg e] at hX
   exact o_xa h s hs _ hrs _ hX ⟨_, _, _, rfl⟩
 refine Eqn.gen [3] o_8j (by simp) (by simp) (by rfl) (by decide) (by simp) (by simp [spO]) ?_
 simp only [o_8i, spO, stD, parD] at hl hch hon ⊢
 generalize spD rcD _ = L at *
 refine A10 (fs hk4 hk4') ?_; try with_reducible exact tt
 refine CallS.pu (hl) (R0 ?_); try with_reducible exact tt
 refine CallS.pu (hch) (R0 ?_); try with_reducible exact tt
 refine A00 ?_; try with_reducible exact tt
 refine CallS.nX (hon) (R0 ?_); try with_reducible exact tt
theorem o_xd {k a w : Nat} (h : GoodS k a w) (s : St) (hs : s.1 ≤ topC w) : Eqn Tryz.prog o_8z [.d (.agg (stD s)), .p 0 0] [⟨62, [.d (.int .i64 k), .d (.int .i64 a), .d (.int .i64 w)]⟩] (.mp 1) [⟨62, [.d (.int .i64 k), .d (.int .i64 a), .d (.int .i64 w)]⟩, spO (stepQ (topC w) (chP k a) s)] := by
 refine Eqn.gen [0, 2] o_91 (by simp) (by simp) (by rfl) (by decide) (by simp) (by simp [spO]) ?_
 have hst := o_xc h s hs
 simp only [o_90, spO, stD, parD] at hst ⊢
 generalize spD rcD _ = L at *
 refine A00 ?_; try with_reducible exact tt
 refine CallS.nX (hst) (R0 ?_); try with_reducible exact tt
end
section
open Go.RowKit
def atomC (p : St × Rat) : List D := stD p.1 ++ rcD p.2
theorem o_xe (p : St × Rat) : (atomC p).length = 6 := rfl
theorem o_xf (l : Sp) : spD rcD l = l.flatMap atomC := rfl
theorem o_xg (p q : St × Rat) : Eqn Tryz.prog o_ca [.d (.agg (atomC p)), .d (.agg (atomC q))] [] (.d (.int .i64 (ordI p q))) [] := o_x4 p q _ _ _ _ _ _
def seenV (σ : List Nat) : List V := σ.map fun i : Nat => V.d (.int .i64 (i : Int))
@[simp] theorem o_xh : ∀ σ : List Nat, seenOf (seenV σ) = some σ
 | [] => rfl
 | i :: σ => by
  have := o_xh σ
  unfold seenV at *
  rw [List.map_cons, seenOf, if_pos (by omega), this]
  simp
@[simp] theorem o_xi (σ : List Nat) (i : Nat) : seenV σ ++ [V.d (.int .i64 (i : Int))] = seenV (σ ++ [i]) := by simp [seenV]
@[simp] theorem o_xj (n : Nat) (σ : List Nat) : V.lowl n (seenV σ) = true := by
 induction σ with
 | nil => rfl
 | cons i σ ih => unfold seenV at *; simp [V.lowl, V.low, ih]
@[simp] theorem o_xk (θ : Nat → Nat) (σ : List Nat) : V.rens θ (seenV σ) = seenV σ := by
 induction σ with
 | nil => rfl
 | cons i σ ih => unfold seenV at *; simp [V.rens, V.ren, ih]
theorem o_xl : seenV [] = [] := rfl
def metQ (l : Sp) (σ : List Nat) : Sp := σ.flatMap fun i => match l[i]? with
 | some p => if p.2 = 0 then [] else [p]
 | none => []
theorem o_xm (l : Sp) (σ : List Nat) (i : Nat) (h : i < l.length) : metQ l (σ ++ [i]) = metQ l σ ++ if l[i].2 = 0 then [] else [l[i]] := by
 simp [metQ, List.flatMap_append, List.getElem?_eq_getElem h]
theorem o_xn (l : Sp) (σ : List Nat) (hp : σ.Perm (List.range l.length)) : (metQ l σ).Perm (nzQ l) := by
 have h1 : (metQ l σ).Perm (metQ l (List.range l.length)) := List.Perm.flatMap_right _ hp
 refine h1.trans (List.Perm.of_eq ?_)
 have key : ∀ n, n ≤ l.length → metQ l (List.range n) = nzQ (l.take n) := by
  intro n
  induction n with
  | zero => intro _; rfl
  | succ n ih =>
   intro hn
   rw [List.range_succ, o_xm l _ n (by omega), ih (by omega), List.take_add_one, List.getElem?_eq_getElem (by omega)]
   unfold nzQ
   rw [List.filter_append]
   congr 1
   simp only [Option.toList, List.filter_cons, List.filter_nil]
   by_cases h : l[n].2 = 0 <;> simp [h]
 rw [key l.length (Nat.le_refl _), List.take_length]
theorem o_xo (l L : Sp) (hu : Uq l) (hp : L.Perm (nzQ l)) : SortTo L (atQ l) := fun K' h1 h2 => o_w0 hu (h1.trans hp) h2
end
section
open Go.RowKit
theorem o_xp {x y z : St} (h1 : ltS x y = false) (h2 : ltS y z = false) : ltS x z = false := by
 cases h : ltS x z with
 | false => rfl
 | true =>
  rcases o_vs x y with h3 | h3 | h3
  ·rw [h3] at h1; cases h1
  ·rw [← h3, h] at h2; cases h2
  ·rw [o_vr h3 h] at h2; cases h2
structure AtV (I : Nat → Prop) (w : World) : Type where
 enc : List Value
 «at» : St × Rat
 rep : D.reps I w (atomC «at») enc
 one : ∀ u ∈ enc, u.oneCell' = true
theorem AtV.len {I : Nat → Prop} {w : World} (x : AtV I w) : x.enc.length = 6 := by rw [D.reps_len x.rep]; rfl
theorem D.reps_split {I : Nat → Prop} {w : World} : ∀ {l k : List D} {vs : List Value}, D.reps I w (l ++ k) vs → ∃ us ws, vs = us ++ ws ∧ D.reps I w l us ∧ D.reps I w k ws
 | [], k, vs, h => ⟨[], vs, rfl, D.reps_nil.2 rfl, h⟩
 | x :: l, k, vs, h => by
  obtain ⟨v, r, rfl, h1, h2⟩ := D.reps_cons'.1 h
  obtain ⟨us, ws, rfl, h3, h4⟩ := D.reps_split h2
  exact ⟨v :: us, ws, rfl, D.reps_cons.2 ⟨h1, h3⟩, h4⟩
theorem o_xq {I : Nat → Prop} {w : World} : ∀ (L : Sp) (us : List Value), D.reps I w (L.flatMap atomC) us → (∀ u ∈ us, u.oneCell' = true) → ∃ dl : List (AtV I w), dl.map AtV.«at» = L ∧ dl.flatMap AtV.enc = us
 | [], us, h, _ => by
  simp at h
  exact ⟨[], rfl, by simp [h]⟩
 | p :: L, us, h, h1 => by
  rw [List.flatMap_cons] at h
  obtain ⟨a, b, rfl, h2, h3⟩ := D.reps_split h
  obtain ⟨dl, h4, h5⟩ := o_xq L b h3 fun u hu => h1 u (by simp [hu])
  exact ⟨⟨a, p, h2, fun u hu => h1 u (by simp [hu])⟩ :: dl, by rw [List.map_cons, h4], by rw [List.flatMap_cons, h5]⟩
theorem o_xr {I : Nat → Prop} {w : World} : ∀ dl : List (AtV I w), D.reps I w ((dl.map AtV.«at»).flatMap atomC) (dl.flatMap AtV.enc)
 | [] => by simp
 | x :: dl => by
  rw [List.map_cons, List.flatMap_cons, List.flatMap_cons]
  exact D.reps_append x.rep (o_xr dl)
theorem o_xs {I : Nat → Prop} {w : World} : ∀ dl : List (AtV I w), (dl.flatMap AtV.enc).length = dl.length * 6
 | [] => rfl
 | x :: dl => by rw [List.flatMap_cons, List.length_append, o_xs dl, x.len, List.length_cons]; omega
theorem o_xt {α : Type} {k : Nat} (enc : α → List Value) (hk : ∀ x, (enc x).length = k) : ∀ (l : List α) (t : Nat) (h : t < l.length * k), ∃ x, l[t / k]? = some x ∧ (l.flatMap enc)[t]? = (enc x)[t % k]?
 | [], t, h => by simp at h
 | x :: l, t, h => by
  have k0 : 0 < k := by
   rcases Nat.eq_zero_or_pos k with h0 | h0
   ·subst h0; simp at h
   ·exact h0
  rw [List.flatMap_cons]
  by_cases ht : t < k
  ·refine ⟨x, by rw [Nat.div_eq_of_lt ht]; rfl, ?_⟩
   rw [List.getElem?_append_left (by rw [hk]; exact ht), Nat.mod_eq_of_lt ht]
  ·have hd : t / k = (t - k) / k + 1 := by
    rw [show t = (t - k) + k by omega, Nat.add_div_right _ k0]; simp
   have hm : t % k = (t - k) % k := by
    conv => lhs; rw [show t = (t - k) + k by omega, Nat.add_mod_right]
   obtain ⟨y, h1, h2⟩ := o_xt enc hk l (t - k) (by rw [List.length_cons, Nat.add_mul] at h; omega)
   refine ⟨y, by rw [hd]; exact h1, ?_⟩
   rw [List.getElem?_append_right (by rw [hk]; omega), hk, h2, hm]
theorem o_xu {α : Type} [Inhabited α] {k : Nat} (enc : α → List Value) (hk : ∀ x, (enc x).length = k) (hfl : ∀ l : List α, (l.flatMap enc).length = l.length * k) (dl : List α) : Go.Sort.flatK enc k dl.toArray = (dl.flatMap enc).toArray := by
 apply Array.ext
 ·rw [Go.Sort.size_flatK]; simp [hfl]
 ·intro t h1 h2
  have ht : t < dl.length * k := by rw [Go.Sort.size_flatK] at h1; simpa using h1
  obtain ⟨x, e1, e2⟩ := o_xt enc hk dl t ht
  have h3 := Go.Sort.get_flatK enc k dl.toArray t (by simpa using ht)
  rw [getElem!_pos _ t h1] at h3
  rw [h3]
  have e3 : dl.toArray[t / k]! = x := by simp [Array.getElem!_eq_getD, Array.getD_eq_getD_getElem?, e1]
  rw [e3]
  have k0 : 0 < k := by
   rcases Nat.eq_zero_or_pos k with h0 | h0
   ·subst h0; simp at ht
   ·exact h0
  have h4 : t % k < (enc x).length := by rw [hk]; exact Nat.mod_lt _ k0
  rw [List.getElem?_eq_getElem h4] at e2
  have e4 : (dl.flatMap enc)[t]'(by rw [hfl]; exact ht) = (enc x)[t % k] := by
   have h5 : t < (dl.flatMap enc).length := by rw [hfl]; exact ht
   rw [List.getElem?_eq_getElem h5] at e2
   exact Option.some.inj e2
  rw [getElem!_pos (enc x) _ h4]
  simp only [List.getElem_toArray]
  exact e4.symm
end
section
open Go.RowKit
instance : Inhabited (St × Rat) := ⟨((0, 0, false), 0)⟩
section
variable {α : Type} [Inhabited α] (enc : α → List Value) (k : Nat)
theorem o_xv (w : World) (b off n : Nat) (d : Array α) (os : Array Obj) : (sortWorldK enc k w b off n d os).heap = w.heap.modify b (Go.Sort.onCells (Go.Sort.putCells id off (Go.Sort.flatK enc k d))) ++ os := rfl
theorem o_xw (w : World) (b off n : Nat) (d : Array α) (os : Array Obj) {c : Nat} (hc : c < w.heap.size) (h : c ≠ b) : (sortWorldK enc k w b off n d os).heap[c]? = w.heap[c]? := by
 rw [o_xv, Array.getElem?_append, if_pos (by simpa using hc), Array.getElem?_modify, if_neg (fun e => h e.symm)]
theorem o_xx (w : World) (b off n : Nat) (d : Array α) (os : Array Obj) {c : Array Value} {T : TypeId} {fr : Nat × Nat} (h : w.heap[b]? = some (.cells c T fr)) :
  (sortWorldK enc k w b off n d os).heap[b]? = some (.cells (Go.Sort.putCells id off (Go.Sort.flatK enc k d) c) T fr) := by
 have hc : b < w.heap.size := (Array.getElem?_eq_some_iff.1 h).1
 rw [o_xv, Array.getElem?_append, if_pos (by simpa using hc), Array.getElem?_modify, if_pos rfl, h]
 rfl
theorem o_xy (w : World) (b off n : Nat) (d : Array α) (os : Array Obj) : (sortWorldK enc k w b off n d os).heap.size = w.heap.size + os.size := by
 rw [o_xv, Array.size_append, Array.size_modify]
end
theorem o_xz (us vs more : List Value) (h : us.length = vs.length) : Go.Sort.putCells id 0 us.toArray (vs ++ more).toArray = (us ++ more).toArray := by
 apply Array.ext_getElem?
 intro j
 rw [Go.Sort.putCells, Array.getElem?_mapIdx]
 simp only [List.getElem?_toArray, List.size_toArray, Nat.zero_le, true_and, Nat.zero_add, Nat.sub_zero]
 by_cases hj : j < us.length
 ·rw [List.getElem?_append_left hj, List.getElem?_append_left (by omega), List.getElem?_eq_getElem hj, List.getElem?_eq_getElem (by omega : j < vs.length)]
  simp [hj]
 ·rw [List.getElem?_append_right (by omega), List.getElem?_append_right (by omega), h]
  cases more[j - vs.length]? with
  | none => rfl
  | some y => simp [show ¬ j < vs.length by omega]
theorem o_y0 {α : Type} [Inhabited α] (enc : α → List Value) (k : Nat) (w : World) (b n : Nat) (d : Array α) (os : Array Obj) {c : Nat} (hc : c < w.heap.size) : (sortWorldK enc k w b 0 n d os).shape? c = w.shape? c := by
 unfold World.shape?
 by_cases h : c = b
 ·subst h
  rw [o_xv, Array.getElem?_append, if_pos (by simpa using hc), Array.getElem?_modify, if_pos rfl]
  cases h1 : w.heap[c]? with
  | none => rfl
  | some o => cases o <;> simp [Go.Sort.onCells, Go.Sort.putCells]
 ·rw [o_xw enc k w b 0 n d os hc h]

theorem o_y1 {W w : World} (l1 : w.os = W.os) (l2 : w.tape = W.tape) (l3 : w.output = W.output) (l4 : W.drawn ≤ w.drawn) (l5 : W.heap.size ≤ w.heap.size) (l6 : ∀ c, c < W.heap.size → w.heap[c]? = W.heap[c]?) :
  w = Go.Sort.grow (W.drewN (w.drawn - W.drawn)) (w.heap.extract W.heap.size w.heap.size) := by
 obtain ⟨w1, w2, w3, w4, w5⟩ := w
 obtain ⟨u1, u2, u3, u4, u5⟩ := W
 simp only at l1 l2 l3 l4 l5 l6
 subst l1 l2 l3
 show World.mk _ _ _ _ _ = World.mk _ _ _ _ _
 congr 1
 ·apply Array.ext_getElem?
  intro j
  show w1[j]? = (u1 ++ w1.extract u1.size w1.size)[j]?
  rw [Array.getElem?_append]
  split
  ·exact l6 j (by assumption)
  ·rename_i hj
   rw [Array.getElem?_extract]
   split
   ·congr 1; omega
   ·exact Array.getElem?_eq_none (by omega)
 ·show w3 = u3 + (w3 - u3)
  omega

def cfA {I : Nat → Prop} {w : World} (x y : AtV I w) : Int := ordI x.at y.at
theorem ltA {I : Nat → Prop} {w : World} (x y : AtV I w) : ltOf cfA x y = ltS x.at.1 y.at.1 := by
 unfold ltOf cfA
 cases h : ltS x.at.1 y.at.1 with
 | true => exact decide_eq_true ((o_x3 _ _).2 h)
 | false => exact decide_eq_false fun h1 => by rw [(o_x3 _ _).1 h1] at h; cases h
theorem o_y2 (s : St) : ltS s s = false := by
 cases h : ltS s s with
 | false => rfl
 | true => simp [ltS] at h
theorem swoA {I : Nat → Prop} {w : World} : Go.Sort.SWO (ltOf (cfA (I := I) (w := w))) where
 irrefl x := by rw [ltA]; exact o_y2 _
 trans x y z h1 h2 := by rw [ltA] at *; exact o_vr h1 h2
 ntrans x y z h1 h2 := by rw [ltA] at *; exact o_xp h1 h2

theorem cmpA {m : Mem} (hb : m.base) (b : Nat) (hbI : ¬ m.I b) (hbs : b < m.w.heap.size) (N : Nat) [Inhabited (AtV m.I m.w)] :
  CmpLays Tryz.prog o_ca #[] (AtV.enc (I := m.I) (w := m.w)) 6 cfA b 0 N m.w := by
 intro n os dk hs x y
 obtain ⟨W, hW⟩ : ∃ W, W = sortWorldK (AtV.enc (I := m.I) (w := m.w)) 6 m.w b 0 n dk os := ⟨_, rfl⟩
 rw [← hW]
 have hI : ∀ c, m.I c → W.heap[c]? = m.w.heap[c]? := fun c hc => by rw [hW]; exact o_xw _ _ _ _ _ _ _ _ (hb.imm c hc) fun e => hbI (e ▸ hc)
 have hbase : Mem.base ⟨fun _ => none, m.I, W⟩ := ⟨fun c hc => by
   show c < W.heap.size
   rw [hW, o_xy]
   have := hb.imm c hc
   omega, fun _ _ h => (by cases h), hb.tabs.mono (fun _ h => h) hI⟩
 have hx := D.reps_mono (fun _ h => h) hI _ _ x.rep
 have hy := D.reps_mono (fun _ h => h) hI _ _ y.rep
 have hr := (o_xg x.at y.at).run ⟨fun _ => none, m.I, W⟩ [.agg x.enc.toArray, .agg y.enc.toArray] hbase
  ⟨_, _, rfl, ⟨x.enc, rfl, x.one, hx⟩, _, _, rfl, ⟨y.enc, rfl, y.one, hy⟩, rfl⟩ (by simp) (by simp) (by simp)
 have he := o_6d o_cc #[.agg x.enc.toArray, .agg y.enc.toArray] W
 rcases hr with ⟨v, h1, h2⟩ | ⟨h1, h2⟩
 ·rw [show ([.agg x.enc.toArray, .agg y.enc.toArray] : List Value).toArray = #[.agg x.enc.toArray, .agg y.enc.toArray] from rfl, he] at h1
  cases h1
 ·refine h2.mono ?_
  rintro e w' ⟨v, m', rfl, rfl, h⟩
  refine ⟨by rw [show v = .int .i64 (ordI x.at y.at) from h.rep]; rfl, m'.w.drawn - W.drawn, m'.w.heap.extract W.heap.size m'.w.heap.size, ?_⟩
  have l1 : m'.w.os = W.os := h.le.os
  have l2 : m'.w.tape = W.tape := h.le.tape
  have l3 : m'.w.output = W.output := h.le.output
  have l4 : W.drawn ≤ m'.w.drawn := h.le.drawn
  have l5 : W.heap.size ≤ m'.w.heap.size := h.le.size
  have l6 : ∀ c, c < W.heap.size → m'.w.heap[c]? = W.heap[c]? := fun c hc => h.le.block c hc fun n hn => absurd hn (by simp)
  exact o_y1 l1 l2 l3 l4 l5 l6
end
section
open Go.RowKit
theorem o_y3 {I : Nat → Prop} {w : World} [Inhabited (AtV I w)] (l : List (AtV I w)) (hn : (l.map fun x => x.at.1).Nodup) (hs : Go.Sort.SortedIn (ltOf cfA) 0 l.length l.toArray) :
  (l.map AtV.«at»).Pairwise fun a b => ltS a.1 b.1 = true := by
 rw [List.pairwise_map, List.pairwise_iff_getElem]
 intro i j hi hj hij
 have h := hs i j (Nat.zero_le _) hij hj
 rw [ltA, getElem!_pos l.toArray j (by simpa using hj), getElem!_pos l.toArray i (by simpa using hi), List.getElem_toArray, List.getElem_toArray] at h
 rcases o_vs l[i].at.1 l[j].at.1 with h1 | h1 | h1
 ·exact h1
 ·exfalso
  have := (List.getElem_inj (h₀ := by simpa using hi) (h₁ := by simpa using hj) hn).1 (by simpa using h1)
  omega
 ·rw [h1] at h; cases h

set_option maxHeartbeats 2000000 in
theorem o_y4 (L : Sp) (hu : Uq L) (h0 : 1 ≤ L.length) (hl : L.length < 4611686018427387904) (K : Sp) (hK : SortTo L K) :
  Eqn Tryz.prog o_c9 [.own 0 6 L.length, .fn (.func o_ca) []] [⟨75, rowA atomC L⟩] (.tup []) [⟨75, rowA atomC K⟩] := by
 refine ⟨by simp, by simp, by rfl, by simp [rowA, o_5w], ?_⟩
 intro m vs hb hv ho hinj htop
 obtain ⟨v1, r1, rfl, hv1, v2, r2, rfl, hv2, rfl⟩ := hv
 obtain ⟨b, t, k, cap, hρ, hsh, rfl, rfl, hcap, hmax⟩ := hv1
 obtain ⟨cs, rfl, rfl⟩ := hv2
 obtain ⟨b', us, more, hρ', hheap, hone, hrep, hnI⟩ := ho 0 _ rfl
 obtain rfl : b = b' := by rw [hρ] at hρ'; exact Option.some.inj hρ'
 have hrep' : D.reps m.I m.w (L.flatMap atomC) us := V.reps_map_d.1 hrep
 rw [o_0 (show (75 : Nat) < TG by decide)] at hheap
 have hbs := hb.dom 0 b hρ
 obtain ⟨dl, hd1, hd2⟩ := o_xq L us hrep' hone
 have hlen : dl.length = L.length := by rw [← hd1]; simp
 haveI : Inhabited (AtV m.I m.w) := ⟨dl.head fun e => by rw [e] at hlen; simp at hlen; omega⟩
 have hfl := o_xu AtV.enc AtV.len o_xs dl
 have hH : Go.Sort.HoldsK AtV.enc 6 m.w b 0 dl.toArray := by
  unfold Go.Sort.HoldsK
  rw [hfl, hd2]
  intro j hj
  have hj' : j < us.length := by simpa using hj
  refine ⟨?_, ?_⟩
  ·unfold World.cell?
   rw [hheap]
   simp [List.getElem?_append_left hj', hj']
  ·unfold World.frozen?
   simp [hheap]
 have main := AnyQ.slices_SortFunc (ρ := renA) sortL 6 aggAtom sizeAtom AtV.enc AtV.len (fun x v hv => x.one v hv) cfA swoA o_ca #[] b 0 cap dl.toArray m.w (fun vs w => o_6d o_cc vs w) (cmpA hb b hnI hbs _) hH hbs (by simp; omega)
 refine .inr ⟨sortL.f6.enters rfl _ _, ?_⟩
 have e0 : (dl.toArray.size : Nat) = L.length := by simp [hlen]
 rw [e0] at main
 refine main.mono ?_
 rintro e w' ⟨rfl, d', n, os, hp, hs, rfl⟩
 obtain ⟨l', rfl⟩ : ∃ l' : List (AtV m.I m.w), d' = l'.toArray := ⟨d'.toList, by simp⟩
 have hl' : l'.length = dl.length := by have := hp.1; simpa using this
 have hp' : l'.Perm dl := by
  have := hp.2.2
  rw [← e0] at this
  have h2 : (List.take dl.length l').Perm dl := by simpa using this
  rwa [← hl', List.take_length] at h2
 have hfl' := o_xu AtV.enc AtV.len o_xs l'
 have hus : (l'.flatMap AtV.enc).length = us.length := by rw [← hd2, o_xs, o_xs, hl']
 have hnod : (l'.map fun x => x.at.1).Nodup := by
  have : (dl.map fun x => x.at.1) = L.map (·.1) := by rw [← hd1, List.map_map]; rfl
  rw [(hp'.map _).nodup_iff, this]; exact hu
 have hKe : l'.map AtV.«at» = K := hK _ (by rw [← hd1]; exact hp'.map _) (o_y3 l' hnod (by rw [hl', hlen]; exact hs))
 have hblk := o_xx AtV.enc 6 m.w b 0 n l'.toArray os hheap
 rw [hfl', o_xz _ _ _ hus] at hblk
 obtain ⟨W, hW⟩ : ∃ W, W = sortWorldK AtV.enc 6 m.w b 0 n l'.toArray os := ⟨_, rfl⟩
 have hne : ∀ c, c < m.w.heap.size → c ≠ b → W.heap[c]? = m.w.heap[c]? := fun c hc h => by rw [hW]; exact o_xw _ _ _ _ _ _ _ _ hc h
 have hsz : m.w.heap.size ≤ W.heap.size := by rw [hW, o_xy]; omega
 have hshp : ∀ c, c < m.w.heap.size → W.shape? c = m.w.shape? c := fun c hc => by rw [hW]; exact o_y0 _ _ _ _ _ _ _ hc
 have hI : ∀ c, m.I c → W.heap[c]? = m.w.heap[c]? := fun c hc => hne c (hb.imm c hc) fun e => hnI (e ▸ hc)
 have l1 : W.os = m.w.os := by rw [hW]; rfl
 have l2 : W.tape = m.w.tape := by rw [hW]; rfl
 have l3 : W.output = m.w.output := by rw [hW]; rfl
 have l4 : m.w.drawn ≤ W.drawn := by rw [hW]; exact Nat.le_add_right _ _
 rw [← hW] at hblk ⊢
 have hle : m.le ⟨m.ρ, m.I, W⟩ (· < 1) := ⟨fun _ _ h => h, fun _ h => h, l1, l2, l3, l4, hsz, fun c hc h => hne c hc fun e => h 0 (by decide) (by rw [e]; exact hρ), hshp, hI, fun _ h => .inl h, fun _ _ h => .inl h⟩
 refine ⟨.tuple #[], ⟨m.ρ, m.I, W⟩, rfl, rfl, ⟨fun c hc => Nat.lt_of_lt_of_le (hb.imm c hc) hsz, fun i c hc => Nat.lt_of_lt_of_le (hb.dom i c hc) hsz, hb.tabs.mono (fun _ h => h) hI⟩, hle, ⟨[], rfl, rfl⟩, ?_, ?_, ?_, ?_⟩
 ·intro i ob _ hob
  match i, hob with
  | 0, hob =>
   simp only [List.getElem?_cons_zero, Option.some.injEq] at hob
   subst hob
   refine ⟨b, l'.flatMap AtV.enc, more, hρ, ?_, ?_, ?_, hnI⟩
   ·rw [o_0 (show (75 : Nat) < TG by decide)]; exact hblk
   ·intro u hu
    rw [List.mem_flatMap] at hu
    obtain ⟨x, _, hx⟩ := hu
    exact x.one u hx
   ·refine V.reps_map_d.2 (D.reps_mono (fun _ h => h) hI _ _ ?_)
    rw [← hKe]
    exact o_xr l'
  | i + 1, hob => simp at hob
 ·intro i j c _ _ hi hj _ _
  simp at hi hj
  omega
 ·intro i hi; exact htop i (by simpa using hi)
 ·intro i c hi hc
  rw [show (⟨m.ρ, m.I, W⟩ : Mem).ρ i = m.ρ i from rfl, htop i (by simpa using hi)] at hc
  cases hc
end
section
open Go.RowKit
@[simp] theorem o_y5 (n s : Nat) (ds l : List D) : V.frzs n s ds (l.map V.d) = l.map V.d := by
 rw [o_53, List.map_map]
 apply List.map_congr_left
 intro x _
 simp
def slM (l : Sp) (σ : List Nat) : List V := setS (List.replicate 26 .junk) [(0, .mp 0), (3, if (metQ l σ).length = 0 then .d .nilsl else .own 2 6 (metQ l σ).length), (7, .p 1 0)]
def hpM (l : Sp) (σ : List Nat) : List (Option Ob) := [some (spO l), some ⟨1000000, .mp 0 :: .d (.int .i64 (l.length : Nat)) :: seenV σ⟩] ++ if (metQ l σ).length = 0 then [] else [some ⟨75, rowA atomC (metQ l σ)⟩]
theorem o_y6 (q : Rat) : (cmpQ q 0 ≠ 0) ↔ q ≠ 0 := by
 unfold cmpQ
 by_cases h1 : q < 0
 ·rw [if_pos h1]; constructor
  ·intro _ h; subst h; exact absurd h1 (by decide)
  ·intro _ h; cases h
 ·rw [if_neg h1]
  by_cases h2 : 0 < q
  ·rw [if_pos h2]; constructor
   ·intro _ h; subst h; exact absurd h2 (by decide)
   ·intro _ h; cases h
  ·rw [if_neg h2]; constructor
   ·intro h; exact absurd rfl h
   ·intro h; exact absurd (Rat.le_antisymm (Rat.not_lt.1 h2) (Rat.not_lt.1 h1)) h
set_option maxHeartbeats 4000000 in
theorem o_y7 (l : Sp) (hu : Uq l) (h0 : nzQ l ≠ []) (hl : l.length ≤ 1000000) (hr : ∀ p ∈ l, RS p.2 100000) : Eqn Tryz.prog o_8k [.mp 0] [spO l] (.d (.sl (atQ l).length (spD rcD (atQ l)))) [spO l] := by
 refine Eqn.gen [0] o_8m (by simp) (by simp) (by rfl) (by decide) (by simp) (by simp [spO]) ?_
 have hn := o_vd rcD (fun _ => rfl) l
 simp only [o_8l, spO]
 refine A10 hn ?_; try with_reducible exact tt
 refine AW.loopG (α := List Nat) (fun σ => slM l σ) (fun σ => hpM l σ) (fun σ => σ.Nodup ∧ ∀ i ∈ σ, i < l.length) (fun σ => l.length - σ.length) [] ?_ ⟨by simp, by simp⟩ ?_ ?_ ?_
 ·intro σ _; unfold hpM; split <;> simp [spO]
 ·simp [slM, hpM, metQ]
 ·simp [hpM, metQ, spO, hn, o_xl]
 rintro σ ⟨hnd, hlt⟩
 have hbnd : σ.length ≤ l.length := by
  have h2 : σ.length ≤ (List.range l.length).length := hnd.length_le_of_subset fun i hi => List.mem_range.2 (hlt i hi)
  simpa using h2
 have ent : ∀ i (hi : i < l.length), ∃ (s1 s2 : Nat) (s3 : Bool) (q : Rat) (N1 N2 N3 : D), l[i] = ((s1, s2, s3), q) ∧ rcD q = [N1, N2, N3] ∧ RS q 100000 ∧ ((spD rcD l).drop (i * 6)).take 3 = [.int .i64 s1, .int .i64 s2, .bool s3] ∧ ((spD rcD l).drop (i * 6 + 3)).take 3 = [N1, N2, N3] := by
  intro i hi
  obtain ⟨⟨⟨s1, s2, s3⟩, q⟩, hp⟩ : ∃ p, l[i] = p := ⟨_, rfl⟩
  have h6 := o_pc (n := 6) (f := atomC) o_xe l i hi
  rw [hp, ← o_xf] at h6
  have h1 : ((spD rcD l).drop (i * 6)).take 3 = (((spD rcD l).drop (i * 6)).take 6).take 3 := by rw [List.take_take]; rfl
  have h2 : ((spD rcD l).drop (i * 6 + 3)).take 3 = (((spD rcD l).drop (i * 6)).take 6).drop 3 := by rw [← List.drop_drop]; simp [List.drop_take]
  refine ⟨s1, s2, s3, q, _, _, _, hp, rfl, hr ((s1, s2, s3), q) (by have := List.getElem_mem hi; rw [hp] at this; exact this), ?_, ?_⟩
  ·rw [h1, h6]; rfl
  ·rw [h2, h6]; rfl
 have allp : (∀ i, i < l.length → i ∈ σ) → σ.Perm (List.range l.length) := fun hall => (List.perm_ext_iff_of_nodup hnd List.nodup_range).2 fun i => ⟨fun h => List.mem_range.2 (hlt i h), fun h => hall i (List.mem_range.1 h)⟩
 have ho := rof0
 have h12 : (nzQ l).length ≤ 1000000 := Nat.le_trans (List.length_filter_le _ _) hl
 by_cases m0 : (metQ l σ).length = 0
 ·have mz : metQ l σ = [] := List.eq_nil_of_length_eq_zero m0
  rw [slM, hpM, if_pos m0, if_pos m0]
  simp [spO]
  refine A10 hn ?_; try with_reducible exact tt
  refine ⟨fun i hi hin => ?_, fun hall => ?_⟩
  ·obtain ⟨s1, s2, s3, q, N1, N2, N3, hp, hN, hq, hK, hV⟩ := ent i hi
   have hc := o_ol q 0 hq (show RS (0 : Rat) 100000 from ⟨by decide, by decide⟩)
   have hms := o_xm l σ i hi
   rw [hp] at hms
   have hR : (σ ++ [i]).Nodup ∧ ∀ j ∈ σ ++ [i], j < l.length := by
    refine ⟨by rw [List.nodup_append]; exact ⟨hnd, by simp, fun a ha b hb e => by simp at hb; subst hb; exact hin (e ▸ ha)⟩, fun j hj => ?_⟩
    rcases List.mem_append.1 hj with hj | hj
    ·exact hlt j hj
    ·simp at hj; subst hj; exact hi
   have hl1 : (σ ++ [i]).length ≤ l.length := by
    have h2 : (σ ++ [i]).length ≤ (List.range l.length).length := hR.1.length_le_of_subset fun j hj => List.mem_range.2 (hR.2 j hj)
    simpa using h2
   rw [List.length_append, List.length_singleton] at hl1
   have hz0 : rcD 0 = [natW 0, .bool false, natW 0] := rfl
   rw [o_wk, o_wk, hN] at hc
   rw [o_wk] at ho
   rw [hz0] at hc ho
   refine A10 (fs hi (fs hn (fs hK hV))) ?_; try with_reducible exact tt
   refine CallS.pu (ho) (R1 (fs hi (fs hn (fs hK hV))) ?_); try with_reducible exact tt
   refine CallS.pu (hc) (R0 ?_); try with_reducible exact tt
   by_cases hq0 : q = 0
   ·have hc0 : cmpQ q 0 = 0 := Classical.byContradiction fun h => (o_y6 q).1 h hq0
    refine A10 hc0 ?_; try with_reducible exact tt
    have e' : metQ l (σ ++ [i]) = [] := by rw [hms, mz]; simp [hq0]
    refine ⟨σ ++ [i], 1, 1, ⟨by omega, by omega, by omega, by omega⟩, hR, by simp; omega, ?_, ?_⟩
    ·simp [slM, hpM, e', spO, swT, swH, sw, Ob.sw, V.ren, V.rens]
    ·simp [slM, hpM, e', spO, swT, swH, sw, Ob.sw, V.ren, V.rens]
   ·have hc0 : ¬ cmpQ q 0 = 0 := (o_y6 q).2 hq0
    refine A10 hc0 ?_; try with_reducible exact tt
    have e' : metQ l (σ ++ [i]) = [((s1, s2, s3), q)] := by rw [hms, mz]; simp [hq0]
    refine ⟨σ ++ [i], 2, 5, ⟨by omega, by omega, by omega, by omega⟩, hR, by simp; omega, ?_, ?_⟩
    ·simp [slM, hpM, e', spO, swT, swH, sw, Ob.sw, V.ren, V.rens]
    ·simp [slM, hpM, e', spO, swT, swH, sw, Ob.sw, V.ren, V.rens, rowA, atomC, stD, hN]
  ·exfalso
   have hp := o_xn l σ (allp hall)
   rw [mz] at hp
   exact h0 (List.Perm.eq_nil hp.symm)
 ·obtain ⟨M, hM⟩ : ∃ M, M = metQ l σ := ⟨_, rfl⟩
  have hMl := o_x5 o_xe M
  rw [slM, hpM, if_neg m0, if_neg m0]
  rw [← hM] at m0 ⊢
  have hmp : 0 < M.length := by omega
  have hmM : M.length ≤ l.length := by
   rw [hM]
   have key : ∀ τ : List Nat, (metQ l τ).length ≤ τ.length := by
    intro τ
    induction τ with
    | nil => simp [metQ]
    | cons j τ ih =>
     have : metQ l (j :: τ) = (match l[j]? with | some p => if p.2 = 0 then [] else [p] | none => []) ++ metQ l τ := by unfold metQ; exact List.flatMap_cons
     rw [this, List.length_append]
     have h1 : (match l[j]? with | some p => if p.2 = 0 then [] else [p] | none => [] : Sp).length ≤ 1 := by
      split
      ·split <;> simp
      ·simp
     simp only [List.length_cons]; omega
   exact Nat.le_trans (key σ) hbnd
  simp [spO]
  refine A10 hn ?_; try with_reducible exact tt
  refine ⟨fun i hi hin => ?_, fun hall => ?_⟩
  ·obtain ⟨s1, s2, s3, q, N1, N2, N3, hp, hN, hq, hK, hV⟩ := ent i hi
   have hc := o_ol q 0 hq (show RS (0 : Rat) 100000 from ⟨by decide, by decide⟩)
   have hms := o_xm l σ i hi
   rw [hp, ← hM] at hms
   have hR : (σ ++ [i]).Nodup ∧ ∀ j ∈ σ ++ [i], j < l.length := by
    refine ⟨by rw [List.nodup_append]; exact ⟨hnd, by simp, fun a ha b hb e => by simp at hb; subst hb; exact hin (e ▸ ha)⟩, fun j hj => ?_⟩
    rcases List.mem_append.1 hj with hj | hj
    ·exact hlt j hj
    ·simp at hj; subst hj; exact hi
   have hl1 : (σ ++ [i]).length ≤ l.length := by
    have h2 : (σ ++ [i]).length ≤ (List.range l.length).length := hR.1.length_le_of_subset fun j hj => List.mem_range.2 (hR.2 j hj)
    simpa using h2
   rw [List.length_append, List.length_singleton] at hl1
   have hz0 : rcD 0 = [natW 0, .bool false, natW 0] := rfl
   rw [o_wk, o_wk, hN] at hc
   rw [o_wk] at ho
   rw [hz0] at hc ho
   refine A10 (fs hi (fs hn (fs hK hV))) ?_; try with_reducible exact tt
   refine CallS.pu (ho) (R1 (fs hi (fs hn (fs hK hV))) ?_); try with_reducible exact tt
   refine CallS.pu (hc) (R0 ?_); try with_reducible exact tt
   by_cases hq0 : q = 0
   ·have hc0 : cmpQ q 0 = 0 := Classical.byContradiction fun h => (o_y6 q).1 h hq0
    refine A10 hc0 ?_; try with_reducible exact tt
    have e' : metQ l (σ ++ [i]) = M := by rw [hms]; simp [hq0]
    refine ⟨σ ++ [i], 2, 2, ⟨by omega, by omega, by omega, by omega⟩, hR, by simp; omega, ?_, ?_⟩
    ·simp [slM, hpM, e', m0, spO, swT, swH, sw, Ob.sw, V.ren, V.rens]
    ·simp [slM, hpM, e', m0, spO, swT, swH, sw, Ob.sw, V.ren, V.rens]
   ·have hc0 : ¬ cmpQ q 0 = 0 := (o_y6 q).2 hq0
    refine A10 (fs hc0 hMl) ?_; try with_reducible exact tt
    have e' : metQ l (σ ++ [i]) = M ++ [((s1, s2, s3), q)] := by rw [hms]; simp [hq0]
    have e2 : rowA atomC (M ++ [((s1, s2, s3), q)]) = rowA atomC M ++ [.d (.int .i64 s1), .d (.int .i64 s2), .d (.bool s3), .d N1, .d N2, .d N3] := by rw [o_x9]; simp [rowA, atomC, stD, hN]
    refine ⟨σ ++ [i], 2, 6, ⟨by omega, by omega, by omega, by omega⟩, hR, by simp; omega, ?_, ?_⟩
    ·simp [slM, hpM, e', spO, swT, swH, sw, Ob.sw, V.ren, V.rens]
    ·simp [slM, hpM, e', spO, swT, swH, sw, Ob.sw, V.ren, V.rens, ← e2]
  ·have hp := o_xn l σ (allp hall)
   rw [← hM] at hp
   have hMl2 : M.length = (atQ l).length := by rw [hp.length_eq, (o_vv l).length_eq]
   have hso := o_y4 M (by unfold Uq; exact (hp.map _).nodup_iff.2 (o_vx hu)) hmp (by rw [hp.length_eq]; omega) (atQ l) (o_xo l M hu hp)
   have hal : (spD rcD (atQ l)).length = (atQ l).length * 6 := o_vd rcD (fun _ => rfl) _
   have htk : (spD rcD (atQ l)).take ((atQ l).length * 6) = spD rcD (atQ l) := List.take_of_length_le (by omega)
   rw [hMl2] at hso ⊢
   refine A00 ?_; try with_reducible exact tt
   refine CallS.g [2] hso ?_
   simp
   refine AW.freeze 2 6 ⟨75, rowA atomC (atQ l)⟩ (spD rcD (atQ l)) (by simp) rfl ?_
   simp [frzH, htk]
   refine A10 htk ?_; try with_reducible exact tt
theorem o_y8 (l : Sp) (hu : Uq l) (h0 : nzQ l ≠ []) (h12 : (nzQ l).length ≤ 40) (hl : l.length ≤ 1000000) (hr : ∀ p ∈ l, RS p.2 100000) : Eqn Tryz.prog o_8k [.mp 0] [spO l] (.d (.sl (atQ l).length (spD rcD (atQ l)))) [spO l] := o_y7 l hu h0 hl hr
end
section
open Go.RowKit
def Gr (D B : Nat) (q : Rat) : Prop := ∃ z : Nat, q * (D : Rat) = (z : Rat) ∧ z ≤ B * D
theorem o_y9 {D : Nat} (h : 0 < D) : (D : Rat) ≠ 0 := by
 intro e
 have : D = 0 := by exact_mod_cast e
 omega
theorem Gr.rs {D B N : Nat} {q : Rat} (hD : 0 < D) (hB : 1 ≤ B) (h : Gr D B q) (hN : size (B * D) ≤ N) : RS q N := by
 obtain ⟨z, h1, h2⟩ := h
 have hd := o_y9 hD
 have e : q = mkRat (z : Int) D := by
  rw [Rat.mkRat_eq_div]
  have : ((z : Int) : Rat) = (z : Rat) := rfl
  rw [this, ← h1]
  rw [Rat.mul_div_cancel hd]
 rw [e]
 refine RS.mk' hD ?_ ?_
 ·exact Nat.le_trans (o_kj (by simpa using h2)) hN
 ·exact Nat.le_trans (o_kj (by exact Nat.le_mul_of_pos_left D hB)) hN
theorem Gr.zero (D B : Nat) : Gr D B 0 := ⟨0, by grind, Nat.zero_le _⟩
theorem Gr.add {D B C : Nat} {x y : Rat} (hx : Gr D B x) (hy : Gr D C y) : Gr D (B + C) (x + y) := by
 obtain ⟨z, h1, h2⟩ := hx
 obtain ⟨w, h3, h4⟩ := hy
 refine ⟨z + w, ?_, by rw [Nat.add_mul]; omega⟩
 have : ((z + w : Nat) : Rat) = (z : Rat) + (w : Rat) := by simp
 rw [this, ← h1, ← h3]; grind
theorem Gr.mul {D E B C : Nat} {x y : Rat} (hx : Gr D B x) (hy : Gr E C y) : Gr (D * E) (B * C) (x * y) := by
 obtain ⟨z, h1, h2⟩ := hx
 obtain ⟨w, h3, h4⟩ := hy
 refine ⟨z * w, ?_, ?_⟩
 ·have e1 : ((z * w : Nat) : Rat) = (z : Rat) * (w : Rat) := by simp
  have e2 : ((D * E : Nat) : Rat) = (D : Rat) * (E : Rat) := by simp
  rw [e1, e2, ← h1, ← h3]; grind
 ·have := Nat.mul_le_mul h2 h4
  refine Nat.le_trans this (Nat.le_of_eq ?_)
  rw [Nat.mul_mul_mul_comm]
theorem Gr.le {D B C : Nat} {x : Rat} (h : Gr D B x) (hbc : B ≤ C) : Gr D C x := by
 obtain ⟨z, h1, h2⟩ := h
 exact ⟨z, h1, Nat.le_trans h2 (Nat.mul_le_mul_right _ hbc)⟩
theorem Gr.one (D : Nat) : Gr D 1 1 := ⟨D, by grind, by omega⟩
theorem Gr.sub1 {D : Nat} {x : Rat} (h : Gr D 1 x) : Gr D 1 (1 - x) := by
 obtain ⟨z, h1, h2⟩ := h
 refine ⟨D - z, ?_, by omega⟩
 have e1 : ((D - z : Nat) : Rat) = (D : Rat) - (z : Rat) := by
  have : (D : Rat) = ((D - z + z : Nat) : Rat) := by rw [Nat.sub_add_cancel (by omega)]
  rw [this]
  have e : ((D - z + z : Nat) : Rat) = ((D - z : Nat) : Rat) + (z : Rat) := by simp
  rw [e]; grind
 rw [e1, ← h1]; grind
theorem o_ya {k a w : Nat} (h : GoodS k a w) : ∃ G : Nat, 0 < G ∧ G ≤ 2 ^ 63 ∧ ∀ x, x ≤ 15 → Gr G 1 (chP k a x) := by
 by_cases hk : k = 1
 ·subst hk
  have ha : 1 ≤ a ∧ a ≤ 4 := by
   rcases h.1 with ⟨-, h1, h2⟩ | ⟨h1, -⟩ | ⟨h1, -⟩
   ·exact ⟨h1, h2⟩
   ·omega
   ·omega
  refine ⟨(a + 1) ^ 15, Nat.pow_pos (by omega), Nat.le_trans (Nat.pow_le_pow_left (show a + 1 ≤ 5 by omega) 15) (by decide), fun x hx => ?_⟩
  rw [chP, if_pos rfl]
  unfold chM
  have key : ∀ n, n ≤ 15 → ∃ z : Nat, mkRat (a : Int) (a + 1) ^ n * (((a + 1) ^ n : Nat) : Rat) = (z : Rat) ∧ z ≤ (a + 1) ^ n := by
   intro n
   induction n with
   | zero => intro _; exact ⟨1, by simp, by simp⟩
   | succ n ih =>
    intro hn
    obtain ⟨z, h1, h2⟩ := ih (by omega)
    refine ⟨z * a, ?_, by rw [Nat.pow_succ]; exact Nat.mul_le_mul h2 (by omega)⟩
    have e1 : mkRat (a : Int) (a + 1) * ((a + 1 : Nat) : Rat) = (a : Rat) := by
     rw [Rat.mkRat_eq_div]
     have : ((a : Int) : Rat) = (a : Rat) := rfl
     rw [this]
     exact Rat.div_mul_cancel (o_y9 (by omega))
    have e2 : (((a + 1) ^ (n + 1) : Nat) : Rat) = (((a + 1) ^ n : Nat) : Rat) * ((a + 1 : Nat) : Rat) := by rw [Nat.pow_succ]; simp
    have e3 : ((z * a : Nat) : Rat) = (z : Rat) * (a : Rat) := by simp
    rw [Rat.pow_succ, e2, e3, ← h1, ← e1]; grind
  obtain ⟨z, h1, h2⟩ := key x hx
  refine ⟨z * (a + 1) ^ (15 - x), ?_, ?_⟩
  ·have e1 : (((a + 1) ^ 15 : Nat) : Rat) = (((a + 1) ^ x : Nat) : Rat) * (((a + 1) ^ (15 - x) : Nat) : Rat) := by
    have : (a + 1) ^ 15 = (a + 1) ^ x * (a + 1) ^ (15 - x) := by rw [← Nat.pow_add]; congr 1; omega
    rw [this]; simp
   have e2 : ((z * (a + 1) ^ (15 - x) : Nat) : Rat) = (z : Rat) * (((a + 1) ^ (15 - x) : Nat) : Rat) := by simp
   rw [e1, e2, ← h1]; grind
  ·rw [Nat.one_mul, show (a + 1) ^ 15 = (a + 1) ^ x * (a + 1) ^ (15 - x) by rw [← Nat.pow_add]; congr 1; omega]
   exact Nat.mul_le_mul_right _ h2
 ·refine ⟨2 ^ 63, by decide, Nat.le_refl _, fun x hx => ?_⟩
  rw [chP, if_neg hk]
  have he := o_qw h hk hx
  generalize expOf k a x = e at *
  refine ⟨2 ^ (63 - e), ?_, by rw [Nat.one_mul]; exact Nat.pow_le_pow_right (by decide) (by omega)⟩
  have e1 : mkRat 1 (2 ^ e) * ((2 ^ e : Nat) : Rat) = 1 := by
   rw [Rat.mkRat_eq_div]
   have := Rat.div_mul_cancel (a := ((1 : Int) : Rat)) (o_y9 (Nat.two_pow_pos e))
   simpa using this
  have e2 : ((2 ^ 63 : Nat) : Rat) = ((2 ^ e : Nat) : Rat) * ((2 ^ (63 - e) : Nat) : Rat) := by
   have : 2 ^ 63 = 2 ^ e * 2 ^ (63 - e) := by rw [← Nat.pow_add]; congr 1; omega
   rw [this]; simp
  rw [e2, ← Rat.mul_assoc, e1]; grind
end
section
open Go.RowKit
theorem o_yb (q : Rat) (out K : Sp) (j : Nat) (h : j < K.length) : innQ q out (K.take (j + 1)) = addQ (innQ q out (K.take j)) K[j].1 (q * K[j].2) := by
 unfold innQ; rw [List.take_add_one, List.getElem?_eq_getElem h, Option.toList, List.foldl_append]; rfl
def outQ (next : St → Sp) (A : Sp) (i : Nat) : Sp := (A.take i).foldl (fun out a => innQ a.2 out (atQ (next a.1))) []
theorem o_yc (next : St → Sp) (A : Sp) (i : Nat) (h : i < A.length) : outQ next A (i + 1) = innQ A[i].2 (outQ next A i) (atQ (next A[i].1)) := by
 unfold outQ; rw [List.take_add_one, List.getElem?_eq_getElem h, Option.toList, List.foldl_append]; rfl
theorem o_yd (next : St → Sp) (l : Sp) : outQ next (atQ l) (atQ l).length = timesQ next l := by unfold outQ timesQ; rw [List.take_length]
theorem o_ye {D B : Nat} {l : Sp} (h : ∀ p ∈ l, Gr D B p.2) (s : St) : Gr D B (getQ l s) := by
 induction l with
 | nil => exact Gr.zero D B
 | cons p l ih =>
  unfold getQ
  split
  ·exact h p (by simp)
  ·exact ih fun q hq => h q (by simp [hq])
theorem o_yf {D B : Nat} {q : Rat} {out : Sp} {C : Nat} (ho : ∀ p ∈ out, Gr D C p.2) : ∀ (K : Sp), (∀ p ∈ K, Gr D B (q * p.2)) → ∀ p ∈ innQ q out K, Gr D (C + K.length * B) p.2 := by
 have key : ∀ (K out : Sp) (C : Nat), (∀ p ∈ out, Gr D C p.2) → (∀ p ∈ K, Gr D B (q * p.2)) → ∀ p ∈ innQ q out K, Gr D (C + K.length * B) p.2 := by
  intro K
  induction K with
  | nil => intro out C ho _ p hp; simpa [innQ] using ho p hp
  | cons b K ih =>
   intro out C ho hK p hp
   have h1 : ∀ p ∈ addQ out b.1 (q * b.2), Gr D (C + B) p.2 := by
    intro p hp
    rcases o_w9 hp with hp | rfl
    ·exact (ho p hp).le (by omega)
    ·exact (o_ye ho _).add (hK b (by simp))
   have := ih (addQ out b.1 (q * b.2)) (C + B) h1 (fun p hp => hK p (by simp [hp])) p hp
   refine this.le (Nat.le_of_eq ?_)
   rw [List.length_cons, Nat.add_mul, Nat.one_mul]; omega
 exact fun K => key K out C ho
theorem o_yg {D E B J : Nat} {next : St → Sp} {A : Sp} (hA : ∀ p ∈ A, Gr D B p.2) (hN : ∀ p ∈ A, (∀ r ∈ next p.1, Gr E 1 r.2) ∧ (atQ (next p.1)).length ≤ J) : ∀ i, i ≤ A.length → ∀ p ∈ outQ next A i, Gr (D * E) (i * J * B) p.2
 | 0, _ => fun p hp => by simp [outQ] at hp
 | i + 1, hi => by
  have hi' : i < A.length := hi
  have ih := o_yg hA hN i (by omega)
  rw [o_yc next A i hi']
  obtain ⟨h1, h2⟩ := hN A[i] (List.getElem_mem hi')
  have hm : ∀ p ∈ atQ (next A[i].1), Gr (D * E) B (A[i].2 * p.2) := fun p hp => by
   have := (hA A[i] (List.getElem_mem hi')).mul (h1 p (List.mem_filter.1 ((o_vv _).mem_iff.1 hp)).1)
   rwa [Nat.mul_one] at this
  intro p hp
  refine (o_yf ih _ hm p hp).le ?_
  have := Nat.mul_le_mul_right B h2
  rw [Nat.add_mul i 1 J, Nat.one_mul, Nat.add_mul]; omega
theorem o_yh {top : Nat} {c : Nat → Rat} (s : St) : nzQ (stepQ top c s) ≠ [] := by
 intro h
 have h1 := (o_w7 (fun _ => 1) top c s).2
 have h2 : exQ (fun _ => (1 : Rat)) (stepQ top c s) = 1 := by
  rw [h1]; split
  ·rfl
  ·grind
 have h3 := o_vp (fun _ => (1 : Rat)) (stepQ top c s)
 rw [show (stepQ top c s).filter (fun p => decide (p.2 ≠ 0)) = nzQ (stepQ top c s) from rfl, h] at h3
 rw [h2] at h3
 exact absurd h3 (by decide)
theorem o_yi (l : Sp) (s : St) (q : Rat) : (setQ l s q).length ≤ l.length + 1 := by
 induction l with
 | nil => simp [setQ]
 | cons p l ih => unfold setQ; split <;> simp <;> omega
theorem o_yj (top : Nat) (c : Nat → Rat) (s : St) : (stepQ top c s).length ≤ 2 := by
 unfold stepQ
 split
 ·simp
 ·unfold eitQ addQ
  have := o_yi (setQ [] (s.1 + 1, s.2) (getQ [] (s.1 + 1, s.2) + c s.1)) s (getQ (setQ [] (s.1 + 1, s.2) (getQ [] (s.1 + 1, s.2) + c s.1)) s + (1 - c s.1))
  have h2 := o_yi [] (s.1 + 1, s.2) (getQ [] (s.1 + 1, s.2) + c s.1)
  simp at h2
  omega
theorem o_yk (l : Sp) : (atQ l).length ≤ l.length := by
 rw [(o_vv l).length_eq]; exact List.length_filter_le _ _
theorem o_yl {G top : Nat} {c : Nat → Rat} (hc : ∀ x, x < top → Gr G 1 (c x)) (s : St) (hs : s.1 ≤ top) : ∀ p ∈ stepQ top c s, Gr G 1 p.2 := by
 unfold stepQ
 split
 ·intro p hp; simp at hp; subst hp; exact Gr.one G
 ·rename_i e
  have h1 := hc s.1 (by omega)
  have hne : ¬ s = (s.1 + 1, s.2) := fun h => by have := congrArg Prod.fst h; simp at this
  intro p hp
  unfold eitQ at hp
  rcases o_w9 hp with hp | rfl
  ·rcases o_w9 hp with hp | rfl
   ·cases hp
   ·have := (Gr.zero G 0).add h1
    simpa [getQ] using this
  ·have h2 : getQ (addQ [] (s.1 + 1, s.2) (c s.1)) s = 0 := by unfold addQ; rw [o_vf, if_neg hne]; rfl
   show Gr G 1 (getQ (addQ [] (s.1 + 1, s.2) (c s.1)) s + (1 - c s.1))
   rw [h2]
   have := (Gr.zero G 0).add h1.sub1
   simpa using this
end
section
open Go.RowKit
def PO (k a w : Nat) : Ob := ⟨62, [.d (.int .i64 k), .d (.int .i64 a), .d (.int .i64 w)]⟩
theorem o_ym (A : Sp) (i : Nat) (hi : i < A.length) : ∃ (s1 s2 : Nat) (s3 : Bool) (q : Rat) (N1 N2 N3 : D), A[i] = ((s1, s2, s3), q) ∧ rcD q = [N1, N2, N3] ∧ ((spD rcD A).drop (i * 6)).take 6 = [.int .i64 s1, .int .i64 s2, .bool s3, N1, N2, N3] := by
 obtain ⟨⟨⟨s1, s2, s3⟩, q⟩, hp⟩ : ∃ p, A[i] = p := ⟨_, rfl⟩
 have h6 := o_pc (n := 6) (f := atomC) o_xe A i hi
 rw [hp, ← o_xf] at h6
 exact ⟨s1, s2, s3, q, _, _, _, hp, rfl, by rw [h6]; rfl⟩
set_option maxHeartbeats 4000000 in
theorem o_yn {k a w : Nat} (h : GoodS k a w) (l : Sp) (G D B : Nat) (hu : Uq l) (hok : oklQ (topC w) l) (hnz : nzQ l ≠ []) (h12 : (nzQ l).length ≤ 40) (hl : l.length ≤ 1000000) (hD : 0 < D) (hB : 1 ≤ B) (hgl : ∀ p ∈ l, Gr D B p.2) (hG : 0 < G) (hc : ∀ x, x ≤ 15 → Gr G 1 (chP k a x)) (hsz : size (80 * B * (D * G)) ≤ 100000) :
  Eqn Tryz.prog o_8w [.mp 0, .fn (.func o_8z) [.p 1 0]] [spO l, PO k a w] (.mp 2) [spO l, PO k a w, spO (timesQ (stepQ (topC w) (chP k a)) l)] := by
 refine Eqn.gen [0, 1, 2] o_8y (by simp) (by simp) (by rfl) (by decide) (by simp) (by simp [spO, PO]) ?_
 have h15 : topC w ≤ 15 := by have := Nat.pow_le_pow_right (n := 2) (by omega) h.2.2; unfold topC; omega
 obtain ⟨next, hnext⟩ : ∃ f, f = stepQ (topC w) (chP k a) := ⟨_, rfl⟩
 obtain ⟨A, hA⟩ : ∃ A, A = atQ l := ⟨_, rfl⟩
 have hAl : A.length ≤ 40 := by rw [hA, (o_vv l).length_eq]; exact h12
 have hA0 : 1 ≤ A.length := by
  rw [hA, (o_vv l).length_eq]
  rcases Nat.eq_zero_or_pos (nzQ l).length with e | e
  ·exact absurd (List.eq_nil_of_length_eq_zero e) hnz
  ·exact e
 have hAm : ∀ p ∈ A, p ∈ l := fun p hp => (List.mem_filter.1 ((o_vv l).mem_iff.1 (hA ▸ hp))).1
 have hDG : 0 < D * G := Nat.mul_pos hD hG
 have hBD : size (B * D) ≤ 100000 := by
  refine Nat.le_trans (o_kj ?_) hsz
  calc B * D = B * D * 1 := (Nat.mul_one _).symm
   _ ≤ B * D * (80 * G) := Nat.mul_le_mul_left _ (by omega)
   _ = 80 * B * (D * G) := by simp [Nat.mul_comm, Nat.mul_left_comm, Nat.mul_assoc]
 have hat := o_y8 l hu hnz h12 hl (fun p hp => (hgl p hp).rs hD hB hBD)
 have hGs : size (1 * G) ≤ 100000 := by
  refine Nat.le_trans (o_kj ?_) hsz
  calc 1 * G ≤ (80 * B * D) * G := Nat.mul_le_mul_right _ (Nat.mul_pos (by omega) hD)
   _ = 80 * B * (D * G) := by rw [Nat.mul_assoc]
 have hgn : ∀ s : St, s.1 ≤ topC w → ∀ p ∈ next s, Gr G 1 p.2 := fun s hs => by rw [hnext]; exact o_yl (fun x hx => hc x (by omega)) s hs
 have hnl : ∀ s, (atQ (next s)).length ≤ 2 := fun s => Nat.le_trans (o_yk _) (by rw [hnext]; exact o_yj _ _ _)
 have hout := o_yg (D := D) (E := G) (B := B) (J := 2) (next := next) (A := A) (fun p hp => hgl p (hAm p hp)) (fun p hp => ⟨hgn p.1 (hok p (hAm p hp)).1.1, hnl p.1⟩)
 have hon := o_yc next A
 have hoa : outQ next A A.length = timesQ next l := by rw [hA]; exact o_yd next l
 have hADl := o_vd rcD (fun _ => rfl) A
 have hget := o_ym A
 rw [← hnext, ← hoa]
 rw [← hA] at hat
 have hcl : ∀ s : St, s.1 ≤ topC w → Eqn Tryz.prog o_8z [.d (.agg (stD s)), .p 0 0] [PO k a w] (.mp 1) [PO k a w, spO (next s)] ∧ Eqn Tryz.prog o_8k [.mp 0] [spO (next s)] (.d (.sl (atQ (next s)).length (spD rcD (atQ (next s))))) [spO (next s)] := fun s hs => by
  refine ⟨by rw [hnext]; exact o_xd h s hs, o_y8 _ (by rw [hnext]; exact (o_w7 (fun _ => 0) _ _ s).1) (by rw [hnext]; exact o_yh s) ?_ ?_ fun p hp => (hgn s hs p hp).rs hG (Nat.le_refl _) hGs⟩
  ·exact Nat.le_trans (List.length_filter_le _ _) (Nat.le_trans (by rw [hnext]; exact o_yj _ _ _) (by omega))
  ·exact Nat.le_trans (by rw [hnext]; exact o_yj _ _ _) (by omega)
 have hAok : ∀ p ∈ A, p.1.1 ≤ topC w := fun p hp => (hok p (hAm p hp)).1.1
 clear hnext hA hoa hnz
 simp only [o_8x, spO, PO] at hat hcl ⊢
 generalize hLl : spD rcD l = LL at *
 refine A00 ?_; try with_reducible exact tt
 refine CallS.g [0] (hat) (R0 ?_); try with_reducible exact tt
 refine AW.loopG (α := Nat) (fun i => setS (List.replicate 40 .junk) [(1, .fn (.func o_8z) [.p 1 0]), (5, .mp 2), (12, .d (.sl A.length (spD rcD A))), (13, .d (.int .i64 A.length)), (14, .d (.int .i64 (i : Nat)))]) (fun i => [some ⟨1000391, LL.map .d⟩, some ⟨62, [.d (.int .i64 k), .d (.int .i64 a), .d (.int .i64 w)]⟩, some ⟨1000391, (spD rcD (outQ next A i)).map .d⟩]) (fun i => i ≤ A.length) (fun i => A.length - i) 0 ?_ (Nat.zero_le _) ?_ ?_ ?_
 ·intro i hi; simp
 ·simp
 ·simp [outQ, spD]
 rintro i hi
 simp
 by_cases hi2 : i < A.length
 ·have hi3 : (i : Int) < A.length := by omega
  obtain ⟨s1, s2, s3, q, N1, N2, N3, hp, hN, hg⟩ := hget i hi2
  have hsk := hAok _ (List.getElem_mem hi2)
  rw [hp] at hsk
  obtain ⟨hof, han⟩ := hcl (s1, s2, s3) hsk
  have hgq : Gr D B q := by have := hgl _ (hAm _ (List.getElem_mem hi2)); rw [hp] at this; exact this
  have hon1 := hon i hi2
  rw [hp] at hon1
  simp only at hon1
  have hgo := hout i hi
  have hn2 := hnl (s1, s2, s3)
  have hgn2 := hgn (s1, s2, s3) hsk
  obtain ⟨C, hC⟩ : ∃ C, C = atQ (next (s1, s2, s3)) := ⟨_, rfl⟩
  have hCm : ∀ p ∈ C, Gr G 1 p.2 := fun p hp => hgn2 p (List.mem_filter.1 ((o_vv _).mem_iff.1 (hC ▸ hp))).1
  rw [← hC] at hon1 han hn2
  have hCl := o_vd rcD (fun _ => rfl) C
  have hgetC := o_ym C
  have ewi : IntKind.i64.wrap ((i : Int) + 1) = ((i + 1 : Nat) : Int) := by rw [w64 (by omega) (by omega)]; omega
  simp only [stD] at hof han
  generalize hNL : spD rcD (next (s1, s2, s3)) = NL at *
  have hb6 : i * 6 + 6 ≤ A.length * 6 := by omega
  have hb7 : i * 6 < A.length * 6 := by omega
  refine A10 (fs hi2 (fs hi3 (fs hg (fs hADl (fs hb6 hb7))))) ?_; try with_reducible exact tt
  refine CallS.g [1] (hof) (R0 ?_); try with_reducible exact tt
  refine CallS.g [4] (han) (R0 ?_); try with_reducible exact tt
  refine AW.loopG (α := Nat) (fun j => setS (List.replicate 40 .junk) [(1, .fn (.func o_8z) [.p 1 0]), (5, .mp 2), (7, .p 3 0), (12, .d (.sl A.length (spD rcD A))), (13, .d (.int .i64 A.length)), (14, .d (.int .i64 (i : Nat))), (22, .d (.sl C.length (spD rcD C))), (23, .d (.int .i64 C.length)), (24, .d (.int .i64 (j : Nat)))]) (fun j => [some ⟨1000391, LL.map .d⟩, some ⟨62, [.d (.int .i64 k), .d (.int .i64 a), .d (.int .i64 w)]⟩, some ⟨1000391, (spD rcD (innQ q (outQ next A i) (C.take j))).map .d⟩, some ⟨75, [.d (.int .i64 s1), .d (.int .i64 s2), .d (.bool s3), .d N1, .d N2, .d N3]⟩]) (fun j => j ≤ C.length) (fun j => C.length - j) 0 ?_ (Nat.zero_le _) ?_ ?_ ?_
  ·intro j hj; simp
  ·simp
  ·simp [innQ]
  rintro j hj
  simp
  by_cases hj2 : j < C.length
  ·have hj3 : (j : Int) < C.length := by omega
   obtain ⟨t1, t2, t3, r, M1, M2, M3, hpc, hM, hgc⟩ := hgetC j hj2
   have hinn := o_yb q (outQ next A i) C j hj2
   have hgr := hCm _ (List.getElem_mem hj2)
   rw [hpc] at hinn hgr
   simp only at hinn hgr
   have hqr := hgq.mul hgr
   have hgi := o_yf (q := q) (B := B) hgo (C.take j) (fun p hp => by
    have := hgq.mul (hCm p (List.mem_of_mem_take hp))
    rwa [Nat.mul_one] at this)
   have hget2 := (o_ye hgi (t1, t2, t3)).le (C := 80 * B) (by
    have e1 : (C.take j).length ≤ 2 := by rw [List.length_take]; omega
    have e2 := Nat.mul_le_mul_right B e1
    have e3 : i * 2 * B ≤ 78 * B := Nat.mul_le_mul_right _ (by omega)
    omega)
   have hq1 := hgq.rs hD hB hBD
   have hr1 := hgr.rs hG (Nat.le_refl _) hGs
   have hmul := o_oi q r hq1 hr1
   have hadd := o_wn (innQ q (outQ next A i) (C.take j)) (t1, t2, t3) (q * r) (hget2.rs hDG (by omega) hsz) ((hqr.le (C := 80 * B) (by omega)).rs hDG (by omega) hsz)
   have ewj : IntKind.i64.wrap ((j : Int) + 1) = ((j + 1 : Nat) : Int) := by rw [w64 (by omega) (by omega)]; omega
   have hc6 : j * 6 + 6 ≤ C.length * 6 := by omega
   have hc7 : j * 6 < C.length * 6 := by omega
   rw [← hinn] at hadd
   rw [o_wk q, o_wk r, o_wk (q * r), hN, hM] at hmul
   rw [o_wk (q * r)] at hadd
   obtain ⟨P1, P2, P3, hP⟩ : ∃ P1 P2 P3, rcD (q * r) = [P1, P2, P3] := ⟨_, _, _, rfl⟩
   rw [hP] at hmul hadd
   simp only [spO, stD] at hadd
   refine A10 (fs hj2 (fs hj3 (fs hgc (fs hCl (fs hc6 hc7))))) ?_; try with_reducible exact tt
   refine CallS.pu (hmul) (R0 ?_); try with_reducible exact tt
   refine CallS.g [2] (hadd) (R0 ?_); try with_reducible exact tt
   refine A10 ewj ?_; try with_reducible exact tt
   refine ⟨j + 1, 2, 2, ⟨by omega, by omega, by omega, by omega⟩, by omega, by omega, ?_, ?_⟩
   ·simp [swT, swH, sw, Ob.sw, V.ren, V.rens]
   ·simp [swT, swH, sw, Ob.sw, V.ren, V.rens]
  ·have h2 : j = C.length := by omega
   subst h2
   rw [List.take_length, ← hon1]
   refine A00 ?_; try with_reducible exact tt
   refine A10 ewi ?_; try with_reducible exact tt
   refine ⟨i + 1, 2, 2, ⟨by omega, by omega, by omega, by omega⟩, by omega, by omega, ?_, ?_⟩
   ·simp [swT, swH, sw, Ob.sw, V.ren, V.rens]
   ·simp [swT, swH, sw, Ob.sw, V.ren, V.rens]
 ·have h2 : i = A.length := by omega
  subst h2
  refine A00 ?_; try with_reducible exact tt
end
section
open Go.RowKit
theorem o_yo {k a w : Nat} (h : GoodR k a w) (s : St) (hw : WellR k a w s.1 s.2.1 s.2.2) : Eqn Tryz.prog o_cj [.d (.agg (stD s)), .p 0 0] [PO k a w] (.d (.bool false)) [PO k a w] := by
 refine Eqn.gen [0] o_cl (by simp) (by simp) (by rfl) (by decide) (by simp) (by simp [PO]) ?_
 have hwl := o_ru h s.1 s.2.1 s.2.2
 rw [o_rt.2 hw] at hwl
 simp only [o_ck, PO, stD, parD, tsD] at hwl ⊢
 refine A00 ?_; try with_reducible exact tt
 refine CallS.pu (hwl) (R0 ?_); try with_reducible exact tt
theorem o_yp {k a w : Nat} (h : GoodR k a w) (s : St) (hw : WellR k a w s.1 s.2.1 s.2.2) : Eqn Tryz.prog o_ej [.d (.sl 1 (stD s)), .fn (.func o_cj) [.p 0 0]] [PO k a w] (.d (.int .i64 (-1))) [PO k a w] := by
 refine Eqn.gen [0] o_el (by simp) (by simp) (by rfl) (by decide) (by simp) (by simp [PO]) ?_
 have hw1 := o_yo h s hw
 simp only [o_ek, PO, stD] at hw1 ⊢
 refine A00 ?_; try with_reducible exact tt
 refine AW.rounds 2 ?_
 refine A00 ?_; try with_reducible exact tt
 refine CallS.g [0] (hw1) (R0 ?_); try with_reducible exact tt
 refine A00 ?_; try with_reducible exact tt
theorem o_yq {k a w : Nat} (h : GoodR k a w) (s : St) (hw : WellR k a w s.1 s.2.1 s.2.2) : Eqn Tryz.prog o_cg [.d (.sl 1 (stD s)), .fn (.func o_cj) [.p 0 0]] [PO k a w] (.d (.bool false)) [PO k a w] := by
 refine Eqn.gen [0] o_ci (by simp) (by simp) (by rfl) (by decide) (by simp) (by simp [PO]) ?_
 have hi := o_yp h s hw
 simp only [o_ch, PO, stD] at hi ⊢
 refine A00 ?_; try with_reducible exact tt
 refine CallS.g [0] (hi) (R0 ?_); try with_reducible exact tt
theorem o_yr {k a w : Nat} (h : GoodR k a w) (s : St) (hw : WellR k a w s.1 s.2.1 s.2.2) : Eqn Tryz.prog o_8n [.d (parD k a w), .d (.sl 1 (stD s))] [] (.d (.int .i64 0)) [] := by
 refine Eqn.pure o_8p Plain.ok ?_
 have hc := o_rs h
 have hi := o_yq h s hw
 simp only [o_8o, PO, stD, parD] at hc hi ⊢
 refine A00 ?_; try with_reducible exact tt
 refine CallS.pu (hc) (R0 ?_); try with_reducible exact tt
 refine A00 ?_; try with_reducible exact tt
 refine CallS.g [0] (hi) (R0 ?_); try with_reducible exact tt
 refine A00 ?_; try with_reducible exact tt
theorem o_ys {k a w : Nat} (hk : k ≠ 4) (hw : w ≤ 10) : Eqn Tryz.prog o_8q [.d (parD k a w)] [] (.d (.int .i64 (2 ^ w : Nat))) [] := by
 refine Eqn.pure o_8s Plain.ok ?_
 have hk' : ¬ (k : Int) = 4 := by omega
 have e0 : (2 : Int) ^ w = (2 ^ w : Nat) := by rw [Int.natCast_pow]; rfl
 have h2 : 2 ^ w ≤ 1024 := Nat.pow_le_pow_right (n := 2) (by omega) hw
 simp only [o_8r, parD]
 generalize 2 ^ w = S at *
 have e1 : IntKind.i64.wrap (S : Int) = S := w64 (by omega) (by omega)
 refine A10 (fs hk (fs hk' (fs e0 e1))) ?_; try with_reducible exact tt
end
section
open Go.RowKit
def kyQ (P : St → Prop) (l : Sp) : Prop := ∀ p ∈ l, P p.1
theorem o_yt {P : St → Prop} {q : Rat} : ∀ {l out : Sp}, kyQ P out → kyQ P l → kyQ P (innQ q out l)
 | [], out, h, _ => h
 | b :: l, out, h, hl => o_yt (out := addQ out b.1 (q * b.2)) (l := l) (fun p hp => by
   rcases o_w9 hp with hp | rfl
   ·exact h p hp
   ·exact hl b (by simp)) fun p hp => hl p (by simp [hp])
theorem o_yu {P : St → Prop} {l : Sp} (h : kyQ P l) : kyQ P (atQ l) := fun p hp => h p (List.mem_filter.1 ((o_vv l).mem_iff.1 hp)).1
theorem o_yv {P P' : St → Prop} {next : St → Sp} (hn : ∀ s, P s → kyQ P' (next s)) {l : Sp} (h : kyQ P l) : kyQ P' (timesQ next l) := by
 have key : ∀ (k out : Sp), kyQ P' out → kyQ P k → kyQ P' (k.foldl (fun out a => innQ a.2 out (atQ (next a.1))) out) := by
  intro k
  induction k with
  | nil => intro out h _; exact h
  | cons a k ih =>
   intro out ho hk
   exact ih _ (o_yt ho (o_yu (hn _ (hk a (by simp))))) fun p hp => hk p (by simp [hp])
 exact key _ _ (fun p hp => by cases hp) (o_yu h)
def reach (top k : Nat) (i : Nat) (t : St) : Prop := t = (top, 0, true) ∨ t.2 = (0, false) ∧ k ≤ t.1 ∧ t.1 ≤ k + i ∧ t.1 ≤ top
theorem o_yw {top k i : Nat} {c : Nat → Rat} {t : St} (h : reach top k i t) : kyQ (reach top k (i + 1)) (stepQ top c t) := by
 obtain ⟨a, b, f⟩ := t
 unfold stepQ
 split
 ·rename_i e
  intro p hp
  simp at hp; subst hp
  left
  rcases h with h | ⟨h, -⟩
  ·have h1 := congrArg (fun x : St => x.2.1) h
   simp only at e h1
   rw [e, h1]
  ·simp only [Prod.mk.injEq] at h
   simp only at e
   rw [e, h.1]
 ·rename_i e
  simp only at e
  rcases h with h | ⟨h, h1, h2, h3⟩
  ·exact absurd (congrArg (fun x : St => x.1) h) e
  ·simp only at h h1 h2 h3
   intro p hp
   unfold eitQ at hp
   rcases o_w9 hp with hp | rfl
   ·rcases o_w9 hp with hp | rfl
    ·cases hp
    ·exact .inr ⟨h, by simp only; omega, by simp only; omega, by simp only; omega⟩
   ·exact .inr ⟨h, h1, by simp only; omega, h3⟩
theorem o_yx {top : Nat} {c : Nat → Rat} {s : St} (hs : okQ top s) : ∀ i, kyQ (reach top s.1 i) (ofQ (stepQ top c) s i)
 | 0 => fun p hp => by
  simp [ofQ] at hp; subst hp
  obtain ⟨a, b, f⟩ := s
  obtain ⟨h1, h2, h3⟩ := hs
  simp only at h1 h2 h3
  subst h2
  cases f with
  | false => exact .inr ⟨rfl, Nat.le_refl _, Nat.le_refl _, h1⟩
  | true => left; rw [h3 rfl]
 | i + 1 => o_yv (fun t ht => o_yw ht) (o_yx hs i)
theorem o_yy {top : Nat} {c : Nat → Rat} (s : St) (n : Nat) : nzQ (ofQ (stepQ top c) s n) ≠ [] := by
 intro h
 have h2 := o_wh (top := top) (c := c) s n
 have h3 := o_vp (fun _ => (1 : Rat)) (ofQ (stepQ top c) s n)
 rw [show (ofQ (stepQ top c) s n).filter (fun p => decide (p.2 ≠ 0)) = nzQ (ofQ (stepQ top c) s n) from rfl, h] at h3
 rw [h2] at h3
 exact absurd h3 (by decide)
theorem o_yz (a : Nat) (h : size a ≤ 1) : ∀ n, size (a ^ n) ≤ n + 1
 | 0 => Nat.le_trans (by decide : size 1 ≤ 1) (by omega)
 | n + 1 => by
  rw [Nat.pow_succ]
  have := o_o4 (a ^ n) a
  have := o_yz a h n
  omega
theorem o_z0 {k a w : Nat} (h : GoodS k a w) : (∀ x, x < topC w → 0 ≤ chP k a x) ∧ (∀ x, x < topC w → chP k a x ≤ 1) := by
 have h15 : topC w ≤ 15 := by have := Nat.pow_le_pow_right (n := 2) (by omega) h.2.2; unfold topC; omega
 obtain ⟨G, hG, -, hc⟩ := o_ya h
 have hp : (0 : Rat) < (G : Rat) := by exact_mod_cast hG
 refine ⟨fun x hx => ?_, fun x hx => ?_⟩
 ·obtain ⟨z, h1, h2⟩ := hc x (by omega)
  apply Classical.byContradiction
  intro hn
  have hz : (0 : Rat) ≤ (z : Rat) := by exact_mod_cast Nat.zero_le z
  have := Rat.mul_lt_mul_of_pos_right (Rat.not_le.1 hn) hp
  grind
 ·obtain ⟨z, h1, h2⟩ := hc x (by omega)
  apply Classical.byContradiction
  intro hn
  have hz : (z : Rat) ≤ (G : Rat) := by exact_mod_cast (by omega : z ≤ G)
  have := Rat.mul_lt_mul_of_pos_right (Rat.not_le.1 hn) hp
  grind
end
section
open Go.RowKit
def dstQ (k a w : Nat) (s : St) (n : Nat) : Sp := ofQ (stepQ (topC w) (chP k a)) s n
end
section
open Go.RowKit
structure NextOK (next : St → Sp) (G : Nat) (s : St) : Prop where
 uq : Uq (next s)
 nz : nzQ (next s) ≠ []
 len : (next s).length ≤ 2
 gr : ∀ p ∈ next s, Gr G 1 p.2
end
section
open Go.RowKit
end
section
open Go.RowKit
theorem o_z1 {a : Nat} (ha : 1 ≤ a) (n : Nat) : chM a n ≠ 0 := by
 unfold chM
 have h : mkRat (a : Int) (a + 1) ≠ 0 := by
  rw [Rat.mkRat_eq_div]
  have h1 : ((a : Int) : Rat) ≠ 0 := o_y9 (by omega : 0 < a)
  have h2 := o_y9 (by omega : 0 < a + 1)
  intro e
  have := Rat.div_mul_cancel (a := ((a : Int) : Rat)) h2
  rw [e] at this
  simp at this
  exact h1 (by simpa using this.symm)
 induction n with
 | zero => simp
 | succ n ih =>
  rw [Rat.pow_succ]
  intro e
  rcases Rat.mul_eq_zero.1 e with e | e
  ·exact ih e
  ·exact h e
def ratC (k a r x : Nat) : Rat := if r ≤ x then chP k a x / chP k a r else 0
end
section
open Go.RowKit
def RO (q : Rat) : Ob := ⟨47, [.d (natW q.num.natAbs), .d (.bool (decide (q.num < 0))), .d (natW (q.den - 1))]⟩
def SO (s : St) : Ob := ⟨64, [.d (.int .i64 s.1), .d (.int .i64 s.2.1), .d (.bool s.2.2)]⟩
end
section
open Go.RowKit
def clQ (top k a : Nat) (s : St) : Nat → Sp
 | 0 => [(s, 1)]
 | r + 1 => timesQ (stepQ top (ratC k a r)) (clQ top k a s r)
def fullQ (f : Bool) (s : St) : Sp := [((s.1, s.2.1, s.2.2 || f), 1)]
def mgQ (top k a : Nat) (s o : St) : Sp := timesQ (fullQ o.2.2) (clQ top k a s o.1)
end
section
open Go.RowKit
def SQ (top : Nat) (c g : Nat → Rat) (k : Nat) : Rat := if k = top then g top else c k * g (k + 1) + (1 - c k) * g k
def SnQ (top : Nat) (c : Nat → Rat) : Nat → (Nat → Rat) → Nat → Rat
 | 0, g => g
 | n + 1, g => SnQ top c n (SQ top c g)
def WQ (top k a : Nat) : Nat → (Nat → Rat) → Nat → Rat
 | 0, g => g
 | b + 1, g => WQ top k a b (SQ top (ratC k a b) g)
def plQ (g : Nat → Rat) (s : St) : Rat := g s.1
theorem o_z2 (top : Nat) (c g : Nat → Rat) (s : St) : exQ (plQ g) (stepQ top c s) = plQ (SQ top c g) s := by
 rw [(o_w7 (plQ g) top c s).2]
 unfold plQ SQ
 split
 ·rename_i e; rw [e]
 ·rfl
theorem o_z3 (top : Nat) (c g : Nat → Rat) (l : Sp) : exQ (plQ g) (timesQ (stepQ top c) l) = exQ (plQ (SQ top c g)) l := by
 rw [o_w4]
 congr 1
 funext s
 exact o_z2 top c g s
theorem o_z4 {top : Nat} {g h : St → Rat} (hgh : ∀ s, s.1 ≤ top → g s = h s) : ∀ {l : Sp}, (∀ p ∈ l, p.1.1 ≤ top) → exQ g l = exQ h l
 | [], _ => rfl
 | p :: l, hl => by
  simp only [exQ]
  rw [hgh p.1 (hl p (by simp)), o_z4 hgh (l := l) fun q hq => hl q (by simp [hq])]
def mrgdQ (top k a : Nat) (A B : Sp) : Sp := A.foldl (fun out x => B.foldl (fun out y => innQ (x.2 * y.2) out (atQ (mgQ top k a x.1 y.1))) out) []
end
section
open Go.RowKit
end
section
open Go.RowKit
def stsD (l : List St) : List D := l.flatMap stD
end
section
open Go.RowKit
def psum (L : Sp) (i : Nat) : Rat := (L.take i).foldl (fun x p => x + p.2) 0
end
section
open Go.RowKit
theorem o_z5 {top k i : Nat} {l : Sp} (hu : Uq l) (h : kyQ (reach top k i) l) : l.length ≤ top + 2 := by
 have h1 : (l.map (·.1)).length ≤ ((top, 0, true) :: (List.range (top + 1)).map fun j => (j, 0, false) : List St).length := by
  refine List.Nodup.length_le_of_subset hu fun t ht => ?_
  obtain ⟨p, hp, rfl⟩ := List.mem_map.1 ht
  rcases h p hp with e | ⟨e, e1, e2, e3⟩
  ·rw [e]; simp
  ·refine List.mem_cons_of_mem _ (List.mem_map.2 ⟨p.1.1, List.mem_range.2 (by omega), ?_⟩)
   rw [← e]
 simpa using h1
theorem o_z6 {G top : Nat} {c : Nat → Rat} (h7 : top ≤ 15) (h0 : ∀ k, k < top → 0 ≤ c k) (h1 : ∀ k, k < top → c k ≤ 1) (hc : ∀ x, x < top → Gr G 1 (c x)) {s : St} (hs : okQ top s) : ∀ n, ∀ p ∈ ofQ (stepQ top c) s n, Gr (G ^ n) (80 ^ n) p.2
 | 0 => fun p hp => by
  simp [ofQ] at hp; subst hp
  exact Gr.one _
 | n + 1 => by
  have ih := o_z6 h7 h0 h1 hc hs n
  have hl := o_z5 (o_w5 _ s n) (o_yx (c := c) hs n)
  have hA : (atQ (ofQ (stepQ top c) s n)).length ≤ 40 := Nat.le_trans (o_yk _) (by omega)
  have hm : ∀ p ∈ atQ (ofQ (stepQ top c) s n), p ∈ ofQ (stepQ top c) s n := fun p hp => (List.mem_filter.1 ((o_vv _).mem_iff.1 hp)).1
  have := o_yg (D := G ^ n) (E := G) (B := 80 ^ n) (J := 2) (next := stepQ top c) (A := atQ (ofQ (stepQ top c) s n)) (fun p hp => ih p (hm p hp)) (fun p hp => ⟨o_yl hc p.1 (o_wg h0 h1 hs n p (hm p hp)).1.1, Nat.le_trans (o_yk _) (o_yj _ _ _)⟩) _ (Nat.le_refl _)
  rw [o_yd] at this
  intro p hp
  rw [Nat.pow_succ]
  refine (this p hp).le ?_
  rw [Nat.pow_succ, Nat.mul_comm (80 ^ n) 80]
  exact Nat.mul_le_mul_right _ (by omega)
theorem o_z7 {G n : Nat} (hG : G ≤ 2 ^ 63) (hn : n ≤ 100) : size (80 * 80 ^ n * (G ^ n * G)) ≤ 100000 ∧ size (80 ^ n * G ^ n) ≤ 100000 := by
 have h1 : size G ≤ 1 := o_m9 (Nat.lt_of_le_of_lt hG (by decide))
 have h2 : size 80 ≤ 1 := o_m9 (by decide)
 have a1 := o_yz 80 h2 n
 have a2 := o_yz G h1 n
 have a3 := o_o4 (80 * 80 ^ n) (G ^ n * G)
 have a4 := o_o4 80 (80 ^ n)
 have a5 := o_o4 (G ^ n) G
 have a6 := o_o4 (80 ^ n) (G ^ n)
 omega
set_option maxHeartbeats 4000000 in
theorem o_z8 {k a w : Nat} (h : GoodS k a w) (w3 : w ≤ 4) (s : St) (hw : WellR k a w s.1 s.2.1 s.2.2) (hs : okQ (topC w) s) (n : Nat) (hn : n ≤ 15) : Eqn Tryz.prog o_6y [.d (parD k a w), .d (.agg (stD s)), .d (.int .i64 n)] [] (.tup [.d (.sl (atQ (dstQ k a w s n)).length (spD rcD (atQ (dstQ k a w s n)))), .d (.int .i64 0)]) [] := by
 refine Eqn.pure o_70 Plain.ok ?_
 have hk4 : k ≠ 4 := by have := h.1; omega
 have w4 := h.2.2
 have hg : GoodR k a w := .inr ⟨hk4, o_rb h⟩
 have h15 : topC w ≤ 15 := by have := Nat.pow_le_pow_right (n := 2) (by omega) h.2.2; unfold topC; omega
 have hwr := o_yr hg s hw
 have hst := o_ys (a := a) hk4 (show w ≤ 10 by omega)
 have hsu := o_wr s
 obtain ⟨c0, c1⟩ := o_z0 h
 obtain ⟨G, hG, hG63, hc⟩ := o_ya h
 have h16 : 2 ^ w ≤ 16 := Nat.pow_le_pow_right (n := 2) (by omega) w3
 have h7 : topC w ≤ 15 := by unfold topC; omega
 have hti : ∀ i, i ≤ 14 → Eqn Tryz.prog o_8w [.mp 0, .fn (.func o_8z) [.p 1 0]] [spO (dstQ k a w s i), PO k a w] (.mp 2) [spO (dstQ k a w s i), PO k a w, spO (dstQ k a w s (i + 1))] := fun i hi => by
  have hl := o_z5 (o_w5 _ s i) (o_yx (c := chP k a) hs i)
  exact o_yn h (dstQ k a w s i) G (G ^ i) (80 ^ i) (o_w5 _ s i) (o_wg c0 c1 hs i) (o_yy s i) (Nat.le_trans (List.length_filter_le _ _) (Nat.le_trans hl (by omega))) (Nat.le_trans hl (by omega)) (Nat.pow_pos hG) (Nat.pow_pos (by decide)) (o_z6 h7 c0 c1 (fun x hx => hc x (by omega)) hs i) hG hc (o_z7 hG63 (by omega)).1
 have hat : Eqn Tryz.prog o_8k [.mp 0] [spO (dstQ k a w s n)] (.d (.sl (atQ (dstQ k a w s n)).length (spD rcD (atQ (dstQ k a w s n))))) [spO (dstQ k a w s n)] := by
  have hl := o_z5 (o_w5 _ s n) (o_yx (c := chP k a) hs n)
  exact o_y8 _ (o_w5 _ s n) (o_yy s n) (Nat.le_trans (List.length_filter_le _ _) (Nat.le_trans hl (by omega))) (Nat.le_trans hl (by omega)) (fun p hp => (o_z6 h7 c0 c1 (fun x hx => hc x (by omega)) hs n p hp).rs (Nat.pow_pos hG) (Nat.pow_pos (by decide)) (o_z7 hG63 (by omega)).2)
 have hd0 : dstQ k a w s 0 = [(s, 1)] := rfl
 rw [← hd0] at hsu
 have e1 : IntKind.i64.wrap ((n : Int) + 1) = ((n + 1 : Nat) : Int) := by rw [w64 (by omega) (by omega)]; omega
 obtain ⟨W, hW⟩ : ∃ W, W = 2 ^ w := ⟨_, rfl⟩
 rw [← hW] at hst h16
 have hmul : (n + 1) * W ≤ 16 * 16 := Nat.mul_le_mul (by omega) h16
 have e2 : IntKind.i64.wrap (((n + 1 : Nat) : Int) * (W : Int)) = (((n + 1) * W : Nat) : Int) := by rw [← Int.natCast_mul]; exact w64 (by omega) (by omega)
 obtain ⟨M, hM⟩ : ∃ M, M = (n + 1) * W := ⟨_, rfl⟩
 rw [← hM] at e2 hmul
 obtain ⟨n1, hn1⟩ : ∃ n1, n1 = n + 1 := ⟨_, rfl⟩
 rw [← hn1] at e1 e2
 have g1 : ¬ (n : Int) < 0 := by omega
 have g2 : ¬ (64 : Int) < n := by omega
 have g3 : ¬ (512 : Int) < M := by omega
 have g4 : ¬ 512 < M := by omega
 have g5 : ¬ 64 < n := by omega
 generalize hA : atQ (dstQ k a w s n) = A at *
 simp only [o_6z, stD, parD, spO, PO] at hwr hst hsu hti hat ⊢
 refine A00 ?_; try with_reducible exact tt
 refine CallS.pf 2 3 ⟨64, [.d (.int .i64 s.1), .d (.int .i64 s.2.1), .d (.bool s.2.2)]⟩ [.int .i64 s.1, .int .i64 s.2.1, .bool s.2.2] (hwr) (by first | rfl | (simp [g1, g2, g5]; done)) (R1 (fs g1 (fs g2 g5)) ?_); try with_reducible exact tt
 refine A10 (fs g1 (fs g2 (fs g5 e1))) ?_; try with_reducible exact tt
 refine CallS.pu (hst) (R1 (fs e2 (fs g3 g4)) ?_); try with_reducible exact tt
 refine A10 (fs e2 (fs g3 g4)) ?_; try with_reducible exact tt
 refine CallS.nX (hsu) (R0 ?_); try with_reducible exact tt
 refine AW.loopG (α := Nat) (fun i => setS (List.replicate 43 .junk) [(3, .p 0 0), (9, .mp 3), (34, .d (.int .i64 n)), (35, .d (.int .i64 (i : Nat)))]) (fun i => [some ⟨62, [.d (.int .i64 k), .d (.int .i64 a), .d (.int .i64 w)]⟩, none, none, some ⟨1000391, (spD rcD (dstQ k a w s i)).map .d⟩]) (fun i => i ≤ n) (fun i => n - i) 0 ?_ (Nat.zero_le _) ?_ ?_ ?_
 ·intro i hi; simp
 ·simp
 ·simp
 rintro i hi
 simp
 by_cases hi2 : i < n
 ·have hi3 : (i : Int) < n := by omega
  have ew : IntKind.i64.wrap ((i : Int) + 1) = ((i + 1 : Nat) : Int) := by rw [w64 (by omega) (by omega)]; omega
  have ht := hti i (by omega)
  refine A10 (fs hi2 hi3) ?_; try with_reducible exact tt
  refine CallS.g [3, 0] (ht) (R1 ew ?_); try with_reducible exact tt
  refine A10 ew ?_; try with_reducible exact tt
  refine ⟨i + 1, 3, 4, by omega, by omega, by omega, ?_, ?_⟩
  ·simp [swT, swH, sw, Ob.sw, V.ren, V.rens]
  ·simp [swT, swH, sw, Ob.sw, V.ren, V.rens]
 ·have h2 : i = n := by omega
  subst h2
  refine A00 ?_; try with_reducible exact tt
  refine CallS.g [3] (hat) (R0 ?_); try with_reducible exact tt
  done
end
section
open Go.RowKit
theorem o_z9 {l : Sp} (h2 : exQ (fun _ => 1) l = 1) : nzQ l ≠ [] := by
 intro h
 have h3 := o_vp (fun _ => (1 : Rat)) l
 rw [show l.filter (fun p => decide (p.2 ≠ 0)) = nzQ l from rfl, h] at h3
 rw [h2] at h3
 exact absurd h3 (by decide)
end
section
open Go.RowKit
def chs : Nat → Nat → Nat
 | _, 0 => 1
 | 0, _ + 1 => 0
 | n + 1, k + 1 => chs n k + chs n (k + 1)
theorem o_za (n : Nat) : chs n 0 = 1 := by cases n <;> rfl
theorem o_zb : ∀ {n k : Nat}, n < k → chs n k = 0
 | 0, k + 1, _ => rfl
 | n + 1, k + 1, h => by
  show chs n k + chs n (k + 1) = 0
  rw [o_zb (by omega), o_zb (by omega)]
theorem o_zc : ∀ n k : Nat, chs n k ≤ 2 ^ n
 | n, 0 => by rw [o_za]; exact Nat.two_pow_pos n
 | 0, k + 1 => Nat.zero_le _
 | n + 1, k + 1 => by
  have h1 := o_zc n k
  have h2 := o_zc n (k + 1)
  show chs n k + chs n (k + 1) ≤ 2 ^ (n + 1)
  rw [Nat.pow_succ]; omega
theorem o_zd : ∀ n k : Nat, k ≤ n → chs n (k + 1) * (k + 1) = chs n k * (n - k)
 | 0, k, h => by
  have : k = 0 := by omega
  subst this; rfl
 | n + 1, 0, _ => by
  have h := o_zd n 0 (Nat.zero_le _)
  show (chs n 0 + chs n 1) * 1 = chs (n + 1) 0 * (n + 1)
  rw [o_za] at h ⊢
  rw [o_za]
  simp at h ⊢
  omega
 | n + 1, k + 1, h => by
  have h1 := o_zd n k (by omega)
  show (chs n (k + 1) + chs n (k + 2)) * (k + 2) = (chs n k + chs n (k + 1)) * (n + 1 - (k + 1))
  rw [show n + 1 - (k + 1) = n - k by omega, Nat.add_mul (chs n k), ← h1]
  rcases Nat.lt_or_ge k n with h3 | h3
  ·have h2 := o_zd n (k + 1) (by omega)
   rw [Nat.add_mul, h2, ← Nat.mul_add, ← Nat.mul_add]
   congr 1; omega
  ·have e : k = n := by omega
   subst e
   rw [o_zb (show k < k + 1 by omega), o_zb (show k < k + 2 by omega)]; simp
def wayQ (K : Nat) : Nat → Nat
 | 0 => 1
 | k + 1 => wayQ K k * (K - k) / (k + 1)
theorem o_ze (K : Nat) : ∀ k, k ≤ K + 1 → wayQ K k = chs K k
 | 0, _ => (o_za K).symm
 | k + 1, h => by
  show wayQ K k * (K - k) / (k + 1) = _
  rw [o_ze K k (by omega), ← o_zd K k (by omega), Nat.mul_div_cancel _ (by omega)]
def binP (K k : Nat) : Rat := ((wayQ K k : Nat) : Rat) * mkRat 1 (2 ^ K)
def binI (s : St) : Nat → Sp
 | 0 => []
 | i + 1 => addQ (binI s i) (i, s.2.1 + 1, s.2.2) (binP s.1 i)
def binQ (s : St) : Sp := binI s (s.1 + 1)
def bex : Nat → (Nat → Rat) → Rat
 | 0, g => g 0
 | n + 1, g => mkRat 1 2 * (bex n g + bex n fun k => g (k + 1))
def csum (n : Nat) (g : Nat → Rat) : Nat → Rat
 | 0 => 0
 | i + 1 => csum n g i + ((chs n i : Nat) : Rat) * g i
theorem o_zf (n : Nat) (g : Nat → Rat) : ∀ i, csum (n + 1) g (i + 1) = g 0 + csum n (fun k => g (k + 1)) i + (csum n g (i + 1) - g 0)
 | 0 => by
  simp only [csum, o_za]
  have : ((1 : Nat) : Rat) = 1 := rfl
  rw [this]; grind
 | i + 1 => by
  have ih := o_zf n g i
  rw [csum, ih]
  have e1 : csum n g (i + 1 + 1) = csum n g (i + 1) + ((chs n (i + 1) : Nat) : Rat) * g (i + 1) := rfl
  have e2 : csum n (fun k => g (k + 1)) (i + 1) = csum n (fun k => g (k + 1)) i + ((chs n i : Nat) : Rat) * g (i + 1) := rfl
  have e3 : ((chs (n + 1) (i + 1) : Nat) : Rat) = ((chs n i : Nat) : Rat) + ((chs n (i + 1) : Nat) : Rat) := by
   rw [← Rat.natCast_add]; rfl
  rw [e1, e2, e3]; grind
theorem o_zg (n : Nat) : (mkRat 1 (2 ^ n)) * ((2 ^ n : Nat) : Rat) = 1 := by
 rw [Rat.mkRat_eq_div]
 exact Rat.div_mul_cancel (o_y9 (Nat.two_pow_pos n))
theorem o_zh (n : Nat) : mkRat 1 (2 ^ (n + 1)) = mkRat 1 2 * mkRat 1 (2 ^ n) := by
 rw [Rat.mkRat_mul_mkRat, Nat.pow_succ, Nat.mul_comm]; rfl
theorem o_zi : ∀ (n : Nat) (g : Nat → Rat), csum n g (n + 1) * mkRat 1 (2 ^ n) = bex n g
 | 0, g => by
  simp only [csum, bex, o_za]
  have : ((1 : Nat) : Rat) = 1 := rfl
  rw [this, show mkRat 1 (2 ^ 0) = 1 from rfl]; grind
 | n + 1, g => by
  have h1 := o_zi n g
  have h2 := o_zi n fun k => g (k + 1)
  show _ = mkRat 1 2 * (bex n g + bex n fun k => g (k + 1))
  rw [← h1, ← h2, o_zf, o_zh]
  have e1 : csum n g (n + 1 + 1) = csum n g (n + 1) := by
   show csum n g (n + 1) + ((chs n (n + 1) : Nat) : Rat) * g (n + 1) = _
   rw [o_zb (by omega)]
   have : ((0 : Nat) : Rat) = 0 := rfl
   rw [this]; grind
  rw [e1]; grind
theorem o_zj {s : St} : ∀ i, ∀ p ∈ binI s i, p.1.1 < i ∧ p.1.2 = (s.2.1 + 1, s.2.2)
 | 0, p, hp => by cases hp
 | i + 1, p, hp => by
  rcases o_w9 hp with hp | rfl
  ·have := o_zj i p hp
   exact ⟨by omega, this.2⟩
  ·exact ⟨by simp, rfl⟩
theorem o_zk (s : St) : ∀ i, Uq (binI s i)
 | 0 => by simp [binI, Uq]
 | i + 1 => o_vl (o_zk s i)
theorem o_zl (s : St) (g : St → Rat) : ∀ i, i ≤ s.1 + 1 → exQ g (binI s i) = csum s.1 (fun k => g (k, s.2.1 + 1, s.2.2)) i * mkRat 1 (2 ^ s.1)
 | 0, _ => by simp only [binI, exQ, csum]; grind
 | i + 1, h => by
  show exQ g (addQ (binI s i) _ _) = _
  rw [o_vm g _ _ _ (o_zk s i), o_zl s g i (by omega)]
  unfold binP
  rw [o_ze _ _ (by omega)]
  simp only [csum]; grind
theorem o_zm (s : St) (g : St → Rat) : exQ g (binQ s) = bex s.1 fun k => g (k, s.2.1 + 1, s.2.2) := by
 unfold binQ
 rw [o_zl s g _ (Nat.le_refl _), o_zi]
theorem o_zn (c : Rat) : ∀ n, bex n (fun _ => c) = c
 | 0 => rfl
 | n + 1 => by
  show mkRat 1 2 * (bex n (fun _ => c) + bex n fun _ => c) = c
  rw [o_zn c n]
  have h : mkRat 1 2 * 2 = 1 := by decide +kernel
  grind
end
section
open Go.RowKit
def Gi (e : Nat) (q : Rat) : Prop := ∃ z : Nat, q * ((2 ^ e : Nat) : Rat) = (z : Rat)
theorem Gi.nn {e : Nat} {q : Rat} (h : Gi e q) : 0 ≤ q := by
 obtain ⟨z, h⟩ := h
 have hp : (0 : Rat) < ((2 ^ e : Nat) : Rat) := by exact_mod_cast Nat.two_pow_pos e
 apply Classical.byContradiction
 intro hn
 have hz : (0 : Rat) ≤ (z : Rat) := by exact_mod_cast Nat.zero_le z
 have := Rat.mul_lt_mul_of_pos_right (Rat.not_le.1 hn) hp
 grind
theorem Gi.zero (e : Nat) : Gi e 0 := ⟨0, by rw [Rat.zero_mul]; rfl⟩
theorem Gi.one (e : Nat) : Gi e 1 := ⟨2 ^ e, by rw [Rat.one_mul]⟩
theorem Gi.add {e : Nat} {x y : Rat} (hx : Gi e x) (hy : Gi e y) : Gi e (x + y) := by
 obtain ⟨z, h1⟩ := hx
 obtain ⟨w, h2⟩ := hy
 refine ⟨z + w, ?_⟩
 rw [Rat.natCast_add, ← h1, ← h2]; grind
theorem Gi.mul {e f : Nat} {x y : Rat} (hx : Gi e x) (hy : Gi f y) : Gi (e + f) (x * y) := by
 obtain ⟨z, h1⟩ := hx
 obtain ⟨w, h2⟩ := hy
 refine ⟨z * w, ?_⟩
 rw [Rat.natCast_mul, ← h1, ← h2, Nat.pow_add, Rat.natCast_mul]; grind
theorem Gi.up {e f : Nat} {x : Rat} (h : Gi e x) (hf : e ≤ f) : Gi f x := by
 have := h.mul (Gi.one (f - e))
 rw [Rat.mul_one, show e + (f - e) = f by omega] at this
 exact this
theorem Gi.gr {e : Nat} {x : Rat} (h : Gi e x) (h1 : x ≤ 1) : Gr (2 ^ e) 1 x := by
 obtain ⟨z, h⟩ := h
 refine ⟨z, h, ?_⟩
 have hp : (0 : Rat) ≤ ((2 ^ e : Nat) : Rat) := by exact_mod_cast Nat.zero_le _
 have h2 := Rat.mul_le_mul_of_nonneg_right h1 hp
 rw [h, Rat.one_mul] at h2
 have : z ≤ 2 ^ e := by exact_mod_cast h2
 omega
structure SpOK (e : Nat) (P : St → Prop) (l : Sp) : Prop where
 uq : Uq l
 one : exQ (fun _ => 1) l = 1
 gi : ∀ p ∈ l, Gi e p.2
 ky : kyQ P l
theorem SpOK.nn {e : Nat} {P : St → Prop} {l : Sp} (h : SpOK e P l) : ∀ p ∈ l, 0 ≤ p.2 := fun p hp => (h.gi p hp).nn
theorem o_zo {g : St → Rat} : ∀ {l : Sp}, (∀ p ∈ l, 0 ≤ p.2) → (∀ p ∈ l, 0 ≤ g p.1) → 0 ≤ exQ g l
 | [], _, _ => Rat.le_refl
 | p :: l, h, hg => by
  have h1 := o_zo (l := l) (g := g) (fun q hq => h q (by simp [hq])) (fun q hq => hg q (by simp [hq]))
  have h2 := Rat.mul_nonneg (h p (by simp)) (hg p (by simp))
  simp only [exQ]; grind
theorem o_zp {l : Sp} (h0 : ∀ p ∈ l, 0 ≤ p.2) (h1 : exQ (fun _ => 1) l ≤ 1) : ∀ p ∈ l, p.2 ≤ 1 := by
 induction l with
 | nil => intro p hp; cases hp
 | cons q l ih =>
  have h2 : 0 ≤ exQ (fun _ => (1 : Rat)) l := o_zo (fun p hp => h0 p (by simp [hp])) fun _ _ => (by decide : (0 : Rat) ≤ 1)
  have h3 := h0 q (by simp)
  simp only [exQ] at h1
  intro p hp
  rcases List.mem_cons.1 hp with rfl | hp
  ·grind
  ·exact ih (fun p hp => h0 p (by simp [hp])) (by grind) p hp
theorem SpOK.gr {e : Nat} {P : St → Prop} {l : Sp} (h : SpOK e P l) : ∀ p ∈ l, Gr (2 ^ e) 1 p.2 := fun p hp => (h.gi p hp).gr (o_zp h.nn (by rw [h.one]; exact Rat.le_refl) p hp)
theorem SpOK.nz {e : Nat} {P : St → Prop} {l : Sp} (h : SpOK e P l) : nzQ l ≠ [] := o_z9 h.one
theorem SpOK.mono {e f : Nat} {P Q : St → Prop} {l : Sp} (h : SpOK e P l) (hf : e ≤ f) (hQ : ∀ s, P s → Q s) : SpOK f Q l := ⟨h.uq, h.one, fun p hp => (h.gi p hp).up hf, fun p hp => hQ _ (h.ky p hp)⟩
theorem SpOK.sure {P : St → Prop} (s : St) (hs : P s) (e : Nat) : SpOK e P [(s, 1)] where
 uq := by simp [Uq]
 one := by simp only [exQ]; grind
 gi := fun p hp => by simp at hp; subst hp; exact Gi.one e
 ky := fun p hp => by simp at hp; subst hp; exact hs
theorem o_zq {e : Nat} {l : Sp} (h : ∀ p ∈ l, Gi e p.2) (s : St) : Gi e (getQ l s) := by
 induction l with
 | nil => exact Gi.zero e
 | cons p l ih =>
  unfold getQ
  split
  ·exact h p (by simp)
  ·exact ih fun q hq => h q (by simp [hq])
theorem o_zr {e : Nat} {l : Sp} (h : ∀ p ∈ l, Gi e p.2) {s : St} {q : Rat} (hq : Gi e q) : ∀ p ∈ addQ l s q, Gi e p.2 := by
 intro p hp
 rcases o_w9 hp with hp | rfl
 ·exact h p hp
 ·exact (o_zq h s).add hq
theorem o_zs {e f : Nat} {q : Rat} (hq : Gi e q) : ∀ {l out : Sp}, (∀ p ∈ out, Gi (e + f) p.2) → (∀ p ∈ l, Gi f p.2) → ∀ p ∈ innQ q out l, Gi (e + f) p.2
 | [], out, h, _ => h
 | b :: l, out, h, hl => o_zs hq (out := addQ out b.1 (q * b.2)) (l := l) (o_zr h (hq.mul (hl b (by simp)))) fun p hp => hl p (by simp [hp])
theorem o_zt {e f : Nat} {next : St → Sp} {l : Sp} (h : ∀ p ∈ l, Gi e p.2) (hn : ∀ p ∈ l, ∀ q ∈ next p.1, Gi f q.2) : ∀ p ∈ timesQ next l, Gi (e + f) p.2 := by
 have key : ∀ (k out : Sp), (∀ p ∈ out, Gi (e + f) p.2) → (∀ p ∈ k, Gi e p.2 ∧ ∀ q ∈ next p.1, Gi f q.2) → ∀ p ∈ k.foldl (fun out a => innQ a.2 out (atQ (next a.1))) out, Gi (e + f) p.2 := by
  intro k
  induction k with
  | nil => intro out h _; exact h
  | cons a k ih =>
   intro out ho hk
   obtain ⟨h1, h2⟩ := hk a (by simp)
   exact ih _ (o_zs h1 ho fun p hp => h2 p (List.mem_filter.1 ((o_vv _).mem_iff.1 hp)).1) fun p hp => hk p (by simp [hp])
 refine key _ _ (fun p hp => by cases hp) fun p hp => ?_
 have hp' := (List.mem_filter.1 ((o_vv l).mem_iff.1 hp)).1
 exact ⟨h p hp', hn p hp'⟩
theorem o_zu {g h : St → Rat} : ∀ {l : Sp}, (∀ p ∈ l, g p.1 = h p.1) → exQ g l = exQ h l
 | [], _ => rfl
 | p :: l, hl => by
  simp only [exQ]
  rw [hl p (by simp), o_zu (l := l) fun q hq => hl q (by simp [hq])]
theorem SpOK.times {e f : Nat} {P Q : St → Prop} {next : St → Sp} {l : Sp} (h : SpOK e P l) (hn : ∀ s, P s → SpOK f Q (next s)) : SpOK (e + f) Q (timesQ next l) where
 uq := o_w3 _ _
 one := by
  rw [o_w4, o_zu (h := fun _ => 1) fun p hp => (hn _ (h.ky p hp)).one]
  exact h.one
 gi := o_zt h.gi fun p hp => (hn _ (h.ky p hp)).gi
 ky := by
  have key : ∀ (k out : Sp), kyQ Q out → (∀ p ∈ k, P p.1) → kyQ Q (k.foldl (fun out a => innQ a.2 out (atQ (next a.1))) out) := by
   intro k
   induction k with
   | nil => intro out h _; exact h
   | cons a k ih =>
    intro out ho hk
    exact ih _ (o_yt ho (o_yu (hn _ (hk a (by simp))).ky)) fun p hp => hk p (by simp [hp])
  exact key _ _ (fun p hp => by cases hp) fun p hp => h.ky p (List.mem_filter.1 ((o_vv l).mem_iff.1 hp)).1
theorem o_zv (n : Nat) : Gi n (mkRat 1 (2 ^ n)) := ⟨1, o_zg n⟩
theorem o_zw (n : Nat) : Gi n (1 - mkRat 1 (2 ^ n)) := by
 refine ⟨2 ^ n - 1, ?_⟩
 have h := o_zg n
 have h1 := Nat.two_pow_pos n
 have e : ((2 ^ n : Nat) : Rat) = ((2 ^ n - 1 : Nat) : Rat) + ((1 : Nat) : Rat) := by rw [← Rat.natCast_add, Nat.sub_add_cancel h1]
 have e1 : ((1 : Nat) : Rat) = 1 := rfl
 rw [e1] at e
 grind
theorem SpOK.eit {e : Nat} {P : St → Prop} {x : Rat} {s o : St} (hx : Gi e x) (hy : Gi e (1 - x)) (hs : P s) (ho : P o) : SpOK e P (eitQ x s o) where
 uq := (o_w6 (fun _ => 0) x s o).1
 one := by rw [(o_w6 (fun _ => 1) x s o).2]; grind
 gi := o_zr (o_zr (fun p hp => by cases hp) hx) hy
 ky := fun p hp => by
  unfold eitQ at hp
  rcases o_w9 hp with hp | rfl
  ·rcases o_w9 hp with hp | rfl
   ·cases hp
   ·exact hs
  ·exact ho
theorem SpOK.bin (s : St) : SpOK s.1 (fun t => t.1 ≤ s.1 ∧ t.2 = (s.2.1 + 1, s.2.2)) (binQ s) where
 uq := o_zk s _
 one := by rw [o_zm, o_zn]
 gi := by
  have key : ∀ i, i ≤ s.1 + 1 → ∀ p ∈ binI s i, Gi s.1 p.2 := by
   intro i
   induction i with
   | zero => intro _ p hp; cases hp
   | succ i ih =>
    intro hi
    refine o_zr (ih (by omega)) ?_
    have h := (o_zv s.1)
    obtain ⟨z, hz⟩ := h
    refine ⟨wayQ s.1 i * z, ?_⟩
    unfold binP
    rw [Rat.natCast_mul, ← hz]; grind
  exact key _ (Nat.le_refl _)
 ky := fun p hp => by
  have := o_zj _ p hp
  exact ⟨by omega, this.2⟩
def downF (A : Nat) : Nat → St → Sp
 | 0, s => if s.1 ≤ A then [(s, 1)] else [((A, s.2.1, true), 1)]
 | f + 1, s => if s.1 ≤ A then [(s, 1)] else timesQ (downF A f) (binQ s)
def downA (A B : Nat) (s : St) : Sp := downF A (B - s.2.1) s
theorem o_zx {next next' : St → Sp} {l : Sp} (h : ∀ p ∈ l, next p.1 = next' p.1) : timesQ next l = timesQ next' l := by
 have key : ∀ (k out : Sp), (∀ p ∈ k, next p.1 = next' p.1) → k.foldl (fun out a => innQ a.2 out (atQ (next a.1))) out = k.foldl (fun out a => innQ a.2 out (atQ (next' a.1))) out := by
  intro k
  induction k with
  | nil => intro out _; rfl
  | cons a k ih =>
   intro out hk
   rw [List.foldl_cons, List.foldl_cons, hk a (by simp)]
   exact ih _ fun p hp => hk p (by simp [hp])
 exact key _ _ fun p hp => h p (List.mem_filter.1 ((o_vv l).mem_iff.1 hp)).1
theorem o_zy {A B : Nat} {s : St} (h : s.1 ≤ A) : downA A B s = [(s, 1)] := by
 unfold downA
 generalize B - s.2.1 = f
 cases f <;> simp [downF, h]
theorem o_zz {A B : Nat} {s : St} (h : ¬ s.1 ≤ A) (hT : s.2.1 = B) : downA A B s = [((A, s.2.1, true), 1)] := by
 unfold downA
 rw [show B - s.2.1 = 0 by omega]
 simp [downF, h]
theorem o_100 {A B : Nat} {s : St} (h : ¬ s.1 ≤ A) (hT : s.2.1 < B) : downA A B s = timesQ (downA A B) (binQ s) := by
 have e : downA A B s = timesQ (downF A (B - s.2.1 - 1)) (binQ s) := by
  unfold downA
  obtain ⟨f, hf⟩ : ∃ f, B - s.2.1 = f + 1 := ⟨B - s.2.1 - 1, by omega⟩
  rw [hf]
  simp [downF, h]
 rw [e]
 refine o_zx fun p hp => ?_
 have := (o_zj _ p hp).2
 unfold downA
 rw [this]
 congr 1
def okT (A B : Nat) (s : St) : Prop := s.1 ≤ A ∧ s.2.1 ≤ B ∧ (s.2.2 = true → s.2.1 = B)
theorem SpOK.down {A B X : Nat} : ∀ (f : Nat) (s : St), s.2.1 + f = B → s.1 ≤ X → (s.2.2 = true → s.2.1 = B) → SpOK (X * f) (okT A B) (downA A B s)
 | 0, s, hT, hX, hf => by
  by_cases h : s.1 ≤ A
  ·rw [o_zy h]; exact SpOK.sure s ⟨h, by omega, hf⟩ _
  ·rw [o_zz h (by omega)]; exact SpOK.sure _ ⟨Nat.le_refl _, by simp only; omega, fun _ => by simp only; omega⟩ _
 | f + 1, s, hT, hX, hf => by
  by_cases h : s.1 ≤ A
  ·rw [o_zy h]; exact SpOK.sure s ⟨h, by omega, hf⟩ _
  ·rw [o_100 h (by omega)]
   have hb := (SpOK.bin s).mono hX fun _ h => h
   have := hb.times (f := X * f) (Q := okT A B) (next := downA A B) fun t ht => SpOK.down f t (by rw [ht.2]; simp only; omega) (by omega) (fun h2 => by
    rw [ht.2] at h2
    have := hf h2
    omega)
   refine this.mono ?_ fun _ h => h
   rw [Nat.mul_add]; omega
def stepT (A B : Nat) (s : St) : Sp := timesQ (downA A B) (eitQ (mkRat 1 (2 ^ s.2.1)) (s.1 + 1, s.2) s)
theorem SpOK.stepT {A B : Nat} {s : St} (h : okT A B s) : SpOK (B + (A + 1) * B) (okT A B) (stepT A B s) := by
 obtain ⟨h1, h2, h3⟩ := h
 have he : SpOK B (fun t => t.1 ≤ A + 1 ∧ t.2 = s.2) (eitQ (mkRat 1 (2 ^ s.2.1)) (s.1 + 1, s.2) s) := SpOK.eit ((o_zv _).up h2) ((o_zw _).up h2) ⟨by simp only; omega, rfl⟩ ⟨by omega, rfl⟩
 refine he.times fun t ht => ?_
 refine (SpOK.down (A := A) (X := A + 1) (B - s.2.1) t (by rw [ht.2]; omega) ht.1 (by rw [ht.2]; exact h3)).mono (Nat.mul_le_mul_left _ (by omega)) fun _ h => h
theorem SpOK.of {e : Nat} {P : St → Prop} {next : St → Sp} (hn : ∀ s, P s → SpOK e P (next s)) {s : St} (hs : P s) : ∀ n, SpOK (n * e) P (ofQ next s n)
 | 0 => SpOK.sure s hs _
 | n + 1 => by
  have := (SpOK.of hn hs n).times hn
  rw [Nat.add_mul, Nat.one_mul]
  exact this
def thinQ (s : St) (n : Nat) : Sp := ofQ binQ s n
theorem SpOK.thin (s : St) : ∀ n, SpOK (n * s.1) (fun t => t.1 ≤ s.1 ∧ t.2 = (s.2.1 + n, s.2.2)) (thinQ s n)
 | 0 => SpOK.sure s ⟨Nat.le_refl _, rfl⟩ _
 | n + 1 => by
  have := (SpOK.thin s n).times (f := s.1) (Q := fun t => t.1 ≤ s.1 ∧ t.2 = (s.2.1 + (n + 1), s.2.2)) (next := binQ) fun t ht => (SpOK.bin t).mono ht.1 fun u hu => ⟨by omega, by rw [hu.2, ht.2]; simp only [Nat.add_assoc]⟩
  rw [Nat.add_mul, Nat.one_mul]
  exact this
def joI (f : Bool) (x : St × Rat) (B : Sp) (out : Sp) (j : Nat) : Sp := (B.take j).foldl (fun out y => addQ out (x.1.1 + y.1.1, x.1.2.1, f) (x.2 * y.2)) out
def joO (f : Bool) (A B : Sp) (i : Nat) : Sp := (A.take i).foldl (fun out x => joI f x B out B.length) []
def joQ (f : Bool) (A B : Sp) : Sp := joO f A B A.length
theorem o_101 (f : Bool) (x : St × Rat) (B out : Sp) (j : Nat) (h : j < B.length) : joI f x B out (j + 1) = addQ (joI f x B out j) (x.1.1 + B[j].1.1, x.1.2.1, f) (x.2 * B[j].2) := by
 unfold joI; rw [List.take_add_one, List.getElem?_eq_getElem h, Option.toList, List.foldl_append]; rfl
theorem o_102 (f : Bool) (A B : Sp) (i : Nat) (h : i < A.length) : joO f A B (i + 1) = joI f A[i] B (joO f A B i) B.length := by
 unfold joO; rw [List.take_add_one, List.getElem?_eq_getElem h, Option.toList, List.foldl_append]; rfl
def mgT (A B : Nat) (s o : St) : Sp := timesQ (downA A B) (joQ (s.2.2 || o.2.2) (atQ (thinQ s (o.2.1 - s.2.1))) (atQ (thinQ o (s.2.1 - o.2.1))))
theorem o_103 (g : St → Rat) (f : Bool) (x : St × Rat) (B : Sp) : ∀ (j : Nat) (out : Sp), j ≤ B.length → Uq out → Uq (joI f x B out j) ∧ exQ g (joI f x B out j) = exQ g out + x.2 * exQ (fun t => g (x.1.1 + t.1, x.1.2.1, f)) (B.take j)
 | 0, out, _, h => ⟨h, by simp only [joI, List.take_zero, List.foldl_nil, exQ]; grind⟩
 | j + 1, out, hj, h => by
  obtain ⟨h1, h2⟩ := o_103 g f x B j out (by omega) h
  rw [o_101 f x B out j (by omega)]
  refine ⟨o_vl h1, ?_⟩
  rw [o_vm g _ _ _ h1, h2, List.take_add_one, List.getElem?_eq_getElem (by omega : j < B.length), Option.toList, o_vo]
  simp only [exQ]; grind
theorem o_104 (g : St → Rat) (f : Bool) (A B : Sp) : ∀ i, i ≤ A.length → Uq (joO f A B i) ∧ exQ g (joO f A B i) = exQ (fun s => exQ (fun t => g (s.1 + t.1, s.2.1, f)) B) (A.take i)
 | 0, _ => by simp [joO, Uq, exQ]
 | i + 1, hi => by
  obtain ⟨h1, h2⟩ := o_104 g f A B i (by omega)
  rw [o_102 f A B i hi]
  obtain ⟨h3, h4⟩ := o_103 g f A[i] B B.length (joO f A B i) (Nat.le_refl _) h1
  refine ⟨h3, ?_⟩
  rw [h4, h2, List.take_length, List.take_add_one, List.getElem?_eq_getElem (by omega : i < A.length), Option.toList, o_vo]
  simp only [exQ]; grind
theorem o_105 (g : St → Rat) (f : Bool) (A B : Sp) : exQ g (joQ f A B) = exQ (fun s => exQ (fun t => g (s.1 + t.1, s.2.1, f)) B) A := by
 have := (o_104 g f A B A.length (Nat.le_refl _)).2
 rw [List.take_length] at this
 exact this
theorem SpOK.at {e : Nat} {P : St → Prop} {l : Sp} (h : SpOK e P l) : SpOK e P (atQ l) where
 uq := o_vy h.uq
 one := by rw [o_vw]; exact h.one
 gi := fun p hp => h.gi p (List.mem_filter.1 ((o_vv l).mem_iff.1 hp)).1
 ky := o_yu h.ky
theorem SpOK.join {e f : Nat} {P Q R : St → Prop} {A B : Sp} {b : Bool} (hA : SpOK e P A) (hB : SpOK f Q B) (hR : ∀ s t, P s → Q t → R (s.1 + t.1, s.2.1, b)) : SpOK (e + f) R (joQ b A B) where
 uq := (o_104 (fun _ => 0) b A B A.length (Nat.le_refl _)).1
 one := by
  rw [o_105, o_zu (h := fun _ => 1) fun p _ => hB.one]
  exact hA.one
 gi := by
  have h1 : ∀ (x : St × Rat), x ∈ A → ∀ (j : Nat) (out : Sp), j ≤ B.length → (∀ p ∈ out, Gi (e + f) p.2) → ∀ p ∈ joI b x B out j, Gi (e + f) p.2 := by
   intro x hx j
   induction j with
   | zero => intro out _ h p hp; exact h p (by simpa [joI] using hp)
   | succ j ih =>
    intro out hj h
    rw [o_101 b x B out j (by omega)]
    exact o_zr (ih out (by omega) h) ((hA.gi x hx).mul (hB.gi _ (List.getElem_mem _)))
  have h2 : ∀ i, i ≤ A.length → ∀ p ∈ joO b A B i, Gi (e + f) p.2 := by
   intro i
   induction i with
   | zero => intro _ p hp; simp [joO] at hp
   | succ i ih =>
    intro hi
    rw [o_102 b A B i hi]
    exact h1 _ (List.getElem_mem _) _ _ (Nat.le_refl _) (ih (by omega))
  exact h2 _ (Nat.le_refl _)
 ky := by
  have h1 : ∀ (x : St × Rat), x ∈ A → ∀ (j : Nat) (out : Sp), j ≤ B.length → kyQ R out → kyQ R (joI b x B out j) := by
   intro x hx j
   induction j with
   | zero => intro out _ h p hp; exact h p (by simpa [joI] using hp)
   | succ j ih =>
    intro out hj h
    rw [o_101 b x B out j (by omega)]
    intro p hp
    rcases o_w9 hp with hp | rfl
    ·exact ih out (by omega) h p hp
    ·exact hR _ _ (hA.ky x hx) (hB.ky _ (List.getElem_mem _))
  have h2 : ∀ i, i ≤ A.length → kyQ R (joO b A B i) := by
   intro i
   induction i with
   | zero => intro _ p hp; simp [joO] at hp
   | succ i ih =>
    intro hi
    rw [o_102 b A B i hi]
    exact h1 _ (List.getElem_mem _) _ _ (Nat.le_refl _) (ih (by omega))
  exact h2 _ (Nat.le_refl _)
theorem SpOK.mgT {A B : Nat} {s o : St} (hs : okT A B s) (ho : okT A B o) : SpOK (B * A + B * A + (A + A) * B) (okT A B) (mgT A B s o) := by
 obtain ⟨s1, s2, s3⟩ := hs
 obtain ⟨o1, o2, o3⟩ := ho
 have ha := (SpOK.thin s (o.2.1 - s.2.1)).at.mono (f := B * A) (Nat.mul_le_mul (by omega) s1) fun _ h => h
 have hb := (SpOK.thin o (s.2.1 - o.2.1)).at.mono (f := B * A) (Nat.mul_le_mul (by omega) o1) fun _ h => h
 have hj := ha.join (R := fun t => t.1 ≤ A + A ∧ t.2 = (max s.2.1 o.2.1, s.2.2 || o.2.2)) (b := s.2.2 || o.2.2) hb fun t u ht hu => ⟨by simp only; omega, by simp only [ht.2, Prod.mk.injEq, and_true]; omega⟩
 refine hj.times fun t ht => ?_
 refine (SpOK.down (A := A) (X := A + A) (B - max s.2.1 o.2.1) t (by rw [ht.2]; simp only; omega) ht.1 (by
  rw [ht.2]
  simp only [Bool.or_eq_true]
  rintro (h | h)
  ·have := s3 h; omega
  ·have := o3 h; omega)).mono (Nat.mul_le_mul_left _ (by omega)) fun _ h => h
end
section
open Go.RowKit
def topI (top : Nat) (k : Nat) : Rat := if k = top then 1 else 0
def fulI (s : St) : Rat := if s.2.2 then 1 else 0
abbrev ofZ (top : Nat) (c : Nat → Rat) (n : Nat) : Sp := ofQ (stepQ top c) (0, 0, false) n
def lostQ (top : Nat) (c : Nat → Rat) : Nat → Rat
 | 0 => 0
 | n + 1 => lostQ top c n + exQ (plQ (topI top)) (ofZ top c n)
structure ValOK (top : Nat) (c V : Nat → Rat) : Prop where
 v0 : V 0 = 0
 step : ∀ k, k < top → c k * (V (k + 1) - V k) = 1
 c0 : ∀ k, k < top → 0 ≤ c k
 c1 : ∀ k, k < top → c k ≤ 1
section
variable {top : Nat} {c V : Nat → Rat}
theorem okz (top : Nat) : okQ top (0, 0, false) := ⟨Nat.zero_le _, rfl, by simp⟩
theorem o_106 (h : ValOK top c V) (n : Nat) : oklQ top (ofZ top c n) := o_wg h.c0 h.c1 (okz top) n
theorem o_107 (n : Nat) : ofZ top c (n + 1) = timesQ (stepQ top c) (ofZ top c n) := rfl
theorem o_108 (g h : St → Rat) : ∀ l : Sp, exQ (fun t => g t - h t) l = exQ g l - exQ h l
 | [] => by simp only [exQ]; grind
 | p :: l => by simp only [exQ, o_108 g h l]; grind
theorem o_109 (g h : St → Rat) : ∀ l : Sp, exQ (fun t => g t + h t) l = exQ g l + exQ h l
 | [] => by simp only [exQ]; grind
 | p :: l => by simp only [exQ, o_109 g h l]; grind
theorem o_10a (u : Rat) (g : St → Rat) : ∀ l : Sp, exQ (fun t => u * g t) l = u * exQ g l
 | [] => by simp only [exQ]; grind
 | p :: l => by simp only [exQ, o_10a u g l]; grind
theorem o_10b (h : ValOK top c V) (k : Nat) (hk : k ≤ top) : SQ top c V k = V k + 1 - topI top k := by
 unfold SQ topI
 by_cases e : k = top
 ·rw [if_pos e, if_pos e, e]; grind
 ·rw [if_neg e, if_neg e]
  have := h.step k (by omega)
  grind
theorem o_10c (h : ValOK top c V) (n : Nat) : exQ (plQ V) (ofZ top c (n + 1)) = exQ (plQ V) (ofZ top c n) + 1 - exQ (plQ (topI top)) (ofZ top c n) := by
 have h1 := o_wh (top := top) (c := c) (0, 0, false) n
 rw [o_107, o_z3]
 have e : exQ (plQ (SQ top c V)) (ofZ top c n) = exQ (fun t => (plQ V t + 1) - plQ (topI top) t) (ofZ top c n) :=
  o_z4 (top := top) (fun s hs => o_10b h s.1 hs) fun p hp => (o_106 h n p hp).1.1
 rw [e, o_108 (fun t => plQ V t + 1), o_109 (plQ V) (fun _ => 1), h1]
theorem o_10d (h : ValOK top c V) : ∀ n : Nat, exQ (plQ V) (ofZ top c n) + lostQ top c n = (n : Rat)
 | 0 => by
  have e : exQ (plQ V) (ofZ top c 0) = 1 * V 0 + 0 := rfl
  rw [e, h.v0, lostQ]
  simp
  grind
 | n + 1 => by
  have ih := o_10d h n
  have e : ((n + 1 : Nat) : Rat) = (n : Rat) + 1 := by simp
  rw [o_10c h n, lostQ, e, ← ih]
  grind
theorem o_10e (n : Nat) (hn : n < top) : exQ (plQ (topI top)) (ofZ top c n) = 0 := by
 have key : ∀ l : Sp, (∀ p ∈ l, p.1.1 < top) → exQ (plQ (topI top)) l = 0 := by
  intro l
  induction l with
  | nil => intro _; rfl
  | cons p l ih =>
   intro hl
   simp only [exQ]
   rw [ih fun q hq => hl q (by simp [hq])]
   have : plQ (topI top) p.1 = 0 := by
    unfold plQ topI
    rw [if_neg (by have := hl p (by simp); omega)]
   rw [this]; grind
 have hlow : ∀ m, m ≤ n → ∀ p ∈ ofZ top c m, p.1.1 ≤ m := by
  intro m
  induction m with
  | zero =>
   intro _ p hp
   simp [ofQ] at hp; subst hp
   exact Nat.le_refl _
  | succ m ih =>
   intro hm
   have := o_yv (P := fun t => t.1 ≤ m) (P' := fun t => t.1 ≤ m + 1) (next := stepQ top c) (fun s hs => ?_) (ih (by omega))
   ·exact this
   ·intro p hp
    unfold stepQ at hp
    rw [if_neg (by omega)] at hp
    unfold eitQ at hp
    rcases o_w9 hp with hp | rfl
    ·rcases o_w9 hp with hp | rfl
     ·cases hp
     ·simp only; omega
    ·simp only; omega
 exact key _ fun p hp => by have := hlow n (Nat.le_refl _) p hp; omega
theorem o_10f : ∀ n, n ≤ top → lostQ top c n = 0
 | 0, _ => rfl
 | n + 1, h => by rw [lostQ, o_10f n (by omega), o_10e n (by omega)]; grind
theorem o_10g (h : ValOK top c V) (n : Nat) (hn : n ≤ top) : exQ (plQ V) (ofZ top c n) = (n : Rat) := by
 have := o_10d h n
 rw [o_10f n hn] at this
 grind
theorem sq_sq (h : ValOK top c V) (k : Nat) (hk : k < top) : SQ top c (fun k => V k * V k) k = V k * V k + 2 * V k + (V (k + 1) - V k) := by
 unfold SQ
 rw [if_neg (by omega)]
 have := h.step k hk
 have e : c k * (V (k + 1) * V (k + 1)) + (1 - c k) * (V k * V k) = V k * V k + (c k * (V (k + 1) - V k)) * (V (k + 1) + V k) := by grind
 rw [e, this]; grind
theorem o_10h (h : ValOK top c V) {u : Rat} (hu : ∀ k, k < top → V (k + 1) - V k ≤ 1 + u * V k) (n : Nat) (hn : n < top) : exQ (plQ fun k => V k * V k) (ofZ top c (n + 1)) ≤ exQ (plQ fun k => V k * V k) (ofZ top c n) + (2 + u) * (n : Rat) + 1 ∧ ((∀ k, k < top → V (k + 1) - V k = 1 + u * V k) → exQ (plQ fun k => V k * V k) (ofZ top c (n + 1)) = exQ (plQ fun k => V k * V k) (ofZ top c n) + (2 + u) * (n : Rat) + 1) := by
 have h1 := o_wh (top := top) (c := c) (0, 0, false) n
 have hm := o_10g h n (by omega)
 have hlow : ∀ p ∈ ofZ top c n, okQ top p.1 ∧ 0 ≤ p.2 := o_106 h n
 have hz := o_10e (c := c) n hn
 -- what lies at the top weighs nothing
 have key : ∀ l : Sp, oklQ top l → exQ (plQ (topI top)) l = 0 → exQ (plQ (SQ top c fun k => V k * V k)) l ≤ exQ (fun t => (plQ (fun k => V k * V k) t + (2 + u) * plQ V t) + 1) l ∧ ((∀ k, k < top → V (k + 1) - V k = 1 + u * V k) → exQ (plQ (SQ top c fun k => V k * V k)) l = exQ (fun t => (plQ (fun k => V k * V k) t + (2 + u) * plQ V t) + 1) l) := by
  intro l
  induction l with
  | nil => intro _ _; exact ⟨Rat.le_refl, fun _ => rfl⟩
  | cons p l ih =>
   intro hl hz
   have hp := hl p (by simp)
   have hl' : oklQ top l := fun q hq => hl q (by simp [hq])
   have hnn : 0 ≤ exQ (plQ (topI top)) l := by
    have := o_w8 (g := fun _ => 0) (h := plQ (topI top)) (top := top) (fun s _ => by unfold plQ topI; split <;> decide) hl'
    rwa [show exQ (fun _ => (0 : Rat)) l = 0 from by
     clear ih hz hl hl' this
     induction l with
     | nil => rfl
     | cons p l ih => simp only [exQ, ih]; grind] at this
   simp only [exQ] at hz
   have ht : 0 ≤ plQ (topI top) p.1 := by unfold plQ topI; split <;> decide
   have hpt := Rat.mul_nonneg hp.2 ht
   obtain ⟨i1, i2⟩ := ih hl' (by grind)
   simp only [exQ]
   by_cases e : p.1.1 = top
   ·have : plQ (topI top) p.1 = 1 := by unfold plQ topI; rw [if_pos e]
    have hp0 : p.2 = 0 := by rw [this] at hz hpt; grind
    rw [hp0]
    exact ⟨by grind, fun he => by rw [i2 he]; grind⟩
   ·have hk : p.1.1 < top := by have := hp.1.1; omega
    have hs := sq_sq h p.1.1 hk
    have hue := hu p.1.1 hk
    have e1 : plQ (SQ top c fun k => V k * V k) p.1 = V p.1.1 * V p.1.1 + 2 * V p.1.1 + (V (p.1.1 + 1) - V p.1.1) := hs
    rw [e1]
    unfold plQ at i1 i2 ⊢
    refine ⟨?_, fun he => ?_⟩
    ·have h5 : p.2 * (V p.1.1 * V p.1.1 + 2 * V p.1.1 + (V (p.1.1 + 1) - V p.1.1)) ≤ p.2 * ((V p.1.1 * V p.1.1 + (2 + u) * V p.1.1) + 1) := Rat.mul_le_mul_of_nonneg_left (by grind) hp.2
     grind
    ·rw [i2 he, he p.1.1 hk]; grind
 obtain ⟨k1, k2⟩ := key _ hlow hz
 have e2 : exQ (fun t => (plQ (fun k => V k * V k) t + (2 + u) * plQ V t) + 1) (ofZ top c n) = exQ (plQ fun k => V k * V k) (ofZ top c n) + (2 + u) * (n : Rat) + 1 := by
  rw [o_109 (fun t => plQ (fun k => V k * V k) t + (2 + u) * plQ V t) (fun _ => 1), o_109 (plQ fun k => V k * V k), o_10a (2 + u) (plQ V), hm, h1]
 rw [o_107, o_z3, ← e2]
 exact ⟨k1, k2⟩
theorem o_10i (h : ValOK top c V) {u : Rat} (hu : ∀ k, k < top → V (k + 1) - V k ≤ 1 + u * V k) : ∀ n, n ≤ top → 2 * (exQ (plQ fun k => V k * V k) (ofZ top c n) - (n : Rat) * (n : Rat)) ≤ u * ((n : Rat) * ((n : Rat) - 1))
 | 0, _ => by
  have e : exQ (plQ fun k => V k * V k) (ofZ top c 0) = 1 * (V 0 * V 0) + 0 := rfl
  rw [e, h.v0]
  simp
  grind
 | n + 1, hn => by
  have ih := o_10i h hu n (by omega)
  have h1 := (o_10h h hu n (by omega)).1
  have e : ((n + 1 : Nat) : Rat) = (n : Rat) + 1 := by simp
  rw [e]
  generalize (n : Rat) = N at *
  generalize exQ (plQ fun k => V k * V k) (ofZ top c (n + 1)) = X at *
  generalize exQ (plQ fun k => V k * V k) (ofZ top c n) = Y at *
  grind
theorem o_10j (h : ValOK top c V) {u : Rat} (hu : ∀ k, k < top → V (k + 1) - V k = 1 + u * V k) : ∀ n, n ≤ top → 2 * (exQ (plQ fun k => V k * V k) (ofZ top c n) - (n : Rat) * (n : Rat)) = u * ((n : Rat) * ((n : Rat) - 1))
 | 0, _ => by
  have e : exQ (plQ fun k => V k * V k) (ofZ top c 0) = 1 * (V 0 * V 0) + 0 := rfl
  rw [e, h.v0]
  simp
  grind
 | n + 1, hn => by
  have ih := o_10j h hu n (by omega)
  have h1 := (o_10h h (fun k hk => by rw [hu k hk]; exact Rat.le_refl) n (by omega)).2 hu
  have e : ((n + 1 : Nat) : Rat) = (n : Rat) + 1 := by simp
  rw [e]
  generalize (n : Rat) = N at *
  generalize exQ (plQ fun k => V k * V k) (ofZ top c (n + 1)) = X at *
  generalize exQ (plQ fun k => V k * V k) (ofZ top c n) = Y at *
  grind
end
theorem o_10k (g : St → Rat) {l : Sp} (hl : ∀ p ∈ l, 0 ≤ p.2) (h1 : exQ (fun _ => 1) l = 1) : 0 ≤ exQ (fun t => g t * g t) l - exQ g l * exQ g l := by
 obtain ⟨m, hm⟩ : ∃ m, m = exQ g l := ⟨_, rfl⟩
 have key : ∀ l : Sp, (∀ p ∈ l, 0 ≤ p.2) → 0 ≤ exQ (fun t => (g t - m) * (g t - m)) l := by
  intro l
  induction l with
  | nil => intro _; exact Rat.le_refl
  | cons p l ih =>
   intro hl
   have h1 := ih fun q hq => hl q (by simp [hq])
   have h2 : 0 ≤ (g p.1 - m) * (g p.1 - m) := by
    rcases Rat.le_total (a := 0) (b := g p.1 - m) with h | h
    ·exact Rat.mul_nonneg h h
    ·have h3 : 0 ≤ -(g p.1 - m) := by grind
     have := Rat.mul_nonneg h3 h3
     grind
   have h3 := Rat.mul_nonneg (hl p (by simp)) h2
   simp only [exQ]
   grind
 have h2 := key l hl
 have e : exQ (fun t => (g t - m) * (g t - m)) l = exQ (fun t => ((g t * g t) - (2 * m) * g t) + (m * m) * 1) l := by
  congr 1
  funext t
  grind
 rw [e, o_109 (fun t => (g t * g t) - (2 * m) * g t), o_108 (fun t => g t * g t), o_10a (2 * m) g, o_10a (m * m) (fun _ => 1), h1, ← hm] at h2
 rw [← hm]
 grind
end
section
open Go.RowKit
def tlQ (V : St → Rat) (f : Rat) (s : St) : Rat := if f ≤ V s then 1 else 0
theorem o_10l {g h : St → Rat} : ∀ {l : Sp}, (∀ p ∈ l, 0 ≤ p.2 ∧ g p.1 ≤ h p.1) → exQ g l ≤ exQ h l
 | [], _ => Rat.le_refl
 | p :: l, hl => by
  have h1 := o_10l (l := l) (g := g) (h := h) fun q hq => hl q (by simp [hq])
  obtain ⟨h2, h3⟩ := hl p (by simp)
  have := Rat.mul_le_mul_of_nonneg_left h3 h2
  simp only [exQ]; grind
section
variable {V : St → Rat} {l : Sp} (h0 : ∀ p ∈ l, 0 ≤ p.2)
 include h0
theorem o_10m {f g : Rat} (hfg : f ≤ g) : exQ (tlQ V g) l ≤ exQ (tlQ V f) l :=
 o_10l fun p hp => ⟨h0 p hp, by
  unfold tlQ
  split
  ·rename_i h; rw [if_pos (Rat.le_trans hfg h)]; exact Rat.le_refl
  ·split
   ·decide
   ·exact Rat.le_refl⟩
theorem tl_nn (f : Rat) : 0 ≤ exQ (tlQ V f) l := o_zo h0 fun p _ => by
 unfold tlQ; split <;> decide
theorem o_10n (hV : ∀ p ∈ l, 0 ≤ V p.1) (f : Rat) : exQ (tlQ V f) l * f ≤ exQ V l := by
 have h1 : exQ (fun s => f * tlQ V f s) l ≤ exQ V l := o_10l fun p hp => ⟨h0 p hp, by
  show f * tlQ V f p.1 ≤ V p.1
  unfold tlQ
  split
  ·rename_i h; rw [Rat.mul_one]; exact h
  ·rw [Rat.mul_zero]; exact hV p hp⟩
 rw [o_10a, Rat.mul_comm] at h1
 exact h1
theorem o_10o (h1 : exQ (fun _ => 1) l = 1) (f : Rat) (hd : 0 ≤ f - exQ V l) : exQ (tlQ V f) l * ((f - exQ V l) * (f - exQ V l)) ≤ exQ (fun t => V t * V t) l - exQ V l * exQ V l := by
 obtain ⟨m, hm⟩ : ∃ m, m = exQ V l := ⟨_, rfl⟩
 rw [← hm] at hd
 have h2 : exQ (fun s => ((f - m) * (f - m)) * tlQ V f s) l ≤ exQ (fun t => (V t - m) * (V t - m)) l := o_10l fun p hp => ⟨h0 p hp, by
  show ((f - m) * (f - m)) * tlQ V f p.1 ≤ (V p.1 - m) * (V p.1 - m)
  unfold tlQ
  split
  ·rename_i h
   rw [Rat.mul_one]
   have h3 : f - m ≤ V p.1 - m := by grind
   have h4 := Rat.mul_le_mul_of_nonneg_left h3 hd
   have h5 := Rat.mul_le_mul_of_nonneg_right h3 (Rat.le_trans hd h3)
   exact Rat.le_trans h4 h5
  ·rw [Rat.mul_zero]
   rcases Rat.le_total (a := 0) (b := V p.1 - m) with h | h
   ·exact Rat.mul_nonneg h h
   ·have h3 : 0 ≤ -(V p.1 - m) := by grind
    have := Rat.mul_nonneg h3 h3
    grind⟩
 have e : exQ (fun t => (V t - m) * (V t - m)) l = exQ (fun t => ((V t * V t) - (2 * m) * V t) + (m * m) * 1) l := by
  congr 1
  funext t
  grind
 rw [e, o_109 (fun t => (V t * V t) - (2 * m) * V t), o_108 (fun t => V t * V t), o_10a (2 * m) V, o_10a (m * m) (fun _ => 1), h1, o_10a, ← hm] at h2
 rw [← hm]
 grind
end
theorem o_10p {V : St → Rat} {l : Sp} (hV : ∀ p ∈ l, 0 ≤ V p.1) : exQ (tlQ V 0) l = exQ (fun _ => 1) l := o_zu fun p hp => by unfold tlQ; rw [if_pos (hV p hp)]
end
section
open Go.RowKit
theorem o_10q (g : St → Rat) (p : St × Rat) : ∀ l : Sp, exQ g (l ++ [p]) = exQ g l + p.2 * g p.1
 | [] => by simp [exQ, Rat.add_zero, Rat.zero_add]
 | x :: l => by
  rw [List.cons_append, exQ, exQ, o_10q g p l, Rat.add_assoc]
def sumQ (g : St → Rat) (L : Sp) (i : Nat) : Rat := exQ g (L.take i)
theorem o_10r (g : St → Rat) (L : Sp) (i : Nat) (h : i < L.length) : sumQ g L (i + 1) = sumQ g L i + L[i].2 * g L[i].1 := by
 unfold sumQ
 rw [List.take_add_one, List.getElem?_eq_getElem h, Option.toList, o_10q]
theorem o_10s (g : St → Rat) (L : Sp) : sumQ g L L.length = exQ g L := by unfold sumQ; rw [List.take_length]

theorem o_10t : rD 0 = .agg [natW 0, .bool false, natW 0] := by rfl
theorem sub_zero : Sub1 (.d (.agg [.nilsl, .bool false, .nilsl])) (.d (rD 0)) := by
 rw [o_10t]
 exact Sub1.aggd (Subs.cons Sub1.nil (Subs.cons (Sub1.refl _) (Subs.cons Sub1.nil (Subs.refl _))))
theorem o_10u (b : Bool) : Eqn Tryz.prog o_9r [.d (.bool b)] [] (.d (rD (if b then 1 else 0))) [] := by
 refine Eqn.pure o_9t Plain.ok ?_
 have ho := rof1
 simp only [o_9s]
 obtain ⟨O1, O2, O3, hO⟩ : ∃ O1 O2 O3, rD 1 = .agg [O1, O2, O3] := ⟨_, _, _, rfl⟩
 cases b with
 | true =>
  simp only [if_true, hO] at ho ⊢
  refine A00 ?_; try with_reducible exact tt
  refine CallS.pu (ho) (R0 ?_); try with_reducible exact tt
 | false =>
  rw [if_neg (by decide)]
  refine A00 ?_; try with_reducible exact tt
  exact sub_zero
theorem o_10v (s : St) (v : Rat) : Eqn Tryz.prog o_9i [.d (.agg (stD s)), .d (rD v)] [] (.d (rD v)) [] := by
 refine Eqn.pure o_9k Plain.ok ?_
 simp only [o_9j, stD, rD]
 refine A00 ?_; try with_reducible exact tt
theorem o_10w (s : St) (v : Rat) (hv : RS v 100000) : Eqn Tryz.prog o_9l [.d (.agg (stD s)), .d (rD v)] [] (.d (rD (v * v))) [] := by
 refine Eqn.pure o_9n Plain.ok ?_
 have hm := o_oi v v hv hv
 obtain ⟨V1, V2, V3, hV⟩ : ∃ V1 V2 V3, rD v = .agg [V1, V2, V3] := ⟨_, _, _, rfl⟩
 obtain ⟨O1, O2, O3, hO⟩ : ∃ O1 O2 O3, rD (v * v) = .agg [O1, O2, O3] := ⟨_, _, _, rfl⟩
 rw [hV, hO] at hm
 simp only [o_9m, stD, hV, hO]
 refine A00 ?_; try with_reducible exact tt
 refine CallS.pu (hm) (R0 ?_); try with_reducible exact tt
theorem o_10x (s : St) (v : Rat) : Eqn Tryz.prog o_9o [.d (.agg (stD s)), .d (rD v)] [] (.d (rD (if s.2.2 then 1 else 0))) [] := by
 refine Eqn.pure o_9q Plain.ok ?_
 have hm := o_10u s.2.2
 obtain ⟨V1, V2, V3, hV⟩ : ∃ V1 V2 V3, rD v = .agg [V1, V2, V3] := ⟨_, _, _, rfl⟩
 obtain ⟨O1, O2, O3, hO⟩ : ∃ O1 O2 O3, rD (if s.2.2 then 1 else 0) = .agg [O1, O2, O3] := ⟨_, _, _, rfl⟩
 rw [hO] at hm
 simp only [o_9p, stD, hV, hO]
 refine A00 ?_; try with_reducible exact tt
 refine CallS.pu (hm) (R0 ?_); try with_reducible exact tt
end
section
open Go.RowKit
set_option maxHeartbeats 4000000 in
theorem o_10y {f : FuncId} {W : St → Rat} {k a w : Nat} (h : GoodR k a w) (L : Sp) (hl : L.length ≤ 1000000) (hw : ∀ p ∈ L, WellR k a w p.1.1 p.1.2.1 p.1.2.2) (hf : ∀ p ∈ L, Eqn Tryz.prog f [.d (.agg (stD p.1)), .d (rD (valR k a w p.1.1 p.1.2.1))] [] (.d (rD (W p.1))) []) (hrs : ∀ p ∈ L, RS p.2 100000 ∧ RS (W p.1) 100000 ∧ RS (p.2 * W p.1) 100000) (hsum : ∀ i, i ≤ L.length → RS (sumQ W L i) 100000) :
  Eqn Tryz.prog o_9f [.d (parD k a w), .d (.sl L.length (spD rcD L)), .fn (.func f) []] [] (.tup [.d (rD (exQ W L)), .d (.int .i64 0)]) [] := by
 refine Eqn.pure o_9h (o_ke _ _) ?_
 have hch := o_rs h
 have hLl := o_vd rcD (fun _ => rfl) L
 have hget := o_ym L
 have hz : rcD (sumQ W L 0) = [natW 0, .bool false, natW 0] := by rfl
 rw [← o_10s W L]
 simp only [o_9g, parD] at hch ⊢
 refine A00 ?_; try with_reducible exact tt
 refine CallS.pu (hch) (R0 ?_); try with_reducible exact tt
 refine A00 ?_; try with_reducible exact tt
 refine AW.loopW (α := Nat) (fun i => setS (List.replicate 49 .junk) [(2, .fn (.func f) []), (3, .p 0 0), (6, .p 1 0), (9, .p 2 0), (20, .d (.sl L.length (spD rcD L))), (21, .d (.int .i64 L.length)), (22, .d (.int .i64 (i : Nat)))]) (fun i => [some ⟨62, [.d (.int .i64 k), .d (.int .i64 a), .d (.int .i64 w)]⟩, some ⟨47, [.d .nilsl, .d (.bool false), .d .nilsl]⟩, some ⟨47, (rcD (sumQ W L i)).map .d⟩]) (fun i => i ≤ L.length) (fun i => L.length - i) 3 (fun _ => rfl) (Nat.zero_le _) 0 (Nat.zero_le _) ?_ ?_ ?_
 ·simp
 ·simp [hz]
  exact Subs.cons Sub1.nil (Subs.cons (Sub1.refl _) (Subs.cons Sub1.nil (Subs.refl _)))
 rintro i hi
 simp
 by_cases hi2 : i < L.length
 ·have hi3 : (i : Int) < L.length := by omega
  have ew : IntKind.i64.wrap ((i : Int) + 1) = ((i + 1 : Nat) : Int) := by rw [w64 (by omega) (by omega)]; omega
  obtain ⟨s1, s2, s3, q, N1, N2, N3, hp, hN, hg⟩ := hget i hi2
  have hwi := hw _ (List.getElem_mem hi2)
  have hri := hrs _ (List.getElem_mem hi2)
  have hfi := hf _ (List.getElem_mem hi2)
  have hnx := o_10r W L i hi2
  have hsi := hsum i hi
  rw [hp] at hwi hri hfi hnx
  simp only at hwi hri hfi hnx
  have hv := o_sf h hwi
  have hm := o_oi q (W (s1, s2, s3)) hri.1 hri.2.1
  have had := o_oj (sumQ W L i) (q * W (s1, s2, s3)) hsi hri.2.2
  rw [← hnx] at had
  have hb6 : i * 6 + 6 ≤ L.length * 6 := by omega
  have hb7 : i * 6 < L.length * 6 := by omega
  simp only [parD, tsD, stD, o_wk] at hv hm had hfi
  obtain ⟨A1, A2, A3, hA⟩ : ∃ A1 A2 A3, rcD (sumQ W L i) = [A1, A2, A3] := ⟨_, _, _, rfl⟩
  obtain ⟨B1, B2, B3, hB⟩ : ∃ B1 B2 B3, rcD (sumQ W L (i + 1)) = [B1, B2, B3] := ⟨_, _, _, rfl⟩
  obtain ⟨V1, V2, V3, hV⟩ : ∃ V1 V2 V3, rcD (valR k a w s1 s2) = [V1, V2, V3] := ⟨_, _, _, rfl⟩
  obtain ⟨W1, W2, W3, hW⟩ : ∃ W1 W2 W3, rcD (W (s1, s2, s3)) = [W1, W2, W3] := ⟨_, _, _, rfl⟩
  obtain ⟨M1, M2, M3, hM⟩ : ∃ M1 M2 M3, rcD (q * W (s1, s2, s3)) = [M1, M2, M3] := ⟨_, _, _, rfl⟩
  rw [hV] at hv hfi
  rw [hW] at hfi hm
  rw [hM, hN] at hm
  rw [hA, hB, hM] at had
  rw [hA]
  refine A10 (fs hi2 (fs hi3 (fs hLl (fs hg (fs hb6 hb7))))) ?_; try with_reducible exact tt
  refine CallS.pu (hv) (R0 ?_); try with_reducible exact tt
  refine A00 ?_; try with_reducible exact tt
  refine CallS.pu (hfi) (R0 ?_); try with_reducible exact tt
  refine CallS.pu (hm) (R0 ?_); try with_reducible exact tt
  refine CallS.pu (had) (R0 ?_); try with_reducible exact tt
  refine A10 ew ?_; try with_reducible exact tt
  refine ⟨i + 1, by omega, by omega, ?_, ?_⟩
  ·exact Sub1.int (by omega)
  ·rw [hB]; exact Subs.refl _
 ·have h2 : i = L.length := by omega
  subst h2
  obtain ⟨A1, A2, A3, hA⟩ : ∃ A1 A2 A3, rcD (sumQ W L L.length) = [A1, A2, A3] := ⟨_, _, _, rfl⟩
  rw [o_wk, hA]
  refine A00 ?_; try with_reducible exact tt
end
section
open Go.RowKit
def vlQ (k a w : Nat) (s : St) : Rat := valR k a w s.1 s.2.1
def vvQ (k a w : Nat) (s : St) : Rat := vlQ k a w s * vlQ k a w s
structure TailRS (k a w : Nat) (L : Sp) : Prop where
 len : L.length ≤ 1000000
 well : ∀ p ∈ L, WellR k a w p.1.1 p.1.2.1 p.1.2.2
 p : ∀ p ∈ L, RS p.2 100000 ∧ RS (vlQ k a w p.1) 100000 ∧ RS (vvQ k a w p.1) 100000 ∧ RS (p.2 * vlQ k a w p.1) 100000 ∧ RS (p.2 * vvQ k a w p.1) 100000
 s : ∀ i, i ≤ L.length → RS (sumQ (vlQ k a w) L i) 1000 ∧ RS (sumQ (vvQ k a w) L i) 1000 ∧ RS (sumQ fulI L i) 1000
 m : RS (exQ (vlQ k a w) L * exQ (vlQ k a w) L) 1000
def varQ (k a w : Nat) (L : Sp) : Rat := exQ (vvQ k a w) L - exQ (vlQ k a w) L * exQ (vlQ k a w) L
def stD3 (k a w : Nat) (L : Sp) : List D := rcD (exQ (vlQ k a w) L) ++ (rcD (varQ k a w L) ++ rcD (exQ fulI L))
theorem o_10z (s : St) : RS (fulI s) 100000 := by
 unfold fulI
 split
 ·exact o_wo.le (by omega)
 ·exact ⟨by decide, by decide⟩
set_option maxHeartbeats 4000000 in
theorem o_110 {k a w : Nat} (h : GoodR k a w) (L : Sp) (hr : TailRS k a w L) :
  Eqn Tryz.prog o_7a [.d (parD k a w), .d (.sl L.length (spD rcD L))] [] (.tup [.d (.agg (stD3 k a w L)), .d (.int .i64 0)]) [] := by
 refine Eqn.pure o_7c (o_ke _ _) ?_
 have h1 := o_10y (W := vlQ k a w) h L hr.len hr.well (fun p _ => o_10v p.1 _) (fun p hp => ⟨(hr.p p hp).1, (hr.p p hp).2.1, (hr.p p hp).2.2.2.1⟩) (fun i hi => (hr.s i hi).1.le (by omega))
 have h2 := o_10y (W := vvQ k a w) h L hr.len hr.well (fun p hp => o_10w p.1 _ (hr.p p hp).2.1) (fun p hp => ⟨(hr.p p hp).1, (hr.p p hp).2.2.1, (hr.p p hp).2.2.2.2⟩) (fun i hi => (hr.s i hi).2.1.le (by omega))
 have h3 := o_10y (W := fulI) h L hr.len hr.well (fun p hp => o_10x p.1 _) (fun p hp => ⟨(hr.p p hp).1, o_10z _, by
   unfold fulI
   split
   ·rw [Rat.mul_one]; exact (hr.p p hp).1
   ·rw [Rat.mul_zero]; exact ⟨by decide, by decide⟩⟩) (fun i hi => (hr.s i hi).2.2.le (by omega))
 have s1 : RS (exQ (vlQ k a w) L) 100000 := by rw [← o_10s]; exact (hr.s _ (Nat.le_refl _)).1.le (by omega)
 have s2 : RS (exQ (vvQ k a w) L) 100000 := by rw [← o_10s]; exact (hr.s _ (Nat.le_refl _)).2.1.le (by omega)
 have hm := o_oi _ _ s1 s1
 have hs := o_ok _ _ s2 (hr.m.le (by omega))
 rw [show exQ (vvQ k a w) L - exQ (vlQ k a w) L * exQ (vlQ k a w) L = varQ k a w L from rfl] at hs
 have hLl := o_vd rcD (fun _ => rfl) L
 simp only [o_7b, parD, stD3, o_wk] at h1 h2 h3 hm hs ⊢
 generalize exQ (vlQ k a w) L = M at *
 generalize exQ (vvQ k a w) L = M2 at *
 generalize exQ fulI L = F at *
 generalize varQ k a w L = V at *
 obtain ⟨A1, A2, A3, hA⟩ : ∃ A1 A2 A3, rcD M = [A1, A2, A3] := ⟨_, _, _, rfl⟩
 obtain ⟨B1, B2, B3, hB⟩ : ∃ B1 B2 B3, rcD M2 = [B1, B2, B3] := ⟨_, _, _, rfl⟩
 obtain ⟨C1, C2, C3, hC⟩ : ∃ C1 C2 C3, rcD F = [C1, C2, C3] := ⟨_, _, _, rfl⟩
 obtain ⟨V1, V2, V3, hV⟩ : ∃ V1 V2 V3, rcD V = [V1, V2, V3] := ⟨_, _, _, rfl⟩
 obtain ⟨S1, S2, S3, hS⟩ : ∃ S1 S2 S3, rcD (M * M) = [S1, S2, S3] := ⟨_, _, _, rfl⟩
 rw [hA] at h1 hm ⊢
 rw [hB] at h2 hs
 rw [hC] at h3 ⊢
 rw [hV] at hs ⊢
 rw [hS] at hm hs
 generalize spD rcD L = LL at *
 refine A00 ?_; try with_reducible exact tt
 refine CallS.pu (h1) (R0 ?_); try with_reducible exact tt
 refine A00 ?_; try with_reducible exact tt
 refine CallS.pu (h2) (R0 ?_); try with_reducible exact tt
 refine A00 ?_; try with_reducible exact tt
 refine CallS.pu (h3) (R0 ?_); try with_reducible exact tt
 refine A00 ?_; try with_reducible exact tt
 refine CallS.pu (hm) (R0 ?_); try with_reducible exact tt
 refine CallS.pu (hs) (R0 ?_); try with_reducible exact tt
end
section
open Go.RowKit
def inMQ (top k a : Nat) (x : St × Rat) (B : Sp) (out : Sp) (j : Nat) : Sp := (B.take j).foldl (fun out y => innQ (x.2 * y.2) out (atQ (mgQ top k a x.1 y.1))) out
def outMQ (top k a : Nat) (A B : Sp) (i : Nat) : Sp := (A.take i).foldl (fun out x => B.foldl (fun out y => innQ (x.2 * y.2) out (atQ (mgQ top k a x.1 y.1))) out) []
end
section
open Go.RowKit
end
section
open Go.RowKit
end
section
open Go.RowKit
def inG (mg : St → St → Sp) (x : St × Rat) (B : Sp) (out : Sp) (j : Nat) : Sp := (B.take j).foldl (fun out y => innQ (x.2 * y.2) out (atQ (mg x.1 y.1))) out
def outG (mg : St → St → Sp) (A B : Sp) (i : Nat) : Sp := (A.take i).foldl (fun out x => B.foldl (fun out y => innQ (x.2 * y.2) out (atQ (mg x.1 y.1))) out) []
def mrgG (mg : St → St → Sp) (A B : Sp) : Sp := A.foldl (fun out x => B.foldl (fun out y => innQ (x.2 * y.2) out (atQ (mg x.1 y.1))) out) []
structure MrgOK (k a w : Nat) (mg : St → St → Sp) (A B : Sp) (D M J L : Nat) : Prop where
 dp : 0 < D
 mp : 1 ≤ M
 jp : 1 ≤ J
 lp : 1 ≤ L
 j2 : J ≤ 1000
 a1 : 1 ≤ A.length
 a2 : A.length ≤ 1000
 b1 : 1 ≤ B.length
 b2 : B.length ≤ L
 l2 : L ≤ 1000
 xs : ∀ x ∈ A, 0 ≤ x.2 ∧ RS x.2 40000
 ys : ∀ y ∈ B, 0 ≤ y.2 ∧ RS y.2 40000
 gr : ∀ x ∈ A, ∀ y ∈ B, (∀ p ∈ atQ (mg x.1 y.1), Gr D M (x.2 * y.2 * p.2)) ∧ (atQ (mg x.1 y.1)).length ≤ J
 rs : ∀ x ∈ A, ∀ y ∈ B, ∀ p ∈ atQ (mg x.1 y.1), RS p.2 100000
 sz : size ((A.length + 2) * (L * J) * M * D) ≤ 100000
 cost : Eqn Tryz.prog o_8g [.d (parD k a w), .d (.sl (A.length + B.length) (stsD ((A ++ B).map (·.1))))] [] (.d (.int .i64 0)) []
 call : ∀ x ∈ A, ∀ y ∈ B, Eqn Tryz.prog o_92 [.d (parD k a w), .d (.agg (stD x.1)), .d (.agg (stD y.1))] [] (.mp 0) [spO (mg x.1 y.1)] ∧ Eqn Tryz.prog o_8k [.mp 0] [spO (mg x.1 y.1)] (.d (.sl (atQ (mg x.1 y.1)).length (spD rcD (atQ (mg x.1 y.1))))) [spO (mg x.1 y.1)]
 out : Eqn Tryz.prog o_8k [.mp 0] [spO (mrgG mg A B)] (.d (.sl (atQ (mrgG mg A B)).length (spD rcD (atQ (mrgG mg A B))))) [spO (mrgG mg A B)]
def slC (la lb : Nat) (A B C : List D) (n i : Nat) : List V := setS (List.replicate 100 .junk) [(1, .d (.sl la A)), (2, .d (.sl lb B)), (3, .p 0 0), (8, if i = 0 then .d .nilsl else .own 1 3 i), (9, .d (.bool false)), (23, .d (.sl n C)), (24, .d (.int .i64 n)), (25, .d (.int .i64 (i : Nat)))]
def hpC (k a w : Nat) (S : List St) (i : Nat) : List (Option Ob) := [some ⟨62, [.d (.int .i64 k), .d (.int .i64 a), .d (.int .i64 w)]⟩] ++ if i = 0 then [] else [some ⟨64, (stsD (S.take i)).map .d⟩]
theorem o_111 {x : Rat} (h : 0 ≤ x) : ¬ cmpQ x 0 < 0 := by
 unfold cmpQ
 rw [if_neg (Rat.not_lt.2 h)]
 split <;> decide
end
section
open Go.RowKit
theorem wellQ {k a w : Nat} (h : GoodS k a w) {t : St} (ht : okQ (topC w) t) : WellR k a w t.1 t.2.1 t.2.2 := .inr ⟨by have := h.1; omega, ht.2.1, ht.1, ht.2.2⟩
end
section
open Go.RowKit
end
section
open Go.RowKit
theorem at_eq {l K N : Sp} (hu : Uq l) (hN : nzQ l = N) (hp : K.Perm N) (hs : K.Pairwise fun a b => ltS a.1 b.1 = true) : atQ l = K := (o_w0 hu (hN ▸ hp) hs).symm
def hf2 : Rat := mkRat 1 2
theorem dst2 : atQ (dstQ 1 1 2 (0, 0, false) 2) = [((1, 0, false), hf2), ((2, 0, false), hf2)] := by
 have c0 : stepQ (topC 2) (chP 1 1) (0, 0, false) = [((1, 0, false), 1), ((0, 0, false), 0)] := by kernel_rfl
 have c1 : stepQ (topC 2) (chP 1 1) (1, 0, false) = [((2, 0, false), hf2), ((1, 0, false), hf2)] := by kernel_rfl
 have a0 : atQ [(((0, 0, false) : St), (1 : Rat))] = [((0, 0, false), 1)] := at_eq (N := [((0, 0, false), 1)]) (by unfold Uq; decide) (by kernel_rfl) (List.Perm.refl _) (by decide)
 have a1 : atQ [(((1, 0, false) : St), (1 : Rat)), ((0, 0, false), 0)] = [((1, 0, false), 1)] := at_eq (N := [((1, 0, false), 1)]) (by unfold Uq; decide) (by kernel_rfl) (List.Perm.refl _) (by decide)
 have a2 : atQ [(((1, 0, false) : St), (1 : Rat))] = [((1, 0, false), 1)] := at_eq (N := [((1, 0, false), 1)]) (by unfold Uq; decide) (by kernel_rfl) (List.Perm.refl _) (by decide)
 have a3 : atQ [(((2, 0, false) : St), hf2), ((1, 0, false), hf2)] = [((1, 0, false), hf2), ((2, 0, false), hf2)] := at_eq (N := [((2, 0, false), hf2), ((1, 0, false), hf2)]) (by unfold Uq; decide) (by kernel_rfl) (List.Perm.swap _ _ _) (by decide)
 have a4 : atQ [(((1, 0, false) : St), hf2), ((2, 0, false), hf2)] = [((1, 0, false), hf2), ((2, 0, false), hf2)] := at_eq (N := [((1, 0, false), hf2), ((2, 0, false), hf2)]) (by unfold Uq; decide) (by kernel_rfl) (List.Perm.refl _) (by decide)
 have d1 : dstQ 1 1 2 (0, 0, false) 1 = [((1, 0, false), 1)] := by
  show timesQ _ [((0, 0, false), 1)] = _
  unfold timesQ
  rw [a0]
  simp only [List.foldl_cons, List.foldl_nil]
  rw [c0, a1]
  kernel_rfl
 have d2 : dstQ 1 1 2 (0, 0, false) 2 = [((1, 0, false), hf2), ((2, 0, false), hf2)] := by
  show timesQ _ (dstQ 1 1 2 (0, 0, false) 1) = _
  rw [d1]
  unfold timesQ
  rw [a2]
  simp only [List.foldl_cons, List.foldl_nil]
  rw [c1, a3]
  kernel_rfl
 rw [d2, a4]
end
section
open Go.RowKit
def dlQ (s t : St) : Rat := if t = s then 1 else 0
def gA (top : Nat) : Nat → St → Rat
 | 0, _ => 0
 | i + 1, t => (gA top i t + dlQ (top - i, 0, true) t) + dlQ (top - i, 0, false) t
def gM (top i : Nat) (t : St) : Rat := gA top i t + dlQ (top - i, 0, true) t
def accQ (l : Sp) (top : Nat) : Nat → Rat
 | 0 => 0
 | i + 1 => (accQ l top i + getQ l (top - i, 0, true)) + getQ l (top - i, 0, false)
def midQ (l : Sp) (top i : Nat) : Rat := accQ l top i + getQ l (top - i, 0, true)
end
section
open Go.RowKit
end
section
open Go.RowKit
end
section
open Go.RowKit
def oneQ : Sp := [((1, 0, false), 1)]
theorem o_112 {k a w : Nat} (h : GoodS k a w) {s : St} (hs : okQ (topC w) s) (n : Nat) : 1 ≤ (atQ (dstQ k a w s n)).length ∧ (atQ (dstQ k a w s n)).length ≤ 17 := by
 have h8 : 2 ^ w ≤ 16 := Nat.pow_le_pow_right (n := 2) (by omega) h.2.2
 have h7 : topC w ≤ 15 := by unfold topC; omega
 refine ⟨?_, Nat.le_trans (o_yk _) (Nat.le_trans (o_z5 (o_w5 _ _ n) (o_yx (c := chP k a) hs n)) (by omega))⟩
 rw [(o_vv _).length_eq]
 rcases Nat.eq_zero_or_pos (nzQ (dstQ k a w s n)).length with e | e
 ·exact absurd (List.eq_nil_of_length_eq_zero e) (o_yy _ _)
 ·exact e
end
section
open Go.RowKit
end
section
open Go.RowKit
def losQ (k a w : Nat) (s : St) : Nat → Rat
 | 0 => 0
 | i + 1 => losQ k a w s i + exQ (plQ (topI (topC w))) (atQ (dstQ k a w s i))
def topS (w : Nat) : St → Rat := plQ (topI (topC w))
end
section
open Go.RowKit
def zeroR : D := .agg [natW 0, .bool false, natW 0]
end
section
open Go.RowKit
def svM (a k i : Nat) : Nat := a ^ (k - i) * (a + 1) ^ i - a ^ k
end
section
open Go.RowKit
theorem o_113 {x y : Rat} (h : x * y = 1) : ∀ n : Nat, x ^ n * y ^ n = 1
 | 0 => by simp
 | n + 1 => by
  have := o_113 h n
  rw [Rat.pow_succ, Rat.pow_succ]
  grind
theorem o_114 {a : Nat} (ha : 1 ≤ a) (k : Nat) : valM a k + 1 / chM a k = valM a (k + 1) := by
 have h := o_r6 ha k
 have e : chM a k * mkRat ((a + 1 : Nat) : Int) a ^ k = 1 := by
  unfold chM
  refine o_113 ?_ k
  have : mkRat (a : Int) (a + 1) * mkRat ((a + 1 : Nat) : Int) a = 1 := by
   rw [Rat.mkRat_mul_mkRat, Int.mul_comm, Rat.mkRat_eq_div]
   have n1 : (((a + 1) * a : Nat) : Rat) ≠ 0 := o_y9 (Nat.mul_pos (by omega) ha)
   have : (((a + 1 : Nat) : Int) * (a : Int) : Int) = (((a + 1) * a : Nat) : Int) := by simp
   rw [this]
   rw [Rat.div_def]; exact Rat.mul_inv_cancel _ n1
  exact this
 generalize mkRat ((a + 1 : Nat) : Int) a ^ k = y at *
 generalize chM a k = x at *
 have hx : x ≠ 0 := fun h0 => by rw [h0] at e; simp at e
 have : 1 / x = y := by
  rw [← e]
  grind
 rw [this]; grind
end
section
open Go.RowKit
theorem o_115 (d : Nat) : valF d 0 = 0 := by simp [valF]
theorem o_116 (d x : Nat) : valF d (x + 1) = valF d x + 2 ^ (x / 2 ^ d) := by
 unfold valF
 obtain ⟨S, hS⟩ : ∃ S, S = 2 ^ d := ⟨_, rfl⟩
 have hp : 0 < S := by rw [hS]; exact Nat.two_pow_pos d
 rw [← hS]
 obtain ⟨q, hq⟩ : ∃ q, q = x / S := ⟨_, rfl⟩
 obtain ⟨r, hr⟩ : ∃ r, r = x % S := ⟨_, rfl⟩
 have hx : x = S * q + r := by rw [hq, hr]; exact (Nat.div_add_mod x S).symm
 have hlt : r < S := by rw [hr]; exact Nat.mod_lt _ hp
 rw [← hq, ← hr]
 have hP : 0 < 2 ^ q := Nat.two_pow_pos q
 have hb : S ≤ (S + r) * 2 ^ q := Nat.le_trans (Nat.le_add_right S r) (Nat.le_mul_of_pos_right _ hP)
 by_cases h : r + 1 < S
 ·have e1 : (x + 1) / S = q := by
   rw [hx, Nat.add_assoc, Nat.mul_add_div hp, Nat.div_eq_of_lt h]; rfl
  have e2 : (x + 1) % S = r + 1 := by
   rw [hx, Nat.add_assoc, Nat.mul_add_mod, Nat.mod_eq_of_lt h]
  rw [e1, e2, show S + (r + 1) = S + r + 1 by omega, Nat.add_mul (S + r) 1, Nat.one_mul]
  omega
 ·have hr1 : r + 1 = S := by omega
  have e1 : (x + 1) / S = q + 1 := by
   rw [hx, Nat.add_assoc, hr1, Nat.mul_add_div hp, Nat.div_self hp]
  have e2 : (x + 1) % S = 0 := by
   rw [hx, Nat.add_assoc, hr1, Nat.mul_add_mod, Nat.mod_self]
  rw [e1, e2, Nat.add_zero, Nat.pow_succ]
  have e3 : S * (2 ^ q * 2) = (S + r) * 2 ^ q + 2 ^ q := by
   rw [← Nat.succ_mul, show (S + r).succ = S * 2 by omega, Nat.mul_assoc, Nat.mul_comm 2]
  omega
theorem o_117 (s x : Nat) : (placeY s (x + 1)).value = (placeY s x).value + 2 ^ (placeY s x).shift := by
 show (nextY s (placeY s x)).value = _
 unfold nextY
 split <;> rfl
theorem o_118 (v e : Nat) : mkRat 1 (2 ^ e) * (((v + 2 ^ e : Nat) : Rat) - (v : Rat)) = 1 := by
 have h1 : ((v + 2 ^ e : Nat) : Rat) - (v : Rat) = ((2 ^ e : Nat) : Rat) := by
  rw [Rat.natCast_add]; grind
 have h2 : ((2 ^ e : Nat) : Rat) ≠ 0 := o_y9 (Nat.two_pow_pos e)
 rw [h1, Rat.mkRat_eq_div]
 have : ((1 : Int) : Rat) = 1 := rfl
 rw [this, Rat.div_mul_cancel h2]
theorem o_119 {k a w : Nat} (h : GoodS k a w) : ValOK (topC w) (chP k a) (valC k a) := by
 obtain ⟨c0, c1⟩ := o_z0 h
 refine ⟨?_, fun x hx => ?_, c0, c1⟩
 ·unfold valC
  split
  ·have : ((1 : Nat) : Rat) = 1 := rfl
   rw [valM, Rat.pow_zero, this]; grind
  ·split
   ·rw [o_115]; rfl
   ·rfl
 ·unfold chP valC
  by_cases hk : k = 1
  ·rw [if_pos hk, if_pos hk, if_pos hk]
   have ha : 1 ≤ a := by
    have := h.1
    rcases this with h1 | h1 | h1 <;> omega
   have hn := o_114 ha x
   have hne := o_z1 ha x
   have : valM a (x + 1) - valM a x = 1 / chM a x := by rw [← hn]; grind
   rw [this, Rat.mul_comm, Rat.div_mul_cancel hne]
  ·rw [if_neg hk, if_neg hk, if_neg hk]
   unfold expOf
   by_cases h2 : k = 2
   ·rw [if_pos h2, if_pos h2, if_pos h2, o_116]
    exact o_118 _ _
   ·rw [if_neg h2, if_neg h2, if_neg h2, o_117]
    exact o_118 _ _
end
section
open Go.RowKit
def grB (D C : Nat) (q : Rat) : Bool := (q * (D : Rat)).den == 1 && decide (0 ≤ (q * (D : Rat)).num) && decide ((q * (D : Rat)).num.toNat ≤ C * D)
theorem o_11a {D C : Nat} {q : Rat} (h : grB D C q = true) : Gr D C q := by
 unfold grB at h
 simp only [Bool.and_eq_true, beq_iff_eq, decide_eq_true_eq] at h
 obtain ⟨⟨h1, h2⟩, h3⟩ := h
 refine ⟨(q * (D : Rat)).num.toNat, ?_, h3⟩
 generalize q * (D : Rat) = y at *
 have h4 : ((y.num.toNat : Nat) : Int) = y.num := Int.toNat_of_nonneg h2
 refine Rat.ext ?_ ?_
 ·rw [Rat.num_natCast, h4]
 ·rw [Rat.den_natCast, h1]
def valAll : Bool := [(1, 1), (1, 2), (1, 3), (1, 4), (2, 0), (2, 1), (3, 1), (3, 2)].all fun z => (List.range 16).all fun x => grB (12 ^ 15) (2 ^ 24) (valC z.1 z.2 x)
theorem o_11b : valAll = true := by kernel_rfl
theorem o_11c {k a w : Nat} (h : GoodS k a w) (x : Nat) (hx : x ≤ 15) : Gr (12 ^ 15) (2 ^ 24) (valC k a x) := by
 have h1 := o_11b
 unfold valAll at h1
 rw [List.all_eq_true] at h1
 have h2 := h1 (k, a) (by
  rcases h.1 with ⟨rfl, h2, h3⟩ | ⟨rfl, h2⟩ | ⟨rfl, h2, h3⟩
  ·have : a = 1 ∨ a = 2 ∨ a = 3 ∨ a = 4 := by omega
   rcases this with rfl | rfl | rfl | rfl <;> simp
  ·have : a = 0 ∨ a = 1 := by omega
   rcases this with rfl | rfl <;> simp
  ·have : a = 1 ∨ a = 2 := by omega
   rcases this with rfl | rfl <;> simp)
 rw [List.all_eq_true] at h2
 exact o_11a (h2 x (List.mem_range.2 (by omega)))
theorem o_11d {D B : Nat} {g : St → Rat} {L : Sp} (h : ∀ p ∈ L, Gr D B (p.2 * g p.1)) : ∀ i, i ≤ L.length → Gr D (i * B) (sumQ g L i)
 | 0, _ => by rw [Nat.zero_mul]; exact Gr.zero _ _
 | i + 1, hi => by
  rw [o_10r g L i hi, Nat.add_mul, Nat.one_mul]
  exact (o_11d h i (by omega)).add (h _ (List.getElem_mem hi))
theorem o_11e {D B : Nat} {x y : Rat} (h : Gr D B x) (hy : y = 0 ∨ y = 1) : Gr D B (x * y) := by
 rcases hy with rfl | rfl
 ·rw [Rat.mul_zero]; exact Gr.zero _ _
 ·rw [Rat.mul_one]; exact h
theorem o_11f {k a w : Nat} (h : GoodS k a w) {s : St} (hs : okQ (topC w) s) (n : Nat) (hn : n ≤ 15) : TailRS k a w (atQ (dstQ k a w s n)) := by
 have h8 : 2 ^ w ≤ 16 := Nat.pow_le_pow_right (n := 2) (by omega) h.2.2
 have h7 : topC w ≤ 15 := by unfold topC; omega
 have hk4 : ¬ k = 4 := by have := h.1; omega
 obtain ⟨c0, c1⟩ := o_z0 h
 obtain ⟨G0, hG, hG63, hc⟩ := o_ya h
 have mem : ∀ p ∈ atQ (dstQ k a w s n), p ∈ dstQ k a w s n := fun p hp => (List.mem_filter.1 ((o_vv _).mem_iff.1 hp)).1
 have gA : ∀ p ∈ atQ (dstQ k a w s n), Gr (G0 ^ n) (80 ^ n) p.2 := fun p hp => o_z6 h7 c0 c1 (fun x hx => hc x (by omega)) hs n p (mem p hp)
 have okA : oklQ (topC w) (atQ (dstQ k a w s n)) := o_wc (o_wg (c := chP k a) c0 c1 hs n)
 have hl := (o_112 h hs n).2
 have hv : ∀ p ∈ atQ (dstQ k a w s n), Gr (12 ^ 15) (2 ^ 24) (vlQ k a w p.1) := fun p hp => by
  have := (okA p hp).1.1
  show Gr _ _ (valR k a w p.1.1 p.1.2.1)
  unfold valR
  rw [if_neg hk4]
  exact o_11c h _ (by omega)
 obtain ⟨A, hA⟩ : ∃ A, A = atQ (dstQ k a w s n) := ⟨_, rfl⟩
 rw [← hA] at gA okA hl hv ⊢
 obtain ⟨D, hD⟩ : ∃ D, D = G0 ^ n := ⟨_, rfl⟩
 obtain ⟨B, hB⟩ : ∃ B, B = 80 ^ n := ⟨_, rfl⟩
 obtain ⟨E, hE⟩ : ∃ E, E = 12 ^ 15 := ⟨_, rfl⟩
 obtain ⟨C, hC⟩ : ∃ C, C = 2 ^ 24 := ⟨_, rfl⟩
 have sG : size G0 ≤ 1 := o_m9 (Nat.lt_of_le_of_lt hG63 (by decide))
 have sD : size D ≤ 20 := by rw [hD]; have := o_yz G0 sG n; omega
 have sB : size B ≤ 20 := by rw [hB]; have := o_yz 80 (o_m9 (by decide)) n; omega
 have sE : size E ≤ 1 := by rw [hE]; exact o_m9 (by decide)
 have sC : size C ≤ 1 := by rw [hC]; exact o_m9 (by decide)
 have Dp : 0 < D := by rw [hD]; exact Nat.pow_pos hG
 have Bp : 1 ≤ B := by rw [hB]; exact Nat.pow_pos (by decide)
 have Ep : 0 < E := by rw [hE]; decide
 have Cp : 1 ≤ C := by rw [hC]; decide
 rw [← hD, ← hB] at gA
 rw [← hE, ← hC] at hv
 have g1 : ∀ p ∈ A, Gr (D * E) (B * C) (p.2 * vlQ k a w p.1) := fun p hp => (gA p hp).mul (hv p hp)
 have g2 : ∀ p ∈ A, Gr (D * (E * E)) (B * (C * C)) (p.2 * vvQ k a w p.1) := fun p hp => (gA p hp).mul ((hv p hp).mul (hv p hp))
 have g3 : ∀ p ∈ A, Gr D B (p.2 * fulI p.1) := fun p hp => o_11e (gA p hp) (by unfold fulI; split <;> simp)
 have s1 := o_o4 D E
 have s2 := o_o4 B C
 have s3 := o_o4 E E
 have s4 := o_o4 C C
 have s5 := o_o4 D (E * E)
 have s6 := o_o4 B (C * C)
 have s0 : size 100 ≤ 1 := o_m9 (by decide)
 have fin : ∀ (X Y i : Nat) (q : Rat), 0 < X → 1 ≤ Y → size X ≤ 200 → size Y ≤ 200 → i ≤ 100 → Gr X (i * Y) q → RS q 1000 := fun X Y i q hX hY sX sY hi hq => by
  refine (hq.le (C := 100 * Y) (Nat.mul_le_mul_right _ hi)).rs hX (Nat.mul_pos (by decide) hY) ?_
  have a1 := o_o4 (100 * Y) X
  have a2 := o_o4 100 Y
  omega
 have f1 : ∀ (X Y : Nat) (q : Rat), 0 < X → 1 ≤ Y → size X ≤ 200 → size Y ≤ 200 → Gr X Y q → RS q 1000 := fun X Y q hX hY sX sY hq => fin X Y 1 q hX hY sX sY (by omega) (by rw [Nat.one_mul]; exact hq)
 have hsum1 := fun i hi => o_11d g1 i hi
 refine ⟨by omega, fun p hp => wellQ h (okA p hp).1, fun p hp => ⟨(f1 D B _ Dp Bp (by omega) (by omega) (gA p hp)).le (by omega), (f1 E C _ Ep Cp (by omega) (by omega) (hv p hp)).le (by omega), (f1 (E * E) (C * C) _ (Nat.mul_pos Ep Ep) (Nat.mul_pos Cp Cp) (by omega) (by omega) ((hv p hp).mul (hv p hp))).le (by omega), (f1 _ _ _ (Nat.mul_pos Dp Ep) (Nat.mul_pos Bp Cp) (by omega) (by omega) (g1 p hp)).le (by omega), (f1 _ _ _ (Nat.mul_pos Dp (Nat.mul_pos Ep Ep)) (Nat.mul_pos Bp (Nat.mul_pos Cp Cp)) (by omega) (by omega) (g2 p hp)).le (by omega)⟩, fun i hi => ⟨?_, ?_, ?_⟩, ?_⟩
 ·exact fin _ _ i _ (Nat.mul_pos Dp Ep) (Nat.mul_pos Bp Cp) (by omega) (by omega) (by omega) (o_11d g1 i hi)
 ·exact fin _ _ i _ (Nat.mul_pos Dp (Nat.mul_pos Ep Ep)) (Nat.mul_pos Bp (Nat.mul_pos Cp Cp)) (by omega) (by omega) (by omega) (o_11d g2 i hi)
 ·exact fin _ _ i _ Dp Bp (by omega) (by omega) (by omega) (o_11d g3 i hi)
 ·rw [← o_10s]
  have hg := (o_11d g1 A.length (Nat.le_refl _)).le (C := 100 * (B * C)) (Nat.mul_le_mul_right _ (by omega))
  have s7 := o_o4 100 (B * C)
  have s8 := o_o4 (D * E) (D * E)
  have s9 := o_o4 (100 * (B * C)) (100 * (B * C))
  exact f1 _ _ _ (Nat.mul_pos (Nat.mul_pos Dp Ep) (Nat.mul_pos Dp Ep)) (Nat.mul_pos (Nat.mul_pos (by decide) (Nat.mul_pos Bp Cp)) (Nat.mul_pos (by decide) (Nat.mul_pos Bp Cp))) (by omega) (by omega) (hg.mul hg)
end
section
open Go.RowKit
structure LsOK (k a w : Nat) (L : Sp) (D C E V : Nat) : Prop where
 len : L.length ≤ 1000
 one : exQ (fun _ => 1) L = 1
 dp : 0 < D
 cp : 1 ≤ C
 ep : 0 < E
 vp : 1 ≤ V
 sd : size D ≤ 220
 sc : size C ≤ 30
 se : size E ≤ 2
 sv : size V ≤ 2
 well : ∀ p ∈ L, WellR k a w p.1.1 p.1.2.1 p.1.2.2
 gr : ∀ p ∈ L, Gr D C p.2
 vg : ∀ p ∈ L, Gr E V (vlQ k a w p.1)
theorem Gr.nn {D B : Nat} {q : Rat} (hD : 0 < D) (h : Gr D B q) : 0 ≤ q := by
 obtain ⟨z, h1, -⟩ := h
 have hp : (0 : Rat) < (D : Rat) := by exact_mod_cast hD
 apply Classical.byContradiction
 intro hn
 have hz : (0 : Rat) ≤ (z : Rat) := by exact_mod_cast Nat.zero_le z
 have := Rat.mul_lt_mul_of_pos_right (Rat.not_le.1 hn) hp
 grind
theorem LsOK.nn {k a w : Nat} {L : Sp} {D C E V : Nat} (h : LsOK k a w L D C E V) : ∀ p ∈ L, 0 ≤ p.2 := fun p hp => (h.gr p hp).nn h.dp
theorem LsOK.vnn {k a w : Nat} {L : Sp} {D C E V : Nat} (h : LsOK k a w L D C E V) : ∀ p ∈ L, 0 ≤ vlQ k a w p.1 := fun p hp => (h.vg p hp).nn h.ep
theorem o_11g {X Y i : Nat} {q : Rat} (hX : 0 < X) (hY : 1 ≤ Y) (sX : size X ≤ 450) (sY : size Y ≤ 200) (hi : i ≤ 1000) (hq : Gr X (i * Y) q) : RS q 1000 := by
 refine (hq.le (C := 1000 * Y) (Nat.mul_le_mul_right _ hi)).rs hX (Nat.mul_pos (by decide) hY) ?_
 have a1 := o_o4 (1000 * Y) X
 have a2 := o_o4 1000 Y
 have s0 : size 1000 ≤ 1 := o_m9 (by decide)
 omega
theorem o_11h {X Y : Nat} {q : Rat} (hX : 0 < X) (hY : 1 ≤ Y) (sX : size X ≤ 450) (sY : size Y ≤ 200) (hq : Gr X Y q) : RS q 1000 := o_11g hX hY sX sY (show 1 ≤ 1000 by omega) (by rw [Nat.one_mul]; exact hq)
theorem LsOK.tail {k a w : Nat} {L : Sp} {D C E V : Nat} (h : LsOK k a w L D C E V) : TailRS k a w L := by
 have g1 : ∀ p ∈ L, Gr (D * E) (C * V) (p.2 * vlQ k a w p.1) := fun p hp => (h.gr p hp).mul (h.vg p hp)
 have g2 : ∀ p ∈ L, Gr (D * (E * E)) (C * (V * V)) (p.2 * vvQ k a w p.1) := fun p hp => (h.gr p hp).mul ((h.vg p hp).mul (h.vg p hp))
 have g3 : ∀ p ∈ L, Gr D C (p.2 * fulI p.1) := fun p hp => o_11e (h.gr p hp) (by unfold fulI; split <;> simp)
 have s1 := o_o4 D E
 have s2 := o_o4 C V
 have s3 := o_o4 E E
 have s4 := o_o4 V V
 have s5 := o_o4 D (E * E)
 have s6 := o_o4 C (V * V)
 have sD := h.sd
 have sC := h.sc
 have sE := h.se
 have sV := h.sv
 have dp := h.dp
 have cp := h.cp
 have ep := h.ep
 have vp := h.vp
 have hl := h.len
 refine ⟨by omega, h.well, fun p hp => ⟨(o_11h dp cp (by omega) (by omega) (h.gr p hp)).le (by omega), (o_11h ep vp (by omega) (by omega) (h.vg p hp)).le (by omega), (o_11h (Nat.mul_pos ep ep) (Nat.mul_pos vp vp) (by omega) (by omega) ((h.vg p hp).mul (h.vg p hp))).le (by omega), (o_11h (Nat.mul_pos dp ep) (Nat.mul_pos cp vp) (by omega) (by omega) (g1 p hp)).le (by omega), (o_11h (Nat.mul_pos dp (Nat.mul_pos ep ep)) (Nat.mul_pos cp (Nat.mul_pos vp vp)) (by omega) (by omega) (g2 p hp)).le (by omega)⟩, fun i hi => ⟨?_, ?_, ?_⟩, ?_⟩
 ·exact o_11g (Nat.mul_pos dp ep) (Nat.mul_pos cp vp) (by omega) (by omega) (by omega) (o_11d g1 i hi)
 ·exact o_11g (Nat.mul_pos dp (Nat.mul_pos ep ep)) (Nat.mul_pos cp (Nat.mul_pos vp vp)) (by omega) (by omega) (by omega) (o_11d g2 i hi)
 ·exact o_11g dp cp (by omega) (by omega) (by omega) (o_11d g3 i hi)
 ·rw [← o_10s]
  have hg := (o_11d g1 L.length (Nat.le_refl _)).le (C := 1000 * (C * V)) (Nat.mul_le_mul_right _ (by omega))
  have s7 := o_o4 1000 (C * V)
  have s8 := o_o4 (D * E) (D * E)
  have s9 := o_o4 (1000 * (C * V)) (1000 * (C * V))
  have s0 : size 1000 ≤ 1 := o_m9 (by decide)
  exact o_11h (Nat.mul_pos (Nat.mul_pos dp ep) (Nat.mul_pos dp ep)) (Nat.mul_pos (Nat.mul_pos (by decide) (Nat.mul_pos cp vp)) (Nat.mul_pos (by decide) (Nat.mul_pos cp vp))) (by omega) (by omega) (hg.mul hg)
theorem tl_01 (V : St → Rat) (f : Rat) (s : St) : tlQ V f s = 0 ∨ tlQ V f s = 1 := by unfold tlQ; split <;> simp
theorem tl_gr {k a w : Nat} {L : Sp} {D C E V : Nat} (h : LsOK k a w L D C E V) (W : St → Rat) (f : Rat) : ∀ i, i ≤ L.length → RS (sumQ (tlQ W f) L i) 1000 := fun i hi =>
 o_11g h.dp h.cp (by have := h.sd; omega) (by have := h.sc; omega) (by have := h.len; omega) (o_11d (fun p hp => o_11e (h.gr p hp) (tl_01 W f p.1)) i hi)
theorem o_11i {k a w : Nat} (h : GoodS k a w) {s : St} (hs : okQ (topC w) s) (n : Nat) (hn : n ≤ 15) : ∃ D C E V, LsOK k a w (atQ (dstQ k a w s n)) D C E V := by
 have h8 : 2 ^ w ≤ 16 := Nat.pow_le_pow_right (n := 2) (by omega) h.2.2
 have h7 : topC w ≤ 15 := by unfold topC; omega
 have hk4 : ¬ k = 4 := by have := h.1; omega
 obtain ⟨c0, c1⟩ := o_z0 h
 obtain ⟨G0, hG, hG63, hc⟩ := o_ya h
 have mem : ∀ p ∈ atQ (dstQ k a w s n), p ∈ dstQ k a w s n := fun p hp => (List.mem_filter.1 ((o_vv _).mem_iff.1 hp)).1
 have okA : oklQ (topC w) (atQ (dstQ k a w s n)) := o_wc (o_wg (c := chP k a) c0 c1 hs n)
 have hl := o_z5 (o_w5 _ s n) (o_yx (c := chP k a) hs n)
 refine ⟨G0 ^ n, 80 ^ n, 12 ^ 15, 2 ^ 24, ?_, ?_, Nat.pow_pos hG, Nat.pow_pos (by decide), by decide, by decide, ?_, ?_, ?_, ?_, fun p hp => wellQ h (okA p hp).1, fun p hp => o_z6 h7 c0 c1 (fun x hx => hc x (by omega)) hs n p (mem p hp), fun p hp => ?_⟩
 ·have := o_yk (dstQ k a w s n)
  have : (dstQ k a w s n).length ≤ topC w + 2 := hl
  omega
 ·rw [o_vw]; exact o_wh _ _
 ·have := o_yz G0 (o_m9 (Nat.lt_of_le_of_lt hG63 (by decide))) n; omega
 ·have := o_yz 80 (o_m9 (by decide)) n; omega
 ·exact Nat.le_trans (o_m9 (by decide)) (by omega)
 ·exact Nat.le_trans (o_m9 (by decide)) (by omega)
 ·have := (okA p hp).1.1
  show Gr _ _ (valR k a w p.1.1 p.1.2.1)
  unfold valR
  rw [if_neg hk4]
  exact o_11c h _ (by omega)
theorem o_11j {n V : Nat} (h : n ≤ V) : Gr 1 V ((n : Nat) : Rat) := ⟨n, by rw [show ((1 : Nat) : Rat) = 1 from rfl, Rat.mul_one], by omega⟩
set_option maxHeartbeats 4000000 in
theorem o_11k {f : FuncId} {T1 : TypeId} {x0 x1 x2 : D} (ho1 : T1 < 1000000) {W : St → Rat} {k a w : Nat} (h : GoodR k a w) (L : Sp) (hl : L.length ≤ 1000000) (hw : ∀ p ∈ L, WellR k a w p.1.1 p.1.2.1 p.1.2.2) (hf : ∀ p ∈ L, Eqn Tryz.prog f [.d (.agg (stD p.1)), .d (rD (valR k a w p.1.1 p.1.2.1)), .p 0 0] [⟨T1, [.d x0, .d x1, .d x2]⟩] (.d (rD (W p.1))) [⟨T1, [.d x0, .d x1, .d x2]⟩]) (hrs : ∀ p ∈ L, RS p.2 100000 ∧ RS (W p.1) 100000 ∧ RS (p.2 * W p.1) 100000) (hsum : ∀ i, i ≤ L.length → RS (sumQ W L i) 100000) :
  Eqn Tryz.prog o_9f [.d (parD k a w), .d (.sl L.length (spD rcD L)), .fn (.func f) [.p 0 0]] [⟨T1, [.d x0, .d x1, .d x2]⟩] (.tup [.d (rD (exQ W L)), .d (.int .i64 0)]) [⟨T1, [.d x0, .d x1, .d x2]⟩] := by
 refine Eqn.gen [0] o_9h (by simp) (by simp) (by rfl) (by decide) (by simp) (by simp [ho1]) ?_
 have hch := o_rs h
 have hLl := o_vd rcD (fun _ => rfl) L
 have hget := o_ym L
 have hz : rcD (sumQ W L 0) = [natW 0, .bool false, natW 0] := by rfl
 rw [← o_10s W L]
 simp only [o_9g, parD] at hch ⊢
 refine A00 ?_; try with_reducible exact tt
 refine CallS.pu (hch) (R0 ?_); try with_reducible exact tt
 refine A00 ?_; try with_reducible exact tt
 refine AW.loopW (α := Nat) (fun i => setS (List.replicate 49 .junk) [(2, .fn (.func f) [.p 0 0]), (3, .p 1 0), (6, .p 2 0), (9, .p 3 0), (20, .d (.sl L.length (spD rcD L))), (21, .d (.int .i64 L.length)), (22, .d (.int .i64 (i : Nat)))]) (fun i => [some ⟨T1, [.d x0, .d x1, .d x2]⟩, some ⟨62, [.d (.int .i64 k), .d (.int .i64 a), .d (.int .i64 w)]⟩, some ⟨47, [.d .nilsl, .d (.bool false), .d .nilsl]⟩, some ⟨47, (rcD (sumQ W L i)).map .d⟩]) (fun i => i ≤ L.length) (fun i => L.length - i) 4 (fun _ => rfl) (by decide) 0 (Nat.zero_le _) ?_ ?_ ?_
 ·simp
 ·simp [hz]
  exact Subs.cons Sub1.nil (Subs.cons (Sub1.refl _) (Subs.cons Sub1.nil (Subs.refl _)))
 rintro i hi
 simp
 by_cases hi2 : i < L.length
 ·have hi3 : (i : Int) < L.length := by omega
  have ew : IntKind.i64.wrap ((i : Int) + 1) = ((i + 1 : Nat) : Int) := by rw [w64 (by omega) (by omega)]; omega
  obtain ⟨s1, s2, s3, q, N1, N2, N3, hp, hN, hg⟩ := hget i hi2
  have hwi := hw _ (List.getElem_mem hi2)
  have hri := hrs _ (List.getElem_mem hi2)
  have hfi := hf _ (List.getElem_mem hi2)
  have hnx := o_10r W L i hi2
  have hsi := hsum i hi
  rw [hp] at hwi hri hfi hnx
  simp only at hwi hri hfi hnx
  have hv := o_sf h hwi
  have hm := o_oi q (W (s1, s2, s3)) hri.1 hri.2.1
  have had := o_oj (sumQ W L i) (q * W (s1, s2, s3)) hsi hri.2.2
  rw [← hnx] at had
  have hb6 : i * 6 + 6 ≤ L.length * 6 := by omega
  have hb7 : i * 6 < L.length * 6 := by omega
  simp only [parD, tsD, stD, o_wk] at hv hm had hfi
  obtain ⟨A1, A2, A3, hA⟩ : ∃ A1 A2 A3, rcD (sumQ W L i) = [A1, A2, A3] := ⟨_, _, _, rfl⟩
  obtain ⟨B1, B2, B3, hB⟩ : ∃ B1 B2 B3, rcD (sumQ W L (i + 1)) = [B1, B2, B3] := ⟨_, _, _, rfl⟩
  obtain ⟨V1, V2, V3, hV⟩ : ∃ V1 V2 V3, rcD (valR k a w s1 s2) = [V1, V2, V3] := ⟨_, _, _, rfl⟩
  obtain ⟨W1, W2, W3, hW⟩ : ∃ W1 W2 W3, rcD (W (s1, s2, s3)) = [W1, W2, W3] := ⟨_, _, _, rfl⟩
  obtain ⟨M1, M2, M3, hM⟩ : ∃ M1 M2 M3, rcD (q * W (s1, s2, s3)) = [M1, M2, M3] := ⟨_, _, _, rfl⟩
  rw [hV] at hv hfi
  rw [hW] at hfi hm
  rw [hM, hN] at hm
  rw [hA, hB, hM] at had
  rw [hA]
  refine A10 (fs hi2 (fs hi3 (fs hLl (fs hg (fs hb6 hb7))))) ?_; try with_reducible exact tt
  refine CallS.pu (hv) (R0 ?_); try with_reducible exact tt
  refine A00 ?_; try with_reducible exact tt
  refine CallS.g [0] (hfi) (R0 ?_); try with_reducible exact tt
  refine CallS.pu (hm) (R0 ?_); try with_reducible exact tt
  refine CallS.pu (had) (R0 ?_); try with_reducible exact tt
  refine A10 ew ?_; try with_reducible exact tt
  refine ⟨i + 1, by omega, by omega, ?_, ?_⟩
  ·exact Sub1.int (by omega)
  ·rw [hB]; exact Subs.refl _
 ·have h2 : i = L.length := by omega
  subst h2
  obtain ⟨A1, A2, A3, hA⟩ : ∃ A1 A2 A3, rcD (sumQ W L L.length) = [A1, A2, A3] := ⟨_, _, _, rfl⟩
  rw [o_wk, hA]
  refine A00 ?_; try with_reducible exact tt
theorem o_11l (s : St) (v f : Rat) (hv : RS v 100000) (hf : RS f 100000) : Eqn Tryz.prog o_9x [.d (.agg (stD s)), .d (rD v), .p 0 0] [⟨47, (rcD f).map .d⟩] (.d (rD (if f ≤ v then 1 else 0))) [⟨47, (rcD f).map .d⟩] := by
 obtain ⟨F1, F2, F3, hF⟩ : ∃ F1 F2 F3, rcD f = [F1, F2, F3] := ⟨_, _, _, rfl⟩
 rw [hF]
 refine Eqn.gen [0] o_9z (by simp) (by simp) (by rfl) (by decide) (by simp) (by simp) ?_
 have hc := o_ol v f hv hf
 have ht := o_10u (decide (f ≤ v))
 have hd : decide (0 ≤ cmpQ v f) = decide (f ≤ v) := by
  unfold cmpQ
  by_cases h : v < f
  ·rw [if_pos h]; simp [Rat.not_le.2 h]
  ·rw [if_neg h]
   have := Rat.not_lt.1 h
   split <;> simp [this]
 obtain ⟨V1, V2, V3, hV⟩ : ∃ V1 V2 V3, rcD v = [V1, V2, V3] := ⟨_, _, _, rfl⟩
 obtain ⟨O1, O2, O3, hO⟩ : ∃ O1 O2 O3, rcD (if f ≤ v then 1 else 0) = [O1, O2, O3] := ⟨_, _, _, rfl⟩
 simp only [o_wk, decide_eq_true_eq] at hc ht
 rw [hV, hF] at hc
 rw [hO] at ht
 generalize cmpQ v f = z at *
 generalize decide (f ≤ v) = b at *
 simp only [o_9y, stD, o_wk, hV, hO]
 refine A00 ?_; try with_reducible exact tt
 refine CallS.pu (hc) (R1 hd ?_); try with_reducible exact tt
 refine CallS.pu (ht) (R0 ?_); try with_reducible exact tt
theorem o_11m {k a w : Nat} (h : GoodR k a w) {L : Sp} {D C E V : Nat} (hL : LsOK k a w L D C E V) (f : Rat) (hf : RS f 100000) : Eqn Tryz.prog o_7j [.d (parD k a w), .d (.sl L.length (spD rcD L)), .d (rD f)] [] (.tup [.d (rD (exQ (tlQ (vlQ k a w) f) L)), .d (.int .i64 0)]) [] := by
 have hr := hL.tail
 obtain ⟨F1, F2, F3, hF⟩ : ∃ F1 F2 F3, rcD f = [F1, F2, F3] := ⟨_, _, _, rfl⟩
 have hs := o_11k (f := o_9x) (T1 := 47) (x0 := F1) (x1 := F2) (x2 := F3) (by decide) (W := tlQ (vlQ k a w) f) h L hr.len hr.well (fun p hp => by
  have := o_11l p.1 (vlQ k a w p.1) f (hr.p p hp).2.1 hf
  rw [hF] at this
  exact this) (fun p hp => ⟨(hr.p p hp).1, by rcases tl_01 (vlQ k a w) f p.1 with e | e <;> rw [e] <;> exact ⟨by decide, by decide⟩, by rcases tl_01 (vlQ k a w) f p.1 with e | e <;> rw [e] <;> first | (rw [Rat.mul_zero]; exact ⟨by decide, by decide⟩) | (rw [Rat.mul_one]; exact (hr.p p hp).1)⟩) (fun i hi => (tl_gr hL _ f i hi).le (by omega))
 refine Eqn.pure o_7l Plain.ok ?_
 obtain ⟨O1, O2, O3, hO⟩ : ∃ O1 O2 O3, rcD (exQ (tlQ (vlQ k a w) f) L) = [O1, O2, O3] := ⟨_, _, _, rfl⟩
 simp only [o_7k, parD, o_wk] at hs ⊢
 rw [hO] at hs ⊢
 rw [hF]
 generalize spD rcD L = LL at *
 refine A00 ?_; try with_reducible exact tt
 refine CallS.g [1] (hs) (R0 ?_); try with_reducible exact tt
end
section
open Go.RowKit
theorem o_11n (n : Nat) (hn : n ≤ 8192) : Eqn Tryz.prog o_br [.d (.int .i64 n)] [] (.d (rD (mkRat 1 (2 ^ n)))) [] := by
 refine Eqn.pure o_bt Plain.ok ?_
 have hh := o_mq n (by omega)
 rw [show D.agg [natW 1, .bool false, natW (2 ^ n - 1)] = rD (mkRat 1 (2 ^ n)) from o_ws n] at hh
 obtain ⟨A1, A2, A3, hA⟩ : ∃ A1 A2 A3, rD (mkRat 1 (2 ^ n)) = .agg [A1, A2, A3] := ⟨_, _, _, rfl⟩
 rw [hA] at hh ⊢
 simp only [o_bs]
 refine A00 ?_; try with_reducible exact tt
 refine CallS.pu (hh) (R0 ?_); try with_reducible exact tt
theorem o_11o (n : Nat) : size (2 ^ n) ≤ n + 1 := o_yz 2 (o_m9 (by decide)) n
theorem Gi.rs {e : Nat} {x : Rat} (h : Gi e x) (h1 : x ≤ 1) (he : e ≤ 90000) : RS x 90001 := (h.gr h1).rs (Nat.two_pow_pos e) (Nat.le_refl _) (by rw [Nat.one_mul]; have := o_11o e; omega)
theorem SpOK.rs {e : Nat} {P : St → Prop} {l : Sp} (h : SpOK e P l) (he : e ≤ 90000) : ∀ p ∈ l, RS p.2 100000 := fun p hp => ((h.gi p hp).rs (o_zp h.nn (by rw [h.one]; exact Rat.le_refl) p hp) he).le (by omega)
theorem o_11p {s : St} : ∀ {l : Sp}, (∀ p ∈ l, p.1 ≠ s) → getQ l s = 0
 | [], _ => rfl
 | p :: l, h => by
  unfold getQ
  rw [if_neg fun e => h p (by simp) e.symm]
  exact o_11p fun q hq => h q (by simp [hq])
theorem o_11q {K k : Nat} (hK : K ≤ 1000) (hk : k ≤ K) : RS (binP K k) 100000 := by
 have h1 : Gi K (binP K k) := by
  obtain ⟨z, hz⟩ := o_zv K
  refine ⟨wayQ K k * z, ?_⟩
  unfold binP
  rw [Rat.natCast_mul, ← hz]; grind
 have h2 : binP K k ≤ 1 := by
  unfold binP
  rw [o_ze K k (by omega)]
  have hp := o_zg K
  have h0 : (0 : Rat) ≤ mkRat 1 (2 ^ K) := (o_zv K).nn
  have h3 : ((chs K k : Nat) : Rat) ≤ ((2 ^ K : Nat) : Rat) := by exact_mod_cast o_zc K k
  have := Rat.mul_le_mul_of_nonneg_right h3 h0
  grind
 exact (h1.rs h2 (by omega)).le (by omega)
set_option maxHeartbeats 4000000 in
theorem o_11r (s : St) (hK : s.1 ≤ 1000) (hT : s.2.1 ≤ 1000) : Eqn Tryz.prog o_e1 [.d (.agg (stD s))] [] (.mp 0) [spO (binQ s)] := by
 obtain ⟨K, T, f⟩ := s
 simp only at hK hT
 refine Eqn.gen [1] o_e3 (by simp) (by simp) (by rfl) (by decide) (by simp) (by simp [spO]) ?_
 have hof : ∀ y : Nat, y < 2 ^ 60 → Eqn Tryz.prog o_bl [.d (.sl 1 [.int .u64 y])] [] (.d (.agg [natW y])) [] := fun y hy => by
  have := o_jz [y] (o_kv (by omega)) (by simp)
  simpa [W, wval] using this
 have ho1 := hof 1 (by omega)
 have hh := o_11n K (by omega)
 have eT : IntKind.i64.wrap ((T : Int) + 1) = ((T + 1 : Nat) : Int) := by rw [w64 (by omega) (by omega)]; omega
 simp only [o_e2, stD, spO, o_wk] at hh ⊢
 refine A00 ?_; try with_reducible exact tt
 refine CallS.pf 2 1 ⟨199, _⟩ [.int .u64 (1 : Nat)] (ho1) (by first | rfl | (simp; done)) (R0 ?_); try with_reducible exact tt
 refine A00 ?_; try with_reducible exact tt
 refine AW.loopW (α := Nat) (fun k => setS (List.replicate 50 .junk) [(1, .p 0 0), (3, .mp 1), (4, .p 3 0), (5, .d (.int .i64 (k : Nat)))]) (fun k => [some ⟨64, [.d (.int .i64 K), .d (.int .i64 T), .d (.bool f)]⟩, some ⟨1000391, (spD rcD (binI (K, T, f) k)).map .d⟩, none, some ⟨43, [.d (natW (wayQ K k))]⟩]) (fun k => k ≤ K + 1) (fun k => K + 1 - k) 4 (fun _ => rfl) (Nat.zero_le _) 0 (Nat.zero_le _) ?_ ?_ ?_
 ·simp
 ·simp [binI, wayQ, spD]
 rintro k hk
 simp
 by_cases hk2 : k ≤ K
 ·have hk3 : (k : Int) ≤ K := by omega
  have ew : IntKind.i64.wrap ((k : Int) + 1) = ((k + 1 : Nat) : Int) := by rw [w64 (by omega) (by omega)]; omega
  have es : IntKind.i64.wrap ((K : Int) - k) = ((K - k : Nat) : Int) := by rw [w64 (by omega) (by omega)]; omega
  have eu : IntKind.u64.wrap ((K - k : Nat) : Int) = ((K - k : Nat) : Int) := wu64 (by omega) (by omega)
  have eu2 : IntKind.u64.wrap ((k + 1 : Nat) : Int) = ((k + 1 : Nat) : Int) := wu64 (by omega) (by omega)
  have hw : size (wayQ K k) ≤ 1001 := by
   rw [o_ze K k (by omega)]
   have := o_kj (o_zc K k)
   have := o_11o K
   omega
  have hrn := o_on (wayQ K k)
  have s1 : RS ((wayQ K k : Nat) : Rat) 100000 := by
   have hg : Gr 1 (2 ^ K) ((wayQ K k : Nat) : Rat) := ⟨wayQ K k, by rw [show ((1 : Nat) : Rat) = 1 from rfl, Rat.mul_one], by rw [o_ze K k (by omega), Nat.mul_one]; exact o_zc K k⟩
   exact hg.rs (by decide) (Nat.two_pow_pos K) (by rw [Nat.mul_one]; have := o_11o K; omega)
  have s2 : RS (mkRat 1 (2 ^ K)) 100000 := by
   have h1 : RS (mkRat 1 (2 ^ K)) 1001 := RS.mk' (Nat.two_pow_pos K) (Nat.le_trans (o_m9 (by decide)) (by omega)) (by have := o_11o K; omega)
   exact h1.le (by omega)
  have hm := o_oi ((wayQ K k : Nat) : Rat) (mkRat 1 (2 ^ K)) s1 s2
  rw [show ((wayQ K k : Nat) : Rat) * mkRat 1 (2 ^ K) = binP K k from rfl] at hm
  have hgt : getQ (binI (K, T, f) k) (k, T + 1, f) = 0 := o_11p fun p hp e => by
   have := (o_zj k p hp).1
   rw [e] at this
   simp only at this
   omega
  have hadd := o_wn (binI (K, T, f) k) (k, T + 1, f) (binP K k) (by rw [hgt]; exact ⟨by decide, by decide⟩) (o_11q hK hk2)
  rw [show addQ (binI (K, T, f) k) (k, T + 1, f) (binP K k) = binI (K, T, f) (k + 1) from rfl] at hadd
  have hsk : size (K - k) ≤ 1 := o_m9 (by omega)
  have hmu := o_m8 (wayQ K k) (K - k) (by omega) (by omega)
  have hdv := o_mm (wayQ K k * (K - k)) (k + 1) (by have := o_o4 (wayQ K k) (K - k); omega) (by omega) (.inl (by omega)) (Nat.le_trans (o_m9 (by omega)) (by omega))
  have ho2 := hof (K - k) (by omega)
  have ho3 := hof (k + 1) (by omega)
  rw [show wayQ K k * (K - k) / (k + 1) = wayQ K (k + 1) from rfl] at hdv
  obtain ⟨A1, A2, A3, hA⟩ : ∃ A1 A2 A3, rcD ((wayQ K k : Nat) : Rat) = [A1, A2, A3] := ⟨_, _, _, rfl⟩
  obtain ⟨H1, H2, H3, hH⟩ : ∃ H1 H2 H3, rcD (mkRat 1 (2 ^ K)) = [H1, H2, H3] := ⟨_, _, _, rfl⟩
  obtain ⟨B1, B2, B3, hB⟩ : ∃ B1 B2 B3, rcD (binP K k) = [B1, B2, B3] := ⟨_, _, _, rfl⟩
  simp only [o_wk, stD, spO] at hrn hm hadd
  rw [hA] at hrn hm
  rw [hH] at hm hh
  rw [hB] at hm hadd
  obtain ⟨M, hM⟩ : ∃ M, M = wayQ K k * (K - k) := ⟨_, rfl⟩
  rw [← hM] at hmu hdv
  obtain ⟨R, hR⟩ : ∃ R, R = M % (k + 1) := ⟨_, rfl⟩
  rw [← hR] at hdv
  obtain ⟨WN, hWN⟩ : ∃ WN, WN = wayQ K (k + 1) := ⟨_, rfl⟩
  rw [← hWN] at hdv
  generalize wayQ K k = WK at *
  obtain ⟨k1, hk1⟩ : ∃ k1, k1 = k + 1 := ⟨_, rfl⟩
  obtain ⟨T1, hT1⟩ : ∃ T1, T1 = T + 1 := ⟨_, rfl⟩
  obtain ⟨Kk, hKk⟩ : ∃ Kk, Kk = K - k := ⟨_, rfl⟩
  rw [← hT1] at hadd eT
  rw [← hk1] at hdv ho3 eu2 ew hadd
  rw [← hKk] at hmu ho2 eu es
  refine A10 (fs hk2 (fs hk3 eT)) ?_; try with_reducible exact tt
  refine CallS.pu (hrn) (R0 ?_); try with_reducible exact tt
  refine CallS.pu (hh) (R0 ?_); try with_reducible exact tt
  refine CallS.pu (hm) (R0 ?_); try with_reducible exact tt
  have eK : (K : Int) - k = (Kk : Int) := by omega
  have ek : (k : Int) + 1 = (k1 : Int) := by omega
  refine CallS.g [1] (hadd) (R1 (fs es eu) ?_); try with_reducible exact tt
  refine A10 (fs es (fs eu eK)) ?_; try with_reducible exact tt
  refine CallS.pf 4 1 ⟨199, _⟩ [.int .u64 Kk] (ho2) (by first | rfl | (simp [eK]; done)) (R1 eK ?_); try with_reducible exact tt
  refine CallS.pu (hmu) (R1 (fs ew eu2) ?_); try with_reducible exact tt
  refine A10 (fs ew (fs eu2 ek)) ?_; try with_reducible exact tt
  refine CallS.pf 5 1 ⟨199, _⟩ [.int .u64 k1] (ho3) (by first | rfl | (simp [ek]; done)) (R1 ek ?_); try with_reducible exact tt
  refine CallS.pu (hdv) (R0 ?_); try with_reducible exact tt
  refine A10 (fs ew ek) ?_; try with_reducible exact tt
  refine ⟨k1, by omega, by omega, ?_, ?_⟩
  ·exact Sub1.int (by omega)
  ·rw [hk1, ← hWN]; exact ⟨Subs.refl _, Subs.refl _⟩
 ·have h2 : k = K + 1 := by omega
  subst h2
  have h3 : ¬ (K : Int) + 1 ≤ K := by omega
  have h4 : ((K + 1 : Nat) : Int) = (K : Int) + 1 := by omega
  have h5 : ¬ K + 1 ≤ K := by omega
  refine A10 (fs h3 (fs h4 h5)) ?_; try with_reducible exact tt
  exact Subs.refl _
end
section
open Go.RowKit
structure NextJ (next : St → Sp) (G J : Nat) (s : St) : Prop where
 uq : Uq (next s)
 nz : nzQ (next s) ≠ []
 len : (next s).length ≤ J
 j6 : J ≤ 1000000
 gr : ∀ p ∈ next s, Gr G 1 p.2
set_option maxHeartbeats 4000000 in
theorem o_11s {f : FuncId} {next : St → Sp} {T1 : TypeId} {x0 x1 x2 : D} (ho1 : T1 < 1000000) (P : St → Prop) (l : Sp) (G D B L J CP : Nat) (hu : Uq l) (hok : ∀ p ∈ nzQ l, P p.1) (hnz : nzQ l ≠ []) (h12 : (nzQ l).length ≤ L) (hl : l.length ≤ 1000000) (hD : 0 < D) (hB : 1 ≤ B) (hgl : ∀ p ∈ l, Gr D B p.2) (hG : 0 < G) (hf : ∀ s : St, P s → NextJ next G J s ∧ Eqn Tryz.prog f [.d (.agg (stD s)), .p 0 0] [⟨T1, [.d x0, .d x1, .d x2]⟩] (.mp 1) [⟨T1, [.d x0, .d x1, .d x2]⟩, spO (next s)]) (hsz : size (CP * (D * G)) ≤ 100000) (hCP : L * J * B ≤ CP) (hJ : 1 ≤ J) :
  Eqn Tryz.prog o_8w [.mp 0, .fn (.func f) [.p 1 0]] [spO l, ⟨T1, [.d x0, .d x1, .d x2]⟩] (.mp 2) [spO l, ⟨T1, [.d x0, .d x1, .d x2]⟩, spO (timesQ next l)] := by
 refine Eqn.gen [0, 1, 2] o_8y (by simp) (by simp) (by rfl) (by decide) (by simp) (by simp [spO, ho1]) ?_
 obtain ⟨A, hA⟩ : ∃ A, A = atQ l := ⟨_, rfl⟩
 have hAl : A.length ≤ L := by rw [hA, (o_vv l).length_eq]; exact h12
 have hAm6 : A.length ≤ 1000000 := Nat.le_trans (hA ▸ o_yk l) hl
 have hA0 : 1 ≤ A.length := by
  rw [hA, (o_vv l).length_eq]
  rcases Nat.eq_zero_or_pos (nzQ l).length with e | e
  ·exact absurd (List.eq_nil_of_length_eq_zero e) hnz
  ·exact e
 have hAm : ∀ p ∈ A, p ∈ l := fun p hp => (List.mem_filter.1 ((o_vv l).mem_iff.1 (hA ▸ hp))).1
 have hAz : ∀ p ∈ A, p ∈ nzQ l := fun p hp => (o_vv l).mem_iff.1 (hA ▸ hp)
 have hDG : 0 < D * G := Nat.mul_pos hD hG
 have hBC : B ≤ CP := by
  refine Nat.le_trans ?_ hCP
  have : 1 ≤ L * J := Nat.mul_pos (by omega) hJ
  exact Nat.le_mul_of_pos_left B this
 have hBD : size (B * D) ≤ 100000 := by
  refine Nat.le_trans (o_kj ?_) hsz
  exact Nat.mul_le_mul hBC (Nat.le_mul_of_pos_right D hG)
 have hat := o_y7 l hu hnz hl (fun p hp => (hgl p hp).rs hD hB hBD)
 have hGs : size (1 * G) ≤ 100000 := by
  refine Nat.le_trans (o_kj ?_) hsz
  rw [Nat.one_mul]
  exact Nat.le_trans (Nat.le_mul_of_pos_left G hD) (Nat.le_mul_of_pos_left _ (by omega))
 have hgn : ∀ s : St, P s → ∀ p ∈ next s, Gr G 1 p.2 := fun s hs => (hf s hs).1.gr
 have hnl : ∀ s : St, P s → (atQ (next s)).length ≤ J := fun s hs => Nat.le_trans (o_yk _) (hf s hs).1.len
 have hnl6 : ∀ s : St, P s → (atQ (next s)).length ≤ 1000000 := fun s hs => Nat.le_trans (hnl s hs) (hf s hs).1.j6
 have hout := o_yg (D := D) (E := G) (B := B) (J := J) (next := next) (A := A) (fun p hp => hgl p (hAm p hp)) (fun p hp => ⟨hgn p.1 (hok p (hAz p hp)), hnl p.1 (hok p (hAz p hp))⟩)
 have hon := o_yc next A
 have hoa : outQ next A A.length = timesQ next l := by rw [hA]; exact o_yd next l
 have hADl := o_vd rcD (fun _ => rfl) A
 have hget := o_ym A
 rw [← hoa]
 rw [← hA] at hat
 have hcl : ∀ s : St, P s → Eqn Tryz.prog f [.d (.agg (stD s)), .p 0 0] [⟨T1, [.d x0, .d x1, .d x2]⟩] (.mp 1) [⟨T1, [.d x0, .d x1, .d x2]⟩, spO (next s)] ∧ Eqn Tryz.prog o_8k [.mp 0] [spO (next s)] (.d (.sl (atQ (next s)).length (spD rcD (atQ (next s))))) [spO (next s)] := fun s hs => by
  obtain ⟨hn, hh⟩ := hf s hs
  exact ⟨hh, o_y7 _ hn.uq hn.nz (Nat.le_trans hn.len hn.j6) fun p hp => (hgn s hs p hp).rs hG (Nat.le_refl _) hGs⟩
 have hAok : ∀ p ∈ A, P p.1 := fun p hp => hok p (hAz p hp)
 clear hA hoa hnz hf
 simp only [o_8x, spO] at hat hcl ⊢
 generalize hLl : spD rcD l = LL at *
 refine A00 ?_; try with_reducible exact tt
 refine CallS.g [0] (hat) (R0 ?_); try with_reducible exact tt
 refine AW.loopG (α := Nat) (fun i => setS (List.replicate 40 .junk) [(1, .fn (.func f) [.p 1 0]), (5, .mp 2), (12, .d (.sl A.length (spD rcD A))), (13, .d (.int .i64 A.length)), (14, .d (.int .i64 (i : Nat)))]) (fun i => [some ⟨1000391, LL.map .d⟩, some ⟨T1, [.d x0, .d x1, .d x2]⟩, some ⟨1000391, (spD rcD (outQ next A i)).map .d⟩]) (fun i => i ≤ A.length) (fun i => A.length - i) 0 ?_ (Nat.zero_le _) ?_ ?_ ?_
 ·intro i hi; simp
 ·simp
 ·simp [outQ, spD]
 rintro i hi
 simp
 by_cases hi2 : i < A.length
 ·have hi3 : (i : Int) < A.length := by omega
  obtain ⟨s1, s2, s3, q, N1, N2, N3, hp, hN, hg⟩ := hget i hi2
  have hsk := hAok _ (List.getElem_mem hi2)
  rw [hp] at hsk
  obtain ⟨hof, han⟩ := hcl (s1, s2, s3) hsk
  have hgq : Gr D B q := by have := hgl _ (hAm _ (List.getElem_mem hi2)); rw [hp] at this; exact this
  have hon1 := hon i hi2
  rw [hp] at hon1
  simp only at hon1
  have hgo := hout i hi
  have hn2 := hnl (s1, s2, s3) hsk
  have hgn2 := hgn (s1, s2, s3) hsk
  have hJ6 := (hnl6 (s1, s2, s3) hsk)
  obtain ⟨C, hC⟩ : ∃ C, C = atQ (next (s1, s2, s3)) := ⟨_, rfl⟩
  have hCm : ∀ p ∈ C, Gr G 1 p.2 := fun p hp => hgn2 p (List.mem_filter.1 ((o_vv _).mem_iff.1 (hC ▸ hp))).1
  rw [← hC] at hon1 han hn2 hJ6
  have hCl := o_vd rcD (fun _ => rfl) C
  have hgetC := o_ym C
  have ewi : IntKind.i64.wrap ((i : Int) + 1) = ((i + 1 : Nat) : Int) := by rw [w64 (by omega) (by omega)]; omega
  simp only [stD] at hof han
  generalize hNL : spD rcD (next (s1, s2, s3)) = NL at *
  have hb6 : i * 6 + 6 ≤ A.length * 6 := by omega
  have hb7 : i * 6 < A.length * 6 := by omega
  refine A10 (fs hi2 (fs hi3 (fs hg (fs hADl (fs hb6 hb7))))) ?_; try with_reducible exact tt
  refine CallS.g [1] (hof) (R0 ?_); try with_reducible exact tt
  refine CallS.g [4] (han) (R0 ?_); try with_reducible exact tt
  refine AW.loopG (α := Nat) (fun j => setS (List.replicate 40 .junk) [(1, .fn (.func f) [.p 1 0]), (5, .mp 2), (7, .p 3 0), (12, .d (.sl A.length (spD rcD A))), (13, .d (.int .i64 A.length)), (14, .d (.int .i64 (i : Nat))), (22, .d (.sl C.length (spD rcD C))), (23, .d (.int .i64 C.length)), (24, .d (.int .i64 (j : Nat)))]) (fun j => [some ⟨1000391, LL.map .d⟩, some ⟨T1, [.d x0, .d x1, .d x2]⟩, some ⟨1000391, (spD rcD (innQ q (outQ next A i) (C.take j))).map .d⟩, some ⟨75, [.d (.int .i64 s1), .d (.int .i64 s2), .d (.bool s3), .d N1, .d N2, .d N3]⟩]) (fun j => j ≤ C.length) (fun j => C.length - j) 0 ?_ (Nat.zero_le _) ?_ ?_ ?_
  ·intro j hj; simp
  ·simp
  ·simp [innQ]
  rintro j hj
  simp
  by_cases hj2 : j < C.length
  ·have hj3 : (j : Int) < C.length := by omega
   obtain ⟨t1, t2, t3, r, M1, M2, M3, hpc, hM, hgc⟩ := hgetC j hj2
   have hinn := o_yb q (outQ next A i) C j hj2
   have hgr := hCm _ (List.getElem_mem hj2)
   rw [hpc] at hinn hgr
   simp only at hinn hgr
   have hqr := hgq.mul hgr
   have hgi := o_yf (q := q) (B := B) hgo (C.take j) (fun p hp => by
    have := hgq.mul (hCm p (List.mem_of_mem_take hp))
    rwa [Nat.mul_one] at this)
   have hget2 := (o_ye hgi (t1, t2, t3)).le (C := CP) (by
    have e1 : (C.take j).length ≤ j := by rw [List.length_take]; omega
    have e2 := Nat.mul_le_mul_right B e1
    have e3 : (i * J + j) * B ≤ L * J * B := Nat.mul_le_mul_right _ (by
     have : (i + 1) * J ≤ L * J := Nat.mul_le_mul_right J (by omega)
     rw [Nat.add_mul, Nat.one_mul] at this
     omega)
    rw [Nat.add_mul] at e3
    omega)
   have hq1 := hgq.rs hD hB hBD
   have hr1 := hgr.rs hG (Nat.le_refl _) hGs
   have hmul := o_oi q r hq1 hr1
   have hadd := o_wn (innQ q (outQ next A i) (C.take j)) (t1, t2, t3) (q * r) (hget2.rs hDG (by omega) hsz) ((hqr.le (C := CP) (by omega)).rs hDG (by omega) hsz)
   have ewj : IntKind.i64.wrap ((j : Int) + 1) = ((j + 1 : Nat) : Int) := by rw [w64 (by omega) (by omega)]; omega
   have hc6 : j * 6 + 6 ≤ C.length * 6 := by omega
   have hc7 : j * 6 < C.length * 6 := by omega
   rw [← hinn] at hadd
   rw [o_wk q, o_wk r, o_wk (q * r), hN, hM] at hmul
   rw [o_wk (q * r)] at hadd
   obtain ⟨P1, P2, P3, hP⟩ : ∃ P1 P2 P3, rcD (q * r) = [P1, P2, P3] := ⟨_, _, _, rfl⟩
   rw [hP] at hmul hadd
   simp only [spO, stD] at hadd
   refine A10 (fs hj2 (fs hj3 (fs hgc (fs hCl (fs hc6 hc7))))) ?_; try with_reducible exact tt
   refine CallS.pu (hmul) (R0 ?_); try with_reducible exact tt
   refine CallS.g [2] (hadd) (R0 ?_); try with_reducible exact tt
   refine A10 ewj ?_; try with_reducible exact tt
   refine ⟨j + 1, 2, 2, ⟨by omega, by omega, by omega, by omega⟩, by omega, by omega, ?_, ?_⟩
   ·simp [swT, swH, sw, Ob.sw, V.ren, V.rens]
   ·simp [swT, swH, sw, Ob.sw, V.ren, V.rens]
  ·have h2 : j = C.length := by omega
   subst h2
   rw [List.take_length, ← hon1]
   refine A00 ?_; try with_reducible exact tt
   refine A10 ewi ?_; try with_reducible exact tt
   refine ⟨i + 1, 2, 2, ⟨by omega, by omega, by omega, by omega⟩, by omega, by omega, ?_, ?_⟩
   ·simp [swT, swH, sw, Ob.sw, V.ren, V.rens]
   ·simp [swT, swH, sw, Ob.sw, V.ren, V.rens]
 ·have h2 : i = A.length := by omega
  subst h2
  refine A00 ?_; try with_reducible exact tt
end
section
open Go.RowKit
theorem o_11t (s : St) : ∀ i, (binI s i).length ≤ i
 | 0 => Nat.le_refl _
 | i + 1 => Nat.le_trans (o_yi _ _ _) (Nat.succ_le_succ (o_11t s i))
theorem o_11u {α : Type} (c : Nat) : ∀ l : List α, (l.map fun _ => c).sum = l.length * c
 | [] => by simp
 | _ :: l => by rw [List.map_cons, List.sum_cons, o_11u c l, List.length_cons, Nat.add_mul]; omega
theorem o_11v {A B : Nat} {l : Sp} (hu : Uq l) (h : kyQ (okT A B) l) : l.length ≤ (A + 1) * ((B + 1) * 2) := by
 have h1 : (l.map (·.1)).length ≤ ((List.range (A + 1)).flatMap fun a => (List.range (B + 1)).flatMap fun b => ([(a, b, false), (a, b, true)] : List St)).length := by
  refine List.Nodup.length_le_of_subset hu fun t ht => ?_
  obtain ⟨p, hp, rfl⟩ := List.mem_map.1 ht
  obtain ⟨h1, h2, -⟩ := h p hp
  refine List.mem_flatMap.2 ⟨p.1.1, List.mem_range.2 (by omega), List.mem_flatMap.2 ⟨p.1.2.1, List.mem_range.2 (by omega), ?_⟩⟩
  obtain ⟨⟨a, b, f⟩, q⟩ := p
  cases f <;> simp
 rw [List.length_map] at h1
 simpa [List.length_flatMap, o_11u] using h1
theorem SpOK.nextJ {e : Nat} {P : St → Prop} {next : St → Sp} {J : Nat} {s : St} (h : SpOK e P (next s)) (hl : (next s).length ≤ J) (hJ : J ≤ 1000000) : NextJ next (2 ^ e) J s := ⟨h.uq, h.nz, hl, hJ, h.gr⟩
structure ThS (A B : Nat) : Prop where
 a1 : 1 ≤ A
 n : (A + 1) * (B + 1) ≤ 1000
 b : B ≤ 900
 a : A ≤ 450
 gd : GoodT A B
theorem o_11w {L J e f : Nat} (hL : L ≤ 100000) (hJ : J ≤ 10000) (he : e + f ≤ 90000) : size (L * J * (2 ^ e * 2 ^ f)) ≤ 100000 := by
 have h1 : L * J ≤ 100000 * 10000 := Nat.mul_le_mul hL hJ
 have h2 := o_o4 (L * J) (2 ^ e * 2 ^ f)
 rw [← Nat.pow_add] at *
 have h3 := o_11o (e + f)
 have h4 : size (L * J) ≤ 1 := o_m9 (by omega)
 omega
set_option maxHeartbeats 4000000 in
theorem o_11x {A B X : Nat} (h : ThS A B) (hX : X ≤ 900) (hXB : X * (B + 1) ≤ 80000) : ∀ (f : Nat) (s : St), s.2.1 + f = B → s.1 ≤ X → (s.2.2 = true → s.2.1 = B) → Eqn Tryz.prog o_bx [.d (parD 4 A B), .d (.agg (stD s))] [] (.mp 0) [spO (downA A B s)] := by
 intro f
 induction f with
 | zero =>
  intro s hT hsX hf
  refine Eqn.gen [2] o_bz (by simp) (by simp) (by rfl) (by decide) (by simp) (by simp [spO]) ?_
  obtain ⟨K, T, F⟩ := s
  simp only at hT hsX hf
  by_cases hk : K ≤ A
  ·have hk' : (K : Int) ≤ A := by omega
   have hsu := o_wr (K, T, F)
   rw [o_zy (s := (K, T, F)) hk]
   simp only [o_by, spO, stD, parD] at hsu ⊢
   generalize spD rcD _ = L at *
   refine A10 (fs hk hk') ?_; try with_reducible exact tt
   refine CallS.nX (hsu) (R0 ?_); try with_reducible exact tt
  ·have hk' : ¬ (K : Int) ≤ A := by omega
   have hT2 : T = B := by omega
   have hsu := o_wr (A, T, true)
   rw [o_zz (s := (K, T, F)) hk (by simp only; omega)]
   subst hT2
   simp only [o_by, spO, stD, parD] at hsu ⊢
   generalize spD rcD _ = L at *
   refine A10 (fs hk hk') ?_; try with_reducible exact tt
   refine CallS.nX (hsu) (R0 ?_); try with_reducible exact tt
 | succ f ih =>
  intro s hT hsX hf
  by_cases hk : s.1 ≤ A
  ·refine Eqn.gen [2] o_bz (by simp) (by simp) (by rfl) (by decide) (by simp) (by simp [spO]) ?_
   obtain ⟨K, T, F⟩ := s
   simp only at hT hsX hf hk
   have hk' : (K : Int) ≤ A := by omega
   have hsu := o_wr (K, T, F)
   rw [o_zy (s := (K, T, F)) hk]
   simp only [o_by, spO, stD, parD] at hsu ⊢
   generalize spD rcD _ = L at *
   refine A10 (fs hk hk') ?_; try with_reducible exact tt
   refine CallS.nX (hsu) (R0 ?_); try with_reducible exact tt
  ·have hTB : s.2.1 < B := by omega
   have hb := SpOK.bin s
   have hbX := hb.mono hsX fun _ h => h
   have hJ : (A + 1) * ((B + 1) * 2) ≤ 2000 := by rw [← Nat.mul_assoc]; have := h.n; omega
   have hXf : X + X * f ≤ 90000 := by
    have : X * (f + 1) ≤ X * (B + 1) := Nat.mul_le_mul_left _ (by omega)
    rw [Nat.mul_add] at this
    omega
   have hcl : ∀ t : St, (t.1 ≤ s.1 ∧ t.2 = (s.2.1 + 1, s.2.2)) → NextJ (downA A B) (2 ^ (X * f)) ((A + 1) * ((B + 1) * 2)) t ∧ Eqn Tryz.prog o_e4 [.d (.agg (stD t)), .p 0 0] [PO 4 A B] (.mp 1) [PO 4 A B, spO (downA A B t)] := by
    intro t ht
    have hf0 : s.2.2 = false := by
     cases hf2 : s.2.2 with
     | false => rfl
     | true => have := hf hf2; omega
    have e1 : t.2.1 + f = B := by rw [ht.2]; simp only; omega
    have e2 : t.2.2 = true → t.2.1 = B := by rw [ht.2]; simp only [hf0]; intro h; cases h
    have hd := SpOK.down (A := A) (B := B) (X := X) f t e1 (by omega) e2
    refine ⟨hd.nextJ (o_11v hd.uq hd.ky) (by omega), ?_⟩
    have hdn := ih t e1 (by omega) e2
    refine Eqn.gen [0, 2] o_e6 (by simp) (by simp) (by rfl) (by decide) (by simp) (by simp [spO, PO]) ?_
    simp only [o_e5, spO, stD, parD, PO] at hdn ⊢
    generalize spD rcD _ = L at *
    refine A00 ?_; try with_reducible exact tt
    refine CallS.nX (hdn) (R0 ?_); try with_reducible exact tt
   have hti := o_11s (f := o_e4) (next := downA A B) (T1 := 62) (x0 := .int .i64 4) (x1 := .int .i64 A) (x2 := .int .i64 B) (by decide) (fun t : St => t.1 ≤ s.1 ∧ t.2 = (s.2.1 + 1, s.2.2)) (binQ s) (2 ^ (X * f)) (2 ^ X) 1 1000 ((A + 1) * ((B + 1) * 2)) (1000 * ((A + 1) * ((B + 1) * 2))) hb.uq (fun p hp => hb.ky p (List.mem_filter.1 hp).1) hb.nz (Nat.le_trans (List.length_filter_le _ _) (Nat.le_trans (o_11t s _) (by omega))) (Nat.le_trans (o_11t s _) (by omega)) (Nat.two_pow_pos _) (Nat.le_refl _) hbX.gr (Nat.two_pow_pos _) hcl (o_11w (by omega) (by omega) hXf) (by omega) (Nat.mul_pos (by omega) (by omega))
   have hbi := o_11r s (by omega) (by have := h.b; omega)
   rw [o_100 hk hTB]
   refine Eqn.gen [3] o_bz (by simp) (by simp) (by rfl) (by decide) (by simp) (by simp [spO]) ?_
   obtain ⟨K, T, F⟩ := s
   simp only at hT hsX hf hk hTB
   have hk' : ¬ (K : Int) ≤ A := by omega
   have hTB' : ¬ (T : Int) = B := by omega
   have hTB2 : ¬ T = B := by omega
   have hTB3 : ((T : Int) == (B : Int)) = false := by simp; omega
   simp only [o_by, spO, stD, parD] at hbi hti ⊢
   generalize spD rcD (timesQ _ _) = L2 at *
   generalize spD rcD (binQ _) = L at *
   refine A10 (fs hk (fs hk' (fs hTB' (fs hTB2 hTB3)))) ?_; try with_reducible exact tt
   refine CallS.nX (hbi) (R0 ?_); try with_reducible exact tt
   refine CallS.g [2, 0] (hti) (R0 ?_); try with_reducible exact tt
end
section
open Go.RowKit
set_option maxHeartbeats 4000000 in
theorem o_11y {A B : Nat} (h : ThS A B) (s : St) (hs : okT A B s) : Eqn Tryz.prog o_8h [.d (parD 4 A B), .d (.agg (stD s))] [] (.mp 0) [spO (stepT A B s)] := by
 obtain ⟨h1, h2, h3⟩ := hs
 have hb9 := h.b
 have ha9 := h.a
 have hX : (A + 1) * (B + 1) ≤ 80000 := by have := h.n; omega
 have hhf := o_11n s.2.1 (by omega)
 have hrs : RS (mkRat 1 (2 ^ s.2.1)) 1000 := RS.mk' (Nat.two_pow_pos _) (Nat.le_trans (o_m9 (by decide)) (by omega)) (by have := o_11o s.2.1; omega)
 have hei := o_wp (mkRat 1 (2 ^ s.2.1)) (s.1 + 1, s.2) s hrs (fun e => by have := congrArg (fun x : St => x.1) e; simp at this)
 have he : SpOK B (fun t => t.1 ≤ A + 1 ∧ t.2 = s.2) (eitQ (mkRat 1 (2 ^ s.2.1)) (s.1 + 1, s.2) s) := SpOK.eit ((o_zv _).up h2) ((o_zw _).up h2) ⟨by simp only; omega, rfl⟩ ⟨by omega, rfl⟩
 have hel : (eitQ (mkRat 1 (2 ^ s.2.1)) (s.1 + 1, s.2) s).length ≤ 2 := Nat.le_trans (o_yi _ _ _) (Nat.succ_le_succ (Nat.le_trans (o_yi _ _ _) (by simp)))
 have hJ : (A + 1) * ((B + 1) * 2) ≤ 2000 := by rw [← Nat.mul_assoc]; have := h.n; omega
 have hcl : ∀ t : St, (t.1 ≤ A + 1 ∧ t.2 = s.2) → NextJ (downA A B) (2 ^ ((A + 1) * (B - s.2.1))) ((A + 1) * ((B + 1) * 2)) t ∧ Eqn Tryz.prog o_bu [.d (.agg (stD t)), .p 0 0] [PO 4 A B] (.mp 1) [PO 4 A B, spO (downA A B t)] := by
  intro t ht
  have e1 : t.2.1 + (B - s.2.1) = B := by rw [ht.2]; omega
  have e2 : t.2.2 = true → t.2.1 = B := by rw [ht.2]; exact h3
  have hd := SpOK.down (A := A) (B := B) (X := A + 1) (B - s.2.1) t e1 ht.1 e2
  refine ⟨hd.nextJ (o_11v hd.uq hd.ky) (by omega), ?_⟩
  have hdn := o_11x h (X := A + 1) (by omega) hX (B - s.2.1) t e1 ht.1 e2
  refine Eqn.gen [0, 2] o_bw (by simp) (by simp) (by rfl) (by decide) (by simp) (by simp [spO, PO]) ?_
  simp only [o_bv, spO, stD, parD, PO] at hdn ⊢
  generalize spD rcD _ = L at *
  refine A00 ?_; try with_reducible exact tt
  refine CallS.nX (hdn) (R0 ?_); try with_reducible exact tt
 have hef : B + (A + 1) * (B - s.2.1) ≤ 90000 := by
  have : (A + 1) * (B - s.2.1) ≤ (A + 1) * (B + 1) := Nat.mul_le_mul_left _ (by omega)
  have := h.n
  omega
 have hti := o_11s (f := o_bu) (next := downA A B) (T1 := 62) (x0 := .int .i64 4) (x1 := .int .i64 A) (x2 := .int .i64 B) (by decide) (fun t : St => t.1 ≤ A + 1 ∧ t.2 = s.2) (eitQ (mkRat 1 (2 ^ s.2.1)) (s.1 + 1, s.2) s) (2 ^ ((A + 1) * (B - s.2.1))) (2 ^ B) 1 2 ((A + 1) * ((B + 1) * 2)) (2 * ((A + 1) * ((B + 1) * 2))) he.uq (fun p hp => he.ky p (List.mem_filter.1 hp).1) he.nz (Nat.le_trans (List.length_filter_le _ _) hel) (Nat.le_trans hel (by omega)) (Nat.two_pow_pos _) (Nat.le_refl _) he.gr (Nat.two_pow_pos _) hcl (o_11w (by omega) (by omega) hef) (by omega) (Nat.mul_pos (by omega) (by omega))
 rw [show timesQ (downA A B) (eitQ (mkRat 1 (2 ^ s.2.1)) (s.1 + 1, s.2) s) = stepT A B s from rfl] at hti
 refine Eqn.gen [4] o_8j (by simp) (by simp) (by rfl) (by decide) (by simp) (by simp [spO]) ?_
 obtain ⟨K, T, F⟩ := s
 simp only at h1 h2 h3 hhf hei hti
 have ew : IntKind.i64.wrap ((K : Int) + 1) = ((K + 1 : Nat) : Int) := by rw [w64 (by omega) (by omega)]; omega
 obtain ⟨H1, H2, H3, hH⟩ : ∃ H1 H2 H3, rcD (mkRat 1 (2 ^ T)) = [H1, H2, H3] := ⟨_, _, _, rfl⟩
 simp only [o_8i, spO, stD, parD, o_wk] at hei hti hhf ⊢
 generalize spD rcD (stepT _ _ _) = L2 at *
 generalize spD rcD (eitQ _ _ _) = L at *
 rw [hH] at hhf hei
 obtain ⟨K1, hK1⟩ : ∃ K1, K1 = K + 1 := ⟨_, rfl⟩
 rw [← hK1] at hei ew
 refine A10 ew ?_; try with_reducible exact tt
 refine CallS.pu (hhf) (R0 ?_); try with_reducible exact tt
 refine CallS.nX (hei) (R0 ?_); try with_reducible exact tt
 refine CallS.g [3, 0] (hti) (R0 ?_); try with_reducible exact tt
def dstT (A B : Nat) (s : St) (n : Nat) : Sp := ofQ (stepT A B) s n
theorem o_11z {A B : Nat} (h : ThS A B) : Eqn Tryz.prog o_8q [.d (parD 4 A B)] [] (.d (.int .i64 ((A + 1) * (B + 1) : Nat))) [] := by
 refine Eqn.pure o_8s Plain.ok ?_
 have h1 := h.a
 have h2 := h.b
 have h3 := h.n
 have e1 : IntKind.i64.wrap ((A : Int) + 1) = ((A + 1 : Nat) : Int) := by rw [w64 (by omega) (by omega)]; omega
 have e2 : IntKind.i64.wrap ((B : Int) + 1) = ((B + 1 : Nat) : Int) := by rw [w64 (by omega) (by omega)]; omega
 have e3 : IntKind.i64.wrap (((A + 1 : Nat) : Int) * ((B + 1 : Nat) : Int)) = (((A + 1) * (B + 1) : Nat) : Int) := by rw [← Int.natCast_mul]; exact w64 (by omega) (by omega)
 simp only [o_8r, parD]
 obtain ⟨A1, hA1⟩ : ∃ A1, A1 = A + 1 := ⟨_, rfl⟩
 obtain ⟨B1, hB1⟩ : ∃ B1, B1 = B + 1 := ⟨_, rfl⟩
 rw [← hA1] at e1 e3 ⊢
 rw [← hB1] at e2 e3 ⊢
 obtain ⟨M, hM⟩ : ∃ M, M = A1 * B1 := ⟨_, rfl⟩
 rw [← hM] at e3 ⊢
 refine A10 (fs e1 (fs e2 e3)) ?_; try with_reducible exact tt
theorem o_120 {A B : Nat} {s : St} (hs : okT A B s) : WellR 4 A B s.1 s.2.1 s.2.2 := .inl ⟨rfl, hs⟩
theorem ThS.good {A B : Nat} (h : ThS A B) : GoodR 4 A B := .inl ⟨rfl, h.gd⟩
theorem o_121 {A B : Nat} (h : ThS A B) {s : St} (hs : okT A B s) : (stepT A B s).length ≤ 2000 := by
 have h1 := SpOK.stepT hs
 have h2 := o_11v h1.uq h1.ky
 rw [← Nat.mul_assoc] at h2
 have := h.n
 omega
set_option maxHeartbeats 4000000 in
theorem o_122 {A B : Nat} (h : ThS A B) (s : St) (hs : okT A B s) (n : Nat) (hn : n ≤ 64) (hcost : (n + 1) * ((A + 1) * (B + 1)) ≤ 512) : Eqn Tryz.prog o_6y [.d (parD 4 A B), .d (.agg (stD s)), .d (.int .i64 n)] [] (.tup [.d (.sl (atQ (dstT A B s n)).length (spD rcD (atQ (dstT A B s n)))), .d (.int .i64 0)]) [] := by
 refine Eqn.pure o_70 Plain.ok ?_
 have hwr := o_yr h.good s (o_120 hs)
 have hst := o_11z h
 have hsu := o_wr s
 have hof : ∀ i, SpOK (i * (B + (A + 1) * B)) (okT A B) (ofQ (stepT A B) s i) := fun i => SpOK.of (fun t (ht : okT A B t) => SpOK.stepT ht) hs i
 have hE : (n + 1) * (B + (A + 1) * B) ≤ 2000 := by
  have h1 : B + (A + 1) * B ≤ 2 * ((A + 1) * (B + 1)) := by
   have h2 : (A + 1) * (B + 1) = (A + 1) * B + (A + 1) := by rw [Nat.mul_add, Nat.mul_one]
   have h3 : B ≤ (A + 1) * B := Nat.le_mul_of_pos_left B (by omega)
   omega
  have h2 := Nat.mul_le_mul_left (n + 1) h1
  have h3 : (n + 1) * (2 * ((A + 1) * (B + 1))) = 2 * ((n + 1) * ((A + 1) * (B + 1))) := by rw [Nat.mul_left_comm]
  omega
 have hlen : ∀ i, (dstT A B s i).length ≤ 2000 := fun i => by
  have h2 := o_11v (hof i).uq (hof i).ky
  have h3 := Nat.mul_assoc (A + 1) (B + 1) 2
  have := h.n
  show (ofQ (stepT A B) s i).length ≤ 2000
  omega
 have hcl : ∀ t : St, okT A B t → NextJ (stepT A B) (2 ^ (B + (A + 1) * B)) 2000 t ∧ Eqn Tryz.prog o_8z [.d (.agg (stD t)), .p 0 0] [PO 4 A B] (.mp 1) [PO 4 A B, spO (stepT A B t)] := by
  intro t ht
  refine ⟨(SpOK.stepT ht).nextJ (o_121 h ht) (by omega), ?_⟩
  have hst := o_11y h t ht
  refine Eqn.gen [0, 2] o_91 (by simp) (by simp) (by rfl) (by decide) (by simp) (by simp [spO, PO]) ?_
  simp only [o_90, spO, stD, parD, PO] at hst ⊢
  generalize spD rcD _ = L at *
  refine A00 ?_; try with_reducible exact tt
  refine CallS.nX (hst) (R0 ?_); try with_reducible exact tt
 have hti : ∀ i, i < n → Eqn Tryz.prog o_8w [.mp 0, .fn (.func o_8z) [.p 1 0]] [spO (dstT A B s i), PO 4 A B] (.mp 2) [spO (dstT A B s i), PO 4 A B, spO (dstT A B s (i + 1))] := fun i hi => by
  have hef : i * (B + (A + 1) * B) + (B + (A + 1) * B) ≤ 90000 := by
   have h1 : (i + 1) * (B + (A + 1) * B) ≤ (n + 1) * (B + (A + 1) * B) := Nat.mul_le_mul_right _ (by omega)
   rw [Nat.add_mul, Nat.one_mul] at h1
   omega
  exact o_11s (f := o_8z) (next := stepT A B) (T1 := 62) (x0 := .int .i64 4) (x1 := .int .i64 A) (x2 := .int .i64 B) (by decide) (okT A B) (dstT A B s i) (2 ^ (B + (A + 1) * B)) (2 ^ (i * (B + (A + 1) * B))) 1 2000 2000 (2000 * 2000) (hof i).uq (fun p hp => (hof i).ky p (List.mem_filter.1 hp).1) (hof i).nz (Nat.le_trans (List.length_filter_le _ _) (hlen i)) (Nat.le_trans (hlen i) (by omega)) (Nat.two_pow_pos _) (Nat.le_refl _) (hof i).gr (Nat.two_pow_pos _) hcl (o_11w (by omega) (by omega) hef) (by omega) (by omega)
 have hat : Eqn Tryz.prog o_8k [.mp 0] [spO (dstT A B s n)] (.d (.sl (atQ (dstT A B s n)).length (spD rcD (atQ (dstT A B s n))))) [spO (dstT A B s n)] :=
  o_y7 _ (hof n).uq (hof n).nz (Nat.le_trans (hlen n) (by omega)) ((hof n).rs (by
   have h1 : n * (B + (A + 1) * B) ≤ (n + 1) * (B + (A + 1) * B) := Nat.mul_le_mul_right _ (by omega)
   omega))
 have hd0 : dstT A B s 0 = [(s, 1)] := rfl
 rw [← hd0] at hsu
 have e1 : IntKind.i64.wrap ((n : Int) + 1) = ((n + 1 : Nat) : Int) := by rw [w64 (by omega) (by omega)]; omega
 obtain ⟨W, hW⟩ : ∃ W, W = (A + 1) * (B + 1) := ⟨_, rfl⟩
 rw [← hW] at hst hcost
 have e2 : IntKind.i64.wrap (((n + 1 : Nat) : Int) * (W : Int)) = (((n + 1) * W : Nat) : Int) := by rw [← Int.natCast_mul]; exact w64 (by omega) (by omega)
 obtain ⟨M, hM⟩ : ∃ M, M = (n + 1) * W := ⟨_, rfl⟩
 rw [← hM] at e2 hcost
 obtain ⟨n1, hn1⟩ : ∃ n1, n1 = n + 1 := ⟨_, rfl⟩
 rw [← hn1] at e1 e2
 have g1 : ¬ (n : Int) < 0 := by omega
 have g2 : ¬ (64 : Int) < n := by omega
 have g3 : ¬ (512 : Int) < M := by omega
 have g4 : ¬ 512 < M := by omega
 have g5 : ¬ 64 < n := by omega
 generalize hA : atQ (dstT A B s n) = AA at *
 simp only [o_6z, stD, parD, spO, PO] at hwr hst hsu hti hat ⊢
 refine A00 ?_; try with_reducible exact tt
 refine CallS.pf 2 3 ⟨64, [.d (.int .i64 s.1), .d (.int .i64 s.2.1), .d (.bool s.2.2)]⟩ [.int .i64 s.1, .int .i64 s.2.1, .bool s.2.2] (hwr) (by first | rfl | (simp [g1, g2, g5]; done)) (R1 (fs g1 (fs g2 g5)) ?_); try with_reducible exact tt
 refine A10 (fs g1 (fs g2 (fs g5 e1))) ?_; try with_reducible exact tt
 refine CallS.pu (hst) (R1 (fs e2 (fs g3 g4)) ?_); try with_reducible exact tt
 refine A10 (fs e2 (fs g3 g4)) ?_; try with_reducible exact tt
 refine CallS.nX (hsu) (R0 ?_); try with_reducible exact tt
 refine AW.loopG (α := Nat) (fun i => setS (List.replicate 43 .junk) [(3, .p 0 0), (9, .mp 3), (34, .d (.int .i64 n)), (35, .d (.int .i64 (i : Nat)))]) (fun i => [some ⟨62, [.d (.int .i64 (4 : Nat)), .d (.int .i64 A), .d (.int .i64 B)]⟩, none, none, some ⟨1000391, (spD rcD (dstT A B s i)).map .d⟩]) (fun i => i ≤ n) (fun i => n - i) 0 ?_ (Nat.zero_le _) ?_ ?_ ?_
 ·intro i hi; simp
 ·simp
 ·simp
 rintro i hi
 simp
 by_cases hi2 : i < n
 ·have hi3 : (i : Int) < n := by omega
  have ew : IntKind.i64.wrap ((i : Int) + 1) = ((i + 1 : Nat) : Int) := by rw [w64 (by omega) (by omega)]; omega
  have ht := hti i (by omega)
  refine A10 (fs hi2 hi3) ?_; try with_reducible exact tt
  refine CallS.g [3, 0] (ht) (R1 ew ?_); try with_reducible exact tt
  refine A10 ew ?_; try with_reducible exact tt
  refine ⟨i + 1, 3, 4, by omega, by omega, by omega, ?_, ?_⟩
  ·simp [swT, swH, sw, Ob.sw, V.ren, V.rens]
  ·simp [swT, swH, sw, Ob.sw, V.ren, V.rens]
 ·have h2 : i = n := by omega
  subst h2
  refine A00 ?_; try with_reducible exact tt
  refine CallS.g [3] (hat) (R0 ?_); try with_reducible exact tt
  done
end
section
open Go.RowKit
end
section
open Go.RowKit
end
section
open Go.RowKit
theorem o_123 : Eqn Tryz.prog o_74 [] [] (.d (.bool true)) [] := by
 refine Eqn.pure o_76 Plain.ok ?_
 have hG : GoodS 1 1 2 := ⟨.inl ⟨rfl, by omega, by omega⟩, by omega, by omega⟩
 have hof := o_z8 hG (by omega) (0, 0, false) (.inr ⟨by omega, rfl, by simp, by simp⟩) ⟨Nat.zero_le _, rfl, by simp⟩ 2 (by omega)
 have hto := o_110 (.inr ⟨by omega, o_rb hG⟩) _ (o_11f hG (okz _) 2 (by omega))
 rw [dst2] at hof hto
 have e1 : exQ (vlQ 1 1 2) [(((1, 0, false) : St), hf2), ((2, 0, false), hf2)] = 2 := by kernel_rfl
 have e2 : varQ 1 1 2 [(((1, 0, false) : St), hf2), ((2, 0, false), hf2)] = 1 := by kernel_rfl
 have e3 : exQ fulI [(((1, 0, false) : St), hf2), ((2, 0, false), hf2)] = 0 := by kernel_rfl
 have e4 : stD3 1 1 2 [(((1, 0, false) : St), hf2), ((2, 0, false), hf2)] = rcD 2 ++ (rcD 1 ++ rcD 0) := by
  unfold stD3; rw [e1, e2, e3]
 rw [e4] at hto
 have t1 := o_v5 2 ⟨by decide +kernel, by decide +kernel⟩
 have t2 := o_v5 1 ⟨by decide +kernel, by decide +kernel⟩
 have t3 := o_v5 0 ⟨by decide +kernel, by decide +kernel⟩
 have s1 : (txtQ 2).toList = [50] := by kernel_rfl
 have s2 : (txtQ 1).toList = [49] := by kernel_rfl
 have s3 : (txtQ 0).toList = [48] := by kernel_rfl
 obtain ⟨A1, A2, A3, hA⟩ : ∃ A1 A2 A3, rcD 2 = [A1, A2, A3] := ⟨_, _, _, rfl⟩
 obtain ⟨B1, B2, B3, hB⟩ : ∃ B1 B2 B3, rcD 1 = [B1, B2, B3] := ⟨_, _, _, rfl⟩
 obtain ⟨C1, C2, C3, hC⟩ : ∃ C1 C2 C3, rcD 0 = [C1, C2, C3] := ⟨_, _, _, rfl⟩
 rw [hA, hB, hC] at hto
 rw [o_wk, hA] at t1
 rw [o_wk, hB] at t2
 rw [o_wk, hC] at t3
 simp only [o_75, parD, stD] at hof hto ⊢
 generalize spD rcD [(((1, 0, false) : St), hf2), ((2, 0, false), hf2)] = LL at *
 generalize txtQ 2 = S1 at *
 generalize txtQ 1 = S2 at *
 generalize txtQ 0 = S3 at *
 simp at hof hto
 refine A00 ?_; try with_reducible exact tt
 refine CallS.pu (hof) (R0 ?_); try with_reducible exact tt
 refine A00 ?_; try with_reducible exact tt
 refine CallS.pu (hto) (R0 ?_); try with_reducible exact tt
 refine A00 ?_; try with_reducible exact tt
 refine CallS.pu (t1) (R1 s1 ?_); try with_reducible exact tt
 refine CallS.pu (t2) (R1 s2 ?_); try with_reducible exact tt
 refine CallS.pu (t3) (R1 s3 ?_); try with_reducible exact tt
end
section
open Go.RowKit
theorem o_124 (k a b : Int) : ∃ K A B : Nat, GoodS K A B ∧ Eqn Tryz.prog o_77 [.d (parD k a b)] [] (.d (parD K A B)) [] := by
 obtain ⟨K, A, B, hsr, hsm⟩ := o_sa k a b
 obtain ⟨Y, T, F, hw, hs1⟩ := hsm 0 0 false
 by_cases h4 : K = 4
 ·subst h4
  obtain ⟨A', hA, hA7, -⟩ := o_qp (A : Int) 1 (by omega)
  replace hA : bits BinOp.and IntKind.i64 (A : Int) 1 = A' := hA
  obtain ⟨B', hB, hB7, -⟩ := o_qp (B : Int) 3 (by omega)
  replace hB : bits BinOp.and IntKind.i64 (B : Int) 3 = B' := hB
  have e1 : IntKind.i64.wrap (1 + (B' : Int)) = ((1 + B' : Nat) : Int) := by rw [w64 (by omega) (by omega)]; omega
  refine ⟨2, A', 1 + B', ⟨.inr (.inl ⟨rfl, by omega⟩), by omega, by omega⟩, ?_⟩
  refine Eqn.pure o_79 (o_58 _) ?_
  simp only [o_78, parD, tsD] at hs1 ⊢
  refine A00 ?_; try with_reducible exact tt
  refine CallS.pu (hs1) (R1 (fs hA (fs hB e1)) ?_); try with_reducible exact tt
  refine A10 (fs hA (fs hB e1)) ?_; try with_reducible exact tt
 ·rcases hsr with ⟨h, -⟩ | ⟨-, h⟩
  ·exact absurd h h4
  refine ⟨K, A, B, h, ?_⟩
  have h4' : ¬ (K : Int) = 4 := by omega
  refine Eqn.pure o_79 (o_58 _) ?_
  simp only [o_78, parD, tsD] at hs1 ⊢
  refine A00 ?_; try with_reducible exact tt
  refine CallS.pu (hs1) (R1 (fs h4 h4') ?_); try with_reducible exact tt
  refine A10 (fs h4 h4') ?_; try with_reducible exact tt
end
section
open Go.RowKit
end
section
open Go.RowKit
end
section
open Go.RowKit
theorem o_125 {A B : Nat} (h1 : 1 ≤ A) (h2 : A ≤ 8) (h3 : B ≤ 3) : ThS A B where
 a1 := h1
 n := Nat.le_trans (Nat.mul_le_mul (show A + 1 ≤ 9 by omega) (show B + 1 ≤ 4 by omega)) (by decide)
 b := by omega
 a := by omega
 gd := ⟨h1, by omega, by omega⟩
theorem o_126 {A B : Nat} {s : St} : vlQ 4 A B s = ((s.1 * 2 ^ s.2.1 : Nat) : Rat) := by
 unfold vlQ valR
 rw [if_pos rfl]
theorem o_127 {A B : Nat} (h1 : 1 ≤ A) (h2 : A ≤ 8) (h3 : B ≤ 3) {L : Sp} {e : Nat} (hL : SpOK e (okT A B) L) (he : e ≤ 218) : LsOK 4 A B (atQ L) (2 ^ e) 1 1 1000 := by
 have hl := o_11v hL.uq hL.ky
 have h4 : (A + 1) * ((B + 1) * 2) ≤ 9 * (4 * 2) := Nat.mul_le_mul (by omega) (Nat.mul_le_mul_right _ (by omega))
 refine ⟨Nat.le_trans (o_yk _) (by omega), hL.at.one, Nat.two_pow_pos _, by decide, by decide, by decide, by have := o_11o e; omega, Nat.le_trans (o_m9 (by decide)) (by decide), Nat.le_trans (o_m9 (by decide)) (by decide), Nat.le_trans (o_m9 (by decide)) (by decide), fun p hp => o_120 (hL.at.ky p hp), hL.at.gr, fun p hp => ?_⟩
 obtain ⟨a1, a2, -⟩ := hL.at.ky p hp
 rw [o_126]
 refine o_11j ?_
 have : p.1.1 * 2 ^ p.1.2.1 ≤ 8 * 2 ^ 3 := Nat.mul_le_mul (by omega) (Nat.pow_le_pow_right (by decide) (by omega))
 omega
theorem o_128 {K A B : Nat} (hsr : SmallR K A B) {Y T : Nat} {F : Bool} (hw : WellR K A B Y T F) (n : Nat) (hn : n ≤ 7) : ∃ (L : Sp) (D C E V : Nat), LsOK K A B L D C E V ∧ Eqn Tryz.prog o_6y [.d (parD K A B), .d (.agg [.int .i64 Y, .int .i64 T, .bool F]), .d (.int .i64 n)] [] (.tup [.d (.sl L.length (spD rcD L)), .d (.int .i64 0)]) [] := by
 rcases hsr with ⟨rfl, h1, h2, h3⟩ | ⟨hk, hG⟩
 ·have hs : okT A B (Y, T, F) := by
   rcases hw with ⟨-, h⟩ | ⟨h, -⟩
   ·exact h
   ·exact absurd rfl h
  have hst : ∀ i, SpOK (i * (B + (A + 1) * B)) (okT A B) (dstT A B (Y, T, F) i) := fun i => SpOK.of (fun t (ht : okT A B t) => SpOK.stepT ht) hs i
  have he : n * (B + (A + 1) * B) ≤ 7 * (3 + 9 * 3) := Nat.mul_le_mul hn (Nat.add_le_add h3 (Nat.mul_le_mul (by omega) h3))
  have hc : (n + 1) * ((A + 1) * (B + 1)) ≤ 8 * (9 * 4) := Nat.mul_le_mul (by omega) (Nat.mul_le_mul (by omega) (by omega))
  exact ⟨_, _, _, _, _, o_127 h1 h2 h3 (hst n) (by omega), o_122 (o_125 h1 h2 h3) (Y, T, F) hs n (by omega) (by omega)⟩
 ·obtain ⟨hT0, hYt, hFt⟩ : T = 0 ∧ Y ≤ 2 ^ B - 1 ∧ (F = true → Y = 2 ^ B - 1) := by
   rcases hw with ⟨h, -⟩ | ⟨-, h⟩
   ·exact absurd h hk
   ·exact h
  have hok : okQ (topC B) (Y, T, F) := ⟨hYt, hT0, hFt⟩
  obtain ⟨D, C, E, V, h⟩ := o_11i hG hok n (by omega)
  exact ⟨_, D, C, E, V, h, o_z8 hG hG.2.2 (Y, T, F) hw hok n (by omega)⟩
theorem o_129 (m : Nat) (h0 : 0 < m) (h : m < 9223372036854775808) : Eqn Tryz.prog o_8d [.d (.int .i64 (-(m : Int)))] [] (.d (wD (-(m : Int)))) [] := by
 refine Eqn.pure o_8f (o_58 _) ?_
 have hof : Eqn Tryz.prog o_bl [.d (.sl 1 [.int .u64 m])] [] (.d (.agg [natW m])) [] := by
  have := o_jz [m] (o_kv (by omega)) (by simp)
  simpa [W, wval] using this
 have hmk := o_o8 true m (-(m : Int)) (by simp)
 have hn : -(m : Int) < 0 := by omega
 have hn2 : (0 : Int) < m := by omega
 have e1 : IntKind.u64.wrap (-(m : Int)) = 18446744073709551616 - (m : Int) := by rw [IntKind.wrap_u64]; omega
 have e2 : IntKind.u64.wrap (-(18446744073709551616 - (m : Int))) = (m : Int) := by rw [IntKind.wrap_u64]; omega
 have e3 : IntKind.u64.wrap ((m : Int) - 18446744073709551616) = (m : Int) := by rw [IntKind.wrap_u64]; omega
 obtain ⟨W1, W2, hW⟩ : ∃ W1 W2, wD (-(m : Int)) = .agg [W1, W2] := ⟨_, _, rfl⟩
 rw [hW] at hmk ⊢
 simp only [o_8e]
 refine A10 (fs hn (fs hn2 (fs e1 (fs e2 (fs e3 h0))))) ?_; try with_reducible exact tt
 refine CallS.pf 1 1 ⟨199, _⟩ [.int .u64 m] (hof) (by first | rfl | (simp; done)) (R0 ?_); try with_reducible exact tt
 refine CallS.pu (hmk) (R0 ?_); try with_reducible exact tt
theorem o_12a (z : Int) (h1 : -5 ≤ z) (h2 : z ≤ 10000) : Eqn Tryz.prog o_7d [.d (.int .i64 z)] [] (.d (rD (z : Rat))) [] := by
 rcases Int.lt_or_le z 0 with h | h
 ·obtain ⟨m, hm⟩ : ∃ m : Nat, z = -(m : Int) := ⟨(-z).toNat, by omega⟩
  subst hm
  have hw := o_129 m (by omega) (by omega)
  refine Eqn.pure o_7f (o_58 _) ?_
  have e : rD ((-(m : Int) : Int) : Rat) = .agg [natW m, .bool true, natW 0] := by
   unfold rD
   rw [Rat.num_intCast, Rat.den_intCast]
   have : decide (-(m : Int) < 0) = true := by simp; omega
   have e1 : (-(m : Int)).natAbs = m := by omega
   rw [this, e1]
  have e2 : wD (-(m : Int)) = .agg [natW m, .bool true] := by
   unfold wD
   have : decide (-(m : Int) < 0) = true := by simp; omega
   have e1 : (-(m : Int)).natAbs = m := by omega
   rw [this, e1]
  rw [e2] at hw
  rw [e]
  simp only [o_7e]
  refine A00 ?_; try with_reducible exact tt
  refine CallS.pu (hw) (R0 ?_); try with_reducible exact tt
  exact Sub1.rat0
 ·obtain ⟨m, hm⟩ : ∃ m : Nat, z = (m : Int) := ⟨z.toNat, by omega⟩
  subst hm
  exact o_p8 m (by omega)
end
end Go.Proofs.YtjbcbbfhcbnncaaGreatDoor.Am
