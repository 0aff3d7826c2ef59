import Derived.WalkKit
import Derived.WalkSpells
import Derived.WalkLawsBesides
import Derived.Laws.OwnMore
namespace Go.Proofs.Ytakjegcjeffmgaa.Am
section
open Go.RowKit

/-- Data, without addresses. -/
inductive D where
  | int (k : IntKind) (n : Int)
  | bool (b : Bool)
  | str (s : ByteArray)
  | agg (l : List D)
  | sl (n : Nat) (l : List D)
  | nilsl
  | sl0
  | sle
  | ifc (t : TypeId) (d : D)
  | nilifc
  | nilp
  | nilfn
  deriving Inhabited

mutual
def D.rep (I : Nat → Prop) (w : World) : D → Value → Prop
  | .int k n, v => v = .int k n
  | .bool b, v => v = .bool b
  | .str s, v => v = .string s
  | .agg l, v => ∃ vs : List Value, v = .agg vs.toArray ∧ (∀ u ∈ vs, u.oneCell' = true) ∧ D.reps I w l vs
  | .sl n l, v => ∃ p cap, v = .slice p n cap ∧ n ≤ cap ∧ cap ≤ maxLen ∧ ∃ vs : List Value, (∀ u ∈ vs, u.oneCell' = true) ∧ D.reps I w l vs ∧
      ((p = none ∧ cap = 0 ∧ vs = []) ∨ ∃ b o, p = some ⟨b, o, none⟩ ∧ (vs = [] ∨ I b) ∧ ∀ i u, vs[i]? = some u → w.cell? ⟨b, o + i, none⟩ = some u)
  | .nilsl, v => v = .slice none 0 0
  | .sl0, v => ∃ p : Option Addr, v = .slice p 0 0 ∧ ∀ a, p = some a → a.spot = none
  | .sle, v => ∃ b o cap, v = .slice (some ⟨b, o, none⟩) 0 cap ∧ cap ≤ maxLen
  | .ifc t d, v => ∃ u, v = .iface t u ∧ D.rep I w d u
  | .nilifc, v => v = .nilIface
  | .nilp, v => v = .pointer none
  | .nilfn, v => v = .nilFunc
def D.reps (I : Nat → Prop) (w : World) : List D → List Value → Prop
  | [], vs => vs = []
  | x :: l, vs => ∃ v r, vs = v :: r ∧ D.rep I w x v ∧ D.reps I w l r
end

/-- Values of a walk: data, addresses of named variables. -/
inductive V where
  | d (x : D)
  | agg (l : List V)
  | tup (l : List V)
  | p (n off : Nat)
  | row (n off len : Nat)
  | own (n s len : Nat)
  | ia (l : List D) (off : Nat)
  | fn (f : Fn) (caps : List V)
  | junk
  deriving Inhabited

/-- Where the named variables lie, which blocks stay as they are, the world. -/
structure Mem where
  ρ : Nat → Option Nat
  I : Nat → Prop
  w : World

mutual
def V.rep (m : Mem) : V → Value → Prop
  | .d x, v => x.rep m.I m.w v
  | .agg l, v => ∃ vs : List Value, v = .agg vs.toArray ∧ (∀ u ∈ vs, u.oneCell' = true) ∧ V.reps m l vs
  | .tup l, v => ∃ vs : List Value, v = .tuple vs.toArray ∧ V.reps m l vs
  | .p n off, v => ∃ b, m.ρ n = some b ∧ v = .pointer (some ⟨b, off, none⟩)
  | .row n off len, v => ∃ b o cap, m.ρ n = some b ∧ v = .slice (some ⟨b, o, none⟩) len cap ∧ (len = 0 ∨ o = off) ∧ len ≤ cap ∧ cap ≤ maxLen
  | .own n s len, v => ∃ b t k cap, m.ρ n = some b ∧ m.w.shape? b = some (t, k) ∧ k = cap * s ∧ v = .slice (some ⟨b, 0, none⟩) len cap ∧ len ≤ cap ∧ cap ≤ maxLen
  | .ia l off, v => ∃ b o, v = .pointer (some ⟨b, o + off, none⟩) ∧ m.I b ∧ ∃ vs : List Value, (∀ u ∈ vs, u.oneCell' = true) ∧ D.reps m.I m.w l vs ∧ ∀ i u, vs[i]? = some u → m.w.cell? ⟨b, o + i, none⟩ = some u
  | .fn f caps, v => ∃ vs : List Value, v = .func f #[] vs.toArray ∧ V.reps m caps vs
  | .junk, _ => True
def V.reps (m : Mem) : List V → List Value → Prop
  | [], vs => vs = []
  | x :: l, vs => ∃ v r, vs = v :: r ∧ V.rep m x v ∧ V.reps m l r
end

section
variable {I I' : Nat → Prop} {w w' : World}
mutual
theorem D.rep_mono (hI : ∀ b, I b → I' b) (hw : ∀ b, I b → w'.heap[b]? = w.heap[b]?) : ∀ (x : D) (v : Value), D.rep I w x v → D.rep I' w' x v
  | .int _ _, _, h | .bool _, _, h | .str _, _, h | .nilsl, _, h | .sl0, _, h | .sle, _, h | .nilifc, _, h | .nilp, _, h | .nilfn, _, h => by
    unfold D.rep at h ⊢; exact h
  | .agg l, v, h => by
    unfold D.rep at h ⊢
    obtain ⟨vs, h1, h0, h2⟩ := h
    exact ⟨vs, h1, h0, D.reps_mono hI hw l vs h2⟩
  | .sl n l, v, h => by
    unfold D.rep at h ⊢
    obtain ⟨p, cap, h1, h2, h3, vs, h0, h4, h5⟩ := h
    refine ⟨p, cap, h1, h2, h3, vs, h0, D.reps_mono hI hw l vs h4, h5.imp id ?_⟩
    rintro ⟨b, o, rfl, h6, h7⟩
    refine ⟨b, o, rfl, h6.imp id (hI b), fun i u hu => ?_⟩
    rcases h6 with rfl | h6
    · simp at hu
    · rw [World.cell?_of_block (hw b h6)]; exact h7 i u hu
  | .ifc t d, v, h => by
    unfold D.rep at h ⊢
    obtain ⟨u, h1, h2⟩ := h
    exact ⟨u, h1, D.rep_mono hI hw d u h2⟩
theorem D.reps_mono (hI : ∀ b, I b → I' b) (hw : ∀ b, I b → w'.heap[b]? = w.heap[b]?) : ∀ (l : List D) (vs : List Value), D.reps I w l vs → D.reps I' w' l vs
  | [], vs, h => by unfold D.reps at h ⊢; exact h
  | x :: l, vs, h => by
    unfold D.reps at h ⊢
    obtain ⟨v, r, h1, h2, h3⟩ := h
    exact ⟨v, r, h1, D.rep_mono hI hw x v h2, D.reps_mono hI hw l r h3⟩
end
end


end
end Go.Proofs.Ytakjegcjeffmgaa.Am

namespace Go.Proofs.Ytakjegcjeffmgaa.Am
section
open Go.RowKit

section
variable {I : Nat → Prop} {w : World}
@[simp] theorem D.reps_nil {vs : List Value} : D.reps I w [] vs ↔ vs = [] := by unfold D.reps; exact Iff.rfl
@[simp] theorem D.reps_cons {x : D} {l : List D} {v : Value} {r : List Value} : D.reps I w (x :: l) (v :: r) ↔ x.rep I w v ∧ D.reps I w l r := by
  rw [D.reps]
  constructor
  · rintro ⟨_, _, h, h1, h2⟩; cases h; exact ⟨h1, h2⟩
  · rintro ⟨h1, h2⟩; exact ⟨_, _, rfl, h1, h2⟩
theorem D.reps_cons' {x : D} {l : List D} {vs : List Value} : D.reps I w (x :: l) vs ↔ ∃ v r, vs = v :: r ∧ x.rep I w v ∧ D.reps I w l r := by rw [D.reps]
theorem D.reps_len : ∀ {l : List D} {vs : List Value}, D.reps I w l vs → vs.length = l.length
  | [], vs, h => by simp at h; simp [h]
  | x :: l, vs, h => by obtain ⟨v, r, rfl, _, h2⟩ := D.reps_cons'.1 h; simp [D.reps_len h2]
theorem D.reps_get : ∀ {l : List D} {vs : List Value}, D.reps I w l vs → ∀ (i : Nat) (x : D), l[i]? = some x → ∃ v, vs[i]? = some v ∧ x.rep I w v
  | [], vs, h, i, x, hx => by simp at hx
  | y :: l, vs, h, i, x, hx => by
    obtain ⟨v, r, rfl, h1, h2⟩ := D.reps_cons'.1 h
    cases i with
    | zero => simp at hx; subst hx; exact ⟨v, rfl, h1⟩
    | succ i => simpa using D.reps_get h2 i x (by simpa using hx)
theorem D.reps_of : ∀ {l : List D} {vs : List Value}, vs.length = l.length → (∀ (i : Nat) (x : D) (v : Value), l[i]? = some x → vs[i]? = some v → x.rep I w v) → D.reps I w l vs
  | [], vs, hl, h => by simpa using hl
  | x :: l, vs, hl, h => by
    rcases vs with _ | ⟨v, r⟩
    · simp at hl
    · exact D.reps_cons.2 ⟨h 0 x v rfl rfl, D.reps_of (by simpa using hl) fun i y u hy hu => h (i + 1) y u (by simpa using hy) (by simpa using hu)⟩
theorem D.reps_iff {l : List D} {vs : List Value} : D.reps I w l vs ↔ vs.length = l.length ∧ ∀ (i : Nat) (x : D) (v : Value), l[i]? = some x → vs[i]? = some v → x.rep I w v :=
  ⟨fun h => ⟨D.reps_len h, fun i x v hx hv => by obtain ⟨u, hu, h'⟩ := D.reps_get h i x hx; rw [hv] at hu; cases hu; exact h'⟩, fun h => D.reps_of h.1 h.2⟩
theorem D.reps_append {l k : List D} {vs us : List Value} (h : D.reps I w l vs) (h' : D.reps I w k us) : D.reps I w (l ++ k) (vs ++ us) := by
  induction l generalizing vs with
  | nil => simp at h; subst h; exact h'
  | cons x l ih => obtain ⟨v, r, rfl, h1, h2⟩ := D.reps_cons'.1 h; exact D.reps_cons.2 ⟨h1, ih h2⟩
theorem D.reps_take {l : List D} {vs : List Value} (h : D.reps I w l vs) (n : Nat) : D.reps I w (l.take n) (vs.take n) := by
  rw [D.reps_iff] at h ⊢
  refine ⟨by simp [h.1], fun i x v hx hv => h.2 i x v ?_ ?_⟩
  · rw [List.getElem?_take] at hx; split at hx <;> simp_all
  · rw [List.getElem?_take] at hv; split at hv <;> simp_all
theorem D.reps_drop {l : List D} {vs : List Value} (h : D.reps I w l vs) (n : Nat) : D.reps I w (l.drop n) (vs.drop n) := by
  rw [D.reps_iff] at h ⊢
  refine ⟨by simp [h.1], fun i x v hx hv => h.2 (n + i) x v (by rwa [List.getElem?_drop] at hx) (by rwa [List.getElem?_drop] at hv)⟩
end

section
variable {m : Mem}
@[simp] theorem V.reps_nil {vs : List Value} : V.reps m [] vs ↔ vs = [] := by unfold V.reps; exact Iff.rfl
@[simp] theorem V.reps_cons {x : V} {l : List V} {v : Value} {r : List Value} : V.reps m (x :: l) (v :: r) ↔ x.rep m v ∧ V.reps m l r := by
  rw [V.reps]
  constructor
  · rintro ⟨_, _, h, h1, h2⟩; cases h; exact ⟨h1, h2⟩
  · rintro ⟨h1, h2⟩; exact ⟨_, _, rfl, h1, h2⟩
theorem V.reps_cons' {x : V} {l : List V} {vs : List Value} : V.reps m (x :: l) vs ↔ ∃ v r, vs = v :: r ∧ x.rep m v ∧ V.reps m l r := by rw [V.reps]
theorem V.reps_len : ∀ {l : List V} {vs : List Value}, V.reps m l vs → vs.length = l.length
  | [], vs, h => by simp at h; simp [h]
  | x :: l, vs, h => by obtain ⟨v, r, rfl, _, h2⟩ := V.reps_cons'.1 h; simp [V.reps_len h2]
theorem V.reps_get : ∀ {l : List V} {vs : List Value}, V.reps m l vs → ∀ (i : Nat) (x : V), l[i]? = some x → ∃ v, vs[i]? = some v ∧ x.rep m v
  | [], vs, h, i, x, hx => by simp at hx
  | y :: l, vs, h, i, x, hx => by
    obtain ⟨v, r, rfl, h1, h2⟩ := V.reps_cons'.1 h
    cases i with
    | zero => simp at hx; subst hx; exact ⟨v, rfl, h1⟩
    | succ i => simpa using V.reps_get h2 i x (by simpa using hx)
theorem V.reps_of : ∀ {l : List V} {vs : List Value}, vs.length = l.length → (∀ (i : Nat) (x : V) (v : Value), l[i]? = some x → vs[i]? = some v → x.rep m v) → V.reps m l vs
  | [], vs, hl, h => by simpa using hl
  | x :: l, vs, hl, h => by
    rcases vs with _ | ⟨v, r⟩
    · simp at hl
    · exact V.reps_cons.2 ⟨h 0 x v rfl rfl, V.reps_of (by simpa using hl) fun i y u hy hu => h (i + 1) y u (by simpa using hy) (by simpa using hu)⟩
theorem V.reps_iff {l : List V} {vs : List Value} : V.reps m l vs ↔ vs.length = l.length ∧ ∀ (i : Nat) (x : V) (v : Value), l[i]? = some x → vs[i]? = some v → x.rep m v :=
  ⟨fun h => ⟨V.reps_len h, fun i x v hx hv => by obtain ⟨u, hu, h'⟩ := V.reps_get h i x hx; rw [hv] at hu; cases hu; exact h'⟩, fun h => V.reps_of h.1 h.2⟩
theorem V.reps_append {l k : List V} {vs us : List Value} (h : V.reps m l vs) (h' : V.reps m k us) : V.reps m (l ++ k) (vs ++ us) := by
  induction l generalizing vs with
  | nil => simp at h; subst h; exact h'
  | cons x l ih => obtain ⟨v, r, rfl, h1, h2⟩ := V.reps_cons'.1 h; exact V.reps_cons.2 ⟨h1, ih h2⟩
theorem V.reps_take {l : List V} {vs : List Value} (h : V.reps m l vs) (n : Nat) : V.reps m (l.take n) (vs.take n) := by
  rw [V.reps_iff] at h ⊢
  refine ⟨by simp [h.1], fun i x v hx hv => h.2 i x v ?_ ?_⟩
  · rw [List.getElem?_take] at hx; split at hx <;> simp_all
  · rw [List.getElem?_take] at hv; split at hv <;> simp_all
theorem V.reps_drop {l : List V} {vs : List Value} (h : V.reps m l vs) (n : Nat) : V.reps m (l.drop n) (vs.drop n) := by
  rw [V.reps_iff] at h ⊢
  refine ⟨by simp [h.1], fun i x v hx hv => h.2 (n + i) x v (by rwa [List.getElem?_drop] at hx) (by rwa [List.getElem?_drop] at hv)⟩
theorem V.reps_set {l : List V} {vs : List Value} (h : V.reps m l vs) {x : V} {v : Value} (hx : x.rep m v) (n : Nat) : V.reps m (l.set n x) (vs.set n v) := by
  rw [V.reps_iff] at h ⊢
  refine ⟨by simp [h.1], fun i y u hy hu => ?_⟩
  rw [List.getElem?_set] at hy hu
  by_cases e : n = i
  · subst e
    simp only [if_true] at hy hu
    split at hy <;> split at hu <;> simp_all
  · rw [if_neg e] at hy hu; exact h.2 i y u hy hu
theorem V.reps_map_d {l : List D} {vs : List Value} : V.reps m (l.map .d) vs ↔ D.reps m.I m.w l vs := by
  induction l generalizing vs with
  | nil => simp
  | cons x l ih => rw [List.map_cons, V.reps_cons', D.reps_cons']; simp [ih, V.rep]
end

/-- A named variable: its type, its cells (the first ones of its block). -/
structure Ob where
  T : TypeId
  c : List V

/-- The memory is in order. -/
structure Mem.base (m : Mem) : Prop where
  imm : ∀ b, m.I b → b < m.w.heap.size
  dom : ∀ n b, m.ρ n = some b → b < m.w.heap.size

/-- A variable holds so. -/
def Mem.obj (m : Mem) (n : Nat) (o : Ob) : Prop :=
  ∃ b, ∃ vs more : List Value, m.ρ n = some b ∧ m.w.heap[b]? = some (.cells (vs ++ more).toArray o.T (0, 0)) ∧ (∀ u ∈ vs, u.oneCell' = true) ∧ V.reps m o.c vs ∧ ¬ m.I b

/-- What may have become of a memory; of what there was, the variables of M alone have turned. -/
structure Mem.le (m m' : Mem) (M : Nat → Prop) : Prop where
  ρ : ∀ n b, m.ρ n = some b → m'.ρ n = some b
  I : ∀ b, m.I b → m'.I b
  os : m'.w.os = m.w.os
  tape : m'.w.tape = m.w.tape
  output : m'.w.output = m.w.output
  size : m.w.heap.size ≤ m'.w.heap.size
  block : ∀ b, b < m.w.heap.size → (∀ n, M n → m.ρ n ≠ some b) → m'.w.heap[b]? = m.w.heap[b]?
  shape : ∀ b, b < m.w.heap.size → m'.w.shape? b = m.w.shape? b
  imm : ∀ b, m.I b → m'.w.heap[b]? = m.w.heap[b]?
  newI : ∀ b, m'.I b → m.I b ∨ m.w.heap.size ≤ b ∨ ∃ n, M n ∧ m.ρ n = some b
  newρ : ∀ n b, m'.ρ n = some b → m.ρ n = some b ∨ m.w.heap.size ≤ b ∨ ∃ k, M k ∧ m.ρ k = some b

theorem shape_lt {w : World} {b : Nat} {x : TypeId × Nat} (h : w.shape? b = some x) : b < w.heap.size := by
  unfold World.shape? at h
  split at h
  · rename_i hb; exact (Array.getElem?_eq_some_iff.1 hb).1
  · cases h

mutual
theorem V.rep_mono {m m' : Mem} {M : Nat → Prop} (h : m.le m' M) : ∀ (x : V) (v : Value), V.rep m x v → V.rep m' x v
  | .d x, v, k => by unfold V.rep at k ⊢; exact D.rep_mono h.I h.imm x v k
  | .agg l, v, k => by unfold V.rep at k ⊢; obtain ⟨vs, h1, h0, h2⟩ := k; exact ⟨vs, h1, h0, V.reps_mono h l vs h2⟩
  | .tup l, v, k => by unfold V.rep at k ⊢; obtain ⟨vs, h1, h2⟩ := k; exact ⟨vs, h1, V.reps_mono h l vs h2⟩
  | .p n off, v, k => by unfold V.rep at k ⊢; obtain ⟨b, h1, h2⟩ := k; exact ⟨b, h.ρ n b h1, h2⟩
  | .row n off len, v, k => by unfold V.rep at k ⊢; obtain ⟨b, o, cap, h1, h2⟩ := k; exact ⟨b, o, cap, h.ρ n b h1, h2⟩
  | .own n s len, v, k => by unfold V.rep at k ⊢; obtain ⟨b, t, z, cap, h1, h2, h3⟩ := k; exact ⟨b, t, z, cap, h.ρ n b h1, by rw [h.shape b (shape_lt h2)]; exact h2, h3⟩
  | .ia l off, v, k => by
    unfold V.rep at k ⊢
    obtain ⟨b, o, h1, h2, vs, h0, h3, h4⟩ := k
    exact ⟨b, o, h1, h.I b h2, vs, h0, D.reps_mono h.I h.imm l vs h3, fun i u hu => by rw [World.cell?_of_block (h.imm b h2)]; exact h4 i u hu⟩
  | .fn f l, v, k => by unfold V.rep at k ⊢; obtain ⟨vs, h1, h2⟩ := k; exact ⟨vs, h1, V.reps_mono h l vs h2⟩
  | .junk, v, k => by unfold V.rep; trivial
theorem V.reps_mono {m m' : Mem} {M : Nat → Prop} (h : m.le m' M) : ∀ (l : List V) (vs : List Value), V.reps m l vs → V.reps m' l vs
  | [], vs, k => by unfold V.reps at k ⊢; exact k
  | x :: l, vs, k => by
    unfold V.reps at k ⊢
    obtain ⟨v, r, h1, h2, h3⟩ := k
    exact ⟨v, r, h1, V.rep_mono h x v h2, V.reps_mono h l r h3⟩
end

theorem Mem.le.refl (m : Mem) (M : Nat → Prop) : m.le m M :=
  ⟨fun _ _ h => h, fun _ h => h, rfl, rfl, rfl, Nat.le_refl _, fun _ _ _ => rfl, fun _ _ => rfl, fun _ _ => rfl, fun _ h => .inl h, fun _ _ h => .inl h⟩

theorem Mem.le.trans {m m1 m2 : Mem} {M M1 : Nat → Prop} (h : m.le m1 M) (h1 : m1.le m2 M1) (hM : ∀ n b, m.ρ n = some b → M1 n → M n) : m.le m2 M := by
  have back : ∀ n b, b < m.w.heap.size → m1.ρ n = some b → M1 n → ∃ k, M k ∧ m.ρ k = some b := fun n b hb' hn hm => by
    rcases h.newρ n b hn with k | k | k
    · exact ⟨n, hM n b k hm, k⟩
    · omega
    · exact k
  refine ⟨fun n b k => h1.ρ n b (h.ρ n b k), fun b k => h1.I b (h.I b k), h1.os.trans h.os, h1.tape.trans h.tape, h1.output.trans h.output, Nat.le_trans h.size h1.size, ?_, ?_, ?_, ?_, ?_⟩
  · intro b hb' hn
    rw [h1.block b (Nat.lt_of_lt_of_le hb' h.size) (fun n hM1 he => by obtain ⟨k, k1, k2⟩ := back n b hb' he hM1; exact hn k k1 k2), h.block b hb' hn]
  · intro b hb'; rw [h1.shape b (Nat.lt_of_lt_of_le hb' h.size), h.shape b hb']
  · intro b hI; rw [h1.imm b (h.I b hI), h.imm b hI]
  · intro b hI
    rcases h1.newI b hI with h2 | h2 | ⟨n, h2, h3⟩
    · exact h.newI b h2
    · exact .inr (.inl (Nat.le_trans h.size h2))
    · rcases Nat.lt_or_ge b m.w.heap.size with hlt | hge
      · exact .inr (.inr (back n b hlt h3 h2))
      · exact .inr (.inl hge)
  · intro n b hn
    rcases h1.newρ n b hn with h2 | h2 | ⟨k, h2, h3⟩
    · exact h.newρ n b h2
    · exact .inr (.inl (Nat.le_trans h.size h2))
    · rcases Nat.lt_or_ge b m.w.heap.size with hlt | hge
      · exact .inr (.inr (back k b hlt h3 h2))
      · exact .inr (.inl hge)

theorem Mem.le.mono {m m' : Mem} {M M' : Nat → Prop} (h : m.le m' M) (hM : ∀ n b, m.ρ n = some b → M n → M' n) : m.le m' M' :=
  ⟨h.ρ, h.I, h.os, h.tape, h.output, h.size, fun b hb hn => h.block b hb fun n hm he => hn n (hM n b he hm) he, h.shape, h.imm,
    fun b hI => (h.newI b hI).imp id (fun k => k.imp id fun ⟨n, h1, h2⟩ => ⟨n, hM n b h2 h1, h2⟩), fun n b hn => (h.newρ n b hn).imp id (fun k => k.imp id fun ⟨n, h1, h2⟩ => ⟨n, hM n b h2 h1, h2⟩)⟩

/-- a variable that hasn't turned -/
theorem Mem.obj_keep {m m' : Mem} {M : Nat → Prop} (hb : m.base) (h : m.le m' M) {n : Nat} {o : Ob} (hn : ∀ k b, M k → m.ρ n = some b → m.ρ k ≠ some b) (k : m.obj n o) : m'.obj n o := by
  obtain ⟨b, vs, more, h1, h2, h0, h3, h4⟩ := k
  have hlt := hb.dom n b h1
  refine ⟨b, vs, more, h.ρ n b h1, ?_, h0, V.reps_mono h _ _ h3, ?_⟩
  · rw [h.block b hlt fun n' hM => hn n' b hM h1]; exact h2
  · intro hI
    rcases h.newI b hI with h5 | h5 | ⟨n', hM, he⟩
    · exact h4 h5
    · omega
    · exact hn n' b hM h1 he


end
end Go.Proofs.Ytakjegcjeffmgaa.Am

namespace Go.Proofs.Ytakjegcjeffmgaa.Am
section
open Go.RowKit

/-- An operand. -/
inductive X where
  | t (n : Nat)
  | d (x : D)
  | fn (f : Nat)
  | bad
  deriving Inhabited

def X.ev (T : List V) : X → V
  | .t n => T.getD n .junk
  | .d x => .d x
  | .fn f => .fn (.func f) []
  | .bad => .junk
def X.slots : X → List Nat
  | .t n => [n]
  | _ => []
def D.of1 : Value → Option D
  | .int k n => some (.int k n)
  | .bool b => some (.bool b)
  | .string s => some (.str s)
  | .slice none 0 0 => some .nilsl
  | .nilIface => some .nilifc
  | .pointer none => some .nilp
  | .nilFunc => some .nilfn
  | _ => none
def D.ofs : List Value → Option (List D)
  | [] => some []
  | v :: l => match D.of1 v, D.ofs l with
    | some x, some r => some (x :: r)
    | _, _ => none
def X.of : Operand → X
  | .tmp n => .t n
  | .const v => match D.of1 v with
    | some x => .d x
    | none => .bad
  | .func f => .fn f
  | .global _ => .bad

theorem D.of1_rep {v : Value} {x : D} (h : D.of1 v = some x) (I : Nat → Prop) (w : World) : x.rep I w v ∧ v.oneCell' = true := by
  unfold D.of1 at h
  split at h <;> first | (cases h; done) | (cases h; exact ⟨by unfold D.rep; rfl, rfl⟩)
theorem D.ofs_rep (I : Nat → Prop) (w : World) : ∀ {vs : List Value} {l : List D}, D.ofs vs = some l → D.reps I w l vs ∧ ∀ u ∈ vs, u.oneCell' = true
  | [], l, h => by cases h; exact ⟨D.reps_nil.2 rfl, by simp⟩
  | v :: r, l, h => by
    unfold D.ofs at h
    split at h
    · rename_i x l' hx hl
      cases h
      obtain ⟨h1, h2⟩ := D.ofs_rep I w hl
      obtain ⟨h3, h4⟩ := D.of1_rep hx I w
      exact ⟨D.reps_cons.2 ⟨h3, h1⟩, by simpa [h4] using h2⟩
    · cases h

/-- The slots hold so. -/
def Slots (m : Mem) (a : Act) (T : List V) (S : List Nat) : Prop := ∀ s ∈ S, (T.getD s .junk).rep m (a.tmps.getD s undef)

theorem X.rep {m : Mem} {a : Act} {T : List V} {S : List Nat} (h : Slots m a T S) (y : Operand) (hs : ∀ s ∈ (X.of y).slots, s ∈ S) : ((X.of y).ev T).rep m (a.eval y) := by
  cases y with
  | tmp n => exact h n (hs n (by simp [X.of, X.slots]))
  | const v =>
    cases hv : D.of1 v with
    | none => simp [X.of, hv, X.ev, V.rep]
    | some x => simpa [X.of, hv, X.ev, V.rep, Act.eval] using (D.of1_rep hv m.I m.w).1
  | func f => simp [X.of, X.ev, V.rep, Act.eval]
  | global g => simp [X.of, X.ev, V.rep]

/-- The cells of a value that is stored. -/
def D.cells : D → List D
  | .agg l => l
  | x => [x]
def V.cells? : V → Option (List V)
  | .d x => some (x.cells.map .d)
  | .agg l => some l
  | .tup _ | .junk => none
  | x => some [x]

theorem V.cells_rep {m : Mem} {x : V} {l : List V} {v : Value} (hl : x.cells? = some l) (h : x.rep m v) : V.reps m l v.cells.toList ∧ ∀ u ∈ v.cells.toList, u.oneCell' = true := by
  cases x with
  | d x =>
    simp only [V.cells?, Option.some.injEq] at hl
    subst hl
    unfold V.rep at h
    cases x with
    | agg l =>
      unfold D.rep at h
      obtain ⟨vs, rfl, h1, h2⟩ := h
      simpa [D.cells, Value.cells, V.reps_map_d] using ⟨h2, h1⟩
    | _ =>
      have h' := h
      unfold D.rep at h
      first
        | (subst h; simpa [D.cells, Value.cells, V.rep, Value.oneCell'] using h')
        | (obtain ⟨p, cap, rfl, _⟩ := h; simpa [D.cells, Value.cells, V.rep, Value.oneCell'] using h')
        | (obtain ⟨b, o, cap, rfl, _⟩ := h; simpa [D.cells, Value.cells, V.rep, Value.oneCell'] using h')
        | (obtain ⟨p, rfl, _⟩ := h; simpa [D.cells, Value.cells, V.rep, Value.oneCell'] using h')
        | (obtain ⟨u, rfl, _⟩ := h; simpa [D.cells, Value.cells, V.rep, Value.oneCell'] using h')
  | agg l' =>
    simp only [V.cells?, Option.some.injEq] at hl
    subst hl
    unfold V.rep at h
    obtain ⟨vs, rfl, h1, h2⟩ := h
    simpa [Value.cells] using ⟨h2, h1⟩
  | tup l' => simp [V.cells?] at hl
  | junk => simp [V.cells?] at hl
  | p n off =>
    simp only [V.cells?, Option.some.injEq] at hl
    subst hl
    have h' := h
    unfold V.rep at h
    obtain ⟨b, _, rfl⟩ := h
    simpa [Value.cells, Value.oneCell'] using h'
  | row n off len =>
    simp only [V.cells?, Option.some.injEq] at hl
    subst hl
    have h' := h
    unfold V.rep at h
    obtain ⟨b, o, cap, _, rfl, _⟩ := h
    simpa [Value.cells, Value.oneCell'] using h'
  | own n s len =>
    simp only [V.cells?, Option.some.injEq] at hl
    subst hl
    have h' := h
    unfold V.rep at h
    obtain ⟨b, t, z, cap, _, _, _, rfl, _⟩ := h
    simpa [Value.cells, Value.oneCell'] using h'
  | ia l' off =>
    simp only [V.cells?, Option.some.injEq] at hl
    subst hl
    have h' := h
    unfold V.rep at h
    obtain ⟨b, o, rfl, _⟩ := h
    simpa [Value.cells, Value.oneCell'] using h'
  | fn f caps =>
    simp only [V.cells?, Option.some.injEq] at hl
    subst hl
    have h' := h
    unfold V.rep at h
    obtain ⟨vs, rfl, _⟩ := h
    simpa [Value.cells, Value.oneCell'] using h'

def V.toDs : List V → Option (List D)
  | [] => some []
  | .d x :: l => (V.toDs l).map (x :: ·)
  | _ :: _ => none
/-- A struct of cells. -/
def mkAgg (l : List V) : V := match V.toDs l with
  | some ds => .d (.agg ds)
  | none => .agg l
theorem V.toDs_eq : ∀ {l : List V} {ds : List D}, V.toDs l = some ds → l = ds.map .d
  | [], ds, h => by cases h; rfl
  | .d x :: l, ds, h => by
    simp only [V.toDs, Option.map_eq_some_iff] at h
    obtain ⟨r, h1, rfl⟩ := h
    simp [V.toDs_eq h1]
  | .agg _ :: _, _, h | .tup _ :: _, _, h | .p .. :: _, _, h | .row .. :: _, _, h | .own .. :: _, _, h | .ia .. :: _, _, h | .fn .. :: _, _, h | .junk :: _, _, h => by simp [V.toDs] at h
theorem mkAgg_rep {m : Mem} {l : List V} {vs : List Value} (h : V.reps m l vs) (h1 : ∀ u ∈ vs, u.oneCell' = true) : (mkAgg l).rep m (.agg vs.toArray) := by
  unfold mkAgg
  split
  · rename_i ds hd
    rw [V.toDs_eq hd, V.reps_map_d] at h
    unfold V.rep D.rep
    exact ⟨vs, rfl, h1, h⟩
  · unfold V.rep; exact ⟨vs, rfl, h1, h⟩
@[simp] theorem mkAgg_map (l : List D) : mkAgg (l.map .d) = .d (.agg l) := by
  have : V.toDs (l.map .d) = some l := by induction l <;> simp_all [V.toDs]
  simp [mkAgg, this]

def setMany (l : List V) (off : Nat) : List V → List V
  | [] => l
  | x :: r => setMany (l.set off x) (off + 1) r
theorem setMany_length (l : List V) (off : Nat) (c : List V) : (setMany l off c).length = l.length := by
  induction c generalizing l off with
  | nil => rfl
  | cons x r ih => simp [setMany, ih]

def live (H : List (Option Ob)) (n : Nat) : Prop := (H.getD n none).isSome = true

/-- What became of the memory by an operation. -/
structure OpPost (m : Mem) (H H' : List (Option Ob)) (wr : List Nat) (x : V) (v : Value) (m' : Mem) : Prop where
  base : m'.base
  le : m.le m' (· ∈ wr)
  rep : x.rep m' v
  obj : ∀ n ∈ wr, ∀ ob, H'.getD n none = some ob → m'.obj n ob
  keep : ∀ n, n ∉ wr → m'.ρ n = m.ρ n
  at_ : ∀ n ∈ wr, live H' n → ∃ b, m'.ρ n = some b ∧ (m.w.heap.size ≤ b ∨ ∃ k ∈ wr, live H k ∧ m.ρ k = some b)
  inj : ∀ n ∈ wr, ∀ k ∈ wr, live H' n → live H' k → m'.ρ n = m'.ρ k → n = k

structure StepOK (P : Program) (o : Oper) (S : List Nat) (T : List V) (H : List (Option Ob)) (x : V) (H' : List (Option Ob)) (rd wr : List Nat) : Prop where
  same : ∀ n, n ∉ wr → H'.getD n none = H.getD n none
  len : H.length ≤ H'.length
  lt : ∀ n ∈ wr, n < H'.length
  wlive : ∀ n ∈ wr, live H n ∨ H.length ≤ n
  run : ∀ (m : Mem) (a : Act), m.base → Slots m a T S → (∀ n, n ∈ rd ∨ n ∈ wr → ∀ ob, H.getD n none = some ob → m.obj n ob) →
    (∀ n ∈ wr, H.length ≤ n → m.ρ n = none) → (∀ n ∈ wr, ∀ k ∈ wr, live H n → live H k → m.ρ n = m.ρ k → n = k) →
    ∀ K Q, (∀ v m', OpPost m H H' wr x v m' → K (a.put o.dst v) m'.w) → o.wp P a m.w K Q

theorem StepOK.val {P : Program} {o : Oper} {S : List Nat} {T : List V} {H : List (Option Ob)} {x : V} {rd : List Nat}
    (h : ∀ (m : Mem) (a : Act), m.base → Slots m a T S → (∀ n ∈ rd, ∀ ob, H.getD n none = some ob → m.obj n ob) → ∃ v, (execOp a.eval o).run P m.w = .ok (.value v) m.w ∧ x.rep m v) : StepOK P o S T H x H rd [] where
  same := fun _ _ => rfl
  len := Nat.le_refl _
  lt := by simp
  wlive := by simp
  run := by
    intro m a hb hs ho hf _ K Q hK
    obtain ⟨v, hr, hx⟩ := h m a hb hs (fun n hn => ho n (.inl hn))
    unfold Oper.wp
    rw [hr]
    exact hK v m ⟨hb, Mem.le.refl _ _, hx, by simp, fun _ _ => rfl, by simp, by simp⟩

theorem shape_alloc {w : World} {o : Obj} {b : Nat} (h : b < w.heap.size) : (w.alloc o).shape? b = w.shape? b := by
  unfold World.shape?; rw [Below.heap_alloc _ _ _ h]

/-- A new variable. -/
theorem Mem.new {m : Mem} (hb : m.base) (n : Nat) (hn : m.ρ n = none) (o : Ob) (vs : List Value) (h1 : ∀ u ∈ vs, u.oneCell' = true) (hv : V.reps m o.c vs) :
    ∃ m' : Mem, m'.w = m.w.alloc (.cells vs.toArray o.T) ∧ m'.base ∧ m.le m' (· ∈ [n]) ∧ m'.obj n o ∧ (∀ k, k ∉ [n] → m'.ρ k = m.ρ k) ∧ m'.ρ n = some m.w.heap.size := by
  have hle : m.le ⟨fun k => if k = n then some m.w.heap.size else m.ρ k, m.I, m.w.alloc (.cells vs.toArray o.T)⟩ (· ∈ [n]) := by
    refine ⟨fun k b h => ?_, fun _ h => h, rfl, rfl, rfl, by simp, fun b hlt _ => Below.heap_alloc _ _ _ hlt, fun b hlt => shape_alloc hlt, fun b hI => Below.heap_alloc _ _ _ (hb.imm b hI), fun _ h => .inl h, fun k b h => ?_⟩
    · dsimp only
      rw [if_neg (fun e => by subst e; rw [hn] at h; cases h)]; exact h
    · dsimp only at h
      split at h
      · cases h; exact .inr (.inl (Nat.le_refl _))
      · exact .inl h
  refine ⟨⟨fun k => if k = n then some m.w.heap.size else m.ρ k, m.I, m.w.alloc (.cells vs.toArray o.T)⟩, rfl, ⟨fun b h => Nat.lt_of_lt_of_le (hb.imm b h) (by simp), fun k b h => ?_⟩, hle, ⟨m.w.heap.size, vs, [], by simp, by rw [List.append_nil]; exact heap_alloc_new _ _, h1, V.reps_mono hle _ _ hv, fun h => by have := hb.imm _ h; omega⟩, fun k hk => by simp at hk; simp [hk], by simp⟩
  dsimp only at h ⊢
  split at h
  · cases h; simp
  · exact Nat.lt_of_lt_of_le (hb.dom k b h) (by simp)

theorem StepOK.new {P : Program} {o : Oper} {S : List Nat} {T : List V} {H : List (Option Ob)} {x : V} (ob : Ob) {rd : List Nat}
    (h : ∀ (m : Mem) (a : Act), m.base → Slots m a T S → (∀ n ∈ rd, ∀ ob, H.getD n none = some ob → m.obj n ob) → ∃ vs : List Value, (∀ u ∈ vs, u.oneCell' = true) ∧ V.reps m ob.c vs ∧ ∃ v, (execOp a.eval o).run P m.w = .ok (.value v) (m.w.alloc (.cells vs.toArray ob.T)) ∧ ∀ m' : Mem, m'.ρ H.length = some m.w.heap.size → m'.w = m.w.alloc (.cells vs.toArray ob.T) → x.rep m' v) :
    StepOK P o S T H x (H ++ [some ob]) rd [H.length] where
  same := fun n hn => by
    simp at hn
    rw [List.getD_eq_getElem?_getD, List.getD_eq_getElem?_getD]
    rcases Nat.lt_or_gt_of_ne hn with h | h
    · rw [List.getElem?_append_left h]
    · rw [List.getElem?_eq_none (by simp; omega), List.getElem?_eq_none (by omega)]
  len := by simp
  lt := by simp
  wlive := by simp
  run := by
    intro m a hb hs ho hf _ K Q hK
    obtain ⟨vs, h1, hv, v, hr, hx⟩ := h m a hb hs (fun n hn => ho n (.inl hn))
    obtain ⟨m', hw, hb', hle, hob, hk, hρ⟩ := Mem.new hb H.length (hf _ (by simp) (Nat.le_refl _)) ob vs h1 hv
    unfold Oper.wp
    rw [hr, ← hw]
    refine hK v m' ⟨hb', hle, hx m' hρ hw, fun n hn ob' h' => ?_, hk, fun n hn _ => ?_, fun n hn k hk _ _ _ => ?_⟩
    · simp at hn; subst hn
      rw [List.getD_eq_getElem?_getD, List.getElem?_append_right (Nat.le_refl _), Nat.sub_self] at h'
      cases h'; exact hob
    · simp at hn; subst hn; exact ⟨_, hρ, .inl (Nat.le_refl _)⟩
    · simp at hn hk; omega


end
end Go.Proofs.Ytakjegcjeffmgaa.Am

namespace Go.Proofs.Ytakjegcjeffmgaa.Am
section
open Go.RowKit
set_option linter.unusedVariables false
set_option linter.unusedSimpArgs false

/-- Operations, their types resolved. -/
inductive A where
  | mv (x : X)
  | pick (c a b : X)
  | new (e : Nat) (z : List D)
  | box (e : Nat) (x : X)
  | build (z : List D) (ps : List (Nat × Nat × X))
  | bsl (e s n : Nat) (z : List D) (ps : List (Nat × Nat × X))
  | load (g : Bool) (s : Nat) (x : X)
  | store (s : Nat) (x y : X)
  | chk (x : X)
  | bin (op : BinOp) (x y : X)
  | beq (neg : Bool) (x y : X)
  | un (op : UnOp) (x : X)
  | conv (k : IntKind) (x : X)
  | cstr (x : X)
  | ifc (t : Nat) (x : X)
  | mkf (f : Fn) (cs : List X)
  | mksl (e s bytes : Nat) (z : List D) (n c : X)
  | slice (s : Nat) (x : X) (lo hi mx : Option X)
  | fa (off : Nat) (x : X)
  | fld (g : Bool) (off s : Nat) (x : X)
  | ix (s : Nat) (x i : X)
  | ext (x : X) (i : Nat)
  | call (f : Nat) (xs : List X)
  | callv (f : X) (xs : List X)
  | inv (r : X) (name : String) (xs : List X)
  | len (x : X)
  | lens (x : X)
  | mm (mx : Bool) (xs : List X)
  | app (e s bytes : Nat) (x y : X)
  | bsl0
  | ixa (n s : Nat) (x i : X)
  | gstr (x i : X)
  | sstr (x : X) (lo hi : Option X)
  | cpy (s : Nat) (x y : X)
  | snl (neg : Bool) (x : X)
  | inl (neg : Bool) (x : X)
  | pnl (neg : Bool) (x : X)
  | aeq (neg : Bool) (ks : List Nat) (x y : X)
  | bad
  deriving Inhabited

/-- is it a struct or an array? -/
def aggB (P : Program) (t : TypeId) : Option Bool := (P.underlying t).map fun
  | .struct _ | .array _ _ => true
  | _ => false

def zeroOf (P : Program) (t : TypeId) : Option (List D) := (P.info? t).bind fun i => i.zero.bind fun z => D.ofs z.cells.toList
def fieldsOf (P : Program) (fs : Array Field) : Option (List (Nat × Nat)) := fs.toList.mapM (fun f => (P.info? f.type).map fun i => (f.offset, i.size))
def partsOf (places : List (Nat × Nat)) : List (Nat × Operand) → Option (List (Nat × Nat × X))
  | [] => some []
  | (i, y) :: r => match places[i]?, partsOf places r with
    | some (o, s), some l => some ((o, s, X.of y) :: l)
    | _, _ => none

/-- the kinds of fields that are numbers, bools or texts, one cell each -/
def flatK (P : Program) : Nat → List Field → Option (List Nat)
  | _, [] => some []
  | i, f :: r => if f.offset = i ∧ f.name ≠ "_" ∧ aggB P f.type = some false then
      match P.underlying f.type, flatK P (i + 1) r with
      | some (.int _), some l => some (0 :: l)
      | some .bool, some l => some (1 :: l)
      | _, _ => none
    else none

def rEq (P : Program) (op : BinOp) (t : TypeId) (x y : Operand) : A :=
  match P.underlying t with
  | some (.int _) | some .string => .bin op (X.of x) (X.of y)
  | some .bool => .beq (op == .neq) (X.of x) (X.of y)
  | some (.slice _) => match y with
    | .const (.slice none _ _) => .snl (op == .neq) (X.of x)
    | _ => .bad
  | some (.interface _) => match y with
    | .const .nilIface => .inl (op == .neq) (X.of x)
    | _ => .bad
  | some (.pointer _) => match y with
    | .const (.pointer none) => .pnl (op == .neq) (X.of x)
    | _ => .bad
  | some (.struct fs) => match P.stoodInHeld t, P.eqGuardType P.depth t, flatK P 0 fs.toList with
    | false, false, some ks => .aeq (op == .neq) ks (X.of x) (X.of y)
    | _, _, _ => .bad
  | _ => .bad

def rBin (P : Program) (op : BinOp) (t : TypeId) (x y : Operand) : A :=
  match op with
  | .eql | .neq => rEq P op t x y
  | _ => .bin op (X.of x) (X.of y)

def resolve (P : Program) (o : Oper) : A :=
  match o.op with
  | .move x | .assign x => .mv (X.of x)
  | .pick c a b => .pick (X.of c) (X.of a) (X.of b)
  | .alloc e => match zeroOf P e with
    | some z => .new e z
    | none => .bad
  | .box e x => .box e (X.of x)
  | .build t ps => match P.underlying t, zeroOf P t with
    | some (.struct fs), some z => match fieldsOf P fs with
      | some pl => match partsOf pl ps.toList with
        | some l => .build z l
        | none => .bad
      | none => .bad
    | _, _ => .bad
  | .load t x => match aggB P t, P.info? t with
    | some g, some i => .load g i.size (X.of x)
    | _, _ => .bad
  | .store t x y => match P.info? t with
    | some i => .store i.size (X.of x) (X.of y)
    | none => .bad
  | .nilCheck x => .chk (X.of x)
  | .binOp op t x y _ => rBin P op t x y
  | .unOp op _ x => .un op (X.of x)
  | .convert src dst x => match P.underlying src, P.underlying dst with
    | some (.int _), some (.int k) => .conv k (X.of x)
    | some .string, some .string => .cstr (X.of x)
    | _, _ => .bad
  | .makeInterface t x => match P.underlying t with
    | some (.interface _) | none => .bad
    | some _ => .ifc t (X.of x)
  | .makeFunc fn first caps => if first.size = 0 then .mkf fn (caps.toList.map X.of) else .bad
  | .makeSlice t n c => match P.underlying t with
    | some (.slice e) => match P.info? e with
      | some i => match i.zero with
        | some z => match D.ofs z.cells.toList with
          | some l => if l.length = i.size then .mksl e i.size i.bytes l (X.of n) (X.of c) else .bad
          | none => .bad
        | none => .bad
      | none => .bad
    | _ => .bad
  | .fieldAddr t x f => match P.underlying t with
    | some (.struct fs) => match fs[f]? with
      | some g => match P.info? g.type with
        | some i => if i.size = 0 then .bad else .fa g.offset (X.of x)
        | none => .bad
      | none => .bad
    | _ => .bad
  | .field t x f => match P.underlying t with
    | some (.struct fs) => match fs[f]? with
      | some g => match aggB P g.type, P.info? g.type with
        | some b, some i => .fld b g.offset i.size (X.of x)
        | _, _ => .bad
      | none => .bad
    | _ => .bad
  | .indexAddr t x i => match P.underlying t with
    | some (.slice e) => match P.info? e with
      | some j => .ix j.size (X.of x) (X.of i)
      | none => .bad
    | some (.array n e) => match P.info? e with
      | some j => .ixa n j.size (X.of x) (X.of i)
      | none => .bad
    | _ => .bad
  | .extract x i => .ext (X.of x) i
  | .index t x i => match P.underlying t with
    | some .string => .gstr (X.of x) (X.of i)
    | _ => .bad
  | .slice t x lo hi mx => match P.underlying t with
    | some (.slice e) => match P.info? e with
      | some j => .slice j.size (X.of x) (lo.map X.of) (hi.map X.of) (mx.map X.of)
      | none => .bad
    | some .string => if mx.isNone then .sstr (X.of x) (lo.map X.of) (hi.map X.of) else .bad
    | _ => .bad
  | .buildSlice t n ps => match P.underlying t with
    | some (.slice e) => match P.info? e with
      | some j => match j.zero with
        | some z => if n = 0 ∧ ps.size = 0 then .bsl0 else if n * j.size = 0 ∨ 16777216 < n * j.size then .bad else
          match D.ofs (madeCells z.cells (n * j.size)).toList, partsOf ((List.range n).map fun i => (i * j.size, j.size)) ps.toList with
          | some l, some r => .bsl e j.size n l r
          | _, _ => .bad
        | none => .bad
      | none => .bad
    | _ => .bad
  | .call c => match c.callee with
    | .value (.func f) => .call f (c.args.toList.map X.of)
    | .value f => .callv (X.of f) (c.args.toList.map X.of)
    | .invoke r name => .inv (X.of r) name (c.args.toList.map X.of)
    | .builtin .len => match c.argTypes[0]?.bind P.underlying, c.args[0]? with
      | some .string, some x => .lens (X.of x)
      | some (.slice _), some x => .len (X.of x)
      | _, _ => .bad
    | .builtin .append => match c.argTypes.toList, c.args.toList with
      | [t, u], [x, y] => match P.underlying t, P.underlying u with
        | some (.slice e), some (.slice _) => match P.info? e with
          | some i => match i.zero with
            | some z => if z.cells.size = i.size then .app e i.size i.bytes (X.of x) (X.of y) else .bad
            | none => .bad
          | none => .bad
        | _, _ => .bad
      | _, _ => .bad
    | .builtin .copy => match c.argTypes.toList, c.args.toList with
      | [t, u], [x, y] => match P.underlying t, P.underlying u with
        | some (.slice e), some (.slice _) => match P.info? e with
          | some i => .cpy i.size (X.of x) (X.of y)
          | none => .bad
        | _, _ => .bad
      | _, _ => .bad
    | .builtin .max => .mm true (c.args.toList.map X.of)
    | .builtin .min => .mm false (c.args.toList.map X.of)
    | _ => .bad
  | _ => .bad

/-- p has to be shown, then q -/
def need (p q : Prop) : Prop := p ∧ q
theorem need.of {p q : Prop} (h : p) (k : q) : need p q := ⟨h, k⟩

def fillV : List V → List (Nat × Nat × V) → Option (List V)
  | l, [] => some l
  | l, (o, s, x) :: r => match x.cells? with
    | some c => if c.length = s ∧ o + s ≤ l.length then fillV (setMany l o c) r else none
    | none => none

def binInt (op : BinOp) (k : IntKind) (a : Int) (k' : IntKind) (b : Int) (K : D → Prop) : Prop :=
  match op with
  | .shl => need (0 ≤ b ∧ b ≤ k.bits) (K (.int k (k.wrap (a * 2 ^ b.toNat))))
  | .shr => need (0 ≤ b ∧ b ≤ k.bits) (K (.int k (a / 2 ^ b.toNat)))
  | .add => k = k' ∧ K (.int k (k.wrap (a + b)))
  | .sub => k = k' ∧ K (.int k (k.wrap (a - b)))
  | .mul => k = k' ∧ K (.int k (k.wrap (a * b)))
  | .quo => need (k = k' ∧ b ≠ 0) (K (.int k (k.wrap (a.tdiv b))))
  | .rem => need (k = k' ∧ b ≠ 0) (K (.int k (a.tmod b)))
  | .and => k = k' ∧ K (.int k (bits .and k a b))
  | .or => k = k' ∧ K (.int k (bits .or k a b))
  | .xor => k = k' ∧ K (.int k (bits .xor k a b))
  | .andNot => k = k' ∧ K (.int k (bits .andNot k a b))
  | .eql => k = k' ∧ K (.bool (a == b))
  | .neq => k = k' ∧ K (.bool (a != b))
  | .lss => k = k' ∧ K (.bool (decide (a < b)))
  | .leq => k = k' ∧ K (.bool (decide (a ≤ b)))
  | .gtr => k = k' ∧ K (.bool (decide (b < a)))
  | .geq => k = k' ∧ K (.bool (decide (b ≤ a)))
def binStr (op : BinOp) (a b : ByteArray) (K : D → Prop) : Prop :=
  match op with
  | .add => need (a.size + b.size ≤ 9223372036854775807) (K (.str (a ++ b)))
  | .eql => K (.bool (a.toList == b.toList))
  | .neq => K (.bool (!(a.toList == b.toList)))
  | _ => False

def intOf? : V → Option Int
  | .d (.int _ n) => some n
  | _ => none
def repl (n : Nat) : List D → List V
  | [x] => List.replicate n (.d x)
  | z => (List.replicate n (z.map V.d)).flatten

/-- the bounds of a slice -/
def bnd (T : List V) (n : Int) : Option X → Option Int
  | none => some n
  | some x => intOf? (x.ev T)

def minmaxR (mx : Bool) (k : IntKind) (n : Int) : List V → Option (IntKind × Int)
  | [] => some (k, n)
  | .d (.int k' m) :: r => if k = k' then minmaxR mx k (if mx then max n m else min n m) r else none
  | _ => none
def minmaxI (mx : Bool) : List V → Option (IntKind × Int)
  | .d (.int k n) :: r => minmaxR mx k n r
  | _ => none

def sliceS (s : Nat) (x : V) (a b : Option Int) (mx : Option (Option Int)) (K : V → Prop) : Prop :=
  match x, a, b, mx with
  | .d (.sl n l), some a, some b, none => need (0 ≤ a ∧ a ≤ b ∧ b ≤ n) (K (.d (.sl (b - a).toNat ((l.drop (a.toNat * s)).take ((b - a).toNat * s)))))
  | .d (.sl n l), some a, some b, some (some c) => need (0 ≤ a ∧ a ≤ b ∧ b ≤ c ∧ c ≤ n) (if a = 0 ∧ c = 0 then K (.d .sl0) else K (.d (.sl (b - a).toNat ((l.drop (a.toNat * s)).take ((b - a).toNat * s)))))
  | .own m s' n, some a, some b, none => need (s' = s ∧ 0 ≤ a ∧ a ≤ b ∧ b ≤ n) (K (.row m (a.toNat * s) (b - a).toNat))
  | .row m o n, some a, some b, none => need (0 ≤ a ∧ a ≤ b ∧ b ≤ n) (K (.row m (o + a.toNat * s) (b - a).toNat))
  | .d .nilsl, some a, some b, none => need (a = 0 ∧ b = 0) (K (.d .nilsl))
  | _, _, _, _ => False
def lenV : V → Option Int
  | .d (.sl n _) => some n
  | .d .nilsl => some 0
  | .d .sl0 => some 0
  | .d .sle => some 0
  | .own _ _ n => some n
  | .row _ _ n => some n
  | _ => none

/-- the cells of a slice -/
def srcV (s : Nat) (H : List (Option Ob)) : V → Option (Nat × List V × List Nat)
  | .d (.sl k l) => some (k, l.map .d, [])
  | .d .nilsl | .d .sl0 => some (0, [], [])
  | .d .sle => some (0, [], [])
  | .own n s' k => if s' = s then (H.getD n none).map fun ob => (k, ob.c.take (k * s), [n]) else none
  | .row n off k => (H.getD n none).map fun ob => (k, (ob.c.drop off).take (k * s), [n])
  | _ => none
/-- where a slice's cells lie -/
def dstV (s : Nat) : V → Option (Nat × Nat × Nat)
  | .own n s' q => if s' = s then some (n, 0, q) else none
  | .row n off q => some (n, off, q)
  | _ => none
def eqK : Nat → D → D → Option Bool
  | 0, .int k a, .int k' b => if k = k' then some (a == b) else none
  | 1, .bool a, .bool b => some (a == b)
  | _, _, _ => none
def eqKs : List Nat → List D → List D → Option Bool
  | [], [], [] => some true
  | k :: ks, x :: l, y :: r => match eqK k x y, eqKs ks l r with
    | some a, some b => some (a && b)
    | _, _ => none
  | _, _, _ => none

def X.slotss (l : List X) : List Nat := l.flatMap X.slots
def optS : Option X → List Nat
  | some x => x.slots
  | none => []
def A.slots : A → List Nat
  | .mv x | .box _ x | .load _ _ x | .chk x | .un _ x | .conv _ x | .cstr x | .ifc _ x | .fa _ x | .fld _ _ _ x | .ext x _ | .len x | .lens x | .snl _ x | .inl _ x | .pnl _ x => x.slots
  | .pick c a b => c.slots ++ (a.slots ++ b.slots)
  | .new .. | .bad | .bsl0 => []
  | .build _ ps | .bsl _ _ _ _ ps => ps.flatMap fun p => p.2.2.slots
  | .store _ x y | .bin _ x y | .beq _ x y | .app _ _ _ x y | .cpy _ x y | .aeq _ _ x y | .mksl _ _ _ _ x y | .ix _ x y | .ixa _ _ x y | .gstr x y => x.slots ++ y.slots
  | .mkf _ xs | .call _ xs | .mm _ xs => X.slotss xs
  | .callv x xs | .inv x _ xs => x.slots ++ X.slotss xs
  | .slice _ x a b c => x.slots ++ (optS a ++ (optS b ++ optS c))
  | .sstr x a b => x.slots ++ (optS a ++ optS b)


end
end Go.Proofs.Ytakjegcjeffmgaa.Am

namespace Go.Proofs.Ytakjegcjeffmgaa.Am
section
open Go.RowKit
set_option linter.unusedVariables false
set_option linter.unusedSimpArgs false

/- Contracts of functions. -/

mutual
/-- the same value, of other names -/
def V.ren (θ : Nat → Nat) : V → V
  | .d x => .d x
  | .agg l => .agg (V.rens θ l)
  | .tup l => .tup (V.rens θ l)
  | .p n off => .p (θ n) off
  | .row n off len => .row (θ n) off len
  | .own n s len => .own (θ n) s len
  | .ia l off => .ia l off
  | .fn f caps => .fn f (V.rens θ caps)
  | .junk => .junk
def V.rens (θ : Nat → Nat) : List V → List V
  | [] => []
  | x :: l => x.ren θ :: V.rens θ l
/-- its names are low k -/
def V.low (k : Nat) : V → Bool
  | .d _ | .ia _ _ | .junk => true
  | .agg l | .tup l | .fn _ l => V.lowl k l
  | .p n _ | .row n _ _ | .own n _ _ => decide (n < k)
def V.lowl (k : Nat) : List V → Bool
  | [] => true
  | x :: l => x.low k && V.lowl k l
end

mutual
theorem V.rep_ren {m m' : Mem} {θ : Nat → Nat} {k : Nat} (hI : m'.I = m.I) (hw : m'.w = m.w) (hρ : ∀ n, n < k → m'.ρ n = m.ρ (θ n)) : ∀ (x : V) (v : Value), x.low k = true → ((x.ren θ).rep m v ↔ x.rep m' v)
  | .d x, v, _ => by simp only [V.ren, V.rep, hI, hw]
  | .agg l, v, h => by
    simp only [V.low] at h
    simp only [V.ren, V.rep]
    exact exists_congr fun vs => and_congr Iff.rfl (and_congr Iff.rfl (V.reps_ren hI hw hρ l vs h))
  | .tup l, v, h => by
    simp only [V.low] at h
    simp only [V.ren, V.rep]
    exact exists_congr fun vs => and_congr Iff.rfl (V.reps_ren hI hw hρ l vs h)
  | .p n off, v, h => by
    simp only [V.low, decide_eq_true_eq] at h
    simp only [V.ren, V.rep, hρ n h]
  | .row n off len, v, h => by
    simp only [V.low, decide_eq_true_eq] at h
    simp only [V.ren, V.rep, hρ n h]
  | .own n s len, v, h => by
    simp only [V.low, decide_eq_true_eq] at h
    simp only [V.ren, V.rep, hρ n h, hw]
  | .ia l off, v, _ => by simp only [V.ren, V.rep, hI, hw]
  | .fn f l, v, h => by
    simp only [V.low] at h
    simp only [V.ren, V.rep]
    exact exists_congr fun vs => and_congr Iff.rfl (V.reps_ren hI hw hρ l vs h)
  | .junk, v, _ => by simp only [V.ren, V.rep]
theorem V.reps_ren {m m' : Mem} {θ : Nat → Nat} {k : Nat} (hI : m'.I = m.I) (hw : m'.w = m.w) (hρ : ∀ n, n < k → m'.ρ n = m.ρ (θ n)) : ∀ (l : List V) (vs : List Value), V.lowl k l = true → (V.reps m (V.rens θ l) vs ↔ V.reps m' l vs)
  | [], vs, _ => by simp only [V.rens, V.reps]
  | x :: l, vs, h => by
    simp only [V.lowl, Bool.and_eq_true] at h
    simp only [V.rens, V.reps]
    exact exists_congr fun v => exists_congr fun r => and_congr Iff.rfl (and_congr (V.rep_ren hI hw hρ x v h.1) (V.reps_ren hI hw hρ l r h.2))
end

/-- What is left at a call's end: the value, the variables 0.. that were handed in, those that are handed out. -/
structure EndOK (m : Mem) (k : Nat) (X : V) (Hs' : List Ob) (dead : List Nat) (v : Value) (m' : Mem) : Prop where
  base : m'.base
  le : m.le m' (· < k)
  rep : X.rep m' v
  obj : ∀ n ob, n ∉ dead → Hs'[n]? = some ob → m'.obj n ob
  inj : ∀ n i b, n ∉ dead → i ∉ dead → n < Hs'.length → i < Hs'.length → m'.ρ n = some b → m'.ρ i = some b → n = i
  top : ∀ n, Hs'.length ≤ n → m'.ρ n = none
  new : ∀ n b, k ≤ n → m'.ρ n = some b → m.w.heap.size ≤ b ∨ ∃ i, i < k ∧ i ∈ dead ∧ m.ρ i = some b

/-- A call of f, of these arguments and variables, comes to X, and to these variables; those of 'dead' are nobody's any more. -/
structure EqnD (P : Program) (f : FuncId) (args : List V) (Hs : List Ob) (X : V) (Hs' : List Ob) (dead : List Nat) : Prop where
  len : Hs.length ≤ Hs'.length
  old : ∀ n ∈ dead, n < Hs.length
  lowx : X.low Hs'.length = true
  lowo : ∀ ob ∈ Hs', V.lowl Hs'.length ob.c = true
  run : ∀ (m : Mem) (vs : List Value), m.base → V.reps m args vs → (∀ n ob, Hs[n]? = some ob → m.obj n ob) →
    (∀ n i b, n < Hs.length → i < Hs.length → m.ρ n = some b → m.ρ i = some b → n = i) → (∀ n, Hs.length ≤ n → m.ρ n = none) →
    (∃ v, (callFunc f vs.toArray).run P m.w = .ok (.value v) m.w ∧ X.rep m v ∧ Hs' = Hs) ∨
    ((callFunc f vs.toArray).run P m.w = .ok (.enter f vs.toArray) m.w ∧ Calls P f vs.toArray m.w fun e w' => ∃ v m', m'.w = w' ∧ e = .returned v ∧ EndOK m Hs.length X Hs' dead v m')

/-- A call of f, of these arguments and variables, comes to X, and to these variables. -/
abbrev Eqn (P : Program) (f : FuncId) (args : List V) (Hs : List Ob) (X : V) (Hs' : List Ob) : Prop := EqnD P f args Hs X Hs' []

/-- what is known of arguments also holds of what is known less of them -/
def Subs (args args' : List V) : Prop := ∀ m vs, V.reps m args vs → V.reps m args' vs
theorem Subs.refl (l : List V) : Subs l l := fun _ _ h => h

def putAll (H : List (Option Ob)) : List Nat → List Ob → List (Option Ob)
  | [], new => H ++ new.map some
  | n :: θ, ob :: r => putAll (H.set n (some ob)) θ r
  | _ :: _, [] => H

/-- variables that are nobody's any more -/
def killAll (H : List (Option Ob)) (θ : List Nat) : List Nat → List (Option Ob)
  | [] => H
  | i :: r => killAll (H.set (θ.getD i 0) none) θ r

def nameOf (θ : List Nat) (L : Nat) (i : Nat) : Nat := if i < θ.length then θ.getD i 0 else L + (i - θ.length)

/- a variable that stays as it is from here on -/
mutual
def V.frz (n s : Nat) (ds : List D) : V → V
  | .own k s' len => if k = n then (if s' = s then .d (.sl len (ds.take (len * s))) else .junk) else .own k s' len
  | .row k off len => if k = n then .d (.sl len ((ds.drop off).take (len * s))) else .row k off len
  | .p k off => if k = n then .ia ds off else .p k off
  | .agg l => .agg (V.frzs n s ds l)
  | .tup l => .tup (V.frzs n s ds l)
  | .fn f l => .fn f (V.frzs n s ds l)
  | .d x => .d x
  | .ia l o => .ia l o
  | .junk => .junk
def V.frzs (n s : Nat) (ds : List D) : List V → List V
  | [] => []
  | x :: l => x.frz n s ds :: V.frzs n s ds l
end

/-- A call, of variables θ. -/
def CallS0 (P : Program) (f : FuncId) (args : List V) (H : List (Option Ob)) (K : V → List (Option Ob) → List Nat → List Nat → Prop) : Prop :=
  ∃ (θ : List Nat) (argsC : List V) (Hs : List Ob) (X : V) (Hs' : List Ob) (dead : List Nat), EqnD P f argsC Hs X Hs' dead ∧ θ.length = Hs.length ∧ θ.Nodup ∧ (∀ n ∈ θ, n < H.length) ∧
    (∀ i ob, Hs[i]? = some ob → V.lowl Hs.length ob.c = true ∧ H.getD (θ.getD i 0) none = some ⟨ob.T, V.rens (nameOf θ H.length) ob.c⟩) ∧
    V.lowl Hs.length argsC = true ∧ Subs args (V.rens (nameOf θ H.length) argsC) ∧
    K (X.ren (nameOf θ H.length)) (killAll (putAll H θ (Hs'.map fun ob => ⟨ob.T, V.rens (nameOf θ H.length) ob.c⟩)) θ dead) [] (θ ++ (List.range (Hs'.length - Hs.length)).map (H.length + ·))

/-- A call; ahead of it a variable may become data. -/
def CallS (P : Program) (f : FuncId) (args : List V) (H : List (Option Ob)) (K : V → List (Option Ob) → List Nat → List Nat → Prop) : Prop :=
  CallS0 P f args H K ∨ ∃ (n s : Nat) (ob : Ob) (ds : List D), H.getD n none = some ob ∧ ob.c = ds.map V.d ∧ CallS0 P f (V.frzs n s ds args) (H.set n none) fun X H' rd wr => K X H' rd (n :: wr)

/-- the method of a name -/
def MethOK (P : Program) (t : TypeId) (name : String) (g : FuncId) : Prop := ∀ (v : Value) (w : World), (method (P.types.size + Made.depth) t v name).run P w = .ok (g, v) w

def hiOf (T : List V) (x : V) (mx : Bool) : Option X → Option Int
  | some h => intOf? (h.ev T)
  | none => if mx then none else lenV x

def A.step (P : Program) (T : List V) (H : List (Option Ob)) (K : V → List (Option Ob) → List Nat → List Nat → Prop) : A → Prop
  | .mv x => K (x.ev T) H [] []
  | .pick c a b => match c.ev T with
    | .d (.bool t) => K (if t then a.ev T else b.ev T) H [] []
    | _ => False
  | .new e z => K (.p H.length 0) (H ++ [some ⟨e, z.map .d⟩]) [] [H.length]
  | .box e x => match (x.ev T).cells? with
    | some c => K (.p H.length 0) (H ++ [some ⟨e, c⟩]) [] [H.length]
    | none => False
  | .build z ps => match fillV (z.map .d) (ps.map fun p => (p.1, p.2.1, p.2.2.ev T)) with
    | some c => K (mkAgg c) H [] []
    | none => False
  | .bsl e s n z ps => match fillV (z.map .d) (ps.map fun p => (p.1, p.2.1, p.2.2.ev T)) with
    | some c => K (.own H.length s n) (H ++ [some ⟨e, c⟩]) [] [H.length]
    | none => False
  | .load g s x => match x.ev T with
    | .p n off => match H.getD n none with
      | some ob => if g then need (off + s ≤ ob.c.length) (K (mkAgg ((ob.c.drop off).take s)) H [n] []) else need (off < ob.c.length) (K (ob.c.getD off .junk) H [n] [])
      | none => False
    | .ia l off => if g then need (off + s ≤ l.length) (K (.d (.agg ((l.drop off).take s))) H [] []) else need (off < l.length) (K (.d (l.getD off default)) H [] [])
    | _ => False
  | .store s x y => match x.ev T, (y.ev T).cells? with
    | .p n off, some c => match H.getD n none with
      | some ob => need (c.length = s ∧ off + s ≤ ob.c.length) (K .junk (H.set n (some ⟨ob.T, setMany ob.c off c⟩)) [] [n])
      | none => False
    | _, _ => False
  | .chk x => match x.ev T with
    | .p n o => K (.p n o) H [] []
    | .ia l o => K (.ia l o) H [] []
    | .fn (.func f) c => K (.fn (.func f) c) H [] []
    | .d (.ifc t d) => K (.d (.ifc t d)) H [] []
    | _ => False
  | .bin op x y => match x.ev T, y.ev T with
    | .d (.int k a), .d (.int k' b) => binInt op k a k' b fun d => K (.d d) H [] []
    | .d (.str a), .d (.str b) => binStr op a b fun d => K (.d d) H [] []
    | _, _ => False
  | .beq neg x y => match x.ev T, y.ev T with
    | .d (.bool a), .d (.bool b) => K (.d (.bool (if neg then a != b else a == b))) H [] []
    | _, _ => False
  | .un op x => match op, x.ev T with
    | .not, .d (.bool b) => K (.d (.bool (!b))) H [] []
    | .neg, .d (.int k n) => K (.d (.int k (k.wrap (0 - n)))) H [] []
    | .xor, .d (.int k n) => K (.d (.int k (bits .xor k (if k.signed then -1 else k.max) n))) H [] []
    | _, _ => False
  | .conv k x => match x.ev T with
    | .d (.int _ n) => K (.d (.int k (k.wrap n))) H [] []
    | _ => False
  | .cstr x => match x.ev T with
    | .d (.str b) => K (.d (.str b)) H [] []
    | _ => False
  | .ifc t x => match x.ev T with
    | .d x => K (.d (.ifc t x)) H [] []
    | _ => False
  | .mkf f cs => K (.fn f (cs.map (X.ev T))) H [] []
  | .mksl e s bytes z n c => match n.ev T, c.ev T with
    | .d (.int _ a), .d (.int _ b) => need (0 ≤ a ∧ a = b ∧ (bytes : Int) * a ≤ 281474976710656 ∧ a ≤ 281474976710656 ∧ 0 < s) (K (.own H.length s a.toNat) (H ++ [some ⟨e, repl a.toNat z⟩]) [] [H.length])
    | _, _ => False
  | .slice s x lo hi mx => sliceS s (x.ev T) (bnd T 0 lo) (hiOf T (x.ev T) mx.isSome hi) (mx.map fun c => intOf? (c.ev T)) fun v => K v H [] []
  | .fa off x => match x.ev T with
    | .p n o => K (.p n (o + off)) H [] []
    | .ia l o => K (.ia l (o + off)) H [] []
    | _ => False
  | .fld g off s x => match x.ev T with
    | .d (.agg l) => if g then need (off + s ≤ l.length) (K (.d (.agg ((l.drop off).take s))) H [] []) else need (off < l.length) (K (.d (l.getD off default)) H [] [])
    | .agg l => if g then need (off + s ≤ l.length) (K (mkAgg ((l.drop off).take s)) H [] []) else need (off < l.length) (K (l.getD off .junk) H [] [])
    | _ => False
  | .ix s x i => match x.ev T, i.ev T with
    | .d (.sl n l), .d (.int _ a) => need (0 ≤ a ∧ a < n ∧ a.toNat * s < l.length) (K (.ia l (a.toNat * s)) H [] [])
    | .own m s' n, .d (.int _ a) => need (0 ≤ a ∧ a < n ∧ s' = s) (K (.p m (a.toNat * s)) H [] [])
    | .row m o n, .d (.int _ a) => need (0 ≤ a ∧ a < n) (K (.p m (o + a.toNat * s)) H [] [])
    | _, _ => False
  | .ext x i => match x.ev T with
    | .tup l => need (i < l.length) (K (l.getD i .junk) H [] [])
    | _ => False
  | .call f xs => CallS P f (xs.map (X.ev T)) H K
  | .callv f xs => match f.ev T with
    | .fn (.func g) caps => CallS P g (xs.map (X.ev T) ++ caps) H K
    | _ => False
  | .inv r name xs => match r.ev T with
    | .d (.ifc t d) => ∃ g, MethOK P t name g ∧ CallS P g (.d d :: xs.map (X.ev T)) H K
    | _ => False
  | .len x => match lenV (x.ev T) with
    | some n => K (.d (.int .i64 n)) H [] []
    | none => False
  | .lens x => match x.ev T with
    | .d (.str s) => K (.d (.int .i64 s.size)) H [] []
    | _ => False
  | .mm mx xs => match minmaxI mx (xs.map (X.ev T)) with
    | some (k, n) => K (.d (.int k n)) H [] []
    | none => False
  | .app e s bytes x y => match srcV s H (y.ev T) with
    | some (k, c, rd) => match x.ev T with
      | .d .nilsl => if k = 0 then need (c.length = 0) (K (.d .nilsl) H rd []) else need (0 < s ∧ 0 < bytes ∧ c.length = k * s ∧ k * bytes ≤ 140737488355328) (K (.own H.length s k) (H ++ [some ⟨e, c⟩]) rd [H.length])
      | .d .sl0 => if k = 0 then need (c.length = 0) (K (.d .sl0) H rd []) else need (0 < s ∧ 0 < bytes ∧ c.length = k * s ∧ k * bytes ≤ 140737488355328) (K (.own H.length s k) (H ++ [some ⟨e, c⟩]) rd [H.length])
      | .own n s' q => match H.getD n none with
        | some ob => need (s' = s ∧ 0 < s ∧ 0 < bytes ∧ ob.T = e ∧ ob.c.length = q * s ∧ c.length = k * s ∧ (q + k) * bytes ≤ 140737488355328) (K (.own H.length s (q + k)) (H.set n none ++ [some ⟨e, ob.c ++ c⟩]) rd [n, H.length])
        | none => False
      | _ => False
    | none => False
  | .cpy s x y => match srcV s H (y.ev T), dstV s (x.ev T) with
    | some (k, c, rd), some (n, off, q) => match H.getD n none with
      | some ob => need (k ≤ q ∧ c.length = k * s ∧ off + k * s ≤ ob.c.length) (K (.d (.int .i64 k)) (H.set n (some ⟨ob.T, setMany ob.c off c⟩)) rd [n])
      | none => False
    | _, _ => False
  | .bsl0 => K (.d .sl0) H [] []
  | .ixa n s x i => match x.ev T, i.ev T with
    | .p m o, .d (.int _ a) => need (0 ≤ a ∧ a < n) (K (.p m (o + a.toNat * s)) H [] [])
    | .ia l o, .d (.int _ a) => need (0 ≤ a ∧ a < n) (K (.ia l (o + a.toNat * s)) H [] [])
    | _, _ => False
  | .gstr x i => match x.ev T, i.ev T with
    | .d (.str b), .d (.int _ a) => need (0 ≤ a ∧ a.toNat < b.size) (K (.d (.int .u8 (b.data.toList.getD a.toNat 0).toNat)) H [] [])
    | _, _ => False
  | .sstr x lo hi => match x.ev T with
    | .d (.str s) => match bnd T 0 lo, bnd T s.size hi with
      | some a, some b => need (0 ≤ a ∧ a ≤ b ∧ b ≤ s.size) (K (.d (.str (s.extract a.toNat b.toNat))) H [] [])
      | _, _ => False
    | _ => False
  | .snl neg x => match x.ev T with
    | .d .nilsl => K (.d (.bool (!neg))) H [] []
    | .d (.sl n _) => need (0 < n) (K (.d (.bool neg)) H [] [])
    | .own _ _ _ => K (.d (.bool neg)) H [] []
    | .d .sle => K (.d (.bool neg)) H [] []
    | .row _ _ _ => K (.d (.bool neg)) H [] []
    | _ => False
  | .inl neg x => match x.ev T with
    | .d .nilifc => K (.d (.bool (!neg))) H [] []
    | .d (.ifc _ _) => K (.d (.bool neg)) H [] []
    | _ => False
  | .pnl neg x => match x.ev T with
    | .d .nilp => K (.d (.bool (!neg))) H [] []
    | .p _ _ => K (.d (.bool neg)) H [] []
    | _ => False
  | .aeq neg ks x y => match x.ev T, y.ev T with
    | .d (.agg l), .d (.agg r) => match eqKs ks l r with
      | some b => K (.d (.bool (if neg then !b else b))) H [] []
      | none => False
    | _, _ => False
  | .bad => False


end
end Go.Proofs.Ytakjegcjeffmgaa.Am

namespace Go.Proofs.Ytakjegcjeffmgaa.Am
section
open Go.RowKit
set_option linter.unusedVariables false
set_option linter.unusedSimpArgs false

section
variable {P : Program} {o : Oper} {T : List V} {H : List (Option Ob)}

theorem cell_pre {w : World} {b : Nat} {vs more : List Value} {t : TypeId} {f : Nat × Nat} (h : w.heap[b]? = some (.cells (vs ++ more).toArray t f)) {i : Nat} {u : Value} (hu : vs[i]? = some u) : w.cell? ⟨b, i, none⟩ = some u := by
  have hi : i < vs.length := by
    rcases Nat.lt_or_ge i vs.length with h | h
    · exact h
    · rw [List.getElem?_eq_none h] at hu; cases hu
  simp [World.cell?, h, List.getElem?_append_left hi, hu]

theorem ok_mv (x : Operand) (ho : o.op = .move x ∨ o.op = .assign x) : StepOK P o (X.of x).slots T H ((X.of x).ev T) H [] [] :=
  StepOK.val fun m a hb hs _ => ⟨a.eval x, by rcases ho with ho | ho <;> simp [execOp, ho], X.rep hs x (fun _ h => h)⟩

theorem D.rep_bool {I : Nat → Prop} {w : World} {b : Bool} {v : Value} : D.rep I w (.bool b) v ↔ v = .bool b := by unfold D.rep; exact Iff.rfl
theorem D.rep_int {I : Nat → Prop} {w : World} {k : IntKind} {n : Int} {v : Value} : D.rep I w (.int k n) v ↔ v = .int k n := by unfold D.rep; exact Iff.rfl
theorem D.rep_str {I : Nat → Prop} {w : World} {s : ByteArray} {v : Value} : D.rep I w (.str s) v ↔ v = .string s := by unfold D.rep; exact Iff.rfl
theorem V.rep_d {m : Mem} {x : D} {v : Value} : (V.d x).rep m v ↔ x.rep m.I m.w v := by unfold V.rep; exact Iff.rfl
theorem V.rep_bool {m : Mem} {b : Bool} {v : Value} : (V.d (.bool b)).rep m v ↔ v = .bool b := by rw [V.rep_d, D.rep_bool]
theorem V.rep_int {m : Mem} {k : IntKind} {n : Int} {v : Value} : (V.d (.int k n)).rep m v ↔ v = .int k n := by rw [V.rep_d, D.rep_int]
theorem V.rep_str {m : Mem} {s : ByteArray} {v : Value} : (V.d (.str s)).rep m v ↔ v = .string s := by rw [V.rep_d, D.rep_str]

theorem sub_l {m : Mem} {a : Act} {S1 S2 : List Nat} (h : Slots m a T (S1 ++ S2)) : Slots m a T S1 := fun s hs => h s (by simp [hs])
theorem sub_r {S1 S2 : List Nat} {m : Mem} {a : Act} (h : Slots m a T (S1 ++ S2)) : Slots m a T S2 := fun s hs => h s (by simp [hs])
theorem X.rep' {m : Mem} {a : Act} {y : Operand} {x : V} (h : Slots m a T (X.of y).slots) (e : (X.of y).ev T = x) : x.rep m (a.eval y) := e ▸ X.rep h y (fun _ h => h)

theorem ok_pick (c x y : Operand) (t : Bool) (ho : o.op = .pick c x y) (hc : (X.of c).ev T = .d (.bool t)) :
    StepOK P o ((X.of c).slots ++ ((X.of x).slots ++ (X.of y).slots)) T H (if t then (X.of x).ev T else (X.of y).ev T) H [] [] :=
  StepOK.val fun m a hb hs _ => by
    have h1 := V.rep_bool.1 (X.rep' (sub_l hs) hc)
    refine ⟨if t then a.eval x else a.eval y, by simp [execOp, ho, h1, asBool], ?_⟩
    cases t
    · exact X.rep' (sub_r (sub_r hs)) rfl
    · exact X.rep' (sub_l (sub_r hs)) rfl

theorem zero_run {e : TypeId} {z : List D} (h : zeroOf P e = some z) : ∃ v : Value, (∀ w, (zeroValue e).run P w = .ok v w) ∧ D.ofs v.cells.toList = some z := by
  unfold zeroOf at h
  cases hi : P.info? e with
  | none => simp [hi] at h
  | some i =>
    cases hz : i.zero with
    | none => simp [hi, hz] at h
    | some v => exact ⟨v, fun w => by simp [zeroValue, typeInfo, hi, hz], by simpa [hi, hz] using h⟩

theorem ok_new (e : TypeId) (z : List D) (ho : o.op = .alloc e) (hz : zeroOf P e = some z) : StepOK P o [] T H (.p H.length 0) (H ++ [some ⟨e, z.map .d⟩]) [] [H.length] :=
  StepOK.new ⟨e, z.map .d⟩ fun m a hb hs _ => by
    obtain ⟨v, hv, hd⟩ := zero_run hz
    obtain ⟨h1, h2⟩ := D.ofs_rep m.I m.w hd
    refine ⟨v.cells.toList, h2, V.reps_map_d.2 h1, .pointer (some ⟨m.w.heap.size, 0, none⟩), ?_, fun m' hρ _ => ?_⟩
    · simp [execOp, ho, Instr.alloc, hv, newVar, newRow]
    · unfold V.rep; exact ⟨_, hρ, rfl⟩

theorem ok_box (e : TypeId) (x : Operand) (c : List V) (ho : o.op = .box e x) (hc : ((X.of x).ev T).cells? = some c) : StepOK P o (X.of x).slots T H (.p H.length 0) (H ++ [some ⟨e, c⟩]) [] [H.length] :=
  StepOK.new ⟨e, c⟩ fun m a hb hs _ => by
    obtain ⟨h1, h2⟩ := V.cells_rep hc (X.rep' hs rfl)
    refine ⟨(a.eval x).cells.toList, h2, h1, .pointer (some ⟨m.w.heap.size, 0, none⟩), ?_, fun m' hρ _ => ?_⟩
    · simp [execOp, ho, Instr.box, newVar, newRow]
    · unfold V.rep; exact ⟨_, hρ, rfl⟩

theorem agg_run {t : TypeId} {g : Bool} (h : aggB P t = some g) (w : World) : (isAgg t).run P w = .ok g w := by
  unfold aggB at h
  cases hu : P.underlying t with
  | none => simp [hu] at h
  | some d =>
    simp [hu] at h
    simp [isAgg, run_underlying hu]
    cases d <;> simp_all

theorem size_run {t : TypeId} {i : TypeInfo} (h : P.info? t = some i) (w : World) : (sizeOf t).run P w = .ok i.size w := by simp [sizeOf, typeInfo, h]

/-- a load of cells that are known -/
theorem load_cells {m : Mem} {t : TypeId} {i : TypeInfo} {g : Bool} (hg : aggB P t = some g) (hi : P.info? t = some i) (b off : Nat) (vs : List Value) (hc : ∀ j u, vs[j]? = some u → m.w.cell? ⟨b, off + j, none⟩ = some u) :
    (g = true → vs.length = i.size → (Instr.loadAt t (.pointer (some ⟨b, off, none⟩))).run P m.w = .ok (.agg vs.toArray) m.w) ∧ (g = false → ∀ u, vs[0]? = some u → (Instr.loadAt t (.pointer (some ⟨b, off, none⟩))).run P m.w = .ok u m.w) := by
  constructor
  · rintro rfl hl
    have := run_loadCells_list (P := P) m.w ⟨b, off, none⟩ vs (fun j u hu => by rw [Addr.add_lit]; exact hc j u hu)
    simp only [Instr.loadAt, Instr.sureAddr, loadVar, Sem.run_bind, Sem.run_pure, Result.andThen_ok, agg_run hg, size_run hi, ← hl, this, if_true]
  · rintro rfl u hu
    have := hc 0 u hu
    rw [Nat.add_zero] at this
    simp [Instr.loadAt, Instr.sureAddr, loadVar, agg_run hg, this]

theorem seg_get {α : Type} {l : List α} {off s j : Nat} {x : α} (h : ((l.drop off).take s)[j]? = some x) : l[off + j]? = some x := by
  rw [List.getElem?_take] at h
  split at h
  · rwa [List.getElem?_drop] at h
  · cases h

theorem ok_load_p (t : TypeId) (x : Operand) (i : TypeInfo) (g : Bool) (n off : Nat) (ob : Ob) (ho : o.op = .load t x) (hg : aggB P t = some g) (hi : P.info? t = some i) (hx : (X.of x).ev T = .p n off) (hn : H.getD n none = some ob) :
    (g = true → off + i.size ≤ ob.c.length → StepOK P o (X.of x).slots T H (mkAgg ((ob.c.drop off).take i.size)) H [n] []) ∧
    (g = false → off < ob.c.length → StepOK P o (X.of x).slots T H (ob.c.getD off .junk) H [n] []) := by
  refine ⟨fun hgt hl => StepOK.val fun m a hb hs hob => ?_, fun hgt hl => StepOK.val fun m a hb hs hob => ?_⟩
  all_goals
    obtain ⟨b, vs, more, h1, h2, h3, h4, h5⟩ := hob n (by simp) ob hn
    have hv := X.rep' hs hx
    unfold V.rep at hv
    obtain ⟨b', hb', hv⟩ := hv
    rw [h1] at hb'; cases hb'
  · have hlen := V.reps_len h4
    have := (load_cells (m := m) hg hi b off ((vs.drop off).take i.size) fun j u hu => cell_pre h2 (seg_get hu)).1 hgt (by simp; omega)
    refine ⟨_, by simp [execOp, ho, hv, this], mkAgg_rep (V.reps_take (V.reps_drop h4 off) i.size) fun u hu => h3 u (List.mem_of_mem_drop (List.mem_of_mem_take hu))⟩
  · obtain ⟨u, hu, hr⟩ := V.reps_get h4 off ob.c[off] (by simp [hl])
    have := (load_cells (m := m) hg hi b off (vs.drop off) fun j u hu => cell_pre h2 (by rwa [List.getElem?_drop] at hu)).2 hgt u (by rw [List.getElem?_drop]; exact hu)
    exact ⟨u, by simp [execOp, ho, hv, this], by simpa [List.getD, hl] using hr⟩

theorem ok_load_ia (t : TypeId) (x : Operand) (i : TypeInfo) (g : Bool) (l : List D) (off : Nat) (ho : o.op = .load t x) (hg : aggB P t = some g) (hi : P.info? t = some i) (hx : (X.of x).ev T = .ia l off) :
    (g = true → off + i.size ≤ l.length → StepOK P o (X.of x).slots T H (.d (.agg ((l.drop off).take i.size))) H [] []) ∧
    (g = false → off < l.length → StepOK P o (X.of x).slots T H (.d (l.getD off default)) H [] []) := by
  refine ⟨fun hgt hl => StepOK.val fun m a hb hs hob => ?_, fun hgt hl => StepOK.val fun m a hb hs hob => ?_⟩
  all_goals
    have hv := X.rep' hs hx
    unfold V.rep at hv
    obtain ⟨b, o', hv, hI, vs, h3, h4, h5⟩ := hv
  · have hlen := D.reps_len h4
    have := (load_cells (m := m) hg hi b (o' + off) ((vs.drop off).take i.size) fun j u hu => by rw [Nat.add_assoc]; exact h5 _ u (seg_get hu)).1 hgt (by simp; omega)
    refine ⟨.agg ((vs.drop off).take i.size).toArray, by simp [execOp, ho, hv, this], ?_⟩
    rw [V.rep_d]
    unfold D.rep
    exact ⟨_, rfl, fun u hu => h3 u (List.mem_of_mem_drop (List.mem_of_mem_take hu)), D.reps_take (D.reps_drop h4 off) i.size⟩
  · obtain ⟨u, hu, hr⟩ := D.reps_get h4 off l[off] (by simp [hl])
    have := (load_cells (m := m) hg hi b (o' + off) (vs.drop off) fun j u hu => by rw [Nat.add_assoc]; exact h5 _ u (by rwa [List.getElem?_drop] at hu)).2 hgt u (by rw [List.getElem?_drop]; exact hu)
    exact ⟨u, by simp [execOp, ho, hv, this], by rw [V.rep_d]; simpa [List.getD, hl] using hr⟩

theorem setMany_eq : ∀ (c l : List V) (off : Nat), off + c.length ≤ l.length → setMany l off c = l.take off ++ c ++ l.drop (off + c.length)
  | [], l, off, h => by simp [setMany]
  | x :: r, l, off, h => by
    simp only [List.length_cons] at h
    rw [setMany, setMany_eq r (l.set off x) (off + 1) (by simp; omega)]
    have := list_seg_step' l off x r (by omega)
    rw [this]
    simp [Nat.add_assoc, Nat.add_comm 1]
  where
  list_seg_step' (l : List V) (off : Nat) (x : V) (r : List V) (h : off + r.length + 1 ≤ l.length) : (l.set off x).take (off + 1) ++ r ++ (l.set off x).drop (off + 1 + r.length) = l.take off ++ (x :: r) ++ l.drop (off + 1 + r.length) := by
    have h1 : (l.set off x).take (off + 1) = l.take off ++ [x] := by
      rw [List.take_add_one, List.take_set_of_le (Nat.le_refl _)]
      simp [show off < l.length by omega]
    have h2 : (l.set off x).drop (off + 1 + r.length) = l.drop (off + 1 + r.length) := by
      rw [List.drop_set_of_lt (by omega)]
    rw [h1, h2]
    simp

end

end
end Go.Proofs.Ytakjegcjeffmgaa.Am

namespace Go.Proofs.Ytakjegcjeffmgaa.Am
section
open Go.RowKit
set_option linter.unusedVariables false
set_option linter.unusedSimpArgs false

section
variable {P : Program} {o : Oper} {T : List V} {H : List (Option Ob)}

theorem setRow_shape {w : World} {b : Nat} {old cs : Array Value} {t : TypeId} (h : w.heap[b]? = some (.cells old t (0, 0))) (hl : cs.size = old.size) (k : Nat) : (w.setRow b cs).shape? k = w.shape? k := by
  unfold World.shape?
  by_cases e : k = b
  · subst e
    rw [setRow_heap w k old cs t (0, 0) h, h]
    simp [hl]
  · rw [setRow_other w b k cs e]

theorem getD_set (H : List (Option Ob)) (n : Nat) (x : Option Ob) (k : Nat) : (H.set n x).getD k none = if k = n ∧ n < H.length then x else H.getD k none := by
  rw [List.getD_eq_getElem?_getD, List.getD_eq_getElem?_getD, List.getElem?_set]
  by_cases e : n = k
  · subst e
    by_cases h : n < H.length
    · simp [h]
    · simp [h]
  · have : ¬ k = n := fun h => e h.symm
    simp [e, this]

theorem reps_setMany {m : Mem} {l c : List V} {vs us : List Value} (off : Nat) (h : V.reps m l vs) (h' : V.reps m c us) (hl : off + c.length ≤ l.length) : V.reps m (setMany l off c) (vs.take off ++ us ++ vs.drop (off + us.length)) := by
  rw [setMany_eq c l off hl, V.reps_len h']
  exact V.reps_append (V.reps_append (V.reps_take h off) h') (V.reps_drop h _)

theorem ok_store (t : TypeId) (x y : Operand) (i : TypeInfo) (n off : Nat) (ob : Ob) (c : List V) (ho : o.op = .store t x y) (hi : P.info? t = some i) (hx : (X.of x).ev T = .p n off) (hy : ((X.of y).ev T).cells? = some c)
    (hn : H.getD n none = some ob) (hc : c.length = i.size) (hl : off + i.size ≤ ob.c.length) :
    StepOK P o ((X.of x).slots ++ (X.of y).slots) T H .junk (H.set n (some ⟨ob.T, setMany ob.c off c⟩)) [] [n] where
  same := fun k hk => by
    simp at hk
    rw [getD_set, if_neg (by omega)]
  len := by simp
  lt := fun k hk => by
    simp at hk; subst hk
    rcases Nat.lt_or_ge k H.length with h | h
    · simpa using h
    · rw [List.getD_eq_getElem?_getD, List.getElem?_eq_none h] at hn; cases hn
  wlive := fun k hk => by simp at hk; subst hk; exact .inl (by rw [live, hn]; rfl)
  run := by
    intro m a hb hs hob _ _ K Q hK
    obtain ⟨b, vs, more, h1, h2, h3, h4, h5⟩ := hob n (.inr (by simp)) ob hn
    have hv := X.rep' (sub_l hs) hx
    unfold V.rep at hv
    obtain ⟨b', hb', hv⟩ := hv
    rw [h1] at hb'; cases hb'
    obtain ⟨h6, h7⟩ := V.cells_rep hy (X.rep' (sub_r hs) rfl)
    have hlen := V.reps_len h4
    have hlen2 := V.reps_len h6
    generalize hu : (a.eval y).cells.toList = us at h6 h7 hlen2
    have hsz : (a.eval y).cells.size = i.size := by rw [← Array.length_toList, hu]; omega
    have hst := run_storeCells_at P b off ob.T us 0 (vs ++ more).toArray m.w h2 (by simp; omega) h7
    have hfin : ((vs ++ more).toArray.toList.take (off + 0) ++ us ++ (vs ++ more).toArray.toList.drop (off + 0 + us.length)).toArray = ((vs.take off ++ us ++ vs.drop (off + us.length)) ++ more).toArray := by
      congr 1
      simp only [Nat.add_zero]
      rw [List.take_append_of_le_length (by omega), List.drop_append_of_le_length (by omega)]
      simp
    rw [hfin] at hst
    generalize hnew : vs.take off ++ us ++ vs.drop (off + us.length) = nw at hst
    have hsame : ((nw ++ more).toArray).size = ((vs ++ more).toArray).size := by subst hnew; simp; omega
    have hle : m.le ⟨m.ρ, m.I, m.w.setRow b (nw ++ more).toArray⟩ (· ∈ [n]) := by
      refine ⟨fun _ _ h => h, fun _ h => h, rfl, rfl, rfl, by simp, fun k hk hne => ?_, fun k hk => setRow_shape h2 hsame k, fun k hk => ?_, fun _ h => .inl h, fun _ _ h => .inl h⟩
      · exact setRow_other _ _ _ _ fun e => hne n (by simp) (e ▸ h1)
      · exact setRow_other _ _ _ _ fun e => h5 (e ▸ hk)
    have hH : (H.set n (some (⟨ob.T, setMany ob.c off c⟩ : Ob))).getD n none = some ⟨ob.T, setMany ob.c off c⟩ := by
      have hlt : n < H.length := by
        rcases Nat.lt_or_ge n H.length with h | h
        · exact h
        · rw [List.getD_eq_getElem?_getD, List.getElem?_eq_none h] at hn; cases hn
      rw [getD_set, if_pos ⟨rfl, hlt⟩]
    unfold Oper.wp
    have hrun : (execOp a.eval o).run P m.w = .ok .skip (m.w.setRow b (nw ++ more).toArray) := by
      simp [execOp, ho, hv, Instr.storeAt, Instr.sureAddr, storeVar, size_run hi, hsz, hu, hst]
    rw [hrun]
    refine hK undef ⟨m.ρ, m.I, m.w.setRow b (nw ++ more).toArray⟩ ⟨⟨fun k hk => by simpa using hb.imm k hk, fun k b' hk => by simpa using hb.dom k b' hk⟩, hle, by unfold V.rep; trivial, fun k hk ob' h' => ?_, fun _ _ => rfl, fun k hk _ => ?_, fun k hk k' hk' _ _ _ => by simp at hk hk'; omega⟩
    · simp at hk; subst hk
      rw [hH] at h'; cases h'
      refine ⟨b, nw, more, h1, setRow_heap _ _ _ _ _ _ h2, fun u hu => ?_, V.reps_mono hle _ _ (hnew ▸ reps_setMany off h4 h6 (by omega)), h5⟩
      subst hnew
      simp only [List.mem_append] at hu
      rcases hu with (hu | hu) | hu
      · exact h3 u (List.mem_of_mem_take hu)
      · exact h7 u hu
      · exact h3 u (List.mem_of_mem_drop hu)
    · simp at hk; subst hk
      exact ⟨b, h1, .inr ⟨k, by simp, by rw [live, hn]; rfl, h1⟩⟩

theorem fold_set (us : List Value) : ∀ (off j : Nat) (cs : Array Value), ((us.zipIdx j).foldl (fun (cs : Array Value) (p : Value × Nat) => cs.setIfInBounds (off + p.2) p.1) cs).toList = (us.zipIdx j).foldl (fun (cs : List Value) (p : Value × Nat) => cs.set (off + p.2) p.1) cs.toList := by
  induction us with
  | nil => intro off j cs; rfl
  | cons u us ih => intro off j cs; simp only [List.zipIdx_cons, List.foldl_cons]; rw [ih]; simp

theorem fold_setMany {m : Mem} : ∀ (c : List V) (us : List Value) (off j : Nat) (l : List V) (vs : List Value), V.reps m c us → V.reps m l vs → V.reps m (setMany l (off + j) c) ((us.zipIdx j).foldl (fun (cs : List Value) (p : Value × Nat) => cs.set (off + p.2) p.1) vs)
  | [], us, off, j, l, vs, h, h' => by simp at h; subst h; simpa [setMany] using h'
  | x :: c, us, off, j, l, vs, h, h' => by
    obtain ⟨v, r, rfl, h1, h2⟩ := V.reps_cons'.1 h
    simp only [List.zipIdx_cons, List.foldl_cons, setMany]
    exact fold_setMany c r off (j + 1) _ _ h2 (V.reps_set h' h1 _)

theorem fold_one (us : List Value) : ∀ (off j : Nat) (vs : List Value), (∀ u ∈ vs, u.oneCell' = true) → (∀ u ∈ us, u.oneCell' = true) → ∀ u ∈ (us.zipIdx j).foldl (fun (cs : List Value) (p : Value × Nat) => cs.set (off + p.2) p.1) vs, u.oneCell' = true := by
  induction us with
  | nil => intro off j vs h _; exact h
  | cons v us ih =>
    intro off j vs h h'
    simp only [List.zipIdx_cons, List.foldl_cons]
    refine ih off (j + 1) _ (fun u hu => ?_) (fun u hu => h' u (by simp [hu]))
    rcases List.mem_or_eq_of_mem_set hu with hu | rfl
    · exact h u hu
    · exact h' _ (by simp)

theorem fill_ok {m : Mem} {a : Act} (pl : List (Nat × Nat)) : ∀ (ps : List (Nat × Operand)) (rs : List (Nat × Nat × X)) (l c : List V) (cells : Array Value), partsOf pl ps = some rs → Slots m a T (rs.flatMap fun p => p.2.2.slots) →
    fillV l (rs.map fun p => (p.1, p.2.1, p.2.2.ev T)) = some c → V.reps m l cells.toList → (∀ u ∈ cells.toList, u.oneCell' = true) →
    ∃ cells' : Array Value, Instr.fill (pl[·]?) cells (ps.map fun p => (p.1, a.eval p.2)) = some cells' ∧ V.reps m c cells'.toList ∧ ∀ u ∈ cells'.toList, u.oneCell' = true
  | [], rs, l, c, cells, hp, hs, hf, hr, h1 => by
    simp only [partsOf, Option.some.injEq] at hp; subst hp
    simp only [List.map_nil, fillV, Option.some.injEq] at hf; subst hf
    exact ⟨cells, rfl, hr, h1⟩
  | (i, y) :: ps, rs, l, c, cells, hp, hs, hf, hr, h1 => by
    simp only [partsOf] at hp
    split at hp
    · rename_i off s l' hpl hps
      cases hp
      simp only [List.map_cons, fillV] at hf
      split at hf
      · rename_i cc hcc
        split at hf
        · rename_i hsz
          obtain ⟨hz1, hz2⟩ := hsz
          simp only [List.flatMap_cons] at hs
          obtain ⟨h6, h7⟩ := V.cells_rep hcc (X.rep' (sub_l hs) rfl)
          have hlen2 := V.reps_len h6
          have hlen := V.reps_len hr
          have e1 : (a.eval y).cells.size = s := by rw [← Array.length_toList, hlen2, hz1]
          obtain ⟨cells', h8, h9, h10⟩ := fill_ok pl ps l' (setMany l off cc) c ((a.eval y).cells.zipIdx.foldl (fun cs (p : Value × Nat) => cs.setIfInBounds (off + p.2) p.1) cells) hps (sub_r hs) hf
            (by
              have := fold_setMany cc (a.eval y).cells.toList off 0 l cells.toList h6 hr
              rw [Nat.add_zero, ← fold_set] at this
              rw [← Array.foldl_toList, Array.toList_zipIdx]
              exact this)
            (by
              have := fold_one (a.eval y).cells.toList off 0 cells.toList h1 h7
              rw [← fold_set] at this
              rw [← Array.foldl_toList, Array.toList_zipIdx]
              exact this)
          refine ⟨cells', ?_, h9, h10⟩
          simp only [List.map_cons, Instr.fill, hpl]
          rw [if_neg]
          · exact h8
          · rw [e1]
            have : cells.size = l.length := by rw [← Array.length_toList, hlen]
            simp [this]
            omega
        · cases hf
      · cases hf
    · cases hp

theorem ok_build (t : TypeId) (ps : Array (Nat × Operand)) (fs : Array Field) (z : List D) (pl : List (Nat × Nat)) (l : List (Nat × Nat × X)) (c : List V) (ho : o.op = .build t ps) (hu : P.underlying t = some (.struct fs)) (hz : zeroOf P t = some z)
    (hf : fieldsOf P fs = some pl) (hp : partsOf pl ps.toList = some l) (hc : fillV (z.map .d) (l.map fun p => (p.1, p.2.1, p.2.2.ev T)) = some c) : StepOK P o (l.flatMap fun p => p.2.2.slots) T H (mkAgg c) H [] [] :=
  StepOK.val fun m a hb hs _ => by
    unfold zeroOf at hz
    cases hi : P.info? t with
    | none => simp [hi] at hz
    | some i =>
      cases hzz : i.zero with
      | none => simp [hi, hzz] at hz
      | some v =>
        simp [hi, hzz] at hz
        obtain ⟨h1, h2⟩ := D.ofs_rep m.I m.w hz
        obtain ⟨cells', h3, h4, h5⟩ := fill_ok (m := m) (a := a) pl ps.toList l (z.map .d) c v.cells hp hs hc (V.reps_map_d.2 h1) h2
        have hbu : P.built t (ps.map fun (i, x) => (i, a.eval x)).toList = some cells' := by
          unfold fieldsOf at hf
          simp only [Program.built, hi, hu, hzz, hf]
          simpa using h3
        refine ⟨.agg cells', ?_, by have := mkAgg_rep h4 h5; simpa using this⟩
        have := run_build (P := P) m.w t (ps.map fun (i, x) => (i, a.eval x)) cells' hbu
        simp [execOp, ho, this]

end

end
end Go.Proofs.Ytakjegcjeffmgaa.Am

namespace Go.Proofs.Ytakjegcjeffmgaa.Am
section
open Go.RowKit
set_option linter.unusedVariables false
set_option linter.unusedSimpArgs false

section
variable {P : Program} {o : Oper} {T : List V} {H : List (Option Ob)}

theorem ok_bsl (t e n : Nat) (ps : Array (Nat × Operand)) (i : TypeInfo) (z : Value) (zl : List D) (l : List (Nat × Nat × X)) (c : List V) (ho : o.op = .buildSlice t n ps) (hu : P.underlying t = some (.slice e)) (hi : P.info? e = some i) (hz : i.zero = some z)
    (h0 : ¬ n * i.size = 0) (h24 : n * i.size ≤ 16777216) (hd : D.ofs (madeCells z.cells (n * i.size)).toList = some zl) (hp : partsOf ((List.range n).map fun j => (j * i.size, i.size)) ps.toList = some l)
    (hc : fillV (zl.map .d) (l.map fun p => (p.1, p.2.1, p.2.2.ev T)) = some c) : StepOK P o (l.flatMap fun p => p.2.2.slots) T H (.own H.length i.size n) (H ++ [some ⟨e, c⟩]) [] [H.length] :=
  StepOK.new ⟨e, c⟩ fun m a hb hs _ => by
    obtain ⟨h1, h2⟩ := D.ofs_rep m.I m.w hd
    obtain ⟨cells', h3, h4, h5⟩ := fill_ok (m := m) (a := a) _ ps.toList l (zl.map .d) c _ hp hs hc (V.reps_map_d.2 h1) h2
    have hpl : ∀ k p, ((List.range n).map fun j => (j * i.size, i.size))[k]? = some p → p = (k * i.size, i.size) := by
      intro k p hk
      simp only [List.getElem?_map, Option.map_eq_some_iff] at hk
      obtain ⟨j, hj, rfl⟩ := hk
      rw [List.getElem?_range] at hj
      · cases hj; rfl
      · rcases Nat.lt_or_ge k n with h | h
        · exact h
        · rw [List.getElem?_eq_none (by simpa using h)] at hj; cases hj
    have hfill : ∀ (L : List (Nat × Value)) (cs r : Array Value), Instr.fill (((List.range n).map fun j => (j * i.size, i.size))[·]?) cs L = some r → Instr.fill (fun j => some (j * i.size, i.size)) cs L = some r := by
      intro L
      induction L with
      | nil => intro cs r h; simpa [Instr.fill] using h
      | cons p L ih =>
        intro cs r h
        obtain ⟨j, v⟩ := p
        simp only [Instr.fill] at h ⊢
        split at h
        · cases h
        · rename_i off s hk
          have := hpl j _ hk
          simp only [Prod.mk.injEq] at this
          obtain ⟨rfl, rfl⟩ := this
          split at h
          · cases h
          · rename_i hne
            rw [if_neg hne]
            exact ih _ _ h
    have hf := hfill _ _ _ h3
    have hcl : cells'.size = n * i.size := by
      have e1 := V.reps_len h4
      have e2 : c.length = zl.length := by
        have : ∀ (L : List (Nat × Nat × V)) (l r : List V), fillV l L = some r → r.length = l.length := by
          intro L
          induction L with
          | nil => intro l r h; simp [fillV] at h; rw [h]
          | cons p L ih =>
            intro l r h
            simp only [fillV] at h
            split at h
            · split at h
              · rw [ih _ _ h, setMany_length]
              · cases h
            · cases h
        rw [this _ _ _ hc]; simp
      have e3 := D.reps_len h1
      rw [← Array.length_toList, e1, e2, ← e3]
      simp [madeCells]
    refine ⟨cells'.toList, h5, h4, .slice (some ⟨m.w.heap.size, 0, none⟩) n n, ?_, fun m' hρ hw => ?_⟩
    · have hn : ¬ (16777216 < n * i.size) := by omega
      have hm : (madeCells z.cells (n * i.size)) = (Array.range (n * i.size)).map (z.cells[· % z.cells.size]!) := rfl
      rw [hm] at hf
      have hf' : Instr.fill (fun j => some (j * i.size, i.size)) ((Array.range (n * i.size)).map (z.cells[· % z.cells.size]!)) (ps.map fun (j, x) => (j, a.eval x)).toList = some cells' := by simpa using hf
      simp only [execOp, ho, Instr.buildSlice, run_underlying hu, Sem.run_bind, Sem.run_pure, Result.andThen_ok, size_run hi, if_neg hn, h0, zeroValue, typeInfo, run_program, hi, hz, hf', if_false, Nat.reducePow, Sem.run_ite]
      simp [newRow]
    · unfold V.rep
      refine ⟨_, e, n * i.size, n, hρ, ?_, rfl, rfl, Nat.le_refl _, ?_⟩
      · rw [hw]
        unfold World.shape?
        rw [heap_alloc_new]
        simp [hcl]
      · have : n ≤ n * i.size := Nat.le_mul_of_pos_right _ (Nat.pos_of_ne_zero fun h => h0 (by rw [h, Nat.mul_zero]))
        unfold maxLen; omega

theorem ok_chk (x : Operand) (y : V) (ho : o.op = .nilCheck x) (hx : (X.of x).ev T = y) (hy : (∃ n k, y = .p n k) ∨ (∃ l k, y = .ia l k) ∨ (∃ f c, y = .fn (.func f) c) ∨ ∃ t d, y = .d (.ifc t d)) : StepOK P o (X.of x).slots T H y H [] [] :=
  StepOK.val fun m a hb hs _ => by
    have hv := X.rep' hs hx
    refine ⟨a.eval x, ?_, hv⟩
    rcases hy with ⟨n, k, rfl⟩ | ⟨l, k, rfl⟩ | ⟨f, c, rfl⟩ | ⟨t, d, rfl⟩
    · unfold V.rep at hv; obtain ⟨b, _, hv⟩ := hv; simp [execOp, ho, hv]
    · unfold V.rep at hv; obtain ⟨b, o', hv, _⟩ := hv; simp [execOp, ho, hv]
    · unfold V.rep at hv; obtain ⟨vs, hv, _⟩ := hv; simp [execOp, ho, hv]
    · unfold V.rep D.rep at hv; obtain ⟨u, hv, _⟩ := hv; simp [execOp, ho, hv]

theorem ok_un (op : UnOp) (t : TypeId) (x : Operand) (y : V) (ho : o.op = .unOp op t x) (hx : (X.of x).ev T = y) :
    (∀ b, op = .not → y = .d (.bool b) → StepOK P o (X.of x).slots T H (.d (.bool (!b))) H [] []) ∧
    (∀ k n, op = .neg → y = .d (.int k n) → StepOK P o (X.of x).slots T H (.d (.int k (k.wrap (0 - n)))) H [] []) ∧
    (∀ k n, op = .xor → y = .d (.int k n) → StepOK P o (X.of x).slots T H (.d (.int k (bits .xor k (if k.signed then -1 else k.max) n))) H [] []) := by
  refine ⟨?_, ?_, ?_⟩
  · rintro b rfl rfl
    exact StepOK.val fun m a hb hs _ => ⟨.bool (!b), by simp [execOp, ho, V.rep_bool.1 (X.rep' hs hx), Op.unary], V.rep_bool.2 rfl⟩
  · rintro k n rfl rfl
    exact StepOK.val fun m a hb hs _ => ⟨_, by simp [execOp, ho, V.rep_int.1 (X.rep' hs hx), Op.unary, Op.intArith]; rfl, V.rep_int.2 (by simp)⟩
  · rintro k n rfl rfl
    exact StepOK.val fun m a hb hs _ => ⟨.int k (bits .xor k (if k.signed then -1 else k.max) n), by simp only [execOp, ho, V.rep_int.1 (X.rep' hs hx), Op.unary, intBits_xor]; rfl, V.rep_int.2 rfl⟩

theorem ok_conv (src dst : TypeId) (x : Operand) (k k' : IntKind) (kk : IntKind) (n : Int) (ho : o.op = .convert src dst x) (h1 : P.underlying src = some (.int kk)) (h2 : P.underlying dst = some (.int k)) (hx : (X.of x).ev T = .d (.int k' n)) :
    StepOK P o (X.of x).slots T H (.d (.int k (k.wrap n))) H [] [] :=
  StepOK.val fun m a hb hs _ => ⟨.int k (k.wrap n), by simp [execOp, ho, V.rep_int.1 (X.rep' hs hx), convert, run_underlying h1, run_underlying h2, Conv.intToInt], V.rep_int.2 rfl⟩

theorem ok_cstr (src dst : TypeId) (x : Operand) (s : ByteArray) (ho : o.op = .convert src dst x) (h1 : P.underlying src = some .string) (h2 : P.underlying dst = some .string) (hx : (X.of x).ev T = .d (.str s)) :
    StepOK P o (X.of x).slots T H (.d (.str s)) H [] [] :=
  StepOK.val fun m a hb hs _ => ⟨.string s, by simp [execOp, ho, V.rep_str.1 (X.rep' hs hx), convert, run_underlying h1, run_underlying h2], V.rep_str.2 rfl⟩

theorem ok_ifc (t : TypeId) (x : Operand) (d : TypeDesc) (y : D) (ho : o.op = .makeInterface t x) (h1 : P.underlying t = some d) (hd : ∀ ms, d ≠ .interface ms) (hx : (X.of x).ev T = .d y) : StepOK P o (X.of x).slots T H (.d (.ifc t y)) H [] [] :=
  StepOK.val fun m a hb hs _ => by
    refine ⟨.iface t (a.eval x), ?_, ?_⟩
    · have : (Instr.makeInterface t (a.eval x)).run P m.w = .ok (.iface t (a.eval x)) m.w := by
        unfold Instr.makeInterface
        simp only [Sem.run_bind, run_underlying h1, Result.andThen_ok]
        rfl
      simp [execOp, ho, this]
    · have := X.rep' hs hx
      rw [V.rep_d] at this ⊢
      unfold D.rep
      exact ⟨_, rfl, this⟩

theorem evs_rep {m : Mem} {a : Act} : ∀ (l : List Operand), Slots m a T (X.slotss (l.map X.of)) → V.reps m ((l.map X.of).map (X.ev T)) (l.map a.eval)
  | [], _ => by simp
  | y :: l, hs => by
    simp only [X.slotss, List.map_cons, List.flatMap_cons] at hs
    simp only [List.map_cons, V.reps_cons]
    exact ⟨X.rep' (sub_l hs) rfl, evs_rep l (sub_r hs)⟩

theorem ok_mkf (fn : Fn) (first caps : Array Operand) (ho : o.op = .makeFunc fn first caps) (hf : first.size = 0) : StepOK P o (X.slotss (caps.toList.map X.of)) T H (.fn fn ((caps.toList.map X.of).map (X.ev T))) H [] [] :=
  StepOK.val fun m a hb hs _ => by
    have hf' : first = #[] := Array.eq_empty_of_size_eq_zero hf
    subst hf'
    refine ⟨.func fn #[] (caps.map a.eval), by simp [execOp, ho, Instr.makeFunc], ?_⟩
    unfold V.rep
    exact ⟨caps.toList.map a.eval, by rw [← Array.toList_map], evs_rep _ hs⟩

theorem madeCells_repl {I : Nat → Prop} {w : World} {m : Mem} (hI : m.I = I) (hw : m.w = w) {z : Value} {l : List D} (hd : D.ofs z.cells.toList = some l) (n : Nat) : V.reps m (repl n l) (madeCells z.cells (n * l.length)).toList ∧ ∀ u ∈ (madeCells z.cells (n * l.length)).toList, u.oneCell' = true := by
  obtain ⟨h1, h2⟩ := D.ofs_rep m.I m.w hd
  have hlen := D.reps_len h1
  have hz : z.cells.size = l.length := by rw [← Array.length_toList, hlen]
  constructor
  · unfold repl
    split
    · rename_i x
      obtain ⟨v, r, e, h3, h4⟩ := D.reps_cons'.1 h1
      simp at h4; subst h4
      have : z.cells = #[v] := by rw [← Array.toArray_toList (xs := z.cells), e]
      rw [this, List.length_singleton, Nat.mul_one, toList_madeCells_one]
      clear hd h1 hlen hz e this
      induction n with
      | zero => simp
      | succ n ih => rw [List.replicate_succ, List.replicate_succ]; exact V.reps_cons.2 ⟨by rw [V.rep_d]; exact h3, ih⟩
    · rw [V.reps_iff]
      have hl : ∀ n, ((List.replicate n (l.map V.d)).flatten).length = n * l.length := by
        intro n; induction n with
        | zero => simp
        | succ n ih => rw [List.replicate_succ, List.flatten_cons, List.length_append, ih]; simp [Nat.succ_mul, Nat.add_comm]
      refine ⟨by simp [madeCells, hl], fun i x v hx hv => ?_⟩
      have hget : ∀ (n i : Nat) (x : V), ((List.replicate n (l.map V.d)).flatten)[i]? = some x → (l.map V.d)[i % l.length]? = some x := by
        intro n
        induction n with
        | zero => intro i x h; simp at h
        | succ n ih =>
          intro i x h
          rw [List.replicate_succ, List.flatten_cons] at h
          rcases Nat.lt_or_ge i l.length with hlt | hge
          · rw [List.getElem?_append_left (by simpa using hlt)] at h
            rwa [Nat.mod_eq_of_lt hlt]
          · rw [List.getElem?_append_right (by simpa using hge)] at h
            have := ih _ _ h
            simp only [List.length_map] at this
            rwa [← Nat.mod_eq_sub_mod hge] at this
      have hx' := hget n i x hx
      have hi : i < n * l.length := by
        rcases Nat.lt_or_ge i (n * l.length) with h | h
        · exact h
        · rw [List.getElem?_eq_none (by rw [hl]; exact h)] at hx; cases hx
      have hv' : z.cells[i % l.length]? = some v := by
        simp only [madeCells, Array.getElem?_toList, Array.getElem?_map, Option.map_eq_some_iff] at hv
        obtain ⟨j, hj, hjv⟩ := hv
        have hji : j = i := by
          rw [Array.getElem?_range] at hj
          simp [hi] at hj
          exact hj.symm
        subst hji
        have hpos : 0 < l.length := Nat.pos_of_ne_zero fun h => by rw [h, Nat.mul_zero] at hi; omega
        rw [hz] at hjv
        have hlt : j % l.length < z.cells.size := by rw [hz]; exact Nat.mod_lt _ hpos
        rw [getElem!_pos z.cells _ hlt] at hjv
        rw [Array.getElem?_eq_getElem hlt, hjv]
      rw [List.getElem?_map, Option.map_eq_some_iff] at hx'
      obtain ⟨y, hy, rfl⟩ := hx'
      obtain ⟨u, hu, hr⟩ := D.reps_get h1 _ _ hy
      rw [Array.getElem?_toList, hv'] at hu
      cases hu
      rw [V.rep_d]; exact hr
  · intro u hu
    simp only [madeCells, Array.toList_map, List.mem_map] at hu
    obtain ⟨j, _, rfl⟩ := hu
    rcases Nat.eq_zero_or_pos z.cells.size with h | h
    · have : z.cells = #[] := Array.eq_empty_of_size_eq_zero h
      rw [this]; rfl
    · have hlt := Nat.mod_lt j h
      rw [getElem!_pos z.cells _ hlt]
      exact h2 _ (by simp)

theorem ok_mksl (t e : TypeId) (x y : Operand) (i : TypeInfo) (z : Value) (l : List D) (k k' : IntKind) (n : Int) (ho : o.op = .makeSlice t x y) (hu : P.underlying t = some (.slice e)) (hi : P.info? e = some i) (hz : i.zero = some z) (hd : D.ofs z.cells.toList = some l)
    (hl : l.length = i.size) (hx : (X.of x).ev T = .d (.int k n)) (hy : (X.of y).ev T = .d (.int k' n)) (h0 : 0 ≤ n) (hby : (i.bytes : Int) * n ≤ 281474976710656) (hn : n ≤ 281474976710656) (hs0 : 0 < i.size) :
    StepOK P o ((X.of x).slots ++ (X.of y).slots) T H (.own H.length i.size n.toNat) (H ++ [some ⟨e, repl n.toNat l⟩]) [] [H.length] :=
  StepOK.new ⟨e, repl n.toNat l⟩ fun m a hb hs _ => by
    obtain ⟨h1, h2⟩ := madeCells_repl (m := m) rfl rfl hd n.toNat
    rw [hl] at h1 h2
    have hrun := run_make (P := P) m.w t e i z hu hi hz k k' n n h0 (Int.le_refl _) hby (by omega)
    refine ⟨(madeCells z.cells (n.toNat * i.size)).toList, h2, h1, .slice (some ⟨m.w.heap.size, 0, none⟩) n.toNat n.toNat, ?_, fun m' hρ hw => ?_⟩
    · simp [execOp, ho, V.rep_int.1 (X.rep' (sub_l hs) hx), V.rep_int.1 (X.rep' (sub_r hs) hy), hrun]
    · unfold V.rep
      refine ⟨_, e, n.toNat * i.size, n.toNat, hρ, ?_, rfl, rfl, Nat.le_refl _, by unfold maxLen; omega⟩
      rw [hw]
      unfold World.shape?
      rw [heap_alloc_new]
      simp [madeCells]

end

end
end Go.Proofs.Ytakjegcjeffmgaa.Am

namespace Go.Proofs.Ytakjegcjeffmgaa.Am
section
open Go.RowKit
set_option linter.unusedVariables false
set_option linter.unusedSimpArgs false

section
variable {P : Program} {o : Oper} {T : List V} {H : List (Option Ob)}

theorem StepOK.data {S : List Nat} {x : D} (h : ∀ (m : Mem) (a : Act), Slots m a T S → ∃ v, (execOp a.eval o).run P m.w = .ok (.value v) m.w ∧ x.rep m.I m.w v) : StepOK P o S T H (.d x) H [] [] :=
  StepOK.val fun m a _ hs _ => by obtain ⟨v, h1, h2⟩ := h m a hs; exact ⟨v, h1, V.rep_d.2 h2⟩

theorem eqGuard_int (op : BinOp) (t : TypeId) (x y : Operand) (k k' : IntKind) (a b : Int) (w : World) : (eqGuard op t x y (.int k a) (.int k' b)).run P w = .ok () w := by
  unfold eqGuard; split <;> rfl
theorem eqGuard_str (op : BinOp) (t : TypeId) (x y : Operand) (a b : ByteArray) (w : World) : (eqGuard op t x y (.string a) (.string b)).run P w = .ok () w := by
  unfold eqGuard; split <;> rfl
theorem eqGuard_bool (op : BinOp) (t : TypeId) (x y : Operand) (a b : Bool) (w : World) : (eqGuard op t x y (.bool a) (.bool b)).run P w = .ok () w := by
  unfold eqGuard; split <;> rfl

theorem ok_bin (op : BinOp) (t t' : TypeId) (x y : Operand) (k k' : IntKind) (a b : Int) (ho : o.op = .binOp op t x y t') (hx : (X.of x).ev T = .d (.int k a)) (hy : (X.of y).ev T = .d (.int k' b)) (K : D → Prop)
    (h : binInt op k a k' b K) : ∃ d, K d ∧ StepOK P o ((X.of x).slots ++ (X.of y).slots) T H (.d d) H [] [] := by
  have key : ∀ d : D, (∀ w, ∃ v, (binOp op t (.int k a) (.int k' b)).run P w = .ok v w ∧ ∀ I, d.rep I w v) → StepOK P o ((X.of x).slots ++ (X.of y).slots) T H (.d d) H [] [] := fun d hd =>
    StepOK.data fun m ac hs => by
      obtain ⟨v, h1, h2⟩ := hd m.w
      refine ⟨v, ?_, h2 _⟩
      simp [execOp, ho, V.rep_int.1 (X.rep' (sub_l hs) hx), V.rep_int.1 (X.rep' (sub_r hs) hy), eqGuard_int, h1]
  cases op <;> simp only [binInt, need] at h
  case shl => exact ⟨_, h.2, key _ fun w => ⟨_, by simp [binOp, shift_shl k k' a b h.1.1 h.1.2], fun I => D.rep_int.2 rfl⟩⟩
  case shr => exact ⟨_, h.2, key _ fun w => ⟨_, by simp [binOp, shift_shr k k' a b h.1.1 h.1.2], fun I => D.rep_int.2 rfl⟩⟩
  case add => obtain ⟨rfl, h⟩ := h; exact ⟨_, h, key _ fun w => ⟨_, by simp [binOp, Op.intArith], fun I => D.rep_int.2 rfl⟩⟩
  case sub => obtain ⟨rfl, h⟩ := h; exact ⟨_, h, key _ fun w => ⟨_, by simp [binOp, Op.intArith], fun I => D.rep_int.2 rfl⟩⟩
  case mul => obtain ⟨rfl, h⟩ := h; exact ⟨_, h, key _ fun w => ⟨_, by simp [binOp, Op.intArith], fun I => D.rep_int.2 rfl⟩⟩
  case quo => obtain ⟨⟨rfl, h0⟩, h⟩ := h; exact ⟨_, h, key _ fun w => ⟨_, by simp [binOp, Op.intDiv, h0], fun I => D.rep_int.2 rfl⟩⟩
  case rem => obtain ⟨⟨rfl, h0⟩, h⟩ := h; exact ⟨_, h, key _ fun w => ⟨_, by simp [binOp, Op.intDiv, h0], fun I => D.rep_int.2 rfl⟩⟩
  case and => obtain ⟨rfl, h⟩ := h; exact ⟨_, h, key _ fun w => ⟨_, by simp [binOp, intBits_and], fun I => D.rep_int.2 rfl⟩⟩
  case or => obtain ⟨rfl, h⟩ := h; exact ⟨_, h, key _ fun w => ⟨_, by simp [binOp, intBits_or], fun I => D.rep_int.2 rfl⟩⟩
  case xor => obtain ⟨rfl, h⟩ := h; exact ⟨_, h, key _ fun w => ⟨_, by simp [binOp, intBits_xor], fun I => D.rep_int.2 rfl⟩⟩
  case andNot => obtain ⟨rfl, h⟩ := h; exact ⟨_, h, key _ fun w => ⟨_, by simp [binOp, intBits_andNot], fun I => D.rep_int.2 rfl⟩⟩
  case eql => obtain ⟨rfl, h⟩ := h; exact ⟨_, h, key _ fun w => ⟨_, by simp [binOp, Op.intCmp], fun I => D.rep_bool.2 rfl⟩⟩
  case neq => obtain ⟨rfl, h⟩ := h; exact ⟨_, h, key _ fun w => ⟨_, by simp [binOp, Op.intCmp], fun I => D.rep_bool.2 rfl⟩⟩
  case lss => obtain ⟨rfl, h⟩ := h; exact ⟨_, h, key _ fun w => ⟨_, by simp [binOp, Op.intCmp], fun I => D.rep_bool.2 rfl⟩⟩
  case leq => obtain ⟨rfl, h⟩ := h; exact ⟨_, h, key _ fun w => ⟨_, by simp [binOp, Op.intCmp], fun I => D.rep_bool.2 rfl⟩⟩
  case gtr => obtain ⟨rfl, h⟩ := h; exact ⟨_, h, key _ fun w => ⟨_, by simp [binOp, Op.intCmp], fun I => D.rep_bool.2 rfl⟩⟩
  case geq => obtain ⟨rfl, h⟩ := h; exact ⟨_, h, key _ fun w => ⟨_, by simp [binOp, Op.intCmp], fun I => D.rep_bool.2 rfl⟩⟩

theorem ok_bins (op : BinOp) (t t' : TypeId) (x y : Operand) (a b : ByteArray) (ho : o.op = .binOp op t x y t') (hx : (X.of x).ev T = .d (.str a)) (hy : (X.of y).ev T = .d (.str b)) (K : D → Prop)
    (h : binStr op a b K) : ∃ d, K d ∧ StepOK P o ((X.of x).slots ++ (X.of y).slots) T H (.d d) H [] [] := by
  have key : ∀ d : D, (∀ w, ∃ v, (binOp op t (.string a) (.string b)).run P w = .ok v w ∧ ∀ I, d.rep I w v) → StepOK P o ((X.of x).slots ++ (X.of y).slots) T H (.d d) H [] [] := fun d hd =>
    StepOK.data fun m ac hs => by
      obtain ⟨v, h1, h2⟩ := hd m.w
      refine ⟨v, ?_, h2 _⟩
      simp [execOp, ho, V.rep_str.1 (X.rep' (sub_l hs) hx), V.rep_str.1 (X.rep' (sub_r hs) hy), eqGuard_str, h1]
  cases op <;> simp only [binStr, need] at h
  case add =>
    refine ⟨_, h.2, key _ fun w => ⟨.string (a ++ b), ?_, fun I => D.rep_str.2 rfl⟩⟩
    have : ¬ (((a.size + b.size : Nat) : Int) > IntKind.i64.max) := by
      have : IntKind.i64.max = 9223372036854775807 := by decide
      rw [this]; omega
    simp only [binOp, Op.stringOp, if_neg this]
    rfl
  case eql => exact ⟨_, h, key _ fun w => ⟨_, by simp [binOp, Op.stringOp], fun I => D.rep_bool.2 rfl⟩⟩
  case neq => exact ⟨_, h, key _ fun w => ⟨_, by simp [binOp, Op.stringOp], fun I => D.rep_bool.2 rfl⟩⟩

theorem ok_beq (op : BinOp) (t t' : TypeId) (x y : Operand) (a b : Bool) (hop : op = .eql ∨ op = .neq) (ho : o.op = .binOp op t x y t') (hu : P.underlying t = some .bool) (hx : (X.of x).ev T = .d (.bool a)) (hy : (X.of y).ev T = .d (.bool b)) :
    StepOK P o ((X.of x).slots ++ (X.of y).slots) T H (.d (.bool (if op == .neq then a != b else a == b))) H [] [] :=
  StepOK.data fun m ac hs => by
    refine ⟨.bool (if op == .neq then a != b else a == b), ?_, D.rep_bool.2 rfl⟩
    have heq : (Op.equal t (.bool a) (.bool b)).run P m.w = .ok (a == b) m.w := by
      show (Op.equalIn (9999 + 1) t (.bool a) (.bool b)).run P m.w = _
      rw [Op.equalIn]
      simp [run_underlying hu]
    rcases hop with rfl | rfl
    · simp [execOp, ho, V.rep_bool.1 (X.rep' (sub_l hs) hx), V.rep_bool.1 (X.rep' (sub_r hs) hy), eqGuard_bool, binOp, heq]
    · simp only [execOp, ho, V.rep_bool.1 (X.rep' (sub_l hs) hx), V.rep_bool.1 (X.rep' (sub_r hs) hy), eqGuard_bool, binOp, heq, Sem.run_bind, Result.andThen_ok, Sem.run_pure]
      rfl

theorem ok_fa (t : TypeId) (x : Operand) (f : Nat) (fs : Array Field) (g : Field) (i : TypeInfo) (ho : o.op = .fieldAddr t x f) (hu : P.underlying t = some (.struct fs)) (hf : fs[f]? = some g) (hi : P.info? g.type = some i) (h0 : ¬ i.size = 0) :
    (∀ n k, (X.of x).ev T = .p n k → StepOK P o (X.of x).slots T H (.p n (k + g.offset)) H [] []) ∧ (∀ l k, (X.of x).ev T = .ia l k → StepOK P o (X.of x).slots T H (.ia l (k + g.offset)) H [] []) := by
  have key : ∀ (m : Mem) (b k : Nat), (Instr.fieldAt t (.pointer (some ⟨b, k, none⟩)) f).run P m.w = .ok (.pointer (some ⟨b, k + g.offset, none⟩)) m.w := by
    intro m b k
    simp [Instr.fieldAt, run_underlying hu, hf, Instr.sureAddr, fieldPlace, size_run hi, h0, Addr.add_lit]
  constructor
  · intro n k hx
    refine StepOK.val fun m a _ hs _ => ?_
    have hv := X.rep' hs hx
    unfold V.rep at hv
    obtain ⟨b, hb, hv⟩ := hv
    refine ⟨.pointer (some ⟨b, k + g.offset, none⟩), by simp [execOp, ho, hv, key], ?_⟩
    unfold V.rep; exact ⟨b, hb, rfl⟩
  · intro l k hx
    refine StepOK.val fun m a _ hs _ => ?_
    have hv := X.rep' hs hx
    unfold V.rep at hv
    obtain ⟨b, o', hv, hr⟩ := hv
    refine ⟨.pointer (some ⟨b, o' + k + g.offset, none⟩), by simp [execOp, ho, hv, key], ?_⟩
    unfold V.rep; exact ⟨b, o', by rw [Nat.add_assoc], hr⟩

theorem ok_fld (t : TypeId) (x : Operand) (f : Nat) (fs : Array Field) (g : Field) (i : TypeInfo) (q : Bool) (ho : o.op = .field t x f) (hu : P.underlying t = some (.struct fs)) (hf : fs[f]? = some g) (hq : aggB P g.type = some q) (hi : P.info? g.type = some i) :
    (∀ l : List D, (X.of x).ev T = .d (.agg l) → (q = true → g.offset + i.size ≤ l.length → StepOK P o (X.of x).slots T H (.d (.agg ((l.drop g.offset).take i.size))) H [] []) ∧ (q = false → g.offset < l.length → StepOK P o (X.of x).slots T H (.d (l.getD g.offset default)) H [] [])) ∧
    (∀ l : List V, (X.of x).ev T = .agg l → (q = true → g.offset + i.size ≤ l.length → StepOK P o (X.of x).slots T H (mkAgg ((l.drop g.offset).take i.size)) H [] []) ∧ (q = false → g.offset < l.length → StepOK P o (X.of x).slots T H (l.getD g.offset .junk) H [] [])) := by
  have key : ∀ (m : Mem) (vs : List Value), (q = true → (Instr.field t (.agg vs.toArray) f).run P m.w = .ok (.agg ((vs.drop g.offset).take i.size).toArray) m.w) ∧ (q = false → ∀ u, vs[g.offset]? = some u → (Instr.field t (.agg vs.toArray) f).run P m.w = .ok u m.w) := by
    intro m vs
    constructor
    · rintro rfl
      have : (vs.take (g.offset + i.size)).drop g.offset = (vs.drop g.offset).take i.size := by rw [List.drop_take]; congr 1; omega
      simp [Instr.field, run_underlying hu, hf, asAgg, part, agg_run hq, size_run hi, this]
    · rintro rfl u hu'
      simp [Instr.field, run_underlying hu, hf, asAgg, part, agg_run hq, hu']
  refine ⟨fun l hx => ⟨fun hqt hl => ?_, fun hqt hl => ?_⟩, fun l hx => ⟨fun hqt hl => ?_, fun hqt hl => ?_⟩⟩
  · refine StepOK.val fun m a _ hs _ => ?_
    have hv := X.rep' hs hx
    simp only [V.rep_d] at hv ⊢
    unfold D.rep at hv
    obtain ⟨vs, hv, h1, h2⟩ := hv
    refine ⟨.agg ((vs.drop g.offset).take i.size).toArray, by simp [execOp, ho, hv, (key m vs).1 hqt], ?_⟩
    unfold D.rep
    exact ⟨_, rfl, fun u hu => h1 u (List.mem_of_mem_drop (List.mem_of_mem_take hu)), D.reps_take (D.reps_drop h2 _) _⟩
  · refine StepOK.val fun m a _ hs _ => ?_
    have hv := X.rep' hs hx
    simp only [V.rep_d] at hv ⊢
    unfold D.rep at hv
    obtain ⟨vs, hv, h1, h2⟩ := hv
    obtain ⟨u, hu', hr⟩ := D.reps_get h2 g.offset l[g.offset] (by simp [hl])
    exact ⟨u, by simp [execOp, ho, hv, (key m vs).2 hqt u hu'], by simpa [List.getD, hl] using hr⟩
  · refine StepOK.val fun m a _ hs _ => ?_
    have hv := X.rep' hs hx
    unfold V.rep at hv
    obtain ⟨vs, hv, h1, h2⟩ := hv
    exact ⟨.agg ((vs.drop g.offset).take i.size).toArray, by simp [execOp, ho, hv, (key m vs).1 hqt], mkAgg_rep (V.reps_take (V.reps_drop h2 _) _) fun u hu => h1 u (List.mem_of_mem_drop (List.mem_of_mem_take hu))⟩
  · refine StepOK.val fun m a _ hs _ => ?_
    have hv := X.rep' hs hx
    unfold V.rep at hv
    obtain ⟨vs, hv, h1, h2⟩ := hv
    obtain ⟨u, hu', hr⟩ := V.reps_get h2 g.offset l[g.offset] (by simp [hl])
    exact ⟨u, by simp [execOp, ho, hv, (key m vs).2 hqt u hu'], by simpa [List.getD, hl] using hr⟩

theorem ok_ext (x : Operand) (i : Nat) (l : List V) (ho : o.op = .extract x i) (hx : (X.of x).ev T = .tup l) (hi : i < l.length) : StepOK P o (X.of x).slots T H (l.getD i .junk) H [] [] :=
  StepOK.val fun m a _ hs _ => by
    have hv := X.rep' hs hx
    unfold V.rep at hv
    obtain ⟨vs, hv, h1⟩ := hv
    obtain ⟨u, hu', hr⟩ := V.reps_get h1 i l[i] (by simp [hi])
    exact ⟨u, by simp [execOp, ho, hv, Instr.extract, hu'], by simpa [List.getD, hi] using hr⟩

theorem ok_ix (t e : TypeId) (x y : Operand) (i : TypeInfo) (k : IntKind) (a : Int) (ho : o.op = .indexAddr t x y) (hu : P.underlying t = some (.slice e)) (hi : P.info? e = some i) (hy : (X.of y).ev T = .d (.int k a)) (h0 : 0 ≤ a) :
    (∀ n l, (X.of x).ev T = .d (.sl n l) → a < n → a.toNat * i.size < l.length → StepOK P o ((X.of x).slots ++ (X.of y).slots) T H (.ia l (a.toNat * i.size)) H [] []) ∧
    (∀ n len, (X.of x).ev T = .own n i.size len → a < len → StepOK P o ((X.of x).slots ++ (X.of y).slots) T H (.p n (a.toNat * i.size)) H [] []) ∧
    (∀ n off len, (X.of x).ev T = .row n off len → a < len → StepOK P o ((X.of x).slots ++ (X.of y).slots) T H (.p n (off + a.toNat * i.size)) H [] []) := by
  have key : ∀ (m : Mem) (b off len cap : Nat), a < len → (Instr.indexAt t (.slice (some ⟨b, off, none⟩) len cap) (.int k a)).run P m.w = .ok (.pointer (some ⟨b, off + a.toNat * i.size, none⟩)) m.w := by
    intro m b off len cap hlt
    simp [Instr.indexAt, asIntOf, run_underlying hu, h0, hlt, size_run hi, Addr.add_lit]
  refine ⟨fun n l hx hlt hll => ?_, fun n len hx hlt => ?_, fun n off len hx hlt => ?_⟩
  all_goals refine StepOK.val fun m ac _ hs _ => ?_
  all_goals have hv := X.rep' (sub_l hs) hx
  all_goals have hw := V.rep_int.1 (X.rep' (sub_r hs) hy)
  · rw [V.rep_d] at hv
    unfold D.rep at hv
    obtain ⟨p, cap, hv, _, _, vs, h1, h2, h3⟩ := hv
    have hl := D.reps_len h2
    rcases h3 with ⟨_, _, rfl⟩ | ⟨b, o', rfl, hI, hc⟩
    · simp at hl; omega
    · have hI' : m.I b := hI.resolve_left fun e => by subst e; simp at hl; omega
      refine ⟨.pointer (some ⟨b, o' + a.toNat * i.size, none⟩), by simp [execOp, ho, hv, hw, key _ _ _ _ _ hlt], ?_⟩
      unfold V.rep
      exact ⟨b, o', rfl, hI', vs, h1, h2, hc⟩
  · unfold V.rep at hv
    obtain ⟨b, t', z, cap, hb, _, _, hv, _⟩ := hv
    refine ⟨.pointer (some ⟨b, 0 + a.toNat * i.size, none⟩), by simp [execOp, ho, hv, hw, key _ _ _ _ _ hlt], ?_⟩
    unfold V.rep
    exact ⟨b, hb, by rw [Nat.zero_add]⟩
  · unfold V.rep at hv
    obtain ⟨b, o', cap, hb, hv, hoff, _⟩ := hv
    have : o' = off := hoff.resolve_left (by omega)
    subst this
    refine ⟨.pointer (some ⟨b, o' + a.toNat * i.size, none⟩), by simp [execOp, ho, hv, hw, key _ _ _ _ _ hlt], ?_⟩
    unfold V.rep
    exact ⟨b, hb, rfl⟩

end

end
end Go.Proofs.Ytakjegcjeffmgaa.Am
