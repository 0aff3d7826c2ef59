/- Base: relations on worlds and readings of slices, said of no program. -/
import Derived.WalkKit
import Derived.WalkSpells
import Derived.WalkLawsBesides
import Derived.Lib.Hide
import Derived.Deep.AppendSrc
import Derived.Deep.Slices
namespace Go.Proofs.YtdakiocgijlgiaaGreatDoor
open Go.RowKit

/-- The world w' is w but for blocks in S (and new ones). -/
structure Ext (S : Nat → Prop) (w w' : World) : Prop where
  os : w'.os = w.os
  tape : w'.tape = w.tape
  output : w'.output = w.output
  size : w.heap.size ≤ w'.heap.size
  block : ∀ k, k < w.heap.size → ¬ S k → w'.heap[k]? = w.heap[k]?

/-- nothing old turned -/
abbrev Same (w w' : World) : Prop := Ext (fun _ => False) w w'

theorem Ext.refl (S : Nat → Prop) (w : World) : Ext S w w := ⟨rfl, rfl, rfl, Nat.le_refl _, fun _ _ _ => rfl⟩

theorem Ext.trans {S S' : Nat → Prop} {a b c : World} (h : Ext S a b) (k : Ext S' b c) (hS : ∀ i, i < a.heap.size → S' i → S i) : Ext S a c :=
  ⟨k.os.trans h.os, k.tape.trans h.tape, k.output.trans h.output, Nat.le_trans h.size k.size, fun i hi hn => by
    rw [k.block i (Nat.lt_of_lt_of_le hi h.size) (fun hs => hn (hS i hi hs)), h.block i hi hn]⟩

theorem Ext.mono {S S' : Nat → Prop} {a b : World} (h : Ext S a b) (hS : ∀ i, i < a.heap.size → S i → S' i) : Ext S' a b :=
  ⟨h.os, h.tape, h.output, h.size, fun i hi hn => h.block i hi (fun hs => hn (hS i hi hs))⟩

theorem Ext.same {S : Nat → Prop} {a b c : World} (h : Ext S a b) (k : Same b c) : Ext S a c := h.trans k (fun _ _ h => h.elim)
theorem Same.ext {S : Nat → Prop} {a b : World} (h : Same a b) : Ext S a b := h.mono (fun _ _ h => h.elim)
theorem Ext.drew {S : Nat → Prop} {a b : World} (h : Ext S a b) : Ext S a b.drew := h.trans (S' := S) ⟨rfl, rfl, rfl, Nat.le_refl _, fun _ _ _ => rfl⟩ (fun _ _ h => h)
theorem Ext.alloc {S : Nat → Prop} {a b : World} (h : Ext S a b) (o : Obj) : Ext S a (b.alloc o) :=
  h.trans (S' := S) ⟨rfl, rfl, rfl, by simp, fun k hk _ => Below.heap_alloc _ _ _ hk⟩ (fun _ _ h => h)
theorem Ext.below {S : Nat → Prop} {B : Nat} {w w' : World} (h : Ext S w w') (hB : B ≤ w.heap.size) (hS : ∀ k, k < B → ¬ S k) : Below B w w' :=
  ⟨h.os, h.tape, h.output, h.size, fun k hk => h.block k (by omega) (hS k hk)⟩
theorem Same.below {w w' : World} (h : Same w w') : Below w.heap.size w w' := Ext.below h (Nat.le_refl _) (fun _ _ h => h)
theorem Ext.cell {S : Nat → Prop} {w w' : World} (h : Ext S w w') {p : Addr} (hp : p.block < w.heap.size) (hn : ¬ S p.block) : w'.cell? p = w.cell? p := World.cell?_of_block (h.block _ hp hn)
theorem Ext.frozen {S : Nat → Prop} {w w' : World} (h : Ext S w w') {p : Addr} (hp : p.block < w.heap.size) (hn : ¬ S p.block) : w'.frozen? p = w.frozen? p := World.frozen?_of_block (h.block _ hp hn)

theorem Ext.keep {S : Nat → Prop} {w w' : World} {p : Addr} {v : Value} (h : Ext S w w') (hc : w.cell? p = some v) (hn : ¬ S p.block) : w'.cell? p = some v := by
  rw [h.cell (World.block_lt_of_cell? w p hc) hn]; exact hc
theorem Ext.obj {S : Nat → Prop} {w w' : World} {b : Nat} {o : Obj} (h : Ext S w w') (hb : w.heap[b]? = some o) (hn : ¬ S b) : w'.heap[b]? = some o := by
  rw [h.block b (Array.getElem?_eq_some_iff.1 hb).1 hn]; exact hb
/-- The value v is a slice of n elements of 'size' cells each; the cells read xs. -/
def Cells (w : World) (v : Value) (size n : Nat) (xs : List Value) : Prop :=
  xs.length = n * size ∧ ∃ p cap, v = .slice p n cap ∧ n ≤ cap ∧ cap ≤ maxLen ∧
    ((p = none ∧ n = 0 ∧ cap = 0) ∨ ∃ b o, p = some ⟨b, o, none⟩ ∧ b < w.heap.size ∧ ∀ i u, xs[i]? = some u → w.cell? ⟨b, o + i, none⟩ = some u)

theorem Cells.nil (w : World) (size : Nat) : Cells w (.slice none 0 0) size 0 [] := ⟨by simp, none, 0, rfl, Nat.le_refl _, by unfold maxLen; omega, .inl ⟨rfl, rfl, rfl⟩⟩

theorem Cells.ext {S : Nat → Prop} {w w' : World} {v : Value} {size n : Nat} {xs : List Value} (h : Cells w v size n xs) (e : Ext S w w') (hn : ∀ k, v.ownBlock = some k → ¬ S k) : Cells w' v size n xs := by
  obtain ⟨h1, p, cap, rfl, h2, h3, h4⟩ := h
  refine ⟨h1, p, cap, rfl, h2, h3, ?_⟩
  rcases h4 with h4 | ⟨b, o, rfl, hb, hc⟩
  · exact .inl h4
  · exact .inr ⟨b, o, rfl, Nat.lt_of_lt_of_le hb e.size, fun i u hu => by rw [e.cell hb (hn b rfl)]; exact hc i u hu⟩
theorem Cells.same {w w' : World} {v : Value} {size n : Nat} {xs : List Value} (h : Cells w v size n xs) (e : Same w w') : Cells w' v size n xs := h.ext e (fun _ _ h => h)
theorem Cells.lt {w : World} {v : Value} {size n : Nat} {xs : List Value} (h : Cells w v size n xs) : ∀ k, v.ownBlock = some k → k < w.heap.size := by
  obtain ⟨h1, p, cap, rfl, h2, h3, h4⟩ := h
  intro k hk
  rcases h4 with ⟨rfl, _⟩ | ⟨b, o, rfl, hb, hc⟩
  · simp [Value.ownBlock] at hk
  · simp [Value.ownBlock] at hk; omega
theorem Cells.len {w : World} {v : Value} {size n : Nat} {xs : List Value} (h : Cells w v size n xs) : n ≤ maxLen := by
  obtain ⟨h1, p, cap, rfl, h2, h3, h4⟩ := h; omega

/-- What the call owns, read. -/
theorem Cells.ofOwn {w : World} {base : Nat} {e : TypeId} {size : Nat} {v : Value} {n : Nat} {xs : List Value} (h : w.ownsRow base e size v n xs) : Cells w v size n xs := by
  refine ⟨h.1, ?_⟩
  rcases h.2 with ⟨rfl, rfl⟩ | ⟨g, cap, cur, rfl, hb, hg, hn, hm, hs, ht⟩
  · exact ⟨none, 0, rfl, Nat.le_refl _, by unfold maxLen; omega, .inl ⟨rfl, rfl, rfl⟩⟩
  · refine ⟨_, cap, rfl, hn, hm, .inr ⟨g, 0, rfl, (Array.getElem?_eq_some_iff.1 hg).1, fun i u hu => ?_⟩⟩
    have := h.cells (g := g) rfl i u hu
    rwa [Addr.add_lit] at this

/-- a cut of the first m -/
theorem Cells.take {w : World} {p : Option Addr} {n cap : Nat} {xs : List Value} {size : Nat} (h : Cells w (.slice p n cap) size n xs) (m : Nat) (hm : m ≤ n) : Cells w (.slice p m cap) size m (xs.take (m * size)) := by
  obtain ⟨h1, p', cap', he, h2, h3, h4⟩ := h
  simp only [Value.slice.injEq, true_and] at he
  obtain ⟨rfl, rfl⟩ := he
  refine ⟨by rw [List.length_take, h1]; exact Nat.min_eq_left (Nat.mul_le_mul_right _ hm), p, cap, rfl, by omega, h3, ?_⟩
  rcases h4 with ⟨rfl, rfl, rfl⟩ | ⟨b, o, rfl, hb, hc⟩
  · exact .inl ⟨rfl, by omega, rfl⟩
  · refine .inr ⟨b, o, rfl, hb, fun i u hu => hc i u ?_⟩
    rw [List.getElem?_take] at hu
    split at hu
    · exact hu
    · cases hu

theorem Cells.src {P : Program} {w : World} {p : Option Addr} {n cap : Nat} {xs : List Value} {size : Nat} {t e : TypeId} (hk : P.underlying t = some (.slice e)) (h : Cells w (.slice p n cap) size n xs) (h1c : ∀ u ∈ xs, u.oneCell' = true) : Src P size t (.slice p n cap) n xs w := by
  obtain ⟨h1, p', cap', he, h2, h3, h4⟩ := h
  simp only [Value.slice.injEq, true_and] at he
  obtain ⟨rfl, rfl⟩ := he
  rcases h4 with ⟨rfl, rfl, rfl⟩ | ⟨b, o, rfl, hb, hc⟩
  · have : xs = [] := List.eq_nil_of_length_eq_zero (by simpa using h1)
    subst this
    exact Src.ofNil w hk 0
  · exact Src.ofSlice w hk _ _ _ _ h1 (fun j u hu => by rw [Addr.add_lit]; exact hc j u hu) h1c

/-- A slice of bools. -/
abbrev Bools (w : World) (v : Value) (cs : List Bool) : Prop := Cells w v 1 cs.length (cs.map .bool)

/-- A tape: its block b, its coins' value v, the coins, how many were read, is it dead. -/
def TapeAt (w : World) (b : Nat) (v : Value) (cs : List Bool) (at' : Nat) (dead : Bool) : Prop :=
  (∃ T, w.heap[b]? = some (.cells #[.int .i64 at', .bool dead, v] T (0, 0))) ∧ Bools w v cs ∧ v.ownBlock ≠ some b ∧ at' ≤ cs.length ∧ cs.length ≤ 1048576

theorem TapeAt.ext {S : Nat → Prop} {w w' : World} {b : Nat} {v : Value} {cs : List Bool} {at' : Nat} {dead : Bool} (h : TapeAt w b v cs at' dead) (e : Ext S w w') (hb : ¬ S b) (hv : ∀ k, v.ownBlock = some k → ¬ S k) : TapeAt w' b v cs at' dead := by
  obtain ⟨⟨T, h1⟩, h2, h3, h4, h5⟩ := h
  exact ⟨⟨T, by rw [e.block b (Array.getElem?_eq_some_iff.1 h1).1 hb]; exact h1⟩, h2.ext e hv, h3, h4, h5⟩
theorem TapeAt.same {w w' : World} {b : Nat} {v : Value} {cs : List Bool} {at' : Nat} {dead : Bool} (h : TapeAt w b v cs at' dead) (e : Same w w') : TapeAt w' b v cs at' dead := h.ext e (fun h => h) (fun _ _ h => h)
theorem TapeAt.lt {w : World} {b : Nat} {v : Value} {cs : List Bool} {at' : Nat} {dead : Bool} (h : TapeAt w b v cs at' dead) : b < w.heap.size := by
  obtain ⟨⟨T, h1⟩, _⟩ := h
  exact (Array.getElem?_eq_some_iff.1 h1).1
/-- the cells that a walk wants -/
theorem TapeAt.cells {w : World} {b : Nat} {v : Value} {cs : List Bool} {at' : Nat} {dead : Bool} (h : TapeAt w b v cs at' dead) :
    w.cell? ⟨b, 0, none⟩ = some (.int .i64 at') ∧ w.cell? ⟨b, 1, none⟩ = some (.bool dead) ∧ w.cell? ⟨b, 2, none⟩ = some v ∧ w.frozen? ⟨b, 0, none⟩ = false ∧ w.frozen? ⟨b, 1, none⟩ = false := by
  obtain ⟨⟨T, h1⟩, _⟩ := h
  simp [World.cell?, World.frozen?, h1]

theorem Cells.one (w : World) (u : Value) (T : TypeId) : Cells (w.alloc (.cells #[u] T)) (.slice (some ⟨w.heap.size, 0, none⟩) 1 1) 1 1 [u] := by
  refine ⟨rfl, _, 1, rfl, Nat.le_refl _, by unfold maxLen; omega, .inr ⟨_, _, rfl, by simp, fun i u' hi => ?_⟩⟩
  rw [Nat.zero_add, World.cell?_alloc_new]
  simpa using hi

/-- after i flips from the beginning -/
def TapeRun (w : World) (b : Nat) (v : Value) (cs : List Bool) (i : Nat) : Prop := TapeAt w b v cs (min i cs.length) (decide (cs.length < i))
theorem TapeRun.zero {w : World} {b : Nat} {v : Value} {cs : List Bool} (h : TapeAt w b v cs 0 false) : TapeRun w b v cs 0 := by
  unfold TapeRun; simpa using h
theorem TapeRun.live {w : World} {b : Nat} {v : Value} {cs : List Bool} {i : Nat} (h : TapeRun w b v cs i) (hi : i ≤ cs.length) : TapeAt w b v cs i false := by
  unfold TapeRun at h
  rwa [Nat.min_eq_left hi, decide_eq_false (by omega)] at h
theorem TapeRun.on {w : World} {b : Nat} {v : Value} {cs : List Bool} {i : Nat} (h : TapeAt w b v cs (i + 1) false) (hi : i < cs.length) : TapeRun w b v cs (i + 1) := by
  unfold TapeRun
  rwa [Nat.min_eq_left hi, decide_eq_false (by omega)]
theorem TapeRun.off {w : World} {b : Nat} {v : Value} {cs : List Bool} {i : Nat} (h : TapeAt w b v cs (min i cs.length) true) (hi : cs.length ≤ i) : TapeRun w b v cs (i + 1) := by
  unfold TapeRun
  rw [Nat.min_eq_right hi] at h
  rwa [Nat.min_eq_right (by omega), decide_eq_true (by omega)]
theorem TapeRun.ext {S : Nat → Prop} {w w' : World} {b : Nat} {v : Value} {cs : List Bool} {i : Nat} (h : TapeRun w b v cs i) (e : Ext S w w') (hb : ¬ S b) (hv : ∀ k, v.ownBlock = some k → ¬ S k) : TapeRun w' b v cs i := TapeAt.ext h e hb hv

theorem TapeAt.made {w : World} {base : Nat} {e T : TypeId} {v : Value} {cs : List Bool} {k : Nat} {d : Bool} (h : w.ownsRow base e 1 v cs.length (cs.map .bool)) (hk : k ≤ cs.length) (hl : cs.length ≤ 1048576) :
    TapeAt (w.alloc (.cells #[.int .i64 k, .bool d, v] T)) w.heap.size v cs k d := by
  refine ⟨⟨T, heap_alloc_new w _⟩, Cells.ofOwn (h.alloc _), ?_, hk, hl⟩
  intro he
  have := (h.lt _ he).2
  omega

end Go.Proofs.YtdakiocgijlgiaaGreatDoor
