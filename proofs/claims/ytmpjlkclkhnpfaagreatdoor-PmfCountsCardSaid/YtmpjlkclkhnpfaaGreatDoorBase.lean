/- Base: relations on worlds and readings of slices, said of no program. -/
import Derived.WalkKit
import Derived.WalkSpells
import Derived.WalkLawsBesides
import Derived.Lib.Hide
import Derived.Deep.AppendSrc
import Derived.Deep.Slices
namespace Go.Proofs.YtmpjlkclkhnpfaaGreatDoor
open Go.RowKit

/-- The world w' is w but for blocks in S (and new ones). -/
structure Ext (S : Nat → Prop) (w w' : World) : Prop where
  os : w'.os = w.os
  tape : w'.tape = w.tape
  output : w'.output = w.output
  size : w.heap.size ≤ w'.heap.size
  block : ∀ k, k < w.heap.size → ¬ S k → w'.heap[k]? = w.heap[k]?

/-- nothing old turned -/
abbrev Same (w w' : World) : Prop := Ext (fun _ => False) w w'

theorem Ext.refl (S : Nat → Prop) (w : World) : Ext S w w := ⟨rfl, rfl, rfl, Nat.le_refl _, fun _ _ _ => rfl⟩

theorem Ext.trans {S S' : Nat → Prop} {a b c : World} (h : Ext S a b) (k : Ext S' b c) (hS : ∀ i, i < a.heap.size → S' i → S i) : Ext S a c :=
  ⟨k.os.trans h.os, k.tape.trans h.tape, k.output.trans h.output, Nat.le_trans h.size k.size, fun i hi hn => by
    rw [k.block i (Nat.lt_of_lt_of_le hi h.size) (fun hs => hn (hS i hi hs)), h.block i hi hn]⟩

theorem Ext.mono {S S' : Nat → Prop} {a b : World} (h : Ext S a b) (hS : ∀ i, i < a.heap.size → S i → S' i) : Ext S' a b :=
  ⟨h.os, h.tape, h.output, h.size, fun i hi hn => h.block i hi (fun hs => hn (hS i hi hs))⟩

theorem Ext.same {S : Nat → Prop} {a b c : World} (h : Ext S a b) (k : Same b c) : Ext S a c := h.trans k (fun _ _ h => h.elim)
theorem Same.ext {S : Nat → Prop} {a b : World} (h : Same a b) : Ext S a b := h.mono (fun _ _ h => h.elim)
theorem Ext.drewN {S : Nat → Prop} {a b : World} (h : Ext S a b) (n : Nat) : Ext S a (b.drewN n) := h.trans (S' := S) ⟨rfl, rfl, rfl, Nat.le_refl _, fun _ _ _ => rfl⟩ (fun _ _ h => h)
theorem Ext.drew {S : Nat → Prop} {a b : World} (h : Ext S a b) : Ext S a b.drew := h.trans (S' := S) ⟨rfl, rfl, rfl, Nat.le_refl _, fun _ _ _ => rfl⟩ (fun _ _ h => h)
theorem Ext.alloc {S : Nat → Prop} {a b : World} (h : Ext S a b) (o : Obj) : Ext S a (b.alloc o) :=
  h.trans (S' := S) ⟨rfl, rfl, rfl, by simp, fun k hk _ => Below.heap_alloc _ _ _ hk⟩ (fun _ _ h => h)
theorem Ext.setCell {S : Nat → Prop} {a b : World} (h : Ext S a b) {p : Addr} (hp : p.block < a.heap.size → S p.block) (u : Value) : Ext S a (b.setCell p u) :=
  h.trans (S' := fun k => k = p.block) ⟨rfl, rfl, rfl, by simp, fun k _ hn => Below.heap_setCell _ _ _ _ hn⟩ (fun i hi e => by subst e; exact hp hi)
theorem Ext.grown {S : Nat → Prop} {a b c : World} {row : Option Nat} (h : Ext S a b) (hg : b.grownBy c row) (hr : ∀ k, row = some k → k < a.heap.size → S k) : Ext S a c :=
  h.trans (S' := fun k => row = some k) ⟨hg.os, hg.tape, hg.output, hg.size, fun k hk hn => hg.block k hk (fun e => hn e.symm)⟩ (fun i hi e => hr i e hi)
theorem Ext.below {S : Nat → Prop} {B : Nat} {w w' : World} (h : Ext S w w') (hB : B ≤ w.heap.size) (hS : ∀ k, k < B → ¬ S k) : Below B w w' :=
  ⟨h.os, h.tape, h.output, h.size, fun k hk => h.block k (by omega) (hS k hk)⟩
theorem Same.below {w w' : World} (h : Same w w') : Below w.heap.size w w' := Ext.below h (Nat.le_refl _) (fun _ _ h => h)
theorem Ext.cell {S : Nat → Prop} {w w' : World} (h : Ext S w w') {p : Addr} (hp : p.block < w.heap.size) (hn : ¬ S p.block) : w'.cell? p = w.cell? p := World.cell?_of_block (h.block _ hp hn)
theorem Ext.frozen {S : Nat → Prop} {w w' : World} (h : Ext S w w') {p : Addr} (hp : p.block < w.heap.size) (hn : ¬ S p.block) : w'.frozen? p = w.frozen? p := World.frozen?_of_block (h.block _ hp hn)

theorem Ext.keep {S : Nat → Prop} {w w' : World} {p : Addr} {v : Value} (h : Ext S w w') (hc : w.cell? p = some v) (hn : ¬ S p.block) : w'.cell? p = some v := by
  rw [h.cell (World.block_lt_of_cell? w p hc) hn]; exact hc
theorem Ext.keepS {w w' : World} {p : Addr} {v : Value} (h : Same w w') (hc : w.cell? p = some v) : w'.cell? p = some v := h.keep hc (fun h => h)

theorem Ext.obj {S : Nat → Prop} {w w' : World} {b : Nat} {o : Obj} (h : Ext S w w') (hb : w.heap[b]? = some o) (hn : ¬ S b) : w'.heap[b]? = some o := by
  rw [h.block b (Array.getElem?_eq_some_iff.1 hb).1 hn]; exact hb
theorem heap_alloc2 (w : World) (o o' : Obj) : ((w.alloc o).alloc o').heap[w.heap.size]? = some o ∧ ((w.alloc o).alloc o').heap[w.heap.size + 1]? = some o' := by
  refine ⟨((Ext.refl (fun _ => False) (w.alloc o)).alloc o').obj (heap_alloc_new w o) (fun h => h), ?_⟩
  have := heap_alloc_new (w.alloc o) o'
  rwa [World.size_alloc] at this
theorem heap_alloc3 (w : World) (o o' o'' : Obj) : (((w.alloc o).alloc o').alloc o'').heap[w.heap.size]? = some o ∧ (((w.alloc o).alloc o').alloc o'').heap[w.heap.size + 1]? = some o' ∧ (((w.alloc o).alloc o').alloc o'').heap[w.heap.size + 1 + 1]? = some o'' := by
  obtain ⟨h1, h2⟩ := heap_alloc2 w o o'
  refine ⟨((Ext.refl (fun _ => False) _).alloc o'').obj h1 (fun h => h), ((Ext.refl (fun _ => False) _).alloc o'').obj h2 (fun h => h), ?_⟩
  have := heap_alloc_new ((w.alloc o).alloc o') o''
  rwa [World.size_alloc, World.size_alloc] at this
theorem cell_of {w : World} {b i : Nat} {c : Array Value} {T : TypeId} {f : Nat × Nat} {v : Value} (h : w.heap[b]? = some (.cells c T f)) (hv : c[i]? = some v) : w.cell? ⟨b, i, none⟩ = some v := by
  simp [World.cell?, h, hv]
theorem free_of {w : World} {b i : Nat} {c : Array Value} {T : TypeId} (h : w.heap[b]? = some (.cells c T (0, 0))) : w.frozen? ⟨b, i, none⟩ = false := by
  simp [World.frozen?, h]

theorem ret_true {x : Bool} (h : x = true) : Ending.returned (.bool x) = .returned (.bool true) := by rw [h]

/-- The value v is a slice of n elements of 'size' cells each; the cells read xs. -/
def Cells (w : World) (v : Value) (size n : Nat) (xs : List Value) : Prop :=
  xs.length = n * size ∧ ∃ p cap, v = .slice p n cap ∧ n ≤ cap ∧ cap ≤ maxLen ∧
    ((p = none ∧ n = 0 ∧ cap = 0) ∨ ∃ b o, p = some ⟨b, o, none⟩ ∧ b < w.heap.size ∧ ∀ i u, xs[i]? = some u → w.cell? ⟨b, o + i, none⟩ = some u)

theorem Cells.nil (w : World) (size : Nat) : Cells w (.slice none 0 0) size 0 [] := ⟨by simp, none, 0, rfl, Nat.le_refl _, by unfold maxLen; omega, .inl ⟨rfl, rfl, rfl⟩⟩

theorem Cells.ext {S : Nat → Prop} {w w' : World} {v : Value} {size n : Nat} {xs : List Value} (h : Cells w v size n xs) (e : Ext S w w') (hn : ∀ k, v.ownBlock = some k → ¬ S k) : Cells w' v size n xs := by
  obtain ⟨h1, p, cap, rfl, h2, h3, h4⟩ := h
  refine ⟨h1, p, cap, rfl, h2, h3, ?_⟩
  rcases h4 with h4 | ⟨b, o, rfl, hb, hc⟩
  · exact .inl h4
  · exact .inr ⟨b, o, rfl, Nat.lt_of_lt_of_le hb e.size, fun i u hu => by rw [e.cell hb (hn b rfl)]; exact hc i u hu⟩
theorem Cells.same {w w' : World} {v : Value} {size n : Nat} {xs : List Value} (h : Cells w v size n xs) (e : Same w w') : Cells w' v size n xs := h.ext e (fun _ _ h => h)
theorem Cells.lt {w : World} {v : Value} {size n : Nat} {xs : List Value} (h : Cells w v size n xs) : ∀ k, v.ownBlock = some k → k < w.heap.size := by
  obtain ⟨h1, p, cap, rfl, h2, h3, h4⟩ := h
  intro k hk
  rcases h4 with ⟨rfl, _⟩ | ⟨b, o, rfl, hb, hc⟩
  · simp [Value.ownBlock] at hk
  · simp [Value.ownBlock] at hk; omega
theorem Cells.len {w : World} {v : Value} {size n : Nat} {xs : List Value} (h : Cells w v size n xs) : n ≤ maxLen := by
  obtain ⟨h1, p, cap, rfl, h2, h3, h4⟩ := h; omega

/-- What the call owns, read. -/
theorem Cells.ofOwn {w : World} {base : Nat} {e : TypeId} {size : Nat} {v : Value} {n : Nat} {xs : List Value} (h : w.ownsRow base e size v n xs) : Cells w v size n xs := by
  refine ⟨h.1, ?_⟩
  rcases h.2 with ⟨rfl, rfl⟩ | ⟨g, cap, cur, rfl, hb, hg, hn, hm, hs, ht⟩
  · exact ⟨none, 0, rfl, Nat.le_refl _, by unfold maxLen; omega, .inl ⟨rfl, rfl, rfl⟩⟩
  · refine ⟨_, cap, rfl, hn, hm, .inr ⟨g, 0, rfl, (Array.getElem?_eq_some_iff.1 hg).1, fun i u hu => ?_⟩⟩
    have := h.cells (g := g) rfl i u hu
    rwa [Addr.add_lit] at this

/-- a cut of the first m -/
theorem Cells.take {w : World} {p : Option Addr} {n cap : Nat} {xs : List Value} {size : Nat} (h : Cells w (.slice p n cap) size n xs) (m : Nat) (hm : m ≤ n) : Cells w (.slice p m cap) size m (xs.take (m * size)) := by
  obtain ⟨h1, p', cap', he, h2, h3, h4⟩ := h
  simp only [Value.slice.injEq, true_and] at he
  obtain ⟨rfl, rfl⟩ := he
  refine ⟨by rw [List.length_take, h1]; exact Nat.min_eq_left (Nat.mul_le_mul_right _ hm), p, cap, rfl, by omega, h3, ?_⟩
  rcases h4 with ⟨rfl, rfl, rfl⟩ | ⟨b, o, rfl, hb, hc⟩
  · exact .inl ⟨rfl, by omega, rfl⟩
  · refine .inr ⟨b, o, rfl, hb, fun i u hu => hc i u ?_⟩
    rw [List.getElem?_take] at hu
    split at hu
    · exact hu
    · cases hu

theorem Cells.src {P : Program} {w : World} {p : Option Addr} {n cap : Nat} {xs : List Value} {size : Nat} {t e : TypeId} (hk : P.underlying t = some (.slice e)) (h : Cells w (.slice p n cap) size n xs) (h1c : ∀ u ∈ xs, u.oneCell' = true) : Src P size t (.slice p n cap) n xs w := by
  obtain ⟨h1, p', cap', he, h2, h3, h4⟩ := h
  simp only [Value.slice.injEq, true_and] at he
  obtain ⟨rfl, rfl⟩ := he
  rcases h4 with ⟨rfl, rfl, rfl⟩ | ⟨b, o, rfl, hb, hc⟩
  · have : xs = [] := List.eq_nil_of_length_eq_zero (by simpa using h1)
    subst this
    exact Src.ofNil w hk 0
  · exact Src.ofSlice w hk _ _ _ _ h1 (fun j u hu => by rw [Addr.add_lit]; exact hc j u hu) h1c

/-- 'append' on what the call owns, of a slice that reads. -/
theorem run_append_cells {P : Program} (w : World) (base : Nat) (t ty e : TypeId) (i : TypeInfo) (z : Value) (size bytes : Nat) (ht : P.underlying t = some (.slice e)) (hi : P.info? e = some i) (hz : i.zero = some z)
    (hsize : i.size = size) (hby : i.bytes = bytes) (hzs : z.cells.size = size) (hsz : 0 < size)
    (v : Value) (n : Nat) (xs : List Value) (hown : w.ownsRow base e size v n xs)
    (u : Value) (m : Nat) (news : List Value) (hu : Cells w u size m news) (h1 : ∀ u ∈ news, u.oneCell' = true)
    (h63 : n + m ≤ maxLen) (hbytes : (n + m) * bytes ≤ 140737488355328) (hbase : base ≤ w.heap.size) :
    ∃ v' w', (Builtin.append_ #[t, t] ty #[v, u]).run P w = .ok v' w' ∧ w'.ownsRow base e size v' (n + m) (xs ++ news) ∧ w.grownBy w' v.ownBlock := by
  obtain ⟨h1', p, cap, rfl, h2, h3, h4⟩ := hu
  rcases h4 with ⟨rfl, rfl, rfl⟩ | ⟨b, o, rfl, hb, hc⟩
  · have : news = [] := List.eq_nil_of_length_eq_zero (by simpa using h1')
    subst this
    exact ⟨v, w, run_append_owned_none w base t ty e i size ht hi v n xs hown, by simpa using hown, ⟨rfl, rfl, rfl, Nat.le_refl _, fun _ _ _ => rfl⟩⟩
  · obtain ⟨v', w', r1, r2, r3, _⟩ := run_append_own (P := P) w base t ty e i z size bytes ht hi hz hsize hby hzs hsz v n xs hown ⟨b, o, none⟩ m cap news h1' (fun j u hu => by rw [Addr.add_lit]; exact hc j u hu) h1 h63 hbytes hbase
    exact ⟨v', w', r1, r2, r3⟩

theorem wpList_append_cells {P : Program} {w : World} {ops : Array Oper} {rest : List Oper} {o : Oper} {a : Act} {Q : Exit → Act → World → Prop} (hgd : o.guard = none) (s x : Operand) (t : TypeId)
    (ho : o.op = .call { callee := .builtin .append, args := #[s, x], argTypes := #[t, t] })
    (base : Nat) (e : TypeId) (z : Value) (size bytes : Nat) (ht : P.underlying t = some (.slice e)) (hinf : (P.info? e).map (fun i => (i.zero, i.size, i.bytes)) = some (some z, size, bytes))
    (hzs : z.cells.size = size) (hsz : 0 < size)
    (v : Value) (n : Nat) (xs : List Value) (hs : a.eval s = v) (hown : w.ownsRow base e size v n xs)
    (u : Value) (m : Nat) (news : List Value) (hx : a.eval x = u) (hu : Cells w u size m news) (h1 : ∀ u ∈ news, u.oneCell' = true)
    (h63 : n + m ≤ maxLen) (hbytes : (n + m) * bytes ≤ 140737488355328) (hbase : base ≤ w.heap.size)
    (h : ∀ v' w', w'.ownsRow base e size v' (n + m) (xs ++ news) → w.grownBy w' v.ownBlock → wpList P ops Q rest (a.put o.dst v') w') : wpList P ops Q (o :: rest) a w := by
  obtain ⟨i, hi, hz, hsize, hby⟩ := info_parts hinf
  obtain ⟨v', w', hrun, r1, r2⟩ := run_append_cells (P := P) w base t o.type e i z size bytes ht hi hz hsize hby hzs hsz v n xs hown u m news hu h1 h63 hbytes hbase
  refine wpList_plain hgd fun K hK => ?_
  unfold Oper.wp
  simp [execOp, ho, resolve, invoke, builtin, hs, hx, hrun, Result.andThen]
  exact hK _ _ (h v' w' r1 r2)

theorem ownsRow_ext {S : Nat → Prop} {w w' : World} {base : Nat} {e : TypeId} {size : Nat} {v : Value} {n : Nat} {xs : List Value} (h : w.ownsRow base e size v n xs) (x : Ext S w w') (hn : ∀ k, v.ownBlock = some k → ¬ S k) : w'.ownsRow base e size v n xs := by
  refine ⟨h.1, ?_⟩
  rcases h.2 with h2 | ⟨g, cap, cur, rfl, hb, hg, r⟩
  · exact .inl h2
  · exact .inr ⟨g, cap, cur, rfl, hb, by rw [x.block g (Array.getElem?_eq_some_iff.1 hg).1 (hn g rfl)]; exact hg, r⟩

theorem ownsRow_shape {w : World} {base : Nat} {e : TypeId} {size : Nat} {v : Value} {n : Nat} {xs : List Value} (h : w.ownsRow base e size v n xs) : ∃ p c, v = .slice p n c := by
  rcases h.2 with ⟨rfl, rfl⟩ | ⟨g, cap, cur, rfl, _⟩
  · exact ⟨_, _, rfl⟩
  · exact ⟨_, _, rfl⟩

theorem bools_oneCell (cs : List Bool) : ∀ u ∈ cs.map Value.bool, u.oneCell' = true := by
  intro u hu
  obtain ⟨_, _, rfl⟩ := List.mem_map.1 hu
  rfl

/-- A slice of bools. -/
abbrev Bools (w : World) (v : Value) (cs : List Bool) : Prop := Cells w v 1 cs.length (cs.map .bool)

/-- A tape: its block b, its coins' value v, the coins, how many were read, is it dead. -/
def TapeAt (w : World) (b : Nat) (v : Value) (cs : List Bool) (at' : Nat) (dead : Bool) : Prop :=
  (∃ T, w.heap[b]? = some (.cells #[.int .i64 at', .bool dead, v] T (0, 0))) ∧ Bools w v cs ∧ v.ownBlock ≠ some b ∧ at' ≤ cs.length ∧ cs.length ≤ 1048576

theorem TapeAt.ext {S : Nat → Prop} {w w' : World} {b : Nat} {v : Value} {cs : List Bool} {at' : Nat} {dead : Bool} (h : TapeAt w b v cs at' dead) (e : Ext S w w') (hb : ¬ S b) (hv : ∀ k, v.ownBlock = some k → ¬ S k) : TapeAt w' b v cs at' dead := by
  obtain ⟨⟨T, h1⟩, h2, h3, h4, h5⟩ := h
  exact ⟨⟨T, by rw [e.block b (Array.getElem?_eq_some_iff.1 h1).1 hb]; exact h1⟩, h2.ext e hv, h3, h4, h5⟩
theorem TapeAt.same {w w' : World} {b : Nat} {v : Value} {cs : List Bool} {at' : Nat} {dead : Bool} (h : TapeAt w b v cs at' dead) (e : Same w w') : TapeAt w' b v cs at' dead := h.ext e (fun h => h) (fun _ _ h => h)
theorem TapeAt.lt {w : World} {b : Nat} {v : Value} {cs : List Bool} {at' : Nat} {dead : Bool} (h : TapeAt w b v cs at' dead) : b < w.heap.size := by
  obtain ⟨⟨T, h1⟩, _⟩ := h
  exact (Array.getElem?_eq_some_iff.1 h1).1
/-- the cells that a walk wants -/
theorem TapeAt.cells {w : World} {b : Nat} {v : Value} {cs : List Bool} {at' : Nat} {dead : Bool} (h : TapeAt w b v cs at' dead) :
    w.cell? ⟨b, 0, none⟩ = some (.int .i64 at') ∧ w.cell? ⟨b, 1, none⟩ = some (.bool dead) ∧ w.cell? ⟨b, 2, none⟩ = some v ∧ w.frozen? ⟨b, 0, none⟩ = false ∧ w.frozen? ⟨b, 1, none⟩ = false := by
  obtain ⟨⟨T, h1⟩, _⟩ := h
  simp [World.cell?, World.frozen?, h1]

theorem heap_setCell_same {w : World} {b i : Nat} {u : Value} {c : Array Value} {T : TypeId} {f : Nat × Nat} (h : w.heap[b]? = some (.cells c T f)) : (w.setCell ⟨b, i, none⟩ u).heap[b]? = some (.cells (c.setIfInBounds i u) T f) := by
  simp [World.setCell, Array.getElem?_modify, h]

theorem set3 {w : World} {b : Nat} {x0 x1 x2 : Value} {T : TypeId} (h : w.heap[b]? = some (.cells #[x0, x1, x2] T (0, 0))) (y0 y1 y2 : Value) :
    (((w.setCell ⟨b, 0, none⟩ y0).setCell ⟨b, 1, none⟩ y1).setCell ⟨b, 2, none⟩ y2).heap[b]? = some (.cells #[y0, y1, y2] T (0, 0)) ∧ Ext (· = b) w (((w.setCell ⟨b, 0, none⟩ y0).setCell ⟨b, 1, none⟩ y1).setCell ⟨b, 2, none⟩ y2) := by
  refine ⟨?_, ?_⟩
  · rw [heap_setCell_same (heap_setCell_same (heap_setCell_same h))]; rfl
  · exact Ext.setCell (S := (· = b)) (Ext.setCell (S := (· = b)) (Ext.setCell (S := (· = b)) (Ext.refl _ w) (fun _ => rfl) _) (fun _ => rfl) _) (fun _ => rfl) _

theorem cells2 {w : World} {b : Nat} {x0 x1 : Value} {T : TypeId} (h : w.heap[b]? = some (.cells #[x0, x1] T (0, 0))) :
    w.cell? ⟨b, 0, none⟩ = some x0 ∧ w.cell? ⟨b, 1, none⟩ = some x1 ∧ (∀ i, w.frozen? ⟨b, i, none⟩ = false) ∧ b < w.heap.size :=
  ⟨cell_of h rfl, cell_of h rfl, fun _ => free_of h, (Array.getElem?_eq_some_iff.1 h).1⟩
theorem cells3 {w : World} {b : Nat} {x0 x1 x2 : Value} {T : TypeId} (h : w.heap[b]? = some (.cells #[x0, x1, x2] T (0, 0))) :
    w.cell? ⟨b, 0, none⟩ = some x0 ∧ w.cell? ⟨b, 1, none⟩ = some x1 ∧ w.cell? ⟨b, 2, none⟩ = some x2 ∧ (∀ i, w.frozen? ⟨b, i, none⟩ = false) ∧ b < w.heap.size :=
  ⟨cell_of h rfl, cell_of h rfl, cell_of h rfl, fun _ => free_of h, (Array.getElem?_eq_some_iff.1 h).1⟩
theorem cells5 {w : World} {b : Nat} {x0 x1 x2 x3 x4 : Value} {T : TypeId} (h : w.heap[b]? = some (.cells #[x0, x1, x2, x3, x4] T (0, 0))) :
    w.cell? ⟨b, 0, none⟩ = some x0 ∧ w.cell? ⟨b, 1, none⟩ = some x1 ∧ w.cell? ⟨b, 2, none⟩ = some x2 ∧ w.cell? ⟨b, 3, none⟩ = some x3 ∧ w.cell? ⟨b, 4, none⟩ = some x4 ∧ (∀ i, w.frozen? ⟨b, i, none⟩ = false) ∧ b < w.heap.size :=
  ⟨cell_of h rfl, cell_of h rfl, cell_of h rfl, cell_of h rfl, cell_of h rfl, fun _ => free_of h, (Array.getElem?_eq_some_iff.1 h).1⟩
/-- one store into a block -/
theorem set1c {w : World} {b i : Nat} {u : Value} {c : Array Value} {T : TypeId} {f : Nat × Nat} (h : w.heap[b]? = some (.cells c T f)) : (w.setCell ⟨b, i, none⟩ u).heap[b]? = some (.cells (c.setIfInBounds i u) T f) ∧ Ext (· = b) w (w.setCell ⟨b, i, none⟩ u) :=
  ⟨heap_setCell_same h, Ext.setCell (S := (· = b)) (Ext.refl _ w) (fun _ => rfl) _⟩

theorem TapeAt.set0 {w : World} {b : Nat} {v : Value} {cs : List Bool} {k : Nat} {dead : Bool} (h : TapeAt w b v cs k dead) (k' : Nat) (hk : k' ≤ cs.length) : TapeAt (w.setCell ⟨b, 0, none⟩ (.int .i64 k')) b v cs k' dead ∧ Ext (· = b) w (w.setCell ⟨b, 0, none⟩ (.int .i64 k')) := by
  have hx : Ext (· = b) w (w.setCell ⟨b, 0, none⟩ (.int .i64 k')) := Ext.setCell (S := (· = b)) (Ext.refl _ w) (fun _ => rfl) _
  refine ⟨?_, hx⟩
  obtain ⟨⟨T, h1⟩, h2, h3, h4, h5⟩ := h
  refine ⟨⟨T, ?_⟩, h2.ext hx (fun k hk' e => h3 (by rw [hk', e])), h3, hk, h5⟩
  rw [heap_setCell_same h1]; rfl
theorem TapeAt.set1 {w : World} {b : Nat} {v : Value} {cs : List Bool} {k : Nat} {dead : Bool} (h : TapeAt w b v cs k dead) (d : Bool) : TapeAt (w.setCell ⟨b, 1, none⟩ (.bool d)) b v cs k d ∧ Ext (· = b) w (w.setCell ⟨b, 1, none⟩ (.bool d)) := by
  have hx : Ext (· = b) w (w.setCell ⟨b, 1, none⟩ (.bool d)) := Ext.setCell (S := (· = b)) (Ext.refl _ w) (fun _ => rfl) _
  refine ⟨?_, hx⟩
  obtain ⟨⟨T, h1⟩, h2, h3, h4, h5⟩ := h
  refine ⟨⟨T, ?_⟩, h2.ext hx (fun k hk' e => h3 (by rw [hk', e])), h3, h4, h5⟩
  rw [heap_setCell_same h1]; rfl
theorem TapeAt.drewN {w : World} {b : Nat} {v : Value} {cs : List Bool} {k : Nat} {dead : Bool} (h : TapeAt w b v cs k dead) (n : Nat) : TapeAt (w.drewN n) b v cs k dead := h.same ((Ext.refl _ w).drewN n)

/-- x & (2^j - 1), of any int -/
theorem and_mask (j : Nat) (hj : j ≤ 62) (x : Int) : bits BinOp.and IntKind.i64 x (2 ^ j - 1) = x % 2 ^ j := by
  have hpos : 0 < 2 ^ j := Nat.two_pow_pos j
  have hle : 2 ^ j ≤ 2 ^ 62 := Nat.pow_le_pow_right (by decide) hj
  have hc : ((2 : Int) ^ j - 1) = ((2 ^ j - 1 : Nat) : Int) := by
    rw [Int.natCast_sub hpos]; simp
  have h62 : (2 : Nat) ^ 62 = 4611686018427387904 := by decide
  have h64 : (2 : Nat) ^ 64 = 18446744073709551616 := by decide
  have hm : ((2 ^ j - 1 : Nat) % 2 ^ 64) = 2 ^ j - 1 := Nat.mod_eq_of_lt (by omega)
  have hd : (2 : Int) ^ j ∣ 2 ^ 64 := ⟨2 ^ (64 - j), by rw [← Int.pow_add, show j + (64 - j) = 64 by omega]⟩
  have hcast : ((2 ^ j : Nat) : Int) = 2 ^ j := by simp
  have h1 : ((x % 2 ^ 64).toNat % 2 ^ j : Nat) = (x % 2 ^ j : Int) := by
    rw [Int.natCast_emod, Int.toNat_of_nonneg (Int.emod_nonneg _ (by decide)), hcast, Int.emod_emod_of_dvd _ hd]
  have h2 : 0 ≤ x % 2 ^ j := Int.emod_nonneg _ (by omega)
  have h3 : x % 2 ^ j < 2 ^ j := Int.emod_lt_of_pos _ (by omega)
  have h4 : (2 : Int) ^ j ≤ 4611686018427387904 := by omega
  have key : (BitVec.ofInt 64 x &&& BitVec.ofInt 64 (2 ^ j - 1)).toNat = (x % 2 ^ 64).toNat % 2 ^ j := by
    rw [hc, BitVec.ofInt_natCast, BitVec.toNat_and, BitVec.toNat_ofNat, BitVec.toNat_ofInt, hm, Nat.and_two_pow_sub_one_eq_mod]
    rfl
  show IntKind.i64.wrap ((BitVec.ofInt 64 x &&& BitVec.ofInt 64 (2 ^ j - 1)).toNat : Int) = _
  rw [key, h1, IntKind.wrap_i64]
  omega
theorem and1 (x : Int) : bits BinOp.and IntKind.i64 x 1 = x % 2 := and_mask 1 (by decide) x

theorem nat_of {M : Nat} (x : Int) (h0 : 0 ≤ x) (h1 : x ≤ M) : ∃ n : Nat, Value.int .i64 x = .int .i64 n ∧ n ≤ M := ⟨x.toNat, by rw [Int.toNat_of_nonneg h0], by omega⟩

theorem nat_is {M : Int} {K : Nat} (x n : Int) (h0 : 0 ≤ x) (h1 : x ≤ K) (h2 : x = max 0 (min n M)) : ∃ m : Nat, Value.int .i64 x = .int .i64 m ∧ m ≤ K ∧ Hid (m = (max 0 (min n M)).toNat) := ⟨x.toNat, by rw [Int.toNat_of_nonneg h0], by omega, by show _ = _; rw [h2]⟩

theorem Cells.one (w : World) (u : Value) (T : TypeId) : Cells (w.alloc (.cells #[u] T)) (.slice (some ⟨w.heap.size, 0, none⟩) 1 1) 1 1 [u] := by
  refine ⟨rfl, _, 1, rfl, Nat.le_refl _, by unfold maxLen; omega, .inr ⟨_, _, rfl, by simp, fun i u' hi => ?_⟩⟩
  rw [Nat.zero_add, World.cell?_alloc_new]
  simpa using hi

/-- append of one element that was just boxed, to a row of the call's own: what follows sees a new world -/
theorem own_after {P : Program} {w wb : World} {ops : Array Oper} {rest : List Oper} {o : Oper} {a : Act} {Q : Exit → Act → World → Prop} (hgd : o.guard = none) (s x : Operand) (t : TypeId)
    (ho : o.op = .call { callee := .builtin .append, args := #[s, x], argTypes := #[t, t] })
    (base : Nat) (e : TypeId) (z : Value) (ht : P.underlying t = some (.slice e)) (bytes : Nat) (hinf : (P.info? e).map (fun i => (i.zero, i.size, i.bytes)) = some (some z, 1, bytes)) (hzs : z.cells.size = 1)
    (p : Option Addr) (n c : Nat) (xs : List Value) (u : Value) (hs : a.eval s = .slice p n c) (hx : a.eval x = .slice (some ⟨w.heap.size, 0, none⟩) 1 1) (hwb : wb = w.alloc (.cells #[u] e))
    (hown : w.ownsRow base e 1 (.slice p n c) n xs) (hu : u.oneCell' = true) (hn : n + 1 ≤ 1048576) (hby : bytes ≤ 1048576) (hbase : base ≤ w.heap.size)
    (h : ∀ p' c' w', w'.ownsRow base e 1 (.slice p' (n + 1) c') (n + 1) (xs ++ [u]) → Ext (fun k => base ≤ k) w w' → wpList P ops Q rest (a.put o.dst (.slice p' (n + 1) c')) w') : wpList P ops Q (o :: rest) a wb := by
  subst hwb
  refine wpList_append_cells hgd s x t ho base e z 1 bytes ht hinf hzs (by decide) (.slice p n c) n xs hs (hown.alloc _) _ 1 [u] hx (Cells.one _ _ _) (by simpa using hu) (by unfold maxLen; omega)
    (Nat.le_trans (Nat.mul_le_mul hn hby) (by decide)) (by simp; omega) ?_
  intro v' w' ho' hg
  obtain ⟨p', c', rfl⟩ := ownsRow_shape ho'
  exact h p' c' w' ho' (((Ext.refl _ w).alloc _).grown hg (fun k hk _ => (hown.lt k hk).1))

theorem bool_cell {w : World} {p : Option Addr} {c : Nat} {cs : List Bool} (hb : Bools w (.slice p cs.length c) cs) {k : Nat} (hk : k < cs.length) {bit : Bool} (Hb : Hid (cs.getD k false = bit)) :
    ∃ bb o, p = some ⟨bb, o, none⟩ ∧ bb < w.heap.size ∧ w.cell? ⟨bb, o + k, none⟩ = some (.bool bit) := by
  obtain ⟨_, q, cap, he, _, _, h4⟩ := hb
  simp at he
  obtain ⟨rfl, rfl⟩ := he
  rcases h4 with ⟨_, h4, _⟩ | ⟨bb, o, h4, hlt, hc⟩
  · omega
  · refine ⟨bb, o, h4, hlt, hc k _ ?_⟩
    rw [List.getElem?_map, List.getElem?_eq_getElem hk, ← Hb.out]
    simp [List.getD, List.getElem?_eq_getElem hk]

/-- cell j of element i -/
theorem flat_get {α β : Type} (f : α → List β) (k : Nat) (hk : ∀ x, (f x).length = k) : ∀ (L : List α) (i : Nat) (x : α), L[i]? = some x → ∀ j, j < k → (L.map f).flatten[i * k + j]? = (f x)[j]? := by
  intro L
  induction L with
  | nil => intro i x h; simp at h
  | cons a L ih =>
    intro i x h j hj
    rw [List.map_cons, List.flatten_cons]
    cases i with
    | zero =>
      simp at h; subst h
      rw [Nat.zero_mul, Nat.zero_add, List.getElem?_append_left (by rw [hk]; exact hj)]
    | succ i =>
      rw [List.getElem?_append_right (by rw [hk, Nat.add_mul]; omega), hk, show (i + 1) * k + j - k = i * k + j by rw [Nat.add_mul]; omega]
      exact ih i x (by simpa using h) j hj

/-- after i flips from the beginning -/
def TapeRun (w : World) (b : Nat) (v : Value) (cs : List Bool) (i : Nat) : Prop := TapeAt w b v cs (min i cs.length) (decide (cs.length < i))
theorem TapeRun.zero {w : World} {b : Nat} {v : Value} {cs : List Bool} (h : TapeAt w b v cs 0 false) : TapeRun w b v cs 0 := by
  unfold TapeRun; simpa using h
theorem TapeRun.live {w : World} {b : Nat} {v : Value} {cs : List Bool} {i : Nat} (h : TapeRun w b v cs i) (hi : i ≤ cs.length) : TapeAt w b v cs i false := by
  unfold TapeRun at h
  rwa [Nat.min_eq_left hi, decide_eq_false (by omega)] at h
theorem TapeRun.on {w : World} {b : Nat} {v : Value} {cs : List Bool} {i : Nat} (h : TapeAt w b v cs (i + 1) false) (hi : i < cs.length) : TapeRun w b v cs (i + 1) := by
  unfold TapeRun
  rwa [Nat.min_eq_left hi, decide_eq_false (by omega)]
theorem TapeRun.off {w : World} {b : Nat} {v : Value} {cs : List Bool} {i : Nat} (h : TapeAt w b v cs (min i cs.length) true) (hi : cs.length ≤ i) : TapeRun w b v cs (i + 1) := by
  unfold TapeRun
  rw [Nat.min_eq_right hi] at h
  rwa [Nat.min_eq_right (by omega), decide_eq_true (by omega)]
theorem TapeRun.ext {S : Nat → Prop} {w w' : World} {b : Nat} {v : Value} {cs : List Bool} {i : Nat} (h : TapeRun w b v cs i) (e : Ext S w w') (hb : ¬ S b) (hv : ∀ k, v.ownBlock = some k → ¬ S k) : TapeRun w' b v cs i := TapeAt.ext h e hb hv

theorem TapeAt.made {w : World} {base : Nat} {e T : TypeId} {v : Value} {cs : List Bool} {k : Nat} {d : Bool} (h : w.ownsRow base e 1 v cs.length (cs.map .bool)) (hk : k ≤ cs.length) (hl : cs.length ≤ 1048576) :
    TapeAt (w.alloc (.cells #[.int .i64 k, .bool d, v] T)) w.heap.size v cs k d := by
  refine ⟨⟨T, heap_alloc_new w _⟩, Cells.ofOwn (h.alloc _), ?_, hk, hl⟩
  intro he
  have := (h.lt _ he).2
  omega

end Go.Proofs.YtmpjlkclkhnpfaaGreatDoor
