/- Mem: what is read of blocks, carried over calls; said of no program. -/
import Derived.Test.YtfcamaiehepinaaBase
namespace Go.Proofs.Ytfcamaiehepinaa
open Go.RowKit

/-- the first n cells of a block read the same -/
def SameN (w w2 : World) (k : Nat) : Nat → Prop
  | 0 => k < w2.heap.size ∧ ∀ i, w2.frozen? ⟨k, i, none⟩ = w.frozen? ⟨k, i, none⟩
  | n + 1 => SameN w w2 k n ∧ w2.cell? ⟨k, n, none⟩ = w.cell? ⟨k, n, none⟩

/-- so do blocks -/
def Reads (w w2 : World) : List (Nat × Nat) → Prop
  | [] => True
  | x :: l => SameN w w2 x.1 x.2 ∧ Reads w w2 l

theorem Ext.sameN {S : Nat → Prop} {w w2 : World} (h : Ext S w w2) {k : Nat} (hk : k < w.heap.size) (hn : ¬ S k) : ∀ n, SameN w w2 k n
  | 0 => ⟨Nat.lt_of_lt_of_le hk h.size, fun _ => h.frozen hk hn⟩
  | n + 1 => ⟨h.sameN hk hn n, h.cell hk hn⟩
theorem Ext.read {S : Nat → Prop} {w w2 : World} (h : Ext S w w2) : ∀ l : List (Nat × Nat), (∀ x ∈ l, x.1 < w.heap.size ∧ ¬ S x.1) → Reads w w2 l
  | [], _ => trivial
  | x :: l, hl => ⟨h.sameN (hl x (by simp)).1 (hl x (by simp)).2 _, h.read l (fun y hy => hl y (by simp [hy]))⟩

theorem Ext.set_iff {S : Nat → Prop} {a b : World} {p : Addr} {u : Value} (hp' : a.heap.size ≤ p.block ∨ S p.block) : Ext S a (b.setCell p u) ↔ Ext S a b :=
  have hp : p.block < a.heap.size → S p.block := fun h => hp'.elim (fun h' => by omega) id
  ⟨fun h => ⟨h.os, h.tape, h.output, by simpa using h.size, fun k hk hn => by
    rw [← h.block k hk hn, Below.heap_setCell _ _ _ _ (fun e => hn (by subst e; exact hp hk))]⟩, fun h => h.setCell hp u⟩
theorem Ext.al_iff {S : Nat → Prop} {a b : World} {o : Obj} (h : a.heap.size ≤ b.heap.size) : Ext S a (b.alloc o) ↔ Ext S a b :=
  ⟨fun e => ⟨e.os, e.tape, e.output, h, fun k hk hn => by
    rw [← e.block k hk hn, Below.heap_alloc _ _ _ (by omega)]⟩, fun e => e.alloc o⟩

/-- how 'Ext' is shown: stores into new blocks, new blocks -/
theorem ext_s : (∀ {S : Nat → Prop} {a b : World} {p : Addr} {u : Value}, (a.heap.size ≤ p.block ∨ S p.block) → (Ext S a (b.setCell p u) ↔ Ext S a b)) ∧ (∀ {S : Nat → Prop} {a b : World} {o : Obj}, a.heap.size ≤ b.heap.size → (Ext S a (b.alloc o) ↔ Ext S a b)) ∧ (∀ (S : Nat → Prop) (w : World), Ext S w w) ∧ (∀ a b c : Nat, a + b + c = a + (b + c)) :=
  ⟨Ext.set_iff, Ext.al_iff, Ext.refl, Nat.add_assoc⟩
theorem Ext.to {S : Nat → Prop} {a b c : World} (k : Ext S b c) (h : Ext S a b) : Ext S a c := h.trans k (fun _ _ h => h)
theorem Same.to {S : Nat → Prop} {a b c : World} (k : Same b c) (h : Ext S a b) : Ext S a c := h.same k

/-- a walk goes on in a world of which only what it reads is known -/
theorem over_wp {P : Program} {c : Code} {Q : Exit → Act → World → Prop} {a : Act} {w0 wc : World} (S : Nat → Prop) (l : List (Nat × Nat)) (h : Ext S w0 wc) (hl : ∀ x ∈ l, x.1 < wc.heap.size) (H : ∀ w1, Ext S w0 w1 → Reads wc w1 l → Same wc w1 → c.wp P Q a w1) : c.wp P Q a wc :=
  H wc h ((Ext.refl (fun _ => False) wc).read l (fun x hx => ⟨hl x hx, fun h => h⟩)) (Ext.refl _ _)

/-- a slice that was just built -/
theorem Cells.lit (w : World) (xs : List Value) (n size : Nat) (T : TypeId) (h : xs.length = n * size) (hn : n ≤ 1048576) : Cells (w.alloc (.cells xs.toArray T)) (.slice (some ⟨w.heap.size, 0, none⟩) n n) size n xs := by
  refine ⟨h, _, n, rfl, Nat.le_refl _, by unfold maxLen; omega, .inr ⟨_, _, rfl, by simp, fun i u hi => ?_⟩⟩
  rw [Nat.zero_add, World.cell?_alloc_new]
  simpa using hi
theorem ext_drew : (∀ {S : Nat → Prop} {a b : World}, Ext S a b.drew ↔ Ext S a b) ∧ (∀ {S : Nat → Prop} {a b : World} {n : Nat}, Ext S a (b.drewN n) ↔ Ext S a b) :=
  ⟨⟨fun h => ⟨h.os, h.tape, h.output, h.size, h.block⟩, fun h => h.drew⟩, ⟨fun h => ⟨h.os, h.tape, h.output, h.size, h.block⟩, fun h => h.drewN _⟩⟩

/-- as rules for a walk: what is read, what is below -/
theorem Ext.walk {S : Nat → Prop} {w w' : World} (h : Ext S w w') : (∀ p : Addr, p.block < w.heap.size → ¬ S p.block → w'.cell? p = w.cell? p ∧ w'.frozen? p = w.frozen? p) ∧ (∀ x, x < w.heap.size → x < w'.heap.size) ∧ (∀ x, x ≤ w.heap.size → x ≤ w'.heap.size) ∧ (∀ x, x < w.heap.size → ¬ x = w'.heap.size ∧ ¬ w'.heap.size = x) :=
  ⟨fun _ hp hn => ⟨h.cell hp hn, h.frozen hp hn⟩, fun _ hx => Nat.lt_of_lt_of_le hx h.size, fun _ hx => Nat.le_trans hx h.size, fun x hx => by have := h.size; omega⟩
theorem fresh {w w' : World} {b : Nat} (h : w.heap.size ≤ b) (h' : b < w'.heap.size) : (∀ x, x < w.heap.size → ¬ x = b ∧ ¬ b = x) ∧ (∀ x, w'.heap.size ≤ x → ¬ x = b ∧ ¬ b = x) ∧ ∀ x, x ≤ w.heap.size → x ≤ b := ⟨fun x hx => by omega, fun x hx => by omega, fun x hx => by omega⟩
/-- below, and still below when two blocks more were made -/
theorem lt_on {k n : Nat} (h : k < n) : k < n ∧ k < n + 1 ∧ k < n + 1 + 1 ∧ k ≤ n ∧ ¬ k = n ∧ ¬ n = k ∧ ¬ k = n + 1 ∧ ¬ n + 1 = k := by omega
/-- as rules for a walk -/
theorem Ext.rules {S : Nat → Prop} {w w' : World} (h : Ext S w w') : ∀ p : Addr, p.block < w.heap.size → ¬ S p.block → w'.cell? p = w.cell? p ∧ w'.frozen? p = w.frozen? p := fun _ hp hn => ⟨h.cell hp hn, h.frozen hp hn⟩

/-- a block that was made ahead of a call -/
theorem Ext.newN {S : Nat → Prop} {w w' : World} {o : Obj} (h : Ext S (w.alloc o) w') (hn : ¬ S w.heap.size) (n : Nat) : SameN (w.alloc o) w' w.heap.size n := h.sameN (by simp) hn n

/-- A tape behind stores into new blocks. -/
theorem TapeAt.on {w0 w w' : World} {b : Nat} {v : Value} {cs : List Bool} {k k0 : Nat} {d d0 : Bool} (h : TapeAt w b v cs k d) (h0 : TapeAt w0 b v cs k0 d0) (e : Ext (fun k => w0.heap.size ≤ k) w w') : TapeAt w' b v cs k d :=
  h.ext e (by have := h0.lt; omega) (fun k hk => by have := h0.2.1.lt k hk; omega)

end Go.Proofs.Ytfcamaiehepinaa
