/- The law ThinMeans: what it asks of. -/
import Derived.Test.YtfcamaiehepinaaMeans
namespace Go.Proofs.Ytfcamaiehepinaa
open Go.RowKit
set_option linter.unusedSimpArgs false
set_option linter.unusedVariables false

theorem sum_le {α : Type} (v : α → Nat) (B : Nat) : ∀ (t : Tr α) (k : Nat), (∀ x, t.leaf x → v x ≤ B) → t.sum v k ≤ B * 2 ^ k := by
  intro t
  induction t with
  | ret x => intro k h; rw [sum_ret]; exact Nat.mul_le_mul_right _ (h x rfl)
  | flip f ih =>
    intro k h
    cases k with
    | zero => exact Nat.zero_le _
    | succ k =>
      have h1 := ih false k (fun x hx => h x (.inl hx))
      have h2 := ih true k (fun x hx => h x (.inr hx))
      simp only [Tr.sum]
      rw [Nat.pow_succ, ← Nat.mul_assoc]
      omega

set_option maxRecDepth 100000 in
set_option maxHeartbeats 8000000 in
theorem mean_any (T : Tr St) (most times : Nat) (fn : Nat) (c1 c2 c3 : Value) (Ask : World → Prop) (w : World) (hA : Ask w) (hAsk : ∀ (U : Nat → Prop) (wa wb : World), Ask wa → Ext U wa wb → (∀ k, U k → w.heap.size ≤ k) → Ask wb)
    (L : Nat) (hL : ∀ w, Ask w → L ≤ w.heap.size) (hask : ∀ w b v cs, Ask w → L ≤ b → TapeAt w b v cs 0 false → Calls Try.prog fn #[.pointer (some ⟨b, 0, none⟩), c1, c2, c3] w fun e w' => ∃ z : St, ∃ r : Nat, ((∃ q, T.run cs 0 = some (z, q)) ∧ r = 0 ∨ T.run cs 0 = none ∧ r = 8) ∧ e = .returned (.tuple #[.agg #[.int .i64 z.y, .int .i64 z.t, .bool z.full], .int .i64 r]) ∧ Ext (· = b) w w')
    (hfn : ∀ (args : Array Value) (w : World), Sem.run Try.prog (callFunc fn args) w = .ok (.enter fn args) w)
    (hg : goodThin most times) (hok : ∀ x cs q, T.run cs 0 = some (x, q) → x.ok most times) (hsum : T.sum St.val 13 ≤ 1099511627776) :
    Calls Try.prog 33 #[.agg #[.int .i64 most, .int .i64 times], .int .i64 13, .func (.func fn) #[] #[c1, c2, c3]] w fun e w' => e = .returned (.tuple #[.int .i64 (T.sum St.val 13), .bool (T.any St.full 13), .bool (T.opn 13)]) ∧ Same w w' := by
  have hmf : ∀ (fn : Fn) (first cap : Array Value) (w : World), (Instr.makeFunc fn first cap).run Try.prog w = .ok (.func fn first cap) w := fun _ _ _ _ => rfl
  go_enter Try.func33, Try.ntmps33
  go_wp2_with fail
  obtain ⟨B, hB⟩ : ∃ B, B = w.heap.size := ⟨_, rfl⟩
  rw [← hB]
  have ha : Where.apart ⟨B + 1 + 1, B + 1, B + 1 + 1 + 1 + 1 + 1 + 1, B, B + 1 + 1 + 1, B + 1 + 1 + 1 + 1, B + 1 + 1 + 1 + 1 + 1⟩ := by
    simp only [Where.apart]
    omega
  have hown : ∀ k, Where.own ⟨B + 1 + 1, B + 1, B + 1 + 1 + 1 + 1 + 1 + 1, B, B + 1 + 1 + 1, B + 1 + 1 + 1 + 1, B + 1 + 1 + 1 + 1 + 1⟩ k → w.heap.size ≤ k := by
    rintro k (h | h | h) <;> (simp only at h; omega)
  have hw := walk_any T most times fn c1 c2 c3 _ ha Ask (fun wa wb h e => hAsk _ wa wb h e hown) L hL hask hfn hg hok 13
  clear ha
  refine (hw _ none 0 [] 0 false false rfl ?_ ?_ ?_ (Cells.nil _ _) (fun k hk => by cases hk) (by rw [behind_nil]; omega)).mono ?_
  · simp [Where.env, At1, Where.walk, go_sem, hB]
  · simp [Where.got, At1, go_sem, hB]
  · exact hAsk (fun _ => False) w _ hA (by simp [ext_s]) (fun _ h => h.elim)
  · rintro e w1 ⟨⟨v, rfl⟩, hgot, hs1⟩
    rw [behind_nil] at hgot
    have m := hgot
    simp only [Where.got, At1, Nat.zero_add, Bool.false_or] at m
    have hsame : Same w w1 := Ext.trans (a := w) (by simp [ext_s]) hs1 (fun k hk h => by have := hown k h; omega)
    have hB1 : w.heap.size ≤ B := by omega
    clear hw hown hAsk hask hfn hok hs1 hgot hsum hB
    go_wp2_with fail
    go_region
    all_goals go_wp2
    all_goals exact bodyPost_ret (v := .tuple #[.int .i64 (T.sum St.val 13 : Nat), .bool (T.any St.full 13), .bool (T.opn 13)]) (by simp [results, Try.results33, go_sem, m]) rfl ⟨rfl, by simp [ext_s, ext_drew, hsame, hB1, Nat.le_add_right_of_le]⟩

/-- what is asked has: a parameter, two numbers -/
def AskAt (X N M : Nat) (most times n m : Nat) (w : World) : Prop := At1 w X (.int .i64 most) ∧ w.cell? ⟨X, 1, none⟩ = some (.int .i64 times) ∧ At1 w N (.int .i64 n) ∧ At1 w M (.int .i64 m)
theorem AskAt.ext {U : Nat → Prop} {X N M most times n m : Nat} {w w' : World} (h : AskAt X N M most times n m w) (e : Ext U w w') (hX : ¬ U X) (hN : ¬ U N) (hM : ¬ U M) : AskAt X N M most times n m w' :=
  ⟨h.1.ext e hX, by rw [e.cell h.1.1.1 hX]; exact h.2.1, h.2.2.1.ext e hN, h.2.2.2.ext e hM⟩

def S0 : St := ⟨0, 0, false⟩
theorem S0_ok (most times : Nat) : S0.ok most times := ⟨Nat.zero_le _, Nat.zero_le _, fun h => by cases h⟩

theorem came_asked {R : Option (St × Nat)} {s : St} {l : Nat} {x : St} {r q : Nat} {d : Bool} (h : Came R s l x r q d) : (∃ q, R = some (x, q)) ∧ r = 0 ∨ R = none ∧ r = 8 := by
  rcases h with ⟨h, h1, _⟩ | ⟨h, _, h1, _⟩
  · exact .inl ⟨⟨q, h⟩, h1⟩
  · exact .inr ⟨h, h1⟩

set_option maxRecDepth 100000 in
theorem ask1_any (X N M most times n m : Nat) (hg : goodThin most times) (hn : n ≤ 3) (hm : m ≤ 3) (w : World) (b : Nat) (v : Value) (cs : List Bool) (hA : AskAt X N M most times n m w) (ht : TapeAt w b v cs 0 false) :
    Calls Try.prog 34 #[.pointer (some ⟨b, 0, none⟩), .pointer (some ⟨X, 0, none⟩), .pointer (some ⟨N, 0, none⟩), .pointer (some ⟨M, 0, none⟩)] w fun e w' => ∃ z : St, ∃ r : Nat, ((∃ q, (addT most times (n + m) S0).run cs 0 = some (z, q)) ∧ r = 0 ∨ (addT most times (n + m) S0).run cs 0 = none ∧ r = 8) ∧ e = .returned (.tuple #[.agg #[.int .i64 z.y, .int .i64 z.t, .bool z.full], .int .i64 r]) ∧ Ext (· = b) w w' := by
  rw [addT_run]
  obtain ⟨R, hR⟩ : ∃ R, Hid (addM cs most times (n + m) S0 0 = R) := ⟨_, rfl⟩
  rw [hR.out]
  obtain ⟨x, r, q, d, hR'⟩ := came R S0 cs.length
  have has := Lib.hid (came_asked hR')
  replace hR' := Lib.hid hR'
  simp only [AskAt, At1] at hA
  have hw : IntKind.i64.wrap ((n : Int) + m) = ((n + m : Nat) : Int) := by rw [IntKind.wrap_i64]; omega
  have hbl := ht.lt
  go_enter Try.func34, Try.ntmps34
  go_wp2_with fail
  refine (add_agg hR x r q d hR'.out _ b v (ht.same (by simp [ext_s])) hg (S0_ok _ _) (by omega)).mono ?_
  rintro e w1 ⟨rfl, ht1, hs1⟩
  have m1 := hs1.read [(w.heap.size, 3)] (by simp; omega)
  simp [Reads, SameN, go_sem] at m1
  have hs : Ext (· = b) w w1 := hs1.to (by simp [ext_s])
  go_wp2
  exact bodyPost_ret (v := .tuple #[.agg #[.int .i64 x.y, .int .i64 x.t, .bool x.full], .int .i64 r]) (by simp [results, Try.results34, go_sem, m1]) rfl ⟨x, r, has.out, rfl, by simp [ext_s, hs]⟩

def mergeNext (cs : List Bool) (most times : Nat) (x : St) : Option (St × Nat) → Option (St × Nat)
  | some (b, q) => mergeM cs most times x b q
  | none => none

theorem bothT_run (most times n m : Nat) (cs : List Bool) : (bothT most times n m).run cs 0 = match addM cs most times n S0 0 with
    | some (a, p) => mergeNext cs most times a (addM cs most times m S0 p)
    | none => none := by
  unfold bothT
  rw [Tr.run_bind, addT_run]
  unfold S0
  rcases addM cs most times n ⟨0, 0, false⟩ 0 with _ | ⟨a, p⟩
  · rfl
  · simp only
    rw [Tr.run_bind, addT_run]
    rcases addM cs most times m ⟨0, 0, false⟩ p with _ | ⟨b, q⟩
    · rfl
    · exact mergeT_run _ _ _ _ _ _

/-- Merge from a place on, of which is known what it comes to -/
theorem merge_at {R : Option (St × Nat)} {cs : List Bool} {most times p : Nat} {s o : St} (hB : Hid (mergeM cs most times s o p = R)) (x : St) (r q : Nat) (d : Bool) (hR : Came R s cs.length x r q d) (w : World) (b : Nat) (v : Value) (ht : TapeAt w b v cs p false) (hg : goodThin most times) (hok : s.ok most times) (hoo : o.ok most times) :
    Calls Try.prog 31 #[.agg #[.int .i64 most, .int .i64 times], .pointer (some ⟨b, 0, none⟩), .agg #[.int .i64 s.y, .int .i64 s.t, .bool s.full], .agg #[.int .i64 o.y, .int .i64 o.t, .bool o.full]] w fun e w' => e = .returned (.tuple #[.agg #[.int .i64 x.y, .int .i64 x.t, .bool x.full], .int .i64 r]) ∧ TapeAt w' b v cs q d ∧ Ext (· = b) w w' := merge_agg hB x r q d hR w b v ht hg hok hoo

set_option maxRecDepth 100000 in
theorem ask2_any (X N M most times n m : Nat) (hg : goodThin most times) (hn : n ≤ 3) (hm : m ≤ 3) (w : World) (b : Nat) (v : Value) (cs : List Bool) (hA : AskAt X N M most times n m w) (hb : ¬ X = b ∧ ¬ N = b ∧ ¬ M = b) (ht : TapeAt w b v cs 0 false) :
    Calls Try.prog 35 #[.pointer (some ⟨b, 0, none⟩), .pointer (some ⟨X, 0, none⟩), .pointer (some ⟨N, 0, none⟩), .pointer (some ⟨M, 0, none⟩)] w fun e w' => ∃ z : St, ∃ r : Nat, ((∃ q, (bothT most times n m).run cs 0 = some (z, q)) ∧ r = 0 ∨ (bothT most times n m).run cs 0 = none ∧ r = 8) ∧ e = .returned (.tuple #[.agg #[.int .i64 z.y, .int .i64 z.t, .bool z.full], .int .i64 r]) ∧ Ext (· = b) w w' := by
  obtain ⟨Z, hZ⟩ : ∃ Z, Hid ((bothT most times n m).run cs 0 = Z) := ⟨_, rfl⟩
  rw [hZ.out]
  have hZ' := (bothT_run most times n m cs).symm.trans hZ.out
  obtain ⟨R, hR⟩ : ∃ R, Hid (addM cs most times n S0 0 = R) := ⟨_, rfl⟩
  rw [hR.out] at hZ'
  replace hZ' := Lib.hid hZ'
  obtain ⟨x, r, q, d, hR'⟩ := came R S0 cs.length
  have hxo : x.ok most times := hR'.addM hR.out (Nat.zero_le _) (S0_ok _ _)
  have hm0 := hA
  simp only [AskAt, At1] at hm0
  have hbl := ht.lt
  go_enter Try.func35, Try.ntmps35
  go_wp2_with fail
  refine (add_agg hR x r q d hR' _ b v (ht.same (by simp [ext_s])) hg (S0_ok _ _) (by omega)).mono ?_
  rintro e w1 ⟨rfl, ht1, hs1⟩
  have m1 := hs1.read [(w.heap.size, 3), (X, 2), (N, 1), (M, 1)] (by simp [hb, hm0]; omega)
  simp [Reads, SameN, go_sem, hm0] at m1
  have hs : Ext (· = b) w w1 := hs1.to (by simp [ext_s])
  clear hs1 ht
  rcases hR' with ⟨rfl, rfl, rfl⟩ | ⟨rfl, rfl, rfl, rfl, rfl⟩
  · have hql := (addM_ok hR.out (Nat.zero_le _) (S0_ok most times)).2.2
    obtain ⟨R2, hR2⟩ : ∃ R, Hid (addM cs most times m S0 q = R) := ⟨_, rfl⟩
    have hZ2 : Hid (mergeNext cs most times x R2 = Z) := by
      have := hZ'.out
      simp only [hR2.out] at this
      exact this
    obtain ⟨x2, r2, q2, d2, hR2'⟩ := came R2 S0 cs.length
    have hxo2 : x2.ok most times := hR2'.addM hR2.out hql (S0_ok _ _)
    have z1 := hs.size
    clear hZ'
    go_wp2_with fail
    refine (add_agg hR2 x2 r2 q2 d2 hR2' _ b v (ht1.same (by simp [ext_s])) hg (S0_ok _ _) (by omega)).mono ?_
    rintro e w2 ⟨rfl, ht2, hs2⟩
    have m2 := hs2.read [(w.heap.size, 3), (X, 2), (w1.heap.size, 3)] (by simp [hb, m1]; have := ht1.lt; omega)
    simp [Reads, SameN, go_sem, m1] at m2
    replace hs : Ext (· = b) w w2 := hs2.to (by simp [ext_s, hs, hs.size])
    clear hs2 ht1
    rcases hR2' with ⟨rfl, rfl, rfl⟩ | ⟨rfl, rfl, rfl, rfl, rfl⟩
    · have hZ3 : Hid (mergeM cs most times x x2 q2 = Z) := hZ2
      obtain ⟨x3, r3, q3, d3, hR3⟩ := came Z x cs.length
      have has := Lib.hid (came_asked hR3)
      replace hR3 := Lib.hid hR3
      clear hZ2 m1
      go_wp2_with fail
      refine (merge_at hZ3 x3 r3 q3 d3 hR3.out _ b v (ht2.same (by simp [ext_s])) hg hxo hxo2).mono ?_
      rintro e w3 ⟨rfl, ht3, hs3⟩
      have m3 := hs3.read [(w.heap.size, 3)] (by simp [m2]; omega)
      simp [Reads, SameN, go_sem, m2] at m3
      replace hs : Ext (· = b) w w3 := hs3.to (by simp [ext_s, hs, hs.size])
      clear hs3 m2
      go_wp2
      exact bodyPost_ret (v := .tuple #[.agg #[.int .i64 x3.y, .int .i64 x3.t, .bool x3.full], .int .i64 r3]) (by simp [results, Try.results35, go_sem, m3]) rfl ⟨x3, r3, has.out, rfl, by simp [ext_s, hs]⟩
    · have has : Hid (Z = none) := hZ2.out.symm
      clear m1
      go_wp2
      exact bodyPost_ret (v := .tuple #[.agg #[.int .i64 S0.y, .int .i64 S0.t, .bool S0.full], .int .i64 (8 : Nat)]) (by simp [results, Try.results35, go_sem, m2]) rfl ⟨S0, 8, .inr ⟨has.out, rfl⟩, rfl, by simp [ext_s, hs, hs.size, Nat.le_add_right_of_le]⟩
  · have has : Hid (Z = none) := hZ'.out.symm
    go_wp2
    exact bodyPost_ret (v := .tuple #[.agg #[.int .i64 S0.y, .int .i64 S0.t, .bool S0.full], .int .i64 (8 : Nat)]) (by simp [results, Try.results35, go_sem, m1]) rfl ⟨S0, 8, .inr ⟨has.out, rfl⟩, rfl, by simp [ext_s, hs, hs.size, Nat.le_add_right_of_le]⟩

end Go.Proofs.Ytfcamaiehepinaa
