/- Parts of the proof: AmLaw, Reg6, Val3, Rise2, ValM, Cms4, Cms5, Cms6, Cms7, AmLaw2, AmLaw3, AmLB, Carr4, CmsO, RepL, OverL. -/
import Derived.Test.YtijbgbpjionfjaaGreatDoorPf
set_option linter.unusedVariables false
set_option linter.unusedSimpArgs false
set_option maxRecDepth 100000
namespace Go.Proofs.YtijbgbpjionfjaaGreatDoor.Am
section
open Go.RowKit

theorem fnOf_enter {P : Program} {f : FuncId} {c : C} {rs : List RV} {nt : Nat} (hf : fnOf P f = some (c, rs, nt, false)) (vs : Array Value) (w : World) : (callFunc f vs).run P w = .ok (.enter f vs) w := by
  unfold fnOf at hf
  split at hf
  · rename_i fn hfn
    split at hf
    · rename_i b hb
      simp only [Option.some.injEq, Prod.mk.injEq] at hf
      obtain ⟨h1, h2, h3, h4⟩ := hf
      have h1 : ¬ fn.name = "runtime.NumGoroutine" := by simpa using h4
      simp [callFunc, hfn, h1, hb]
    · cases hf
  · cases hf

/-- the world that a law finds: nothing has a name, what is there stays -/
abbrev memW (W : World) : Mem := ⟨fun _ => none, fun b => b < W.heap.size, W⟩

theorem law_walk {P : Program} {f : FuncId} {args : List V} {c : C} {rs : List RV} {nt : Nat} (hf : fnOf P f = some (c, rs, nt, false)) (E : Eqn P f args [] (.d (.bool true)) []) {W : World} {vs : List Value} (h : V.reps (memW W) args vs) :
    Calls P f vs.toArray W (fun e W' => e = .returned (.bool true) ∧ Same W W') := by
  rcases E.run (memW W) vs ⟨fun b h => h, fun n b h => by cases h⟩ h (by simp) (fun n i b h => by simp at h) (fun _ _ => rfl) with ⟨v, h1, _⟩ | ⟨_, h2⟩
  · rw [fnOf_enter hf] at h1; cases h1
  · refine h2.mono ?_
    rintro e w' ⟨v, m', rfl, rfl, hE⟩
    have hv := hE.rep
    rw [V.rep_d] at hv
    unfold D.rep at hv
    subst hv
    exact ⟨rfl, hE.le.os, hE.le.tape, hE.le.output, hE.le.size, fun k hk _ => hE.le.imm k hk⟩

theorem reps_of {I : Nat → Prop} {w : World} {α : Type} (f : α → D) (g : α → Value) (h : ∀ a, D.rep I w (f a) (g a)) : ∀ l : List α, D.reps I w (l.map f) (l.map g)
  | [] => by simp
  | a :: l => by
    rw [List.map_cons, List.map_cons, D.reps_cons]
    exact ⟨h a, reps_of f g h l⟩

/-- a slice that came in, of cells that are data -/
theorem rep_cells {W : World} {v : Value} {α : Type} {l : List α} (f : α → D) (g : α → Value) (hg : ∀ a, (g a).oneCell' = true) (hr : ∀ a, D.rep (fun b => b < W.heap.size) W (f a) (g a)) (h : Cells W v 1 l.length (l.map g)) : V.rep (memW W) (.d (.sl l.length (l.map f))) v := by
  rw [V.rep_d]
  unfold D.rep
  obtain ⟨h1, p, cap, rfl, h2, h3, h4⟩ := h
  refine ⟨p, cap, rfl, h2, h3, l.map g, fun u hu => ?_, reps_of f g hr l, ?_⟩
  · obtain ⟨a, -, rfl⟩ := List.mem_map.1 hu
    exact hg a
  · rcases h4 with ⟨rfl, h5, h6⟩ | ⟨b, o, rfl, hb, hc⟩
    · left
      exact ⟨rfl, h6, by rw [List.eq_nil_of_length_eq_zero h5]; rfl⟩
    · exact .inr ⟨b, o, rfl, .inr hb, hc⟩

/-- numbers and bools that came in -/
theorem rep_agg {W : World} {l : List D} {vs : List Value} (h1 : ∀ u ∈ vs, u.oneCell' = true) (h : D.reps (fun b => b < W.heap.size) W l vs) : V.rep (memW W) (.d (.agg l)) (.agg vs.toArray) := by
  rw [V.rep_d]
  unfold D.rep
  exact ⟨vs, rfl, h1, h⟩
end
end Go.Proofs.YtijbgbpjionfjaaGreatDoor.Am
namespace Go.Proofs.YtijbgbpjionfjaaGreatDoor.Am
section
open Go.RowKit
/-- what an act comes to: n more, or another one merged into it -/
def actM (cs : List Bool) (k a b y t : Nat) (f : Bool) (z u : Nat) (g : Bool) (n : Nat) (m : Bool) (p : Nat) (d : Bool) : TR := if m then mergeRM cs k a b y t f z u g p d else addRM cs k a b n y t f p d
end
end Go.Proofs.YtijbgbpjionfjaaGreatDoor.Am
namespace Go.Proofs.YtijbgbpjionfjaaGreatDoor.Am
section
open Go.RowKit
theorem tvalue_ok {a b y t : Nat} {f : Bool} (h : GoodT a b) (hw : WellT a b y t f) : Eqn Tryz.prog n_thin_Param_Value [.d (tpD a b), .d (tsD y t f)] [] (.tup [.d (.agg [natW (y * 2 ^ t)]), .d (.int .i64 0)]) [] := by
  refine Eqn.pure r_thin_Param_Value Plain.ok ?_
  have hwr := twrong1_ok h hw
  have hy : y ≤ 1023 := Nat.le_trans hw.1 h.2.1
  have ht : t ≤ 20 := Nat.le_trans hw.2.1 h.2.2
  have hof : Eqn Tryz.prog n_nat_Of [.d (.sl 1 [.int .u64 y])] [] (.d (.agg [natW y])) [] := by
    have := of_ok [y] (small_one (by omega)) (by simp)
    simpa [W, wval] using this
  have hsh := shl_ok y t (Nat.le_trans (size_one (by omega)) (by omega)) (by omega)
  have e1 : IntKind.u64.wrap (y : Int) = y := wu64 (by omega) (by omega)
  generalize y * 2 ^ t = v at *
  simp only [c_thin_Param_Value, tpD, tsD] at hwr ⊢
  refine G0B ?_; try with_reducible exact tt
  refine CallS.pf 3 3 ⟨139, _⟩ [.int .i64 y, .int .i64 t, .bool f] (hwr) (by first | rfl | (simp [-Bool.exists_bool]; done)) (R0B ?_); try with_reducible exact tt
  refine AW.cond rfl (fun h => ?_) (fun h => ?_)
  · simp at h
  refine G1B e1 ?_; try with_reducible exact tt
  refine CallS.pf 4 1 ⟨28, _⟩ [.int .u64 (y : Nat)] (hof) (by first | rfl | (simp [-Bool.exists_bool]; done)) (R0B ?_); try with_reducible exact tt
  refine CallS.pu (hsh) (R0B ?_); try with_reducible exact tt

/-- what a register stands for -/
def valR (k a b y t : Nat) : Rat := if k = 4 then ((y * 2 ^ t : Nat) : Rat) else valC k a y
theorem rvalue_ok {k a b y t : Nat} {f : Bool} (h : GoodR k a b) (hw : WellR k a b y t f) : Eqn Tryz.prog n_reg_Param_Value [.d (parD k a b), .d (tsD y t f)] [] (.tup [.d (rD (valR k a b y t)), .d (.int .i64 0)]) [] := by
  refine Eqn.pure r_reg_Param_Value Plain.ok ?_
  have hwr := rwrong1_ok h hw
  rcases hw with ⟨rfl, hw⟩ | ⟨hk, rfl, hy, hf⟩
  · replace h : GoodT a b := by
      rcases h with ⟨-, h⟩ | ⟨hk, -⟩
      · exact h
      · exact absurd rfl hk
    have h1 := rthin_ok 4 a b
    have h2 := rthinned_ok y t f
    have h3 := tvalue_ok h hw
    have h4 := rnat_rat (y * 2 ^ t)
    rw [show valR 4 a b y t = ((y * 2 ^ t : Nat) : Rat) from rfl]
    generalize y * 2 ^ t = v at *
    generalize ((v : Nat) : Rat) = q at *
    simp only [c_reg_Param_Value, parD, tpD, tsD, rD, show ((4 : Nat) : Int) = 4 from rfl] at hwr h1 h2 h3 h4 ⊢
    refine G0B ?_; try with_reducible exact tt
    refine CallS.pf 3 3 ⟨64, _⟩ [.int .i64 y, .int .i64 t, .bool f] (hwr) (by first | rfl | (simp [-Bool.exists_bool]; done)) (R0B ?_); try with_reducible exact tt
    refine AW.cond rfl (fun h => ?_) (fun h => ?_)
    · simp at h
    refine G0B ?_; try with_reducible exact tt
    refine AW.cond rfl (fun h => ?_) (fun h => ?_)
    · refine G0B ?_; try with_reducible exact tt
      refine CallS.pu (h1) (R0B ?_); try with_reducible exact tt
      refine CallS.pu (h2) (R0B ?_); try with_reducible exact tt
      refine CallS.pu (h3) (R0B ?_); try with_reducible exact tt
      refine CallS.pu (h4) (R0B ?_); try with_reducible exact tt
    · simp at h
  · rcases h with ⟨rfl, -⟩ | ⟨-, h⟩
    · exact absurd rfl hk
    have h1 := rchain_ok k a b
    have h3 := cvalue_ok h y hy
    have hk' : ¬ (k : Int) = 4 := by omega
    rw [show valR k a b y 0 = valC k a y from if_neg hk]
    generalize valC k a y = q at *
    simp only [c_reg_Param_Value, parD, tsD, rD] at hwr h1 h3 ⊢
    refine G0B ?_; try with_reducible exact tt
    refine CallS.pf 3 3 ⟨64, _⟩ [.int .i64 y, .int .i64 (0 : Nat), .bool f] (hwr) (by first | rfl | (simp [-Bool.exists_bool]; done)) (R0B ?_); try with_reducible exact tt
    refine AW.cond rfl (fun h => ?_) (fun h => ?_)
    · simp at h
    refine G1B (fs hk hk') ?_; try with_reducible exact tt
    refine AW.cond rfl (fun h => ?_) (fun h => ?_)
    · simp [hk'] at h
    · refine G0B ?_; try with_reducible exact tt
      refine CallS.pu (h1) (R0B ?_); try with_reducible exact tt
      refine CallS.pu (h3) (R0B ?_); try with_reducible exact tt
end
end Go.Proofs.YtijbgbpjionfjaaGreatDoor.Am
namespace Go.Proofs.YtijbgbpjionfjaaGreatDoor.Am
section
open Go.RowKit
end
end Go.Proofs.YtijbgbpjionfjaaGreatDoor.Am
namespace Go.Proofs.YtijbgbpjionfjaaGreatDoor.Am
section
open Go.RowKit
theorem nat_RS {n N : Nat} (h : size n ≤ N) (h1 : 1 ≤ N) : RS ((n : Nat) : Rat) N := by
  refine ⟨?_, ?_⟩
  · rw [Rat.num_natCast, Int.natAbs_natCast]; exact h
  · rw [Rat.den_natCast]; exact Nat.le_trans (size_one (by omega)) h1
theorem valC_RS {k a w x : Nat} (h : GoodC k a w) (hx : x ≤ 2 ^ w - 1) : RS (valC k a x) 1000 := by
  have h10 : 2 ^ w ≤ 2 ^ 10 := Nat.pow_le_pow_right (by omega) h.2.2
  have hb := goodC_bits (a := a) (w := w) (x := x)
  obtain ⟨h, -⟩ := id h
  unfold valC
  rcases h with ⟨rfl, h1, h2, h3⟩ | ⟨rfl, h1⟩ | ⟨rfl, h1, h2⟩
  · rw [if_pos rfl]
    exact (mvalue_ok a x h1 h2 (by omega) (Nat.le_trans (Nat.mul_le_mul_left _ hx) h3)).2.le (by omega)
  · refine nat_RS ?_ (by omega)
    have hd : 2 ^ a ≤ 2 ^ 8 := Nat.pow_le_pow_right (by omega) h1
    have hm := Nat.mod_lt x (Nat.two_pow_pos a)
    have hdv : x / 2 ^ a ≤ 1023 := Nat.le_trans (Nat.div_le_self _ _) (by omega)
    have hs := size_le (show valF a x ≤ (2 ^ a + x % 2 ^ a) * 2 ^ (x / 2 ^ a) from Nat.sub_le _ _)
    have h3 := size_mulR (2 ^ a + x % 2 ^ a) (2 ^ (x / 2 ^ a))
    have h4 := size_one (x := 2 ^ a + x % 2 ^ a) (by omega)
    have h5 := size_two (x / 2 ^ a) (by omega)
    omega
  · exact nat_RS (Nat.le_trans (placeY_size h1 h2 (by omega)).2.2.1 (by omega)) (by omega)
end
end Go.Proofs.YtijbgbpjionfjaaGreatDoor.Am
namespace Go.Proofs.YtijbgbpjionfjaaGreatDoor.Am
section
open Go.RowKit
theorem rowsD_len (k a b : Nat) (rs : List Rw) : (rowsD k a b rs).length = rs.length * 3 := flat_len (fun x => by simp [rowD]) rs
theorem rowsD_get (k a b : Nat) (rs : List Rw) (i : Nat) (h : i < rs.length) : ((rowsD k a b rs).drop (i * 3)).take 3 = [.int .u64 rs[i].a, .int .u64 rs[i].b, .ptr (arrD k a b rs[i].l) 0] := flat_get (f := rowD k a b) (fun x => by simp [rowD]) rs i h

/-- the value of a key's register in a row; the least of them, of the first i rows -/
def valAt (C k a b key : Nat) (r : Rw) : Rat := valR k a b (r.l.getD (colOf C r.a r.b key) (0, 0, false)).1 (r.l.getD (colOf C r.a r.b key) (0, 0, false)).2.1
def leastQ (f : Nat → Rat) : Nat → Rat
  | 0 => 0
  | i + 1 => if i = 0 ∨ f i < leastQ f i then f i else leastQ f i
def valsOf (C k a b key : Nat) (rs : List Rw) (i : Nat) : Rat := match rs[i]? with
  | some r => valAt C k a b key r
  | none => 0
theorem valR_RS {k a b y t : Nat} {f : Bool} (h : GoodR k a b) (hw : WellR k a b y t f) : RS (valR k a b y t) 1000 := by
  unfold valR
  rcases hw with ⟨rfl, hw⟩ | ⟨hk, rfl, hy, hf⟩
  · replace h : GoodT a b := by
      rcases h with ⟨-, h⟩ | ⟨hk, -⟩
      · exact h
      · exact absurd rfl hk
    rw [if_pos rfl]
    have h1 : y ≤ 1023 := Nat.le_trans hw.1 h.2.1
    have h2 : t ≤ 20 := Nat.le_trans hw.2.1 h.2.2
    have h3 : 2 ^ t ≤ 2 ^ 20 := Nat.pow_le_pow_right (by omega) h2
    have h4 := Nat.mul_le_mul h1 h3
    exact (nat_RS (size_one (by omega)) (by omega)).le (by omega)
  · rcases h with ⟨rfl, -⟩ | ⟨-, h⟩
    · exact absurd rfl hk
    · rw [if_neg hk]; exact valC_RS h hy
theorem valAt_RS {C k a b key : Nat} (hg : GoodR k a b) (r : Rw) (hr : GoodRow C k a b r) (h1 : 1 ≤ C) : RS (valAt C k a b key r) 1000 := by
  obtain ⟨-, -, hl, hw⟩ := hr
  exact valR_RS hg (wells_get hw (show colOf C r.a r.b key < r.l.length by rw [hl]; exact Nat.mod_lt _ (by omega)))
theorem leastQ_RS {f : Nat → Rat} : ∀ n, (∀ i, i < n → RS (f i) 1000) → RS (leastQ f n) 1000
  | 0, _ => ⟨Nat.zero_le _, Nat.le_trans (size_one (by unfold leastQ; decide)) (by omega)⟩
  | n + 1, h => by
    unfold leastQ
    split
    · exact h n (by omega)
    · exact leastQ_RS n fun i hi => h i (by omega)

set_option maxHeartbeats 1000000 in
theorem squery_ok {R C k a b T : Nat} (hg : GoodR k a b) (rs : List Rw) (h1 : 1 ≤ C) (hC : C ≤ 64) (hn0 : 1 ≤ rs.length) (hn : rs.length ≤ 4) (hr : ∀ r ∈ rs, GoodRow C k a b r) (key : Nat) (hk : key < hP) :
    Eqn Tryz.prog n_cms_Sketch_Query [.p 0 0, .d (.int .u64 key)] [skO R C k a b rs T] (.tup [.d (rD (leastQ (valsOf C k a b key rs) rs.length)), .d (.int .i64 0)]) [skO R C k a b rs T] := by
  refine Eqn.gen [0] r_cms_Sketch_Query (by simp) (by simp) (by rfl) (by decide) (by simp) (by simp [skO, skD]) ?_
  have hRS : ∀ i, i < rs.length → RS (valsOf C k a b key rs i) 1000 := by
    intro i hi
    unfold valsOf
    rw [List.getElem?_eq_getElem hi]
    exact valAt_RS hg _ (hr _ (List.getElem_mem _)) h1
  have hL : ∀ i, i ≤ rs.length → RS (leastQ (valsOf C k a b key rs) i) 1000 := fun i hi => leastQ_RS i fun j hj => hRS j (by omega)
  have hrl := rowsD_len k a b rs
  have hgr := rowsD_get k a b rs
  have hv : ∀ i (h : i < rs.length), valsOf C k a b key rs i = valAt C k a b key rs[i] := by
    intro i h
    unfold valsOf
    rw [List.getElem?_eq_getElem h]
  have hst : ∀ i, leastQ (valsOf C k a b key rs) (i + 1) = if i = 0 ∨ valsOf C k a b key rs i < leastQ (valsOf C k a b key rs) i then valsOf C k a b key rs i else leastQ (valsOf C k a b key rs) i := fun i => rfl
  have h00 : leastQ (valsOf C k a b key rs) 0 = 0 := rfl
  simp only [c_cms_Sketch_Query, skO, skD, List.map_cons, List.map_nil]
  generalize rowsD k a b rs = RD at *
  generalize valsOf C k a b key rs = f at *
  generalize leastQ f = g at *
  refine G0 ?_; try with_reducible exact tt
  refine AW.loopT (α := Nat) 3 (fun i => [(19, .d (.int .i64 (i : Int)))]) (fun i => [(2, ⟨51, [.d (natW (g i).num.natAbs), .d (.bool (decide ((g i).num < 0))), .d (natW ((g i).den - 1))]⟩)]) (fun i => i ≤ rs.length) (fun i => rs.length - i) 0 ?_ ?_ (Nat.zero_le _) ?_ ?_ ?_
  · simp
  · simp
  · simp
  · rw [h00, show natW (Rat.num 0).natAbs = .sl 0 [] from rfl, show natW ((Rat.den 0) - 1) = .sl 0 [] from rfl, show decide (Rat.num 0 < 0) = false from rfl]
    simp
    intro m vs h
    obtain ⟨v1, r1, rfl, k1, h⟩ := V.reps_cons'.1 h
    obtain ⟨v2, r2, rfl, k2, h⟩ := V.reps_cons'.1 h
    obtain ⟨v3, r3, rfl, k3, h⟩ := V.reps_cons'.1 h
    exact V.reps_cons.2 ⟨Sub1.nil _ _ k1, V.reps_cons.2 ⟨k2, V.reps_cons.2 ⟨Sub1.nil _ _ k3, h⟩⟩⟩
  rintro i hi
  simp
  by_cases hiN : i < rs.length
  · have hi1 : (i : Int) < rs.length := by omega
    have hgi := hgr i hiN
    have hri := hr _ (List.getElem_mem hiN)
    have hvi := hv i hiN
    have hbd : i * 3 + 3 ≤ rs.length * 3 := by omega
    have ew : IntKind.i64.wrap ((i : Int) + 1) = (i : Int) + 1 := w64 (by omega) (by omega)
    generalize rs[i] = r at *
    obtain ⟨hA, hB, hl, hw⟩ := hri
    have hof := hof_ok r.a r.b key C hA hB hk h1 hC
    rw [show hsum r.a r.b key % C = colOf C r.a r.b key from rfl] at hof
    have hcol : colOf C r.a r.b key < C := Nat.mod_lt _ (by omega)
    have hget := cgetD_ok r.l (colOf C r.a r.b key) hg hw (by omega) (by omega)
    have hval := rvalue_ok hg (wells_get hw (show colOf C r.a r.b key < r.l.length by omega))
    unfold valAt at hvi
    rw [← hvi] at hval
    have hcmp := rcmp_rat (f i) (g i) ((hRS i hiN).le (by omega)) ((hL i hi).le (by omega))
    have hsi := hst i
    generalize colOf C r.a r.b key = col at *
    generalize r.l.getD col (0, 0, false) = s at *
    obtain ⟨y, t, fl⟩ := s
    simp only [hD, tsD, rD, parD] at hof hget hval hcmp
    generalize f i = fi at *
    generalize arrD k a b r.l = AD at *
    generalize r.a = A at *
    generalize r.b = B at *
    by_cases hi0 : i = 0
    · rw [if_pos (.inl hi0)] at hsi
      subst hi0
      simp at hgi
      refine A13 (fs hiN (fs hi1 (fs hgi hrl))) hof hget hval ?_; try with_reducible exact tt
      refine ⟨1, by omega, by omega, by simp, ?_⟩
      simp [hsi]
    · have hi0' : ¬ (i : Int) = 0 := by omega
      by_cases hlt : fi < g i
      · rw [if_pos (.inr hlt)] at hsi
        have hc : cmpQ fi (g i) = -1 := by unfold cmpQ; rw [if_pos hlt]
        rw [hc] at hcmp
        refine A14 (fs hiN (fs hi1 (fs hgi (fs hrl (fs hbd (fs ew (fs hi0 hi0'))))))) hof hget hval hcmp ?_; try with_reducible exact tt
        refine ⟨i + 1, by omega, by omega, by simp, ?_⟩
        simp [hsi]
      · rw [if_neg (by rintro (h | h); exact hi0 h; exact hlt h)] at hsi
        have hc : ¬ cmpQ fi (g i) < 0 := by unfold cmpQ; rw [if_neg hlt]; split <;> omega
        generalize cmpQ fi (g i) = c at *
        refine A14 (fs hiN (fs hi1 (fs hgi (fs hrl (fs hbd (fs ew (fs hi0 (fs hi0' hc)))))))) hof hget hval hcmp ?_; try with_reducible exact tt
        refine ⟨i + 1, by omega, by omega, by simp, ?_⟩
        simp [hsi]
  · have h2 : i = rs.length := by omega
    subst h2
    simp only [rD]
    refine A00 ?_; try with_reducible exact tt
end
end Go.Proofs.YtijbgbpjionfjaaGreatDoor.Am
namespace Go.Proofs.YtijbgbpjionfjaaGreatDoor.Am
section
open Go.RowKit
/-- a draw, as data -/
def drD (r c k a b : Int) (ws : List Nat) : D := .agg [.int .i64 r, .int .i64 c, .int .i64 k, .int .i64 a, .int .i64 b, .sl ws.length (ws.map fun x : Nat => .int .u64 x)]

theorem dparam_ok (r c k a b : Int) (ws : List Nat) : ∃ R C K A B : Nat, GoodP R C K A B ∧ (R : Int) = 1 + bits BinOp.and IntKind.i64 r 3 ∧ Eqn Tryz.prog n_Tlaw21_Draw_Param [.d (drD r c k a b ws)] [] (.d (cpD R C K A B)) [] := by
  obtain ⟨K, A, B, hsr, hsm⟩ := lsmall_ok k a b
  obtain ⟨Y, T, F, hw, hs1⟩ := hsm 0 0 false
  have hown := lown_ok K A B
  obtain ⟨r1, hr1, hr2, hr3⟩ := and_b r 3 (by omega)
  obtain ⟨c1, hc1, hc2, -⟩ := and_b c 255 (by omega)
  replace hr1 : bits BinOp.and IntKind.i64 r 3 = r1 := hr1
  replace hc1 : bits BinOp.and IntKind.i64 c 255 = c1 := hc1
  have e1 : IntKind.i64.wrap (1 + (c1 : Int) % 64) = ((1 + c1 % 64 : Nat) : Int) := by rw [w64 (by omega) (by omega)]; omega
  have e2 : (c1 : Int).tmod 64 = (c1 : Int) % 64 := by rw [Int.tmod_eq_emod_of_nonneg (by omega)]
  refine ⟨1 + r1, 1 + c1 % 64, K, A, B, ⟨by omega, by omega, by omega, by omega, goodR_of hsr⟩, by rw [hr1]; omega, ?_⟩
  refine Eqn.pure r_Tlaw21_Draw_Param Plain.ok ?_
  simp only [c_Tlaw21_Draw_Param, drD, parD, cpD, tsD] at hs1 hown ⊢
  refine A12 (fs hr1 (fs hr3 (fs hc1 (fs e1 e2)))) hs1 hown ?_; try with_reducible exact tt

/-- the numbers of a draw's hashes -/
def hnum (ws : List Nat) (i : Nat) : Nat := if i < ws.length then ws.getD i 0 % hP else i + 1
def drawH (ws : List Nat) (R : Nat) : List (Nat × Nat) := (List.range R).map fun i => (hnum ws (2 * i), hnum ws (2 * i + 1))
theorem drawH_lt (ws : List Nat) {R : Nat} (h : R ≤ 4) : ∀ x ∈ drawH ws R, x.1 < hP ∧ x.2 < hP := by
  intro x hx
  obtain ⟨i, hi, rfl⟩ := List.mem_map.1 hx
  rw [List.mem_range] at hi
  have key : ∀ j, j ≤ 8 → hnum ws j < hP := by
    intro j hj
    unfold hnum
    split
    · exact Nat.mod_lt _ (by decide)
    · unfold hP; omega
  exact ⟨key _ (by omega), key _ (by omega)⟩

theorem dnum_ok (r c k a b : Int) (ws : List Nat) (hw : ws.length ≤ 9223372036854775807) (i : Nat) (hi : i ≤ 8) : Eqn Tryz.prog n_Tlaw21_Draw_Hashes_1 [.d (.int .i64 i), .p 0 0] [⟨26, [.d (.int .i64 r), .d (.int .i64 c), .d (.int .i64 k), .d (.int .i64 a), .d (.int .i64 b), .d (.sl ws.length (ws.map fun x : Nat => .int .u64 x))]⟩] (.d (.int .u64 (hnum ws i))) [⟨26, [.d (.int .i64 r), .d (.int .i64 c), .d (.int .i64 k), .d (.int .i64 a), .d (.int .i64 b), .d (.sl ws.length (ws.map fun x : Nat => .int .u64 x))]⟩] := by
  refine Eqn.gen [0] r_Tlaw21_Draw_Hashes_1 (by simp) (by simp) (by rfl) (by decide) (by simp) (by simp) ?_
  simp only [c_Tlaw21_Draw_Hashes_1]
  unfold hnum hP
  by_cases h : i < ws.length
  · have h1 : (i : Int) < ws.length := by omega
    have e : (ws.getD i 0) = ws[i] := by simp [List.getD, h]
    have e2 : (ws[i] : Int).tmod 2305843009213693951 = (ws[i] : Int) % 2305843009213693951 := by rw [Int.tmod_eq_emod_of_nonneg (by omega)]
    rw [if_pos h, e]
    refine A10 (fs h (fs h1 e2)) ?_; try with_reducible exact tt
  · have h1 : ¬ (i : Int) < ws.length := by omega
    have e1 : IntKind.i64.wrap ((i : Int) + 1) = ((i + 1 : Nat) : Int) := by rw [w64 (by omega) (by omega)]; omega
    have e2 : IntKind.u64.wrap ((i : Int) + 1) = (i : Int) + 1 := by rw [IntKind.wrap_u64]; omega
    rw [if_neg h]
    refine A10 (fs h (fs h1 (fs e1 e2))) ?_; try with_reducible exact tt

theorem dhashes_ok (r c k a b : Int) (ws : List Nat) (hw : ws.length ≤ 9223372036854775807) (R : Nat) (hR : (R : Int) = 1 + bits BinOp.and IntKind.i64 r 3) (h1 : 1 ≤ R) (h4 : R ≤ 4) : Eqn Tryz.prog n_Tlaw21_Draw_Hashes [.d (drD r c k a b ws)] [] (.own 0 2 R) [⟨62, (hashesD (drawH ws R)).map .d⟩] := by
  refine Eqn.gen [1] r_Tlaw21_Draw_Hashes (by simp) (by simp) (by rfl) (by decide) (by simp) (by simp) ?_
  obtain ⟨r1, hr1, hr2, hr3⟩ := and_b r 3 (by omega)
  replace hr1 : bits BinOp.and IntKind.i64 r 3 = r1 := hr1
  rw [hr1] at hR
  obtain rfl : R = 1 + r1 := by omega
  have hnn := fun i hi => dnum_ok r c k a b ws hw i hi
  obtain ⟨F, hF⟩ : ∃ F : Nat → List D, F = fun i => hashesD (drawH ws i) := ⟨_, rfl⟩
  have hF0 : F 0 = [] := by rw [hF]; simp [hashesD, drawH]
  have hFn : hashesD (drawH ws (1 + r1)) = F (1 + r1) := by rw [hF]
  have hFl : ∀ i, (F i).length = i * 2 := by
    intro i
    rw [hF]
    show (hashesD (drawH ws i)).length = i * 2
    unfold hashesD
    rw [flat_len (n := 2) (fun x => by simp), drawH, List.length_map, List.length_range]
  have hFs : ∀ i, F (i + 1) = F i ++ [.int .u64 (hnum ws (2 * i)), .int .u64 (hnum ws (2 * i + 1))] := by
    intro i
    rw [hF]
    show hashesD (drawH ws (i + 1)) = hashesD (drawH ws i) ++ _
    rw [drawH, List.range_succ, List.map_append, hashesD, List.flatMap_append]; simp [hashesD, drawH]
  rw [hFn]
  clear hF hFn
  simp only [c_Tlaw21_Draw_Hashes, drD]
  generalize hWD : (ws.map fun x : Nat => D.int .u64 x) = WD at *
  refine A10 (fs hr1 hr3) ?_; try with_reducible exact tt
  refine AW.loopG (α := Nat) (fun i => setS (List.replicate 29 .junk) [(3, if i = 0 then .d .nilsl else .own 1 2 i), (4, .fn (.func n_Tlaw21_Draw_Hashes_1) [.p 0 0]), (10, .d (.int .i64 (1 + r1 : Nat))), (11, .d (.int .i64 (i : Int)))]) (fun i => some ⟨26, [.d (.int .i64 r), .d (.int .i64 c), .d (.int .i64 k), .d (.int .i64 a), .d (.int .i64 b), .d (.sl ws.length WD)]⟩ :: (if i = 0 then [] else [some ⟨62, (F i).map .d⟩])) (fun i => i ≤ 1 + r1) (fun i => 1 + r1 - i) 0 ?_ (Nat.zero_le _) ?_ ?_ ?_
  · intro i hi; split <;> simp
  · simp
  · simp
  rintro i hi
  by_cases hiN : i < 1 + r1
  · have hi1 : (i : Int) < 1 + (r1 : Int) := by omega
    have hsn := hFs i
    have ew : IntKind.i64.wrap ((i : Int) + 1) = (i : Int) + 1 := w64 (by omega) (by omega)
    by_cases hi0 : i = 0
    · subst hi0
      have q1 := hnn 0 (by omega)
      have q2 := hnn 1 (by omega)
      have hi2 : (0 : Int) < 1 + (r1 : Int) := by omega
      have m1 : IntKind.i64.wrap 1 = 1 := by decide
      have m0 : IntKind.i64.wrap 0 = 0 := by decide
      simp [hF0] at hsn
      simp
      refine A10 (fs hi2 m0) ?_; try with_reducible exact tt
      refine CallS.g [0] (q1) (R1 m1 ?_); try with_reducible exact tt
      refine CallS.g [0] (q2) (R0 ?_); try with_reducible exact tt
      refine ⟨1, 1, 2, by simp, by omega, by omega, ?_, ?_⟩
      · simp [swT, swH, sw, Ob.sw, V.ren, V.rens]
      · simp [swT, swH, sw, Ob.sw, V.ren, V.rens, hsn]
    · have q1 := hnn (2 * i) (by omega)
      have q2 := hnn (2 * i + 1) (by omega)
      have m1 : IntKind.i64.wrap (2 * (i : Int)) = ((2 * i : Nat) : Int) := by rw [w64 (by omega) (by omega)]; omega
      have m2 : IntKind.i64.wrap (2 * (i : Int) + 1) = ((2 * i + 1 : Nat) : Int) := by rw [w64 (by omega) (by omega)]; omega
      have m3 : ((2 * i : Nat) : Int) = 2 * (i : Int) := by omega
      generalize hnum ws (2 * i) = x1 at *
      generalize hnum ws (2 * i + 1) = x2 at *
      rw [if_neg hi0, if_neg hi0]
      have hfl := hFl i
      simp
      refine A10 (fs hiN hi1) ?_; try with_reducible exact tt
      refine CallS.g [0] (q1) (R0 ?_); try with_reducible exact tt
      refine CallS.g [0] (q2) (R1 (fs hfl ew) ?_); try with_reducible exact tt
      refine ⟨i + 1, 1, 3, by simp, by omega, by omega, ?_, ?_⟩
      · simp [swT, swH, sw, Ob.sw, V.ren, V.rens]
      · simp [swT, swH, sw, Ob.sw, V.ren, V.rens, hsn]
  · have h2 : i = 1 + r1 := by omega
    subst h2
    have hz : 1 + r1 ≠ 0 := by omega
    rw [if_neg hz, if_neg hz]
    simp
    refine A00 ?_; try with_reducible exact tt

/-- updates, as data -/
def updD (l : List (Nat × Int)) : List D := l.flatMap fun u => [.int .u64 u.1, .int .i64 u.2]
end
end Go.Proofs.YtijbgbpjionfjaaGreatDoor.Am
namespace Go.Proofs.YtijbgbpjionfjaaGreatDoor.Am
section
open Go.RowKit
/-- what an update comes to -/
structure UR where
  e : Int
  rs : List Rw
  p : Nat
  d : Bool
/-- a row's register, with so many more -/
def updR (cs : List Bool) (C k a b key n : Nat) (r : Rw) (p : Nat) (d : Bool) : TR := addRM cs k a b n (r.l.getD (colOf C r.a r.b key) (0, 0, false)).1 (r.l.getD (colOf C r.a r.b key) (0, 0, false)).2.1 (r.l.getD (colOf C r.a r.b key) (0, 0, false)).2.2 p d
def updC (r : Rw) (l : List ST) (Z : TR) (U : UR) : UR := if Z.e = 0 then ⟨U.e, ⟨r.a, r.b, l⟩ :: U.rs, U.p, U.d⟩ else ⟨Z.e, [], Z.p, Z.d⟩
def updM (cs : List Bool) (C k a b key n : Nat) : List Rw → Nat → Bool → UR
  | [], p, d => ⟨0, [], p, d⟩
  | r :: rs, p, d => updC r (r.l.set (colOf C r.a r.b key) ((updR cs C k a b key n r p d).y, (updR cs C k a b key n r p d).t, (updR cs C k a b key n r p d).f)) (updR cs C k a b key n r p d) (updM cs C k a b key n rs (updR cs C k a b key n r p d).p (updR cs C k a b key n r p d).d)

theorem sclone2_ok {C k a b T : Nat} (hg : GoodR k a b) (g1 : 1 ≤ C) (g2 : C ≤ 64) (A0 B0 A1 B1 : Nat) (l0 l1 : List ST) (h0 : GoodRow C k a b ⟨A0, B0, l0⟩) (h1 : GoodRow C k a b ⟨A1, B1, l1⟩) :
    Eqn Tryz.prog n_cms_Sketch_Clone [.p 0 0] [skO 2 C k a b [⟨A0, B0, l0⟩, ⟨A1, B1, l1⟩] T] (.p 1 0) [skO 2 C k a b [⟨A0, B0, l0⟩, ⟨A1, B1, l1⟩] T, ⟨106, [.d (.int .i64 (2 : Nat)), .d (.int .i64 C), .d (.int .i64 k), .d (.int .i64 a), .d (.int .i64 b), .own 2 3 2, .d (.int .i64 T)]⟩, ⟨111, [.d (.int .u64 A0), .d (.int .u64 B0), .p 3 0, .d (.int .u64 A1), .d (.int .u64 B1), .p 6 0]⟩, arrO 4 k a b, arrV 5 k a b l0, arrB k a b l0, arrO 7 k a b, arrV 8 k a b l1, arrB k a b l1] := by
  obtain ⟨-, -, e0, -⟩ := h0
  simp only at e0
  obtain ⟨-, -, e1, -⟩ := h1
  simp only at e1
  refine Eqn.gen [0, 1, 2, 4, 5, 6, 8, 9, 10] r_cms_Sketch_Clone (by simp) (by simp) (by rfl) (by decide) (by simp) (by simp [skO, skD, arrO, arrV, arrB, vecO, vecB, u64s]) ?_
  have hc := cloneR_own 2 [.int .u64 A0, .int .u64 B0, .ptr (arrD k a b l0) 0, .int .u64 A1, .int .u64 B1, .ptr (arrD k a b l1) 0] (by omega) rfl (by omega)
  have d0 := ccloneD_ok l0 hg (by omega) (by omega)
  have d1 := ccloneD_ok l1 hg (by omega) (by omega)
  simp only [c_cms_Sketch_Clone, skO, skD, rowsD, rowD, List.flatMap_cons, List.flatMap_nil, List.append_nil, List.cons_append, List.nil_append, List.map_cons, List.map_nil, List.length_cons, List.length_nil, arrO, arrV, arrB, vecO, vecB, e0, e1] at hc d0 d1 ⊢
  generalize arrD k a b l0 = AD0 at *
  generalize wordsP (wdR k a b) (encs k a b l0) = WS0 at *
  generalize arrD k a b l1 = AD1 at *
  generalize wordsP (wdR k a b) (encs k a b l1) = WS1 at *
  generalize nwP C (wdR k a b) = NW at *
  generalize wdR k a b = w at *
  refine G0 ?_; try with_reducible exact tt
  refine CallS.g [] (hc) (R0 ?_); try with_reducible exact tt
  refine AW.rounds 3 ?_
  refine A00 ?_; try with_reducible exact tt
  refine CallS.g [] (d0) (R0 ?_); try with_reducible exact tt
  refine A00 ?_; try with_reducible exact tt
  refine CallS.g [] (d1) (R0 ?_); try with_reducible exact tt
  refine A00 ?_; try with_reducible exact tt

set_option maxHeartbeats 4000000 in
theorem supd2_ok {C k a b T : Nat} (hg : GoodR k a b) (g1 : 1 ≤ C) (g2 : C ≤ 64) (A0 B0 A1 B1 : Nat) (l0 l1 : List ST) (h0 : GoodRow C k a b ⟨A0, B0, l0⟩) (h1 : GoodRow C k a b ⟨A1, B1, l1⟩) (cs : List Bool) (key n p : Nat) (d : Bool) (hk : key < hP) (hn : n ≤ 1048576) (hT : T + n ≤ 1099511627776) (hp : p ≤ cs.length) (hc : cs.length ≤ 4000000) (U : UR) (hU : U = updM cs C k a b key n [⟨A0, B0, l0⟩, ⟨A1, B1, l1⟩] p d) :
    Eqn Tryz.prog n_cms_Sketch_Update [.p 0 0, .p 1 0, .d (.int .u64 key), .d (.int .i64 n)] [skO 2 C k a b [⟨A0, B0, l0⟩, ⟨A1, B1, l1⟩] T, tapeO cs p d] (.d (.int .i64 U.e)) [if U.e = 0 then skO 2 C k a b U.rs (T + n) else skO 2 C k a b [⟨A0, B0, l0⟩, ⟨A1, B1, l1⟩] T, tapeO cs U.p U.d] := by
  have hcl := sclone2_ok (T := T) hg g1 g2 A0 B0 A1 B1 l0 l1 h0 h1
  obtain ⟨a0, b0, e0, w0⟩ := h0
  simp only at a0 b0 e0 w0
  have c0 : colOf C A0 B0 key < C := Nat.mod_lt _ (by omega)
  have o0 := hof_ok A0 B0 key C a0 b0 hk g1 g2
  rw [show hsum A0 B0 key % C = colOf C A0 B0 key from rfl] at o0
  obtain ⟨Z0, z0⟩ : ∃ Z, Z = updR cs C k a b key n ⟨A0, B0, l0⟩ p d := ⟨_, rfl⟩
  have p0 : Z0.p ≤ cs.length := by rw [z0]; exact (addRM_well hg (wells_get w0 (show colOf C A0 B0 key < l0.length by omega)) hp hc).1
  have x0 := cadd_ok cs l0 (colOf C A0 B0 key) n p d hg w0 (by omega) (by omega) hn hp hc Z0 z0
  obtain ⟨a1, b1, e1, w1⟩ := h1
  simp only at a1 b1 e1 w1
  have c1 : colOf C A1 B1 key < C := Nat.mod_lt _ (by omega)
  have o1 := hof_ok A1 B1 key C a1 b1 hk g1 g2
  rw [show hsum A1 B1 key % C = colOf C A1 B1 key from rfl] at o1
  obtain ⟨Z1, z1⟩ : ∃ Z, Z = updR cs C k a b key n ⟨A1, B1, l1⟩ Z0.p Z0.d := ⟨_, rfl⟩
  have p1 : Z1.p ≤ cs.length := by rw [z1]; exact (addRM_well hg (wells_get w1 (show colOf C A1 B1 key < l1.length by omega)) p0 hc).1
  have x1 := cadd_ok cs l1 (colOf C A1 B1 key) n Z0.p Z0.d hg w1 (by omega) (by omega) hn p0 hc Z1 z1
  simp only [updM] at hU
  rw [← z0] at hU
  rw [← z1] at hU
  clear z0 p0 z1 p1
  have D0 : arrD k a b (l0.set (colOf C A0 B0 key) (Z0.y, Z0.t, Z0.f)) = [.ptr [.sl (nwP C (wdR k a b)) ((wordsP (wdR k a b) (encs k a b (l0.set (colOf C A0 B0 key) (Z0.y, Z0.t, Z0.f)))).map fun x : Nat => D.int .u64 x), .int .i64 C, .int .i64 (wdR k a b)] 0, .int .i64 k, .int .i64 a, .int .i64 b] := by simp [arrD, vecD, e0]
  have L0 : ((wordsP (wdR k a b) (encs k a b (l0.set (colOf C A0 B0 key) (Z0.y, Z0.t, Z0.f)))).map fun x : Nat => D.int .u64 x).length = nwP C (wdR k a b) := by simp [e0]
  have u0 : u64s (wordsP (wdR k a b) (encs k a b (l0.set (colOf C A0 B0 key) (Z0.y, Z0.t, Z0.f)))) = ((wordsP (wdR k a b) (encs k a b (l0.set (colOf C A0 B0 key) (Z0.y, Z0.t, Z0.f)))).map fun x : Nat => D.int .u64 x).map V.d := by simp [u64s]
  have D1 : arrD k a b (l1.set (colOf C A1 B1 key) (Z1.y, Z1.t, Z1.f)) = [.ptr [.sl (nwP C (wdR k a b)) ((wordsP (wdR k a b) (encs k a b (l1.set (colOf C A1 B1 key) (Z1.y, Z1.t, Z1.f)))).map fun x : Nat => D.int .u64 x), .int .i64 C, .int .i64 (wdR k a b)] 0, .int .i64 k, .int .i64 a, .int .i64 b] := by simp [arrD, vecD, e1]
  have L1 : ((wordsP (wdR k a b) (encs k a b (l1.set (colOf C A1 B1 key) (Z1.y, Z1.t, Z1.f)))).map fun x : Nat => D.int .u64 x).length = nwP C (wdR k a b) := by simp [e1]
  have u1 : u64s (wordsP (wdR k a b) (encs k a b (l1.set (colOf C A1 B1 key) (Z1.y, Z1.t, Z1.f)))) = ((wordsP (wdR k a b) (encs k a b (l1.set (colOf C A1 B1 key) (Z1.y, Z1.t, Z1.f)))).map fun x : Nat => D.int .u64 x).map V.d := by simp [u64s]
  refine Eqn.gen [0, 1] r_cms_Sketch_Update (by simp) (by simp) (by rfl) (by decide) (by simp) (by intro ob hob; simp at hob; rcases hob with rfl | rfl; (split <;> simp [skO, skD]); simp [tapeO]) ?_
  have q1 : ¬ (2305843009213693951 : Int) ≤ key := by unfold hP at hk; omega
  have q2 : ¬ 2305843009213693951 ≤ key := by unfold hP at hk; omega
  have q3 : ¬ (n : Int) < 0 := by omega
  have q4 : ¬ (1048576 : Int) < n := by omega
  have q5 : ¬ 1048576 < n := by omega
  have q6 : IntKind.i64.wrap ((T : Int) + n) = ((T + n : Nat) : Int) := by rw [w64 (by omega) (by omega)]; omega
  have q7 : ¬ (1099511627776 : Int) < (T : Int) + n := by omega
  have q8 : ¬ 1099511627776 < T + n := by omega
  have es : ∀ rs : List Rw, rs.length = 2 → (skO 2 C k a b rs (T + n)) = ⟨106, [.d (.int .i64 (2 : Nat)), .d (.int .i64 C), .d (.int .i64 k), .d (.int .i64 a), .d (.int .i64 b), .d (.sl 2 (rowsD k a b rs)), .d (.int .i64 (T + n : Nat))]⟩ := by intro rs h; simp [skO, skD, h]
  have eo : skO 2 C k a b [⟨A0, B0, l0⟩, ⟨A1, B1, l1⟩] T = ⟨106, [.d (.int .i64 (2 : Nat)), .d (.int .i64 C), .d (.int .i64 k), .d (.int .i64 a), .d (.int .i64 b), .d (.sl 2 [.int .u64 A0, .int .u64 B0, .ptr (arrD k a b l0) 0, .int .u64 A1, .int .u64 B1, .ptr (arrD k a b l1) 0]), .d (.int .i64 T)]⟩ := by simp [skO, skD, rowsD, rowD]
  rw [eo] at hcl ⊢
  simp only [c_cms_Sketch_Update, arrO, arrV, arrB, vecO, vecB, hD, List.length_set, e0, e1] at hcl o0 o1 x0 x1 ⊢
  generalize hl0 : l0.set (colOf C A0 B0 key) (Z0.y, Z0.t, Z0.f) = m0 at *
  generalize colOf C A0 B0 key = col0 at *
  generalize arrD k a b l0 = AD0 at *
  obtain ⟨E0, Y0, T0, F0, P0, G0⟩ := Z0
  simp only at x0 hU
  generalize hl1 : l1.set (colOf C A1 B1 key) (Z1.y, Z1.t, Z1.f) = m1 at *
  generalize colOf C A1 B1 key = col1 at *
  generalize arrD k a b l1 = AD1 at *
  obtain ⟨E1, Y1, T1, F1, P1, G1⟩ := Z1
  simp only at x1 hU
  generalize nwP C (wdR k a b) = NW at *
  refine A10 (fs q1 (fs q2 (fs q3 (fs q4 (fs q5 (fs q6 (fs q7 q8))))))) ?_; try with_reducible exact tt
  refine CallS.g [0] (hcl) (R0 ?_); try with_reducible exact tt
  refine AW.rounds 3 ?_
  refine A01 o0 ?_; try with_reducible exact tt
  by_cases E00 : E0 = 0
  · simp only [E00, if_true, u0] at x0
    generalize ((wordsP (wdR k a b) (encs k a b m0)).map fun x : Nat => D.int .u64 x) = WD0 at *
    refine CallS.g [4, 5, 6, 1] (x0) (R0 ?_); try with_reducible exact tt
    refine A01 o1 ?_; try with_reducible exact tt
    by_cases E10 : E1 = 0
    · simp only [E10, if_true, u1] at x1
      generalize ((wordsP (wdR k a b) (encs k a b m1)).map fun x : Nat => D.int .u64 x) = WD1 at *
      refine CallS.g [7, 8, 9, 1] (x1) (R0 ?_); try with_reducible exact tt
      simp only [updC, if_true, E00, E10] at hU
      subst hU
      simp only [if_true]
      rw [es _ rfl]
      simp only [rowsD, rowD, List.flatMap_cons, List.flatMap_nil, List.append_nil, List.cons_append, List.nil_append, D0, D1]
      have t0 : WD0.take NW = WD0 := List.take_of_length_le (by omega)
      have t1 : WD1.take NW = WD1 := List.take_of_length_le (by omega)
      generalize wdR k a b = w at *
      refine AW.freeze 6 1 ⟨28, WD0.map V.d⟩ WD0 (by simp) rfl ?_
      simp [frzH, t0]
      refine AW.freeze 5 1 ⟨218, [.d (.sl NW WD0), .d (.int .i64 C), .d (.int .i64 w)]⟩ [.sl NW WD0, .int .i64 C, .int .i64 w] (by rfl) rfl ?_
      simp [frzH]
      refine AW.freeze 4 1 ⟨166, [.d (.ptr [.sl NW WD0, .int .i64 C, .int .i64 w] 0), .d (.int .i64 k), .d (.int .i64 a), .d (.int .i64 b)]⟩ [.ptr [.sl NW WD0, .int .i64 C, .int .i64 w] 0, .int .i64 k, .int .i64 a, .int .i64 b] (by rfl) rfl ?_
      simp [frzH]
      refine AW.freeze 9 1 ⟨28, WD1.map V.d⟩ WD1 (by simp) rfl ?_
      simp [frzH, t1]
      refine AW.freeze 8 1 ⟨218, [.d (.sl NW WD1), .d (.int .i64 C), .d (.int .i64 w)]⟩ [.sl NW WD1, .int .i64 C, .int .i64 w] (by rfl) rfl ?_
      simp [frzH]
      refine AW.freeze 7 1 ⟨166, [.d (.ptr [.sl NW WD1, .int .i64 C, .int .i64 w] 0), .d (.int .i64 k), .d (.int .i64 a), .d (.int .i64 b)]⟩ [.ptr [.sl NW WD1, .int .i64 C, .int .i64 w] 0, .int .i64 k, .int .i64 a, .int .i64 b] (by rfl) rfl ?_
      simp [frzH]
      refine AW.freeze 3 3 ⟨111, [.int .u64 A0, .int .u64 B0, .ptr [.ptr [.sl NW WD0, .int .i64 C, .int .i64 w] 0, .int .i64 k, .int .i64 a, .int .i64 b] 0, .int .u64 A1, .int .u64 B1, .ptr [.ptr [.sl NW WD1, .int .i64 C, .int .i64 w] 0, .int .i64 k, .int .i64 a, .int .i64 b] 0].map V.d⟩ [.int .u64 A0, .int .u64 B0, .ptr [.ptr [.sl NW WD0, .int .i64 C, .int .i64 w] 0, .int .i64 k, .int .i64 a, .int .i64 b] 0, .int .u64 A1, .int .u64 B1, .ptr [.ptr [.sl NW WD1, .int .i64 C, .int .i64 w] 0, .int .i64 k, .int .i64 a, .int .i64 b] 0] (by rfl) rfl ?_
      simp [frzH]
      refine A10 q6 ?_; try with_reducible exact tt
    · simp only [if_neg E10] at x1
      simp only [updC, if_true, if_neg E10, E00] at hU
      refine CallS.g [7, 8, 9, 1] (x1) (R0 ?_); try with_reducible exact tt
      subst hU
      simp only [if_neg E10]
      refine A10 E10 ?_; try with_reducible exact tt
  · simp only [if_neg E00] at x0
    simp only [updC, if_true, if_neg E00] at hU
    refine CallS.g [4, 5, 6, 1] (x0) (R0 ?_); try with_reducible exact tt
    subst hU
    simp only [if_neg E00]
    refine A10 E00 ?_; try with_reducible exact tt


theorem sclone3_ok {C k a b T : Nat} (hg : GoodR k a b) (g1 : 1 ≤ C) (g2 : C ≤ 64) (A0 B0 A1 B1 A2 B2 : Nat) (l0 l1 l2 : List ST) (h0 : GoodRow C k a b ⟨A0, B0, l0⟩) (h1 : GoodRow C k a b ⟨A1, B1, l1⟩) (h2 : GoodRow C k a b ⟨A2, B2, l2⟩) :
    Eqn Tryz.prog n_cms_Sketch_Clone [.p 0 0] [skO 3 C k a b [⟨A0, B0, l0⟩, ⟨A1, B1, l1⟩, ⟨A2, B2, l2⟩] T] (.p 1 0) [skO 3 C k a b [⟨A0, B0, l0⟩, ⟨A1, B1, l1⟩, ⟨A2, B2, l2⟩] T, ⟨106, [.d (.int .i64 (3 : Nat)), .d (.int .i64 C), .d (.int .i64 k), .d (.int .i64 a), .d (.int .i64 b), .own 2 3 3, .d (.int .i64 T)]⟩, ⟨111, [.d (.int .u64 A0), .d (.int .u64 B0), .p 3 0, .d (.int .u64 A1), .d (.int .u64 B1), .p 6 0, .d (.int .u64 A2), .d (.int .u64 B2), .p 9 0]⟩, arrO 4 k a b, arrV 5 k a b l0, arrB k a b l0, arrO 7 k a b, arrV 8 k a b l1, arrB k a b l1, arrO 10 k a b, arrV 11 k a b l2, arrB k a b l2] := by
  obtain ⟨-, -, e0, -⟩ := h0
  simp only at e0
  obtain ⟨-, -, e1, -⟩ := h1
  simp only at e1
  obtain ⟨-, -, e2, -⟩ := h2
  simp only at e2
  refine Eqn.gen [0, 1, 2, 4, 5, 6, 8, 9, 10, 12, 13, 14] r_cms_Sketch_Clone (by simp) (by simp) (by rfl) (by decide) (by simp) (by simp [skO, skD, arrO, arrV, arrB, vecO, vecB, u64s]) ?_
  have hc := cloneR_own 3 [.int .u64 A0, .int .u64 B0, .ptr (arrD k a b l0) 0, .int .u64 A1, .int .u64 B1, .ptr (arrD k a b l1) 0, .int .u64 A2, .int .u64 B2, .ptr (arrD k a b l2) 0] (by omega) rfl (by omega)
  have d0 := ccloneD_ok l0 hg (by omega) (by omega)
  have d1 := ccloneD_ok l1 hg (by omega) (by omega)
  have d2 := ccloneD_ok l2 hg (by omega) (by omega)
  simp only [c_cms_Sketch_Clone, skO, skD, rowsD, rowD, List.flatMap_cons, List.flatMap_nil, List.append_nil, List.cons_append, List.nil_append, List.map_cons, List.map_nil, List.length_cons, List.length_nil, arrO, arrV, arrB, vecO, vecB, e0, e1, e2] at hc d0 d1 d2 ⊢
  generalize arrD k a b l0 = AD0 at *
  generalize wordsP (wdR k a b) (encs k a b l0) = WS0 at *
  generalize arrD k a b l1 = AD1 at *
  generalize wordsP (wdR k a b) (encs k a b l1) = WS1 at *
  generalize arrD k a b l2 = AD2 at *
  generalize wordsP (wdR k a b) (encs k a b l2) = WS2 at *
  generalize nwP C (wdR k a b) = NW at *
  generalize wdR k a b = w at *
  refine G0 ?_; try with_reducible exact tt
  refine CallS.g [] (hc) (R0 ?_); try with_reducible exact tt
  refine AW.rounds 4 ?_
  refine A00 ?_; try with_reducible exact tt
  refine CallS.g [] (d0) (R0 ?_); try with_reducible exact tt
  refine A00 ?_; try with_reducible exact tt
  refine CallS.g [] (d1) (R0 ?_); try with_reducible exact tt
  refine A00 ?_; try with_reducible exact tt
  refine CallS.g [] (d2) (R0 ?_); try with_reducible exact tt
  refine A00 ?_; try with_reducible exact tt

set_option maxHeartbeats 4000000 in
theorem supd3_ok {C k a b T : Nat} (hg : GoodR k a b) (g1 : 1 ≤ C) (g2 : C ≤ 64) (A0 B0 A1 B1 A2 B2 : Nat) (l0 l1 l2 : List ST) (h0 : GoodRow C k a b ⟨A0, B0, l0⟩) (h1 : GoodRow C k a b ⟨A1, B1, l1⟩) (h2 : GoodRow C k a b ⟨A2, B2, l2⟩) (cs : List Bool) (key n p : Nat) (d : Bool) (hk : key < hP) (hn : n ≤ 1048576) (hT : T + n ≤ 1099511627776) (hp : p ≤ cs.length) (hc : cs.length ≤ 4000000) (U : UR) (hU : U = updM cs C k a b key n [⟨A0, B0, l0⟩, ⟨A1, B1, l1⟩, ⟨A2, B2, l2⟩] p d) :
    Eqn Tryz.prog n_cms_Sketch_Update [.p 0 0, .p 1 0, .d (.int .u64 key), .d (.int .i64 n)] [skO 3 C k a b [⟨A0, B0, l0⟩, ⟨A1, B1, l1⟩, ⟨A2, B2, l2⟩] T, tapeO cs p d] (.d (.int .i64 U.e)) [if U.e = 0 then skO 3 C k a b U.rs (T + n) else skO 3 C k a b [⟨A0, B0, l0⟩, ⟨A1, B1, l1⟩, ⟨A2, B2, l2⟩] T, tapeO cs U.p U.d] := by
  have hcl := sclone3_ok (T := T) hg g1 g2 A0 B0 A1 B1 A2 B2 l0 l1 l2 h0 h1 h2
  obtain ⟨a0, b0, e0, w0⟩ := h0
  simp only at a0 b0 e0 w0
  have c0 : colOf C A0 B0 key < C := Nat.mod_lt _ (by omega)
  have o0 := hof_ok A0 B0 key C a0 b0 hk g1 g2
  rw [show hsum A0 B0 key % C = colOf C A0 B0 key from rfl] at o0
  obtain ⟨Z0, z0⟩ : ∃ Z, Z = updR cs C k a b key n ⟨A0, B0, l0⟩ p d := ⟨_, rfl⟩
  have p0 : Z0.p ≤ cs.length := by rw [z0]; exact (addRM_well hg (wells_get w0 (show colOf C A0 B0 key < l0.length by omega)) hp hc).1
  have x0 := cadd_ok cs l0 (colOf C A0 B0 key) n p d hg w0 (by omega) (by omega) hn hp hc Z0 z0
  obtain ⟨a1, b1, e1, w1⟩ := h1
  simp only at a1 b1 e1 w1
  have c1 : colOf C A1 B1 key < C := Nat.mod_lt _ (by omega)
  have o1 := hof_ok A1 B1 key C a1 b1 hk g1 g2
  rw [show hsum A1 B1 key % C = colOf C A1 B1 key from rfl] at o1
  obtain ⟨Z1, z1⟩ : ∃ Z, Z = updR cs C k a b key n ⟨A1, B1, l1⟩ Z0.p Z0.d := ⟨_, rfl⟩
  have p1 : Z1.p ≤ cs.length := by rw [z1]; exact (addRM_well hg (wells_get w1 (show colOf C A1 B1 key < l1.length by omega)) p0 hc).1
  have x1 := cadd_ok cs l1 (colOf C A1 B1 key) n Z0.p Z0.d hg w1 (by omega) (by omega) hn p0 hc Z1 z1
  obtain ⟨a2, b2, e2, w2⟩ := h2
  simp only at a2 b2 e2 w2
  have c2 : colOf C A2 B2 key < C := Nat.mod_lt _ (by omega)
  have o2 := hof_ok A2 B2 key C a2 b2 hk g1 g2
  rw [show hsum A2 B2 key % C = colOf C A2 B2 key from rfl] at o2
  obtain ⟨Z2, z2⟩ : ∃ Z, Z = updR cs C k a b key n ⟨A2, B2, l2⟩ Z1.p Z1.d := ⟨_, rfl⟩
  have p2 : Z2.p ≤ cs.length := by rw [z2]; exact (addRM_well hg (wells_get w2 (show colOf C A2 B2 key < l2.length by omega)) p1 hc).1
  have x2 := cadd_ok cs l2 (colOf C A2 B2 key) n Z1.p Z1.d hg w2 (by omega) (by omega) hn p1 hc Z2 z2
  simp only [updM] at hU
  rw [← z0] at hU
  rw [← z1] at hU
  rw [← z2] at hU
  clear z0 p0 z1 p1 z2 p2
  have D0 : arrD k a b (l0.set (colOf C A0 B0 key) (Z0.y, Z0.t, Z0.f)) = [.ptr [.sl (nwP C (wdR k a b)) ((wordsP (wdR k a b) (encs k a b (l0.set (colOf C A0 B0 key) (Z0.y, Z0.t, Z0.f)))).map fun x : Nat => D.int .u64 x), .int .i64 C, .int .i64 (wdR k a b)] 0, .int .i64 k, .int .i64 a, .int .i64 b] := by simp [arrD, vecD, e0]
  have L0 : ((wordsP (wdR k a b) (encs k a b (l0.set (colOf C A0 B0 key) (Z0.y, Z0.t, Z0.f)))).map fun x : Nat => D.int .u64 x).length = nwP C (wdR k a b) := by simp [e0]
  have u0 : u64s (wordsP (wdR k a b) (encs k a b (l0.set (colOf C A0 B0 key) (Z0.y, Z0.t, Z0.f)))) = ((wordsP (wdR k a b) (encs k a b (l0.set (colOf C A0 B0 key) (Z0.y, Z0.t, Z0.f)))).map fun x : Nat => D.int .u64 x).map V.d := by simp [u64s]
  have D1 : arrD k a b (l1.set (colOf C A1 B1 key) (Z1.y, Z1.t, Z1.f)) = [.ptr [.sl (nwP C (wdR k a b)) ((wordsP (wdR k a b) (encs k a b (l1.set (colOf C A1 B1 key) (Z1.y, Z1.t, Z1.f)))).map fun x : Nat => D.int .u64 x), .int .i64 C, .int .i64 (wdR k a b)] 0, .int .i64 k, .int .i64 a, .int .i64 b] := by simp [arrD, vecD, e1]
  have L1 : ((wordsP (wdR k a b) (encs k a b (l1.set (colOf C A1 B1 key) (Z1.y, Z1.t, Z1.f)))).map fun x : Nat => D.int .u64 x).length = nwP C (wdR k a b) := by simp [e1]
  have u1 : u64s (wordsP (wdR k a b) (encs k a b (l1.set (colOf C A1 B1 key) (Z1.y, Z1.t, Z1.f)))) = ((wordsP (wdR k a b) (encs k a b (l1.set (colOf C A1 B1 key) (Z1.y, Z1.t, Z1.f)))).map fun x : Nat => D.int .u64 x).map V.d := by simp [u64s]
  have D2 : arrD k a b (l2.set (colOf C A2 B2 key) (Z2.y, Z2.t, Z2.f)) = [.ptr [.sl (nwP C (wdR k a b)) ((wordsP (wdR k a b) (encs k a b (l2.set (colOf C A2 B2 key) (Z2.y, Z2.t, Z2.f)))).map fun x : Nat => D.int .u64 x), .int .i64 C, .int .i64 (wdR k a b)] 0, .int .i64 k, .int .i64 a, .int .i64 b] := by simp [arrD, vecD, e2]
  have L2 : ((wordsP (wdR k a b) (encs k a b (l2.set (colOf C A2 B2 key) (Z2.y, Z2.t, Z2.f)))).map fun x : Nat => D.int .u64 x).length = nwP C (wdR k a b) := by simp [e2]
  have u2 : u64s (wordsP (wdR k a b) (encs k a b (l2.set (colOf C A2 B2 key) (Z2.y, Z2.t, Z2.f)))) = ((wordsP (wdR k a b) (encs k a b (l2.set (colOf C A2 B2 key) (Z2.y, Z2.t, Z2.f)))).map fun x : Nat => D.int .u64 x).map V.d := by simp [u64s]
  refine Eqn.gen [0, 1] r_cms_Sketch_Update (by simp) (by simp) (by rfl) (by decide) (by simp) (by intro ob hob; simp at hob; rcases hob with rfl | rfl; (split <;> simp [skO, skD]); simp [tapeO]) ?_
  have q1 : ¬ (2305843009213693951 : Int) ≤ key := by unfold hP at hk; omega
  have q2 : ¬ 2305843009213693951 ≤ key := by unfold hP at hk; omega
  have q3 : ¬ (n : Int) < 0 := by omega
  have q4 : ¬ (1048576 : Int) < n := by omega
  have q5 : ¬ 1048576 < n := by omega
  have q6 : IntKind.i64.wrap ((T : Int) + n) = ((T + n : Nat) : Int) := by rw [w64 (by omega) (by omega)]; omega
  have q7 : ¬ (1099511627776 : Int) < (T : Int) + n := by omega
  have q8 : ¬ 1099511627776 < T + n := by omega
  have es : ∀ rs : List Rw, rs.length = 3 → (skO 3 C k a b rs (T + n)) = ⟨106, [.d (.int .i64 (3 : Nat)), .d (.int .i64 C), .d (.int .i64 k), .d (.int .i64 a), .d (.int .i64 b), .d (.sl 3 (rowsD k a b rs)), .d (.int .i64 (T + n : Nat))]⟩ := by intro rs h; simp [skO, skD, h]
  have eo : skO 3 C k a b [⟨A0, B0, l0⟩, ⟨A1, B1, l1⟩, ⟨A2, B2, l2⟩] T = ⟨106, [.d (.int .i64 (3 : Nat)), .d (.int .i64 C), .d (.int .i64 k), .d (.int .i64 a), .d (.int .i64 b), .d (.sl 3 [.int .u64 A0, .int .u64 B0, .ptr (arrD k a b l0) 0, .int .u64 A1, .int .u64 B1, .ptr (arrD k a b l1) 0, .int .u64 A2, .int .u64 B2, .ptr (arrD k a b l2) 0]), .d (.int .i64 T)]⟩ := by simp [skO, skD, rowsD, rowD]
  rw [eo] at hcl ⊢
  simp only [c_cms_Sketch_Update, arrO, arrV, arrB, vecO, vecB, hD, List.length_set, e0, e1, e2] at hcl o0 o1 o2 x0 x1 x2 ⊢
  generalize hl0 : l0.set (colOf C A0 B0 key) (Z0.y, Z0.t, Z0.f) = m0 at *
  generalize colOf C A0 B0 key = col0 at *
  generalize arrD k a b l0 = AD0 at *
  obtain ⟨E0, Y0, T0, F0, P0, G0⟩ := Z0
  simp only at x0 hU
  generalize hl1 : l1.set (colOf C A1 B1 key) (Z1.y, Z1.t, Z1.f) = m1 at *
  generalize colOf C A1 B1 key = col1 at *
  generalize arrD k a b l1 = AD1 at *
  obtain ⟨E1, Y1, T1, F1, P1, G1⟩ := Z1
  simp only at x1 hU
  generalize hl2 : l2.set (colOf C A2 B2 key) (Z2.y, Z2.t, Z2.f) = m2 at *
  generalize colOf C A2 B2 key = col2 at *
  generalize arrD k a b l2 = AD2 at *
  obtain ⟨E2, Y2, T2, F2, P2, G2⟩ := Z2
  simp only at x2 hU
  generalize nwP C (wdR k a b) = NW at *
  refine A10 (fs q1 (fs q2 (fs q3 (fs q4 (fs q5 (fs q6 (fs q7 q8))))))) ?_; try with_reducible exact tt
  refine CallS.g [0] (hcl) (R0 ?_); try with_reducible exact tt
  refine AW.rounds 4 ?_
  refine A01 o0 ?_; try with_reducible exact tt
  by_cases E00 : E0 = 0
  · simp only [E00, if_true, u0] at x0
    generalize ((wordsP (wdR k a b) (encs k a b m0)).map fun x : Nat => D.int .u64 x) = WD0 at *
    refine CallS.g [4, 5, 6, 1] (x0) (R0 ?_); try with_reducible exact tt
    refine A01 o1 ?_; try with_reducible exact tt
    by_cases E10 : E1 = 0
    · simp only [E10, if_true, u1] at x1
      generalize ((wordsP (wdR k a b) (encs k a b m1)).map fun x : Nat => D.int .u64 x) = WD1 at *
      refine CallS.g [7, 8, 9, 1] (x1) (R0 ?_); try with_reducible exact tt
      refine A01 o2 ?_; try with_reducible exact tt
      by_cases E20 : E2 = 0
      · simp only [E20, if_true, u2] at x2
        generalize ((wordsP (wdR k a b) (encs k a b m2)).map fun x : Nat => D.int .u64 x) = WD2 at *
        refine CallS.g [10, 11, 12, 1] (x2) (R0 ?_); try with_reducible exact tt
        simp only [updC, if_true, E00, E10, E20] at hU
        subst hU
        simp only [if_true]
        rw [es _ rfl]
        simp only [rowsD, rowD, List.flatMap_cons, List.flatMap_nil, List.append_nil, List.cons_append, List.nil_append, D0, D1, D2]
        have t0 : WD0.take NW = WD0 := List.take_of_length_le (by omega)
        have t1 : WD1.take NW = WD1 := List.take_of_length_le (by omega)
        have t2 : WD2.take NW = WD2 := List.take_of_length_le (by omega)
        generalize wdR k a b = w at *
        refine AW.freeze 6 1 ⟨28, WD0.map V.d⟩ WD0 (by simp) rfl ?_
        simp [frzH, t0]
        refine AW.freeze 5 1 ⟨218, [.d (.sl NW WD0), .d (.int .i64 C), .d (.int .i64 w)]⟩ [.sl NW WD0, .int .i64 C, .int .i64 w] (by rfl) rfl ?_
        simp [frzH]
        refine AW.freeze 4 1 ⟨166, [.d (.ptr [.sl NW WD0, .int .i64 C, .int .i64 w] 0), .d (.int .i64 k), .d (.int .i64 a), .d (.int .i64 b)]⟩ [.ptr [.sl NW WD0, .int .i64 C, .int .i64 w] 0, .int .i64 k, .int .i64 a, .int .i64 b] (by rfl) rfl ?_
        simp [frzH]
        refine AW.freeze 9 1 ⟨28, WD1.map V.d⟩ WD1 (by simp) rfl ?_
        simp [frzH, t1]
        refine AW.freeze 8 1 ⟨218, [.d (.sl NW WD1), .d (.int .i64 C), .d (.int .i64 w)]⟩ [.sl NW WD1, .int .i64 C, .int .i64 w] (by rfl) rfl ?_
        simp [frzH]
        refine AW.freeze 7 1 ⟨166, [.d (.ptr [.sl NW WD1, .int .i64 C, .int .i64 w] 0), .d (.int .i64 k), .d (.int .i64 a), .d (.int .i64 b)]⟩ [.ptr [.sl NW WD1, .int .i64 C, .int .i64 w] 0, .int .i64 k, .int .i64 a, .int .i64 b] (by rfl) rfl ?_
        simp [frzH]
        refine AW.freeze 12 1 ⟨28, WD2.map V.d⟩ WD2 (by simp) rfl ?_
        simp [frzH, t2]
        refine AW.freeze 11 1 ⟨218, [.d (.sl NW WD2), .d (.int .i64 C), .d (.int .i64 w)]⟩ [.sl NW WD2, .int .i64 C, .int .i64 w] (by rfl) rfl ?_
        simp [frzH]
        refine AW.freeze 10 1 ⟨166, [.d (.ptr [.sl NW WD2, .int .i64 C, .int .i64 w] 0), .d (.int .i64 k), .d (.int .i64 a), .d (.int .i64 b)]⟩ [.ptr [.sl NW WD2, .int .i64 C, .int .i64 w] 0, .int .i64 k, .int .i64 a, .int .i64 b] (by rfl) rfl ?_
        simp [frzH]
        refine AW.freeze 3 3 ⟨111, [.int .u64 A0, .int .u64 B0, .ptr [.ptr [.sl NW WD0, .int .i64 C, .int .i64 w] 0, .int .i64 k, .int .i64 a, .int .i64 b] 0, .int .u64 A1, .int .u64 B1, .ptr [.ptr [.sl NW WD1, .int .i64 C, .int .i64 w] 0, .int .i64 k, .int .i64 a, .int .i64 b] 0, .int .u64 A2, .int .u64 B2, .ptr [.ptr [.sl NW WD2, .int .i64 C, .int .i64 w] 0, .int .i64 k, .int .i64 a, .int .i64 b] 0].map V.d⟩ [.int .u64 A0, .int .u64 B0, .ptr [.ptr [.sl NW WD0, .int .i64 C, .int .i64 w] 0, .int .i64 k, .int .i64 a, .int .i64 b] 0, .int .u64 A1, .int .u64 B1, .ptr [.ptr [.sl NW WD1, .int .i64 C, .int .i64 w] 0, .int .i64 k, .int .i64 a, .int .i64 b] 0, .int .u64 A2, .int .u64 B2, .ptr [.ptr [.sl NW WD2, .int .i64 C, .int .i64 w] 0, .int .i64 k, .int .i64 a, .int .i64 b] 0] (by rfl) rfl ?_
        simp [frzH]
        refine A10 q6 ?_; try with_reducible exact tt
      · simp only [if_neg E20] at x2
        simp only [updC, if_true, if_neg E20, E00, E10] at hU
        refine CallS.g [10, 11, 12, 1] (x2) (R0 ?_); try with_reducible exact tt
        subst hU
        simp only [if_neg E20]
        refine A10 E20 ?_; try with_reducible exact tt
    · simp only [if_neg E10] at x1
      simp only [updC, if_true, if_neg E10, E00] at hU
      refine CallS.g [7, 8, 9, 1] (x1) (R0 ?_); try with_reducible exact tt
      subst hU
      simp only [if_neg E10]
      refine A10 E10 ?_; try with_reducible exact tt
  · simp only [if_neg E00] at x0
    simp only [updC, if_true, if_neg E00] at hU
    refine CallS.g [4, 5, 6, 1] (x0) (R0 ?_); try with_reducible exact tt
    subst hU
    simp only [if_neg E00]
    refine A10 E00 ?_; try with_reducible exact tt


theorem sclone4_ok {C k a b T : Nat} (hg : GoodR k a b) (g1 : 1 ≤ C) (g2 : C ≤ 64) (A0 B0 A1 B1 A2 B2 A3 B3 : Nat) (l0 l1 l2 l3 : List ST) (h0 : GoodRow C k a b ⟨A0, B0, l0⟩) (h1 : GoodRow C k a b ⟨A1, B1, l1⟩) (h2 : GoodRow C k a b ⟨A2, B2, l2⟩) (h3 : GoodRow C k a b ⟨A3, B3, l3⟩) :
    Eqn Tryz.prog n_cms_Sketch_Clone [.p 0 0] [skO 4 C k a b [⟨A0, B0, l0⟩, ⟨A1, B1, l1⟩, ⟨A2, B2, l2⟩, ⟨A3, B3, l3⟩] T] (.p 1 0) [skO 4 C k a b [⟨A0, B0, l0⟩, ⟨A1, B1, l1⟩, ⟨A2, B2, l2⟩, ⟨A3, B3, l3⟩] T, ⟨106, [.d (.int .i64 (4 : Nat)), .d (.int .i64 C), .d (.int .i64 k), .d (.int .i64 a), .d (.int .i64 b), .own 2 3 4, .d (.int .i64 T)]⟩, ⟨111, [.d (.int .u64 A0), .d (.int .u64 B0), .p 3 0, .d (.int .u64 A1), .d (.int .u64 B1), .p 6 0, .d (.int .u64 A2), .d (.int .u64 B2), .p 9 0, .d (.int .u64 A3), .d (.int .u64 B3), .p 12 0]⟩, arrO 4 k a b, arrV 5 k a b l0, arrB k a b l0, arrO 7 k a b, arrV 8 k a b l1, arrB k a b l1, arrO 10 k a b, arrV 11 k a b l2, arrB k a b l2, arrO 13 k a b, arrV 14 k a b l3, arrB k a b l3] := by
  obtain ⟨-, -, e0, -⟩ := h0
  simp only at e0
  obtain ⟨-, -, e1, -⟩ := h1
  simp only at e1
  obtain ⟨-, -, e2, -⟩ := h2
  simp only at e2
  obtain ⟨-, -, e3, -⟩ := h3
  simp only at e3
  refine Eqn.gen [0, 1, 2, 4, 5, 6, 8, 9, 10, 12, 13, 14, 16, 17, 18] r_cms_Sketch_Clone (by simp) (by simp) (by rfl) (by decide) (by simp) (by simp [skO, skD, arrO, arrV, arrB, vecO, vecB, u64s]) ?_
  have hc := cloneR_own 4 [.int .u64 A0, .int .u64 B0, .ptr (arrD k a b l0) 0, .int .u64 A1, .int .u64 B1, .ptr (arrD k a b l1) 0, .int .u64 A2, .int .u64 B2, .ptr (arrD k a b l2) 0, .int .u64 A3, .int .u64 B3, .ptr (arrD k a b l3) 0] (by omega) rfl (by omega)
  have d0 := ccloneD_ok l0 hg (by omega) (by omega)
  have d1 := ccloneD_ok l1 hg (by omega) (by omega)
  have d2 := ccloneD_ok l2 hg (by omega) (by omega)
  have d3 := ccloneD_ok l3 hg (by omega) (by omega)
  simp only [c_cms_Sketch_Clone, skO, skD, rowsD, rowD, List.flatMap_cons, List.flatMap_nil, List.append_nil, List.cons_append, List.nil_append, List.map_cons, List.map_nil, List.length_cons, List.length_nil, arrO, arrV, arrB, vecO, vecB, e0, e1, e2, e3] at hc d0 d1 d2 d3 ⊢
  generalize arrD k a b l0 = AD0 at *
  generalize wordsP (wdR k a b) (encs k a b l0) = WS0 at *
  generalize arrD k a b l1 = AD1 at *
  generalize wordsP (wdR k a b) (encs k a b l1) = WS1 at *
  generalize arrD k a b l2 = AD2 at *
  generalize wordsP (wdR k a b) (encs k a b l2) = WS2 at *
  generalize arrD k a b l3 = AD3 at *
  generalize wordsP (wdR k a b) (encs k a b l3) = WS3 at *
  generalize nwP C (wdR k a b) = NW at *
  generalize wdR k a b = w at *
  refine G0 ?_; try with_reducible exact tt
  refine CallS.g [] (hc) (R0 ?_); try with_reducible exact tt
  refine AW.rounds 5 ?_
  refine A00 ?_; try with_reducible exact tt
  refine CallS.g [] (d0) (R0 ?_); try with_reducible exact tt
  refine A00 ?_; try with_reducible exact tt
  refine CallS.g [] (d1) (R0 ?_); try with_reducible exact tt
  refine A00 ?_; try with_reducible exact tt
  refine CallS.g [] (d2) (R0 ?_); try with_reducible exact tt
  refine A00 ?_; try with_reducible exact tt
  refine CallS.g [] (d3) (R0 ?_); try with_reducible exact tt
  refine A00 ?_; try with_reducible exact tt

set_option maxHeartbeats 4000000 in
theorem supd4_ok {C k a b T : Nat} (hg : GoodR k a b) (g1 : 1 ≤ C) (g2 : C ≤ 64) (A0 B0 A1 B1 A2 B2 A3 B3 : Nat) (l0 l1 l2 l3 : List ST) (h0 : GoodRow C k a b ⟨A0, B0, l0⟩) (h1 : GoodRow C k a b ⟨A1, B1, l1⟩) (h2 : GoodRow C k a b ⟨A2, B2, l2⟩) (h3 : GoodRow C k a b ⟨A3, B3, l3⟩) (cs : List Bool) (key n p : Nat) (d : Bool) (hk : key < hP) (hn : n ≤ 1048576) (hT : T + n ≤ 1099511627776) (hp : p ≤ cs.length) (hc : cs.length ≤ 4000000) (U : UR) (hU : U = updM cs C k a b key n [⟨A0, B0, l0⟩, ⟨A1, B1, l1⟩, ⟨A2, B2, l2⟩, ⟨A3, B3, l3⟩] p d) :
    Eqn Tryz.prog n_cms_Sketch_Update [.p 0 0, .p 1 0, .d (.int .u64 key), .d (.int .i64 n)] [skO 4 C k a b [⟨A0, B0, l0⟩, ⟨A1, B1, l1⟩, ⟨A2, B2, l2⟩, ⟨A3, B3, l3⟩] T, tapeO cs p d] (.d (.int .i64 U.e)) [if U.e = 0 then skO 4 C k a b U.rs (T + n) else skO 4 C k a b [⟨A0, B0, l0⟩, ⟨A1, B1, l1⟩, ⟨A2, B2, l2⟩, ⟨A3, B3, l3⟩] T, tapeO cs U.p U.d] := by
  have hcl := sclone4_ok (T := T) hg g1 g2 A0 B0 A1 B1 A2 B2 A3 B3 l0 l1 l2 l3 h0 h1 h2 h3
  obtain ⟨a0, b0, e0, w0⟩ := h0
  simp only at a0 b0 e0 w0
  have c0 : colOf C A0 B0 key < C := Nat.mod_lt _ (by omega)
  have o0 := hof_ok A0 B0 key C a0 b0 hk g1 g2
  rw [show hsum A0 B0 key % C = colOf C A0 B0 key from rfl] at o0
  obtain ⟨Z0, z0⟩ : ∃ Z, Z = updR cs C k a b key n ⟨A0, B0, l0⟩ p d := ⟨_, rfl⟩
  have p0 : Z0.p ≤ cs.length := by rw [z0]; exact (addRM_well hg (wells_get w0 (show colOf C A0 B0 key < l0.length by omega)) hp hc).1
  have x0 := cadd_ok cs l0 (colOf C A0 B0 key) n p d hg w0 (by omega) (by omega) hn hp hc Z0 z0
  obtain ⟨a1, b1, e1, w1⟩ := h1
  simp only at a1 b1 e1 w1
  have c1 : colOf C A1 B1 key < C := Nat.mod_lt _ (by omega)
  have o1 := hof_ok A1 B1 key C a1 b1 hk g1 g2
  rw [show hsum A1 B1 key % C = colOf C A1 B1 key from rfl] at o1
  obtain ⟨Z1, z1⟩ : ∃ Z, Z = updR cs C k a b key n ⟨A1, B1, l1⟩ Z0.p Z0.d := ⟨_, rfl⟩
  have p1 : Z1.p ≤ cs.length := by rw [z1]; exact (addRM_well hg (wells_get w1 (show colOf C A1 B1 key < l1.length by omega)) p0 hc).1
  have x1 := cadd_ok cs l1 (colOf C A1 B1 key) n Z0.p Z0.d hg w1 (by omega) (by omega) hn p0 hc Z1 z1
  obtain ⟨a2, b2, e2, w2⟩ := h2
  simp only at a2 b2 e2 w2
  have c2 : colOf C A2 B2 key < C := Nat.mod_lt _ (by omega)
  have o2 := hof_ok A2 B2 key C a2 b2 hk g1 g2
  rw [show hsum A2 B2 key % C = colOf C A2 B2 key from rfl] at o2
  obtain ⟨Z2, z2⟩ : ∃ Z, Z = updR cs C k a b key n ⟨A2, B2, l2⟩ Z1.p Z1.d := ⟨_, rfl⟩
  have p2 : Z2.p ≤ cs.length := by rw [z2]; exact (addRM_well hg (wells_get w2 (show colOf C A2 B2 key < l2.length by omega)) p1 hc).1
  have x2 := cadd_ok cs l2 (colOf C A2 B2 key) n Z1.p Z1.d hg w2 (by omega) (by omega) hn p1 hc Z2 z2
  obtain ⟨a3, b3, e3, w3⟩ := h3
  simp only at a3 b3 e3 w3
  have c3 : colOf C A3 B3 key < C := Nat.mod_lt _ (by omega)
  have o3 := hof_ok A3 B3 key C a3 b3 hk g1 g2
  rw [show hsum A3 B3 key % C = colOf C A3 B3 key from rfl] at o3
  obtain ⟨Z3, z3⟩ : ∃ Z, Z = updR cs C k a b key n ⟨A3, B3, l3⟩ Z2.p Z2.d := ⟨_, rfl⟩
  have p3 : Z3.p ≤ cs.length := by rw [z3]; exact (addRM_well hg (wells_get w3 (show colOf C A3 B3 key < l3.length by omega)) p2 hc).1
  have x3 := cadd_ok cs l3 (colOf C A3 B3 key) n Z2.p Z2.d hg w3 (by omega) (by omega) hn p2 hc Z3 z3
  simp only [updM] at hU
  rw [← z0] at hU
  rw [← z1] at hU
  rw [← z2] at hU
  rw [← z3] at hU
  clear z0 p0 z1 p1 z2 p2 z3 p3
  have D0 : arrD k a b (l0.set (colOf C A0 B0 key) (Z0.y, Z0.t, Z0.f)) = [.ptr [.sl (nwP C (wdR k a b)) ((wordsP (wdR k a b) (encs k a b (l0.set (colOf C A0 B0 key) (Z0.y, Z0.t, Z0.f)))).map fun x : Nat => D.int .u64 x), .int .i64 C, .int .i64 (wdR k a b)] 0, .int .i64 k, .int .i64 a, .int .i64 b] := by simp [arrD, vecD, e0]
  have L0 : ((wordsP (wdR k a b) (encs k a b (l0.set (colOf C A0 B0 key) (Z0.y, Z0.t, Z0.f)))).map fun x : Nat => D.int .u64 x).length = nwP C (wdR k a b) := by simp [e0]
  have u0 : u64s (wordsP (wdR k a b) (encs k a b (l0.set (colOf C A0 B0 key) (Z0.y, Z0.t, Z0.f)))) = ((wordsP (wdR k a b) (encs k a b (l0.set (colOf C A0 B0 key) (Z0.y, Z0.t, Z0.f)))).map fun x : Nat => D.int .u64 x).map V.d := by simp [u64s]
  have D1 : arrD k a b (l1.set (colOf C A1 B1 key) (Z1.y, Z1.t, Z1.f)) = [.ptr [.sl (nwP C (wdR k a b)) ((wordsP (wdR k a b) (encs k a b (l1.set (colOf C A1 B1 key) (Z1.y, Z1.t, Z1.f)))).map fun x : Nat => D.int .u64 x), .int .i64 C, .int .i64 (wdR k a b)] 0, .int .i64 k, .int .i64 a, .int .i64 b] := by simp [arrD, vecD, e1]
  have L1 : ((wordsP (wdR k a b) (encs k a b (l1.set (colOf C A1 B1 key) (Z1.y, Z1.t, Z1.f)))).map fun x : Nat => D.int .u64 x).length = nwP C (wdR k a b) := by simp [e1]
  have u1 : u64s (wordsP (wdR k a b) (encs k a b (l1.set (colOf C A1 B1 key) (Z1.y, Z1.t, Z1.f)))) = ((wordsP (wdR k a b) (encs k a b (l1.set (colOf C A1 B1 key) (Z1.y, Z1.t, Z1.f)))).map fun x : Nat => D.int .u64 x).map V.d := by simp [u64s]
  have D2 : arrD k a b (l2.set (colOf C A2 B2 key) (Z2.y, Z2.t, Z2.f)) = [.ptr [.sl (nwP C (wdR k a b)) ((wordsP (wdR k a b) (encs k a b (l2.set (colOf C A2 B2 key) (Z2.y, Z2.t, Z2.f)))).map fun x : Nat => D.int .u64 x), .int .i64 C, .int .i64 (wdR k a b)] 0, .int .i64 k, .int .i64 a, .int .i64 b] := by simp [arrD, vecD, e2]
  have L2 : ((wordsP (wdR k a b) (encs k a b (l2.set (colOf C A2 B2 key) (Z2.y, Z2.t, Z2.f)))).map fun x : Nat => D.int .u64 x).length = nwP C (wdR k a b) := by simp [e2]
  have u2 : u64s (wordsP (wdR k a b) (encs k a b (l2.set (colOf C A2 B2 key) (Z2.y, Z2.t, Z2.f)))) = ((wordsP (wdR k a b) (encs k a b (l2.set (colOf C A2 B2 key) (Z2.y, Z2.t, Z2.f)))).map fun x : Nat => D.int .u64 x).map V.d := by simp [u64s]
  have D3 : arrD k a b (l3.set (colOf C A3 B3 key) (Z3.y, Z3.t, Z3.f)) = [.ptr [.sl (nwP C (wdR k a b)) ((wordsP (wdR k a b) (encs k a b (l3.set (colOf C A3 B3 key) (Z3.y, Z3.t, Z3.f)))).map fun x : Nat => D.int .u64 x), .int .i64 C, .int .i64 (wdR k a b)] 0, .int .i64 k, .int .i64 a, .int .i64 b] := by simp [arrD, vecD, e3]
  have L3 : ((wordsP (wdR k a b) (encs k a b (l3.set (colOf C A3 B3 key) (Z3.y, Z3.t, Z3.f)))).map fun x : Nat => D.int .u64 x).length = nwP C (wdR k a b) := by simp [e3]
  have u3 : u64s (wordsP (wdR k a b) (encs k a b (l3.set (colOf C A3 B3 key) (Z3.y, Z3.t, Z3.f)))) = ((wordsP (wdR k a b) (encs k a b (l3.set (colOf C A3 B3 key) (Z3.y, Z3.t, Z3.f)))).map fun x : Nat => D.int .u64 x).map V.d := by simp [u64s]
  refine Eqn.gen [0, 1] r_cms_Sketch_Update (by simp) (by simp) (by rfl) (by decide) (by simp) (by intro ob hob; simp at hob; rcases hob with rfl | rfl; (split <;> simp [skO, skD]); simp [tapeO]) ?_
  have q1 : ¬ (2305843009213693951 : Int) ≤ key := by unfold hP at hk; omega
  have q2 : ¬ 2305843009213693951 ≤ key := by unfold hP at hk; omega
  have q3 : ¬ (n : Int) < 0 := by omega
  have q4 : ¬ (1048576 : Int) < n := by omega
  have q5 : ¬ 1048576 < n := by omega
  have q6 : IntKind.i64.wrap ((T : Int) + n) = ((T + n : Nat) : Int) := by rw [w64 (by omega) (by omega)]; omega
  have q7 : ¬ (1099511627776 : Int) < (T : Int) + n := by omega
  have q8 : ¬ 1099511627776 < T + n := by omega
  have es : ∀ rs : List Rw, rs.length = 4 → (skO 4 C k a b rs (T + n)) = ⟨106, [.d (.int .i64 (4 : Nat)), .d (.int .i64 C), .d (.int .i64 k), .d (.int .i64 a), .d (.int .i64 b), .d (.sl 4 (rowsD k a b rs)), .d (.int .i64 (T + n : Nat))]⟩ := by intro rs h; simp [skO, skD, h]
  have eo : skO 4 C k a b [⟨A0, B0, l0⟩, ⟨A1, B1, l1⟩, ⟨A2, B2, l2⟩, ⟨A3, B3, l3⟩] T = ⟨106, [.d (.int .i64 (4 : Nat)), .d (.int .i64 C), .d (.int .i64 k), .d (.int .i64 a), .d (.int .i64 b), .d (.sl 4 [.int .u64 A0, .int .u64 B0, .ptr (arrD k a b l0) 0, .int .u64 A1, .int .u64 B1, .ptr (arrD k a b l1) 0, .int .u64 A2, .int .u64 B2, .ptr (arrD k a b l2) 0, .int .u64 A3, .int .u64 B3, .ptr (arrD k a b l3) 0]), .d (.int .i64 T)]⟩ := by simp [skO, skD, rowsD, rowD]
  rw [eo] at hcl ⊢
  simp only [c_cms_Sketch_Update, arrO, arrV, arrB, vecO, vecB, hD, List.length_set, e0, e1, e2, e3] at hcl o0 o1 o2 o3 x0 x1 x2 x3 ⊢
  generalize hl0 : l0.set (colOf C A0 B0 key) (Z0.y, Z0.t, Z0.f) = m0 at *
  generalize colOf C A0 B0 key = col0 at *
  generalize arrD k a b l0 = AD0 at *
  obtain ⟨E0, Y0, T0, F0, P0, G0⟩ := Z0
  simp only at x0 hU
  generalize hl1 : l1.set (colOf C A1 B1 key) (Z1.y, Z1.t, Z1.f) = m1 at *
  generalize colOf C A1 B1 key = col1 at *
  generalize arrD k a b l1 = AD1 at *
  obtain ⟨E1, Y1, T1, F1, P1, G1⟩ := Z1
  simp only at x1 hU
  generalize hl2 : l2.set (colOf C A2 B2 key) (Z2.y, Z2.t, Z2.f) = m2 at *
  generalize colOf C A2 B2 key = col2 at *
  generalize arrD k a b l2 = AD2 at *
  obtain ⟨E2, Y2, T2, F2, P2, G2⟩ := Z2
  simp only at x2 hU
  generalize hl3 : l3.set (colOf C A3 B3 key) (Z3.y, Z3.t, Z3.f) = m3 at *
  generalize colOf C A3 B3 key = col3 at *
  generalize arrD k a b l3 = AD3 at *
  obtain ⟨E3, Y3, T3, F3, P3, G3⟩ := Z3
  simp only at x3 hU
  generalize nwP C (wdR k a b) = NW at *
  refine A10 (fs q1 (fs q2 (fs q3 (fs q4 (fs q5 (fs q6 (fs q7 q8))))))) ?_; try with_reducible exact tt
  refine CallS.g [0] (hcl) (R0 ?_); try with_reducible exact tt
  refine AW.rounds 5 ?_
  refine A01 o0 ?_; try with_reducible exact tt
  by_cases E00 : E0 = 0
  · simp only [E00, if_true, u0] at x0
    generalize ((wordsP (wdR k a b) (encs k a b m0)).map fun x : Nat => D.int .u64 x) = WD0 at *
    refine CallS.g [4, 5, 6, 1] (x0) (R0 ?_); try with_reducible exact tt
    refine A01 o1 ?_; try with_reducible exact tt
    by_cases E10 : E1 = 0
    · simp only [E10, if_true, u1] at x1
      generalize ((wordsP (wdR k a b) (encs k a b m1)).map fun x : Nat => D.int .u64 x) = WD1 at *
      refine CallS.g [7, 8, 9, 1] (x1) (R0 ?_); try with_reducible exact tt
      refine A01 o2 ?_; try with_reducible exact tt
      by_cases E20 : E2 = 0
      · simp only [E20, if_true, u2] at x2
        generalize ((wordsP (wdR k a b) (encs k a b m2)).map fun x : Nat => D.int .u64 x) = WD2 at *
        refine CallS.g [10, 11, 12, 1] (x2) (R0 ?_); try with_reducible exact tt
        refine A01 o3 ?_; try with_reducible exact tt
        by_cases E30 : E3 = 0
        · simp only [E30, if_true, u3] at x3
          generalize ((wordsP (wdR k a b) (encs k a b m3)).map fun x : Nat => D.int .u64 x) = WD3 at *
          refine CallS.g [13, 14, 15, 1] (x3) (R0 ?_); try with_reducible exact tt
          simp only [updC, if_true, E00, E10, E20, E30] at hU
          subst hU
          simp only [if_true]
          rw [es _ rfl]
          simp only [rowsD, rowD, List.flatMap_cons, List.flatMap_nil, List.append_nil, List.cons_append, List.nil_append, D0, D1, D2, D3]
          have t0 : WD0.take NW = WD0 := List.take_of_length_le (by omega)
          have t1 : WD1.take NW = WD1 := List.take_of_length_le (by omega)
          have t2 : WD2.take NW = WD2 := List.take_of_length_le (by omega)
          have t3 : WD3.take NW = WD3 := List.take_of_length_le (by omega)
          generalize wdR k a b = w at *
          refine AW.freeze 6 1 ⟨28, WD0.map V.d⟩ WD0 (by simp) rfl ?_
          simp [frzH, t0]
          refine AW.freeze 5 1 ⟨218, [.d (.sl NW WD0), .d (.int .i64 C), .d (.int .i64 w)]⟩ [.sl NW WD0, .int .i64 C, .int .i64 w] (by rfl) rfl ?_
          simp [frzH]
          refine AW.freeze 4 1 ⟨166, [.d (.ptr [.sl NW WD0, .int .i64 C, .int .i64 w] 0), .d (.int .i64 k), .d (.int .i64 a), .d (.int .i64 b)]⟩ [.ptr [.sl NW WD0, .int .i64 C, .int .i64 w] 0, .int .i64 k, .int .i64 a, .int .i64 b] (by rfl) rfl ?_
          simp [frzH]
          refine AW.freeze 9 1 ⟨28, WD1.map V.d⟩ WD1 (by simp) rfl ?_
          simp [frzH, t1]
          refine AW.freeze 8 1 ⟨218, [.d (.sl NW WD1), .d (.int .i64 C), .d (.int .i64 w)]⟩ [.sl NW WD1, .int .i64 C, .int .i64 w] (by rfl) rfl ?_
          simp [frzH]
          refine AW.freeze 7 1 ⟨166, [.d (.ptr [.sl NW WD1, .int .i64 C, .int .i64 w] 0), .d (.int .i64 k), .d (.int .i64 a), .d (.int .i64 b)]⟩ [.ptr [.sl NW WD1, .int .i64 C, .int .i64 w] 0, .int .i64 k, .int .i64 a, .int .i64 b] (by rfl) rfl ?_
          simp [frzH]
          refine AW.freeze 12 1 ⟨28, WD2.map V.d⟩ WD2 (by simp) rfl ?_
          simp [frzH, t2]
          refine AW.freeze 11 1 ⟨218, [.d (.sl NW WD2), .d (.int .i64 C), .d (.int .i64 w)]⟩ [.sl NW WD2, .int .i64 C, .int .i64 w] (by rfl) rfl ?_
          simp [frzH]
          refine AW.freeze 10 1 ⟨166, [.d (.ptr [.sl NW WD2, .int .i64 C, .int .i64 w] 0), .d (.int .i64 k), .d (.int .i64 a), .d (.int .i64 b)]⟩ [.ptr [.sl NW WD2, .int .i64 C, .int .i64 w] 0, .int .i64 k, .int .i64 a, .int .i64 b] (by rfl) rfl ?_
          simp [frzH]
          refine AW.freeze 15 1 ⟨28, WD3.map V.d⟩ WD3 (by simp) rfl ?_
          simp [frzH, t3]
          refine AW.freeze 14 1 ⟨218, [.d (.sl NW WD3), .d (.int .i64 C), .d (.int .i64 w)]⟩ [.sl NW WD3, .int .i64 C, .int .i64 w] (by rfl) rfl ?_
          simp [frzH]
          refine AW.freeze 13 1 ⟨166, [.d (.ptr [.sl NW WD3, .int .i64 C, .int .i64 w] 0), .d (.int .i64 k), .d (.int .i64 a), .d (.int .i64 b)]⟩ [.ptr [.sl NW WD3, .int .i64 C, .int .i64 w] 0, .int .i64 k, .int .i64 a, .int .i64 b] (by rfl) rfl ?_
          simp [frzH]
          refine AW.freeze 3 3 ⟨111, [.int .u64 A0, .int .u64 B0, .ptr [.ptr [.sl NW WD0, .int .i64 C, .int .i64 w] 0, .int .i64 k, .int .i64 a, .int .i64 b] 0, .int .u64 A1, .int .u64 B1, .ptr [.ptr [.sl NW WD1, .int .i64 C, .int .i64 w] 0, .int .i64 k, .int .i64 a, .int .i64 b] 0, .int .u64 A2, .int .u64 B2, .ptr [.ptr [.sl NW WD2, .int .i64 C, .int .i64 w] 0, .int .i64 k, .int .i64 a, .int .i64 b] 0, .int .u64 A3, .int .u64 B3, .ptr [.ptr [.sl NW WD3, .int .i64 C, .int .i64 w] 0, .int .i64 k, .int .i64 a, .int .i64 b] 0].map V.d⟩ [.int .u64 A0, .int .u64 B0, .ptr [.ptr [.sl NW WD0, .int .i64 C, .int .i64 w] 0, .int .i64 k, .int .i64 a, .int .i64 b] 0, .int .u64 A1, .int .u64 B1, .ptr [.ptr [.sl NW WD1, .int .i64 C, .int .i64 w] 0, .int .i64 k, .int .i64 a, .int .i64 b] 0, .int .u64 A2, .int .u64 B2, .ptr [.ptr [.sl NW WD2, .int .i64 C, .int .i64 w] 0, .int .i64 k, .int .i64 a, .int .i64 b] 0, .int .u64 A3, .int .u64 B3, .ptr [.ptr [.sl NW WD3, .int .i64 C, .int .i64 w] 0, .int .i64 k, .int .i64 a, .int .i64 b] 0] (by rfl) rfl ?_
          simp [frzH]
          refine A10 q6 ?_; try with_reducible exact tt
        · simp only [if_neg E30] at x3
          simp only [updC, if_true, if_neg E30, E00, E10, E20] at hU
          refine CallS.g [13, 14, 15, 1] (x3) (R0 ?_); try with_reducible exact tt
          subst hU
          simp only [if_neg E30]
          refine A10 E30 ?_; try with_reducible exact tt
      · simp only [if_neg E20] at x2
        simp only [updC, if_true, if_neg E20, E00, E10] at hU
        refine CallS.g [10, 11, 12, 1] (x2) (R0 ?_); try with_reducible exact tt
        subst hU
        simp only [if_neg E20]
        refine A10 E20 ?_; try with_reducible exact tt
    · simp only [if_neg E10] at x1
      simp only [updC, if_true, if_neg E10, E00] at hU
      refine CallS.g [7, 8, 9, 1] (x1) (R0 ?_); try with_reducible exact tt
      subst hU
      simp only [if_neg E10]
      refine A10 E10 ?_; try with_reducible exact tt
  · simp only [if_neg E00] at x0
    simp only [updC, if_true, if_neg E00] at hU
    refine CallS.g [4, 5, 6, 1] (x0) (R0 ?_); try with_reducible exact tt
    subst hU
    simp only [if_neg E00]
    refine A10 E00 ?_; try with_reducible exact tt
end
end Go.Proofs.YtijbgbpjionfjaaGreatDoor.Am
namespace Go.Proofs.YtijbgbpjionfjaaGreatDoor.Am
section
open Go.RowKit
/-- an update, of one to four rows -/
theorem supd_ok {R C k a b T : Nat} (hg : GoodR k a b) (g1 : 1 ≤ C) (g2 : C ≤ 64) (rs : List Rw) (hR : rs.length = R) (h1 : 1 ≤ R) (h4 : R ≤ 4) (hr : ∀ r ∈ rs, GoodRow C k a b r) (cs : List Bool) (key n p : Nat) (d : Bool) (hk : key < hP) (hn : n ≤ 1048576) (hT : T + n ≤ 1099511627776) (hp : p ≤ cs.length) (hc : cs.length ≤ 4000000) (U : UR) (hU : U = updM cs C k a b key n rs p d) :
    Eqn Tryz.prog n_cms_Sketch_Update [.p 0 0, .p 1 0, .d (.int .u64 key), .d (.int .i64 n)] [skO R C k a b rs T, tapeO cs p d] (.d (.int .i64 U.e)) [if U.e = 0 then skO R C k a b U.rs (T + n) else skO R C k a b rs T, tapeO cs U.p U.d] := by
  subst hR
  match rs, h1, h4, hr, hU with
  | [⟨A0, B0, l0⟩], _, _, hr, hU =>
    have h0 := hr _ (List.mem_cons_self)
    have h := supd1_ok (T := T) hg g1 g2 A0 B0 l0 h0 cs key n p d hk hn hT hp hc _ rfl
    obtain ⟨Z, hZ⟩ : ∃ Z, Z = updR cs C k a b key n ⟨A0, B0, l0⟩ p d := ⟨_, rfl⟩
    rw [show addRM cs k a b n (l0.getD (colOf C A0 B0 key) (0, 0, false)).1 (l0.getD (colOf C A0 B0 key) (0, 0, false)).2.1 (l0.getD (colOf C A0 B0 key) (0, 0, false)).2.2 p d = Z from hZ.symm] at h
    simp only [updM] at hU
    rw [← hZ] at hU
    subst hU
    unfold updC
    by_cases he : Z.e = 0
    · rw [if_pos he] at h
      simp only [if_pos he, if_true]
      rw [he] at h
      exact h
    · rw [if_neg he] at h
      simp only [if_neg he]
      exact h
  | [⟨A0, B0, l0⟩, ⟨A1, B1, l1⟩], _, _, hr, hU => exact supd2_ok hg g1 g2 A0 B0 A1 B1 l0 l1 (hr _ (by simp)) (hr _ (by simp)) cs key n p d hk hn hT hp hc U hU
  | [⟨A0, B0, l0⟩, ⟨A1, B1, l1⟩, ⟨A2, B2, l2⟩], _, _, hr, hU => exact supd3_ok hg g1 g2 A0 B0 A1 B1 A2 B2 l0 l1 l2 (hr _ (by simp)) (hr _ (by simp)) (hr _ (by simp)) cs key n p d hk hn hT hp hc U hU
  | [⟨A0, B0, l0⟩, ⟨A1, B1, l1⟩, ⟨A2, B2, l2⟩, ⟨A3, B3, l3⟩], _, _, hr, hU => exact supd4_ok hg g1 g2 A0 B0 A1 B1 A2 B2 A3 B3 l0 l1 l2 l3 (hr _ (by simp)) (hr _ (by simp)) (hr _ (by simp)) (hr _ (by simp)) cs key n p d hk hn hT hp hc U hU

theorem stotal_ok {R C k a b T : Nat} (rs : List Rw) : Eqn Tryz.prog n_cms_Sketch_Total [.p 0 0] [skO R C k a b rs T] (.d (.int .i64 T)) [skO R C k a b rs T] := by
  refine Eqn.gen [0] r_cms_Sketch_Total (by simp) (by simp) (by rfl) (by decide) (by simp) (by simp [skO, skD]) ?_
  simp only [c_cms_Sketch_Total, skO, skD, List.map_cons, List.map_nil]
  refine A00 ?_; try with_reducible exact tt

theorem ukey_ok (key : Nat) (n : Int) (h : key < 18446744073709551616) : Eqn Tryz.prog n_Tlaw21_Update_key [.d (.agg [.int .u64 key, .int .i64 n])] [] (.d (.int .u64 (key % hP : Nat))) [] := by
  refine Eqn.pure r_Tlaw21_Update_key Plain.ok ?_
  have e : (key : Int).tmod 2305843009213693951 = ((key % hP : Nat) : Int) := by rw [Int.tmod_eq_emod_of_nonneg (by omega)]; unfold hP; omega
  generalize key % hP = q at *
  simp only [c_Tlaw21_Update_key]
  refine A10 e ?_; try with_reducible exact tt

/-- a register of 256 places of the chance 1 -/
theorem over_step (x p : Nat) (h : x < 256) : stOf [] (2 : Nat) (8 : Nat) x p false = (true, 0, p, false) := by
  unfold stOf
  rw [if_neg (by decide), if_pos (by decide)]
  unfold stepG
  have hw : wrongZ ((8 : Nat) : Int) [((x : Nat) : Int)] = 0 := by unfold wrongZ; rw [if_pos (by omega), if_pos (by simp [okK]; omega)]
  rw [if_pos hw]
  simp only [Int.toNat_natCast]
  rw [Nat.div_eq_of_lt (show x < 2 ^ 8 by omega)]
  rfl
theorem over_add : ∀ (n y p : Nat), y + n ≤ 256 → addL (stOf [] (2 : Nat) (8 : Nat)) (2 ^ 10 - 1) n y false p false = (0, y + n, false, p, false)
  | 0, y, p, h => rfl
  | n + 1, y, p, h => by
    unfold addL
    rw [if_neg (by omega), over_step y p (by omega), if_pos rfl, if_neg (by simp)]
    simp only [if_true]
    rw [over_add n (y + 1) p (by omega)]
    simp only [Prod.mk.injEq, and_true, true_and]
    omega
theorem over_addR (n y p : Nat) (h : y + n ≤ 256) : addRM [] 2 8 10 n y 0 false p false = ⟨0, y + n, 0, false, p, false⟩ := by
  unfold addRM
  rw [if_neg (by decide), over_add n y p h]
end
end Go.Proofs.YtijbgbpjionfjaaGreatDoor.Am
namespace Go.Proofs.YtijbgbpjionfjaaGreatDoor.Am
section
open Go.RowKit
theorem reps_flat {I : Nat → Prop} {w : World} {α : Type} (f : α → List D) (g : α → List Value) (h : ∀ a, D.reps I w (f a) (g a)) : ∀ l : List α, D.reps I w (l.flatMap f) (l.map g).flatten
  | [] => by simp
  | a :: l => by
    rw [List.flatMap_cons, List.map_cons, List.flatten_cons]
    exact D.reps_append (h a) (reps_flat f g h l)
/-- a slice that came in, of elements of several cells that are data -/
theorem rep_rows {W : World} {v : Value} {s : Nat} {α : Type} {l : List α} (f : α → List D) (g : α → List Value) (hg : ∀ a, ∀ u ∈ g a, u.oneCell' = true) (hr : ∀ a, D.reps (fun b => b < W.heap.size) W (f a) (g a)) (h : Cells W v s l.length (l.map g).flatten) : V.rep (memW W) (.d (.sl l.length (l.flatMap f))) v := by
  rw [V.rep_d]
  unfold D.rep
  obtain ⟨h1, p, cap, rfl, h2, h3, h4⟩ := h
  refine ⟨p, cap, rfl, h2, h3, (l.map g).flatten, fun u hu => ?_, reps_flat f g hr l, ?_⟩
  · obtain ⟨x, hx, hu⟩ := List.mem_flatten.1 hu
    obtain ⟨a, -, rfl⟩ := List.mem_map.1 hx
    exact hg a u hu
  · rcases h4 with ⟨rfl, h5, h6⟩ | ⟨b, o, rfl, hb, hc⟩
    · left
      have : l = [] := List.eq_nil_of_length_eq_zero h5
      subst this
      exact ⟨rfl, h6, rfl⟩
    · exact .inr ⟨b, o, rfl, .inr hb, hc⟩
end
end Go.Proofs.YtijbgbpjionfjaaGreatDoor.Am
namespace Go.Proofs.YtijbgbpjionfjaaGreatDoor.Am
section
open Go.RowKit
/-- words that came in are natural numbers -/
theorem nats_of : ∀ {L : List Int}, (∀ a ∈ L, (Lit.int .u64 a).wf = true) → ∃ ws : List Nat, L = ws.map (fun n : Nat => (n : Int)) ∧ ∀ x ∈ ws, x < 18446744073709551616
  | [], _ => ⟨[], rfl, by simp⟩
  | a :: L, h => by
    obtain ⟨ws, rfl, hw⟩ := nats_of (L := L) fun b hb => h b (List.mem_cons_of_mem _ hb)
    have ha := h a (List.mem_cons_self)
    unfold Lit.wf at ha
    simp only [Bool.and_eq_true, decide_eq_true_eq] at ha
    have h0 : (0 : Int) ≤ a := ha.1
    have h1 : a ≤ 18446744073709551615 := ha.2
    refine ⟨a.toNat :: ws, by simp [Int.toNat_of_nonneg h0], fun x hx => ?_⟩
    rcases List.mem_cons.1 hx with rfl | hx
    · omega
    · exact hw x hx
theorem nats_of1 : ∀ {L : List (Int × Int)}, (∀ a ∈ L, (Lit.int .u64 a.1).wf = true ∧ (Lit.int .i64 a.2).wf = true) → ∃ us : List (Nat × Int), L = us.map (fun u => ((u.1 : Int), u.2)) ∧ ∀ u ∈ us, u.1 < 18446744073709551616
  | [], _ => ⟨[], rfl, by simp⟩
  | (a, b) :: L, h => by
    obtain ⟨us, rfl, hw⟩ := nats_of1 (L := L) fun b hb => h b (List.mem_cons_of_mem _ hb)
    have ha := (h (a, b) (List.mem_cons_self)).1
    unfold Lit.wf at ha
    simp only [Bool.and_eq_true, decide_eq_true_eq] at ha
    have h0 : (0 : Int) ≤ a := ha.1
    have h1 : a ≤ 18446744073709551615 := ha.2
    refine ⟨(a.toNat, b) :: us, by simp [Int.toNat_of_nonneg h0], fun x hx => ?_⟩
    rcases List.mem_cons.1 hx with rfl | hx
    · simp only; omega
    · exact hw x hx
theorem nat_of {a : Int} (h : (Lit.int .u64 a).wf = true) : ∃ n : Nat, a = n ∧ n < 18446744073709551616 := by
  obtain ⟨ws, e, hw⟩ := nats_of (L := [a]) (by simpa using h)
  rcases ws with _ | ⟨n, _ | ⟨m, ws⟩⟩
  · simp at e
  · simp at e; exact ⟨n, e, hw n (by simp)⟩
  · simp at e
theorem cells_one {W : World} {v : Value} {s n : Nat} {l : List Value} (h : Cells W v s n l) : v.oneCell' = true := by
  obtain ⟨_, p, cap, rfl, _⟩ := h; rfl
end
end Go.Proofs.YtijbgbpjionfjaaGreatDoor.Am
namespace Go.Proofs.YtijbgbpjionfjaaGreatDoor.Am
section
/-- the ways out of a block's loop -/
def exitQ {β : Type} (id N : Nat) (T1 : β → List V) (H1 : β → List (Option Ob)) (R2 : β → Prop) (Q : Exit → List V → List (Option Ob) → Prop) : Exit → List V → List (Option Ob) → Prop
  | .exit j, T, H => if j = id then ∃ b, R2 b ∧ wk N T (T1 b) ∧ wkH N H (H1 b) else Q (.exit j) T H
  | .normal, _, _ => False
  | e, T, H => Q e T H
attribute [simp] exitQ
end
end Go.Proofs.YtijbgbpjionfjaaGreatDoor.Am
namespace Go.Proofs.YtijbgbpjionfjaaGreatDoor.Am
section
open Go.RowKit
/-- registers beside the array, in cells -/
def aloneV (l : List ST) : List V := l.flatMap fun s => [.d (.int .i64 s.1), .d (.int .i64 s.2.1), .d (.bool s.2.2)]
@[simp] theorem alone_low (n : Nat) (l : List ST) : V.lowl n (aloneV l) = true := by induction l <;> simp_all [aloneV]

/-- pairs of numbers, as data -/
def actsL (l : List (Int × Int)) : List D := l.flatMap fun a => [.int .i64 a.1, .int .i64 a.2]
end
end Go.Proofs.YtijbgbpjionfjaaGreatDoor.Am
namespace Go.Proofs.YtijbgbpjionfjaaGreatDoor.Am
section
open Go.RowKit
def OvRow (C key came total : Nat) (r : Rw) : Prop := r.a < hP ∧ r.b < hP ∧ r.l.length = C ∧ ∀ j, j < C → ∃ y : Nat, r.l.getD j (0, 0, false) = (y, 0, false) ∧ y ≤ total ∧ (j = colOf C r.a r.b key → came ≤ y) ∧ (C = 1 → y = total)
theorem goodOv : GoodR 2 8 10 := .inr ⟨by omega, .inr (.inl ⟨rfl, by omega⟩), by omega, by omega⟩
theorem OvRow.good {C key came total : Nat} {r : Rw} (h : OvRow C key came total r) (ht : total ≤ 256) : GoodRow C 2 8 10 r := by
  obtain ⟨h1, h2, h3, h4⟩ := h
  refine ⟨h1, h2, h3, fun s hs => ?_⟩
  obtain ⟨j, hj, rfl⟩ := List.getElem_of_mem hs
  obtain ⟨y, e, hy, -⟩ := h4 j (by omega)
  rw [List.getD_eq_getElem?_getD, List.getElem?_eq_getElem hj] at e
  simp only [Option.getD_some] at e
  rw [e]
  exact .inr ⟨by omega, rfl, by simp only; omega, by simp⟩
theorem colOf_lt {C a b key : Nat} (h : 1 ≤ C) : colOf C a b key < C := Nat.mod_lt _ (by omega)

theorem ov_row {C key came total key' n : Nat} {r : Rw} (hC : 1 ≤ C) (h : OvRow C key came total r) (ht : total + n ≤ 256) :
    ∃ y, updR [] C 2 8 10 key' n r 0 false = ⟨0, y, 0, false, 0, false⟩ ∧ OvRow C key (came + (if key' = key then n else 0)) (total + n) ⟨r.a, r.b, r.l.set (colOf C r.a r.b key') (y, 0, false)⟩ := by
  obtain ⟨h1, h2, h3, h4⟩ := h
  have hc : colOf C r.a r.b key' < C := colOf_lt hC
  obtain ⟨y, e, hy, hk, hc1⟩ := h4 _ hc
  refine ⟨y + n, ?_, h1, h2, by simpa using h3, fun j hj => ?_⟩
  · unfold updR
    rw [e]
    exact over_addR n y 0 (by omega)
  · by_cases hjc : j = colOf C r.a r.b key'
    · subst hjc
      refine ⟨y + n, by rw [List.getD_eq_getElem?_getD, List.getElem?_set_self (by omega)]; rfl, by omega, fun hjk => ?_, fun h => by have := hc1 h; omega⟩
      have := hk hjk
      split <;> omega
    · obtain ⟨z, e2, hz, hzk, hz1⟩ := h4 j hj
      refine ⟨z, by rw [List.getD_eq_getElem?_getD, List.getElem?_set_ne (fun h => hjc h.symm), ← List.getD_eq_getElem?_getD]; exact e2, by omega, fun hjk => ?_, fun h => ?_⟩
      · have := hzk hjk
        rw [if_neg]
        · omega
        · rintro rfl; exact hjc hjk
      · omega
theorem ov_upd {C key came total key' n : Nat} (hC : 1 ≤ C) (ht : total + n ≤ 256) : ∀ rs : List Rw, (∀ r ∈ rs, OvRow C key came total r) → ∃ rs' : List Rw, updM [] C 2 8 10 key' n rs 0 false = ⟨0, rs', 0, false⟩ ∧ rs'.length = rs.length ∧ ∀ r ∈ rs', OvRow C key (came + (if key' = key then n else 0)) (total + n) r
  | [], _ => ⟨[], rfl, rfl, by simp⟩
  | r :: rs, h => by
    obtain ⟨y, e, hr⟩ := ov_row (key' := key') (n := n) hC (h r (by simp)) ht
    obtain ⟨rs', e2, hl, h2⟩ := ov_upd hC ht rs fun x hx => h x (by simp [hx])
    refine ⟨⟨r.a, r.b, r.l.set (colOf C r.a r.b key') (y, 0, false)⟩ :: rs', ?_, by simp [hl], fun x hx => ?_⟩
    · rw [updM, e]
      simp only
      rw [e2]
      rfl
    · rcases List.mem_cons.1 hx with rfl | hx
      · exact hr
      · exact h2 x hx
theorem ov_new {C key : Nat} (x : Nat × Nat) (h : x.1 < hP ∧ x.2 < hP) : OvRow C key 0 0 (newRow C x) := by
  refine ⟨h.1, h.2, by simp [newRow], fun j hj => ⟨0, ?_, by omega, by omega, fun _ => rfl⟩⟩
  simp [newRow, List.getD, hj]

theorem ov_val {C key came total : Nat} {r : Rw} (hC : 1 ≤ C) (h : OvRow C key came total r) (ht : total < 256) : ∃ y : Nat, valAt C 2 8 10 key r = (y : Rat) ∧ came ≤ y ∧ y ≤ total ∧ (C = 1 → y = total) := by
  obtain ⟨h1, h2, h3, h4⟩ := h
  obtain ⟨y, e, hy, hk, hc1⟩ := h4 _ (colOf_lt (a := r.a) (b := r.b) (key := key) hC)
  refine ⟨y, ?_, hk rfl, hy, hc1⟩
  unfold valAt
  rw [e]
  unfold valR
  rw [if_neg (by decide)]
  unfold valC
  rw [if_neg (by decide), if_pos rfl]
  have : valF 8 y = y := by
    unfold valF
    rw [Nat.div_eq_of_lt (show y < 2 ^ 8 by omega), Nat.mod_eq_of_lt (show y < 2 ^ 8 by omega)]
    omega
  rw [this]
theorem ov_least {C came total : Nat} {f : Nat → Rat} : ∀ m, (∀ i, i < m + 1 → ∃ y : Nat, f i = (y : Rat) ∧ came ≤ y ∧ y ≤ total ∧ (C = 1 → y = total)) → ∃ y : Nat, leastQ f (m + 1) = (y : Rat) ∧ came ≤ y ∧ y ≤ total ∧ (C = 1 → y = total)
  | 0, h => by
    unfold leastQ
    rw [if_pos (.inl rfl)]
    exact h 0 (by omega)
  | m + 1, h => by
    unfold leastQ
    split
    · exact h _ (by omega)
    · exact ov_least m fun i hi => h i (by omega)
theorem rtextW_ok (n : Nat) (h : n < 100) : Eqn Tryz.prog n_rat_Rat_Text [.d (rD ((n : Nat) : Rat))] [] (.d (.str (smallS n))) [] := by
  refine Eqn.pure r_rat_Rat_Text Plain.ok ?_
  have h1 := wtext_ok n h
  have hz := zero_ok 0
  have e : rD ((n : Nat) : Rat) = .agg [natW n, .bool false, natW 0] := by
    unfold rD
    rw [Rat.num_natCast, Rat.den_natCast, Int.natAbs_natCast]
    congr 4
  rw [e]
  simp only [c_rat_Rat_Text]
  have hwh : Eqn Tryz.prog n_rat_Rat_Whole [.d (.agg [natW n, .bool false, natW 0])] [] (.d (.bool true)) [] := by
    refine Eqn.pure r_rat_Rat_Whole Plain.ok ?_
    simp only [c_rat_Rat_Whole]
    refine A01 hz ?_; try with_reducible exact tt
  refine A02 hwh h1 ?_; try with_reducible exact tt
theorem cmpQ_nat (m n : Nat) : cmpQ ((m : Nat) : Rat) ((n : Nat) : Rat) = cmpZ m n := by
  unfold cmpQ cmpZ
  simp only [Rat.natCast_lt_natCast]

set_option maxHeartbeats 1000000 in
theorem awake21_ok : Eqn Tryz.prog n_Tlaw21_awake [] [] (.d (.bool true)) [] := by
  refine Eqn.pure r_Tlaw21_awake Plain.ok ?_
  have hg : GoodR 2 3 4 := .inr ⟨by omega, .inr (.inl ⟨rfl, by omega⟩), by omega, by omega⟩
  have hP1 : GoodP 1 1 2 3 4 := ⟨by omega, by omega, by omega, by omega, hg⟩
  have hw := with_ok hP1 [(1, 0)] rfl (by simp [hP])
  have hc : ∀ key, colOf 1 1 0 key = 0 := fun key => Nat.mod_one _
  have hr0 : GoodRow 1 2 3 4 ⟨1, 0, [(0, 0, false)]⟩ := ⟨by decide, by decide, rfl, wells_rep hg 1⟩
  have hr1 : GoodRow 1 2 3 4 ⟨1, 0, [(3, 0, false)]⟩ := ⟨by decide, by decide, rfl, by intro s hs; simp at hs; subst hs; exact .inr ⟨by omega, rfl, by simp, by simp⟩⟩
  have hr2 : GoodRow 1 2 3 4 ⟨1, 0, [(5, 0, false)]⟩ := ⟨by decide, by decide, rfl, by intro s hs; simp at hs; subst hs; exact .inr ⟨by omega, rfl, by simp, by simp⟩⟩
  have hu1 := supd1_ok (T := 0) hg (by omega) (by omega) 1 0 [(0, 0, false)] hr0 [] 5 3 0 false (by decide) (by omega) (by omega) (Nat.le_refl _) (by simp) ⟨0, 3, 0, false, 0, false⟩ (by rw [hc]; kernel_rfl)
  have hu2 := supd1_ok (T := 3) hg (by omega) (by omega) 1 0 [(3, 0, false)] hr1 [] 9 2 0 false (by decide) (by omega) (by omega) (Nat.le_refl _) (by simp) ⟨0, 5, 0, false, 0, false⟩ (by rw [hc]; kernel_rfl)
  have hq := squery_ok (R := 1) (C := 1) (T := 5) hg [⟨1, 0, [(5, 0, false)]⟩] (by omega) (by omega) (by simp) (by simp) (by intro r hr; simp at hr; subst hr; exact hr2) 77 (by decide)
  have hqv : leastQ (valsOf 1 2 3 4 77 [⟨1, 0, [(5, 0, false)]⟩]) 1 = ((5 : Nat) : Rat) := by
    simp only [leastQ, true_or, if_true, valsOf, valAt, List.getElem?_cons_zero, hc]
    rfl
  rw [show ([⟨1, 0, [(5, 0, false)]⟩] : List Rw).length = 1 from rfl, hqv] at hq
  have htx := wtext_ok 5 (by omega)
  have hnw : Eqn Tryz.prog n_tape_New [.d .nilsl] [] (.p 0 0) [tapeO [] 0 false] := by
    have := new_ok [] (by simp)
    exact this.sub (Subs.cons Sub1.nil (Subs.refl _))
  have htot := stotal_ok (R := 1) (C := 1) (k := 2) (a := 3) (b := 4) (T := 5) [⟨1, 0, [(5, 0, false)]⟩]
  rw [show ([(1, 0)] : List (Nat × Nat)).map (newRow 1) = [⟨1, 0, [(0, 0, false)]⟩] from rfl] at hw
  simp only [c_Tlaw21_awake, cpD, hashesD, skO, skD, rowsD, rowD, List.map_cons, List.map_nil, List.flatMap_cons, List.flatMap_nil, List.append_nil, List.length_cons, List.length_nil, if_true, List.set_cons_zero, hc] at hw hu1 hu2 hq htot ⊢
  have hrt := rtextW_ok 5 (by omega)
  generalize arrD 2 3 4 [(0, 0, false)] = AD0 at *
  generalize arrD 2 3 4 [(3, 0, false)] = AD3 at *
  generalize arrD 2 3 4 [(5, 0, false)] = AD5 at *
  generalize ((5 : Nat) : Rat) = q5 at *
  simp only [rD] at hq hrt
  refine G0 ?_; try with_reducible exact tt
  refine CallS.gf 0 2 ⟨62, [.d (.int .u64 (1 : Nat)), .d (.int .u64 (0 : Nat))]⟩ [.int .u64 (1 : Nat), .int .u64 (0 : Nat)] [] (hw) (R0 ?_); try with_reducible exact tt
  refine CallS.n1 (hnw) (R0 ?_); try with_reducible exact tt
  refine CallS.g [1, 2] (hu1) (R0 ?_); try with_reducible exact tt
  refine CallS.n1 (hnw) (R0 ?_); try with_reducible exact tt
  refine CallS.g [1, 3] (hu2) (R0 ?_); try with_reducible exact tt
  refine A00 ?_; try with_reducible exact tt
  refine CallS.g [1] (hq) (R0 ?_); try with_reducible exact tt
  have hs5 : (smallS 5).toList = [53] := by kernel_rfl
  refine A11 hs5 hrt ?_; try with_reducible exact tt
  refine CallS.g [1] (htot) (R0 ?_); try with_reducible exact tt

set_option maxHeartbeats 4000000 in
theorem cmsOver_ok (r c k a b : Int) (ws : List Nat) (us : List (Nat × Int)) (key0 : Nat) (hws : ws.length ≤ 9223372036854775807) (hus : us.length ≤ 9223372036854775807) (hkey : ∀ u ∈ us, u.1 < 18446744073709551616) (hk0 : key0 < 18446744073709551616) :
    Eqn Tryz.prog n_Tlaw21_CmsOver [.d (drD r c k a b ws), .d (.sl us.length (updD us)), .d (.int .u64 key0)] [] (.d (.bool true)) [] := by
  refine Eqn.pure r_Tlaw21_CmsOver Plain.ok ?_
  obtain ⟨R, C, K, A, B, hgp, hR0, hpar⟩ := dparam_ok r c k a b ws
  have hhs := dhashes_ok r c k a b ws hws R hR0 hgp.1 hgp.2.1
  have hlt := drawH_lt ws hgp.2.1
  obtain ⟨hr1, hr4, hC1, hC64, -⟩ := hgp
  have hg := goodOv
  have hlen : (drawH ws R).length = R := by simp [drawH]
  have hwith := with_ok (R := R) (C := C) (k := 2) (a := 8) (b := 10) ⟨hr1, hr4, hC1, hC64, hg⟩ (drawH ws R) hlen hlt
  have hul : (updD us).length = us.length * 2 := flat_len (fun x => by simp) us
  have hug : ∀ i (h : i < us.length), ((updD us).drop (i * 2)).take 2 = [.int .u64 us[i].1, .int .i64 us[i].2] := flat_get (f := fun u : Nat × Int => [D.int .u64 u.1, D.int .i64 u.2]) (fun x => by simp) us
  obtain ⟨key, hkk, hkP⟩ : ∃ key : Nat, (key0 : Int).tmod 2305843009213693951 = key ∧ key < hP := ⟨key0 % 2305843009213693951, by rw [Int.tmod_eq_emod_of_nonneg (by omega)]; rfl, by unfold hP; exact Nat.mod_lt _ (by decide)⟩
  have hov0 : ∀ x ∈ (drawH ws R).map (newRow C), OvRow C key 0 0 x := by
    intro x hx
    obtain ⟨y, hy, rfl⟩ := List.mem_map.1 hx
    exact ov_new y (hlt y hy)
  have hl0 : ((drawH ws R).map (newRow C)).length = R := by simp [hlen]
  generalize (drawH ws R).map (newRow C) = rs0 at *
  have hhl : (hashesD (drawH ws R)).length = R * 2 := by
    have := flat_len (f := fun h : Nat × Nat => [D.int .u64 h.1, D.int .u64 h.2]) (n := 2) (fun x => by simp) (drawH ws R)
    rw [hlen] at this; exact this
  generalize hashesD (drawH ws R) = HD at *
  have hht : HD.take (R * 2) = HD := List.take_of_length_le (by omega)
  have hnw : Eqn Tryz.prog n_tape_New [.d .nilsl] [] (.p 0 0) [tapeO [] 0 false] := by
    have := new_ok [] (by simp)
    exact this.sub (Subs.cons Sub1.nil (Subs.refl _))
  simp only [c_Tlaw21_CmsOver, drD, cpD, skO, skD, List.map_cons, List.map_nil, hl0] at hpar hhs hwith ⊢
  rw [← hht] at hwith
  generalize hWD : (ws.map fun x : Nat => D.int .u64 x) = WD at *
  generalize hUD : updD us = UD at *
  refine A02 awake21_ok hpar ?_; try with_reducible exact tt
  refine CallS.g [] (hhs) (R0 ?_); try with_reducible exact tt
  refine CallS.gf 2 2 ⟨62, HD.map V.d⟩ HD [] (hwith) (R0 ?_); try with_reducible exact tt
  refine A00 ?_; try with_reducible exact tt
  refine CallS.n1 (hnw) (R1 hkk ?_); try with_reducible exact tt
  refine AW.loopT (α := Nat × List Rw × Nat × Nat) 5 (fun s => [(13, .d (.int .i64 (s.1 : Nat))), (11, .d (.int .i64 (s.2.2.1 : Nat))), (12, .d (.int .i64 (s.2.2.2 : Nat)))]) (fun s => [(3, ⟨106, [.d (.int .i64 R), .d (.int .i64 C), .d (.int .i64 (2 : Nat)), .d (.int .i64 (8 : Nat)), .d (.int .i64 (10 : Nat)), .d (.sl R (rowsD 2 8 10 s.2.1)), .d (.int .i64 (s.2.2.2 : Nat))]⟩)]) (fun s => s.1 ≤ us.length ∧ s.1 ≤ 30 ∧ s.2.1.length = R ∧ (∀ x ∈ s.2.1, OvRow C key s.2.2.1 s.2.2.2 x) ∧ s.2.2.2 ≤ 7 * s.1 ∧ s.2.2.1 ≤ s.2.2.2) (fun s => us.length - s.1) (0, rs0, 0, 0) ?_ ?_ ⟨Nat.zero_le _, by simp, hl0, hov0, by simp, by simp⟩ ?_ ?_ ?_
  · simp
  · simp
  · simp
  · simp
  rintro ⟨i, rs, came, T⟩ ⟨hi, hi30, hrl, hov, hT, hcT⟩
  simp only at hi hi30 hrl hov hT hcT
  simp
  have hgr : ∀ x ∈ rs, GoodRow C 2 8 10 x := fun x hx => (hov x hx).good (by omega)
  by_cases h30 : i < us.length ∧ i < 30
  · obtain ⟨h1, h2⟩ := h30
    have h1' : (i : Int) < us.length := by omega
    have h2' : (i : Int) < 30 := by omega
    have hug1 := hug i h1
    have hub : i * 2 + 2 ≤ us.length * 2 := by omega
    have hky := hkey _ (List.getElem_mem h1)
    generalize us[i] = u at *
    obtain ⟨k1, n0⟩ := u
    obtain ⟨hu1, hu2, hu3, hu4⟩ := seg2 hug1
    simp only at hug1 hu1 hu2 hu3 hu4 hky
    obtain ⟨n, b1, b2, -⟩ := and_b n0 7 (by omega)
    replace b1 : bits BinOp.and IntKind.i64 n0 7 = n := b1
    have huk := ukey_ok k1 n0 hky
    have hk1 : k1 % hP < hP := Nat.mod_lt _ (by decide)
    generalize k1 % hP = key1 at *
    obtain ⟨rs', hU, hl', hov'⟩ := ov_upd (key := key) (came := came) (total := T) (key' := key1) (n := n) hC1 (by omega) rs hov
    have hup := supd_ok (T := T) hg hC1 hC64 rs hrl hr1 hr4 hgr [] key1 n 0 false hk1 (by omega) (by omega) (Nat.le_refl _) (by simp) _ hU.symm
    simp only [if_true, skO, skD, List.map_cons, List.map_nil, hrl, hl'] at hup
    have ew : IntKind.i64.wrap ((i : Int) + 1) = ((i + 1 : Nat) : Int) := by rw [w64 (by omega) (by omega)]; omega
    have ew2 : IntKind.i64.wrap ((T : Int) + n) = ((T + n : Nat) : Int) := by rw [w64 (by omega) (by omega)]; omega
    have ew3 : IntKind.i64.wrap ((came : Int) + n) = ((came + n : Nat) : Int) := by rw [w64 (by omega) (by omega)]; omega
    by_cases hkq : key1 = key
    · rw [if_pos hkq] at hov'
      have hkq' : (key1 : Int) = key := by omega
      refine A11 (fs h1 (fs h1' (fs h2 (fs h2' (fs hug1 (fs hu1 (fs hu2 (fs hu3 (fs hu4 (fs hub (fs hul b1))))))))))) huk ?_; try with_reducible exact tt
      refine CallS.g [3, 4] (hup) (R1 (fs ew2 (fs hug1 (fs hub hul))) ?_); try with_reducible exact tt
      refine A11 (fs h1 (fs h1' (fs h2 (fs h2' (fs hug1 (fs hub (fs hul (fs hkq (fs hkq' (fs ew ew3)))))))))) huk ?_; try with_reducible exact tt
      exact ⟨i + 1, rs', came + n, T + n, ⟨by omega, by omega, by omega, hov', by omega, by omega⟩, by omega, ⟨Sub1.int (by omega), Sub1.int (by omega), Sub1.int (by omega)⟩, Subs.of (by simp)⟩
    · rw [if_neg hkq, Nat.add_zero] at hov'
      have hkq' : ¬ (key1 : Int) = key := by omega
      refine A11 (fs h1 (fs h1' (fs h2 (fs h2' (fs hug1 (fs hu1 (fs hu2 (fs hu3 (fs hu4 (fs hub (fs hul b1))))))))))) huk ?_; try with_reducible exact tt
      refine CallS.g [3, 4] (hup) (R1 (fs ew2 (fs hug1 (fs hub hul))) ?_); try with_reducible exact tt
      refine A11 (fs h1 (fs h1' (fs h2 (fs h2' (fs hug1 (fs hub (fs hul (fs hkq (fs hkq' (fs ew ew3)))))))))) huk ?_; try with_reducible exact tt
      exact ⟨i + 1, rs', came, T + n, ⟨by omega, by omega, by omega, hov', by omega, by omega⟩, by omega, ⟨Sub1.int (by omega), Sub1.int (by omega), Sub1.int (by omega)⟩, Subs.of (by simp)⟩
  · have hz : ¬ ((i : Int) < us.length ∧ (i : Int) < 30) := by omega
    obtain ⟨y, hy, y1, y2, y3⟩ := ov_least (C := C) (came := came) (total := T) (f := valsOf C 2 8 10 key rs) (R - 1) (fun j hj => by
      unfold valsOf
      rw [List.getElem?_eq_getElem (by omega)]
      exact ov_val hC1 (hov _ (List.getElem_mem _)) (by omega))
    rw [show R - 1 + 1 = rs.length by omega] at hy
    have hqy := squery_ok (R := R) (C := C) (T := T) hg rs hC1 hC64 (by omega) (by omega) hgr key hkP
    rw [hy] at hqy
    have rsn : ∀ m : Nat, m ≤ 256 → RS ((m : Nat) : Rat) 100000 := fun m hm => nat_RS (Nat.le_trans (size_one (by omega)) (by omega)) (by omega)
    have ho1 := rof_rat came (by omega)
    have ho2 := rof_rat T (by omega)
    have hc1 := rcmp_rat ((y : Nat) : Rat) ((came : Nat) : Rat) (rsn y (by omega)) (rsn came (by omega))
    have hc2 := rcmp_rat ((y : Nat) : Rat) ((T : Nat) : Rat) (rsn y (by omega)) (rsn T (by omega))
    have htot := stotal_ok (R := R) (C := C) (k := 2) (a := 8) (b := 10) (T := T) rs
    rw [cmpQ_nat] at hc1 hc2
    have hz1 : ¬ cmpZ y came < 0 := by unfold cmpZ; rw [if_neg (by omega)]; split <;> omega
    have hz2 : cmpZ y T ≤ 0 := by unfold cmpZ; rw [if_neg (show ¬ T < y by omega)]; split <;> omega
    have hz3 : C = 1 → cmpZ y T = 0 := fun h => by have := y3 h; subst this; unfold cmpZ; rw [if_neg (by omega), if_neg (by omega)]
    have hrd : Eqn Tryz.prog n_tape_Tape_Read [.p 0 0] [tapeO [] 0 false] (.d (.int .i64 (0 : Nat))) [tapeO [] 0 false] := read_ok [] 0 false
    generalize cmpZ y came = z1 at *
    generalize cmpZ y T = z2 at *
    generalize ((y : Nat) : Rat) = yq at *
    generalize ((came : Nat) : Rat) = cq at *
    generalize ((T : Nat) : Rat) = tq at *
    simp only [skO, skD, List.map_cons, List.map_nil, hrl, rD] at hqy ho1 ho2 hc1 hc2 htot
    have hz1' : 0 ≤ z1 := by omega
    by_cases h1 : (i : Int) < us.length
    · have h2 : ¬ (i : Int) < 30 := fun h => hz ⟨h1, h⟩
      have h1n : i < us.length := by omega
      have h2n : ¬ i < 30 := by omega
      refine A10 (fs h1 (fs h2 (fs h1n h2n))) ?_; try with_reducible exact tt
      refine CallS.g [3] (hqy) (R0 ?_); try with_reducible exact tt
      refine CallS.g [4] (hrd) (R0 ?_); try with_reducible exact tt
      refine A14 (fs hz1 (fs hz1' hz2)) ho1 hc1 ho2 hc2 ?_; try with_reducible exact tt
      by_cases hCC : C = 1
      · have q0 := hz3 hCC
        have q1 : ¬ (1 : Int) < C := by omega
        have q2 : ¬ 1 < C := by omega
        refine CallS.g [3] (htot) (R1 (fs q1 q2) ?_); try with_reducible exact tt
        refine A12 q0 ho2 hc2 ?_; try with_reducible exact tt
      · have q1 : (1 : Int) < C := by omega
        have q2 : 1 < C := by omega
        refine CallS.g [3] (htot) (R1 (fs q1 q2) ?_); try with_reducible exact tt
    · have h1n : ¬ i < us.length := by omega
      refine A10 (fs h1 h1n) ?_; try with_reducible exact tt
      refine CallS.g [3] (hqy) (R0 ?_); try with_reducible exact tt
      refine CallS.g [4] (hrd) (R0 ?_); try with_reducible exact tt
      refine A14 (fs hz1 (fs hz1' hz2)) ho1 hc1 ho2 hc2 ?_; try with_reducible exact tt
      by_cases hCC : C = 1
      · have q0 := hz3 hCC
        have q1 : ¬ (1 : Int) < C := by omega
        have q2 : ¬ 1 < C := by omega
        refine CallS.g [3] (htot) (R1 (fs q1 q2) ?_); try with_reducible exact tt
        refine A12 q0 ho2 hc2 ?_; try with_reducible exact tt
      · have q1 : (1 : Int) < C := by omega
        have q2 : 1 < C := by omega
        refine CallS.g [3] (htot) (R1 (fs q1 q2) ?_); try with_reducible exact tt
end
end Go.Proofs.YtijbgbpjionfjaaGreatDoor.Am
namespace Go.Proofs.YtijbgbpjionfjaaGreatDoor.Am
section
open Go.RowKit

theorem rep_draw {W : World} {v : Value} {L : List Int} {r c k a b : Int} (w : Cells W v 1 L.length (L.map fun a => [Value.int .u64 a]).flatten) (h : ∀ a ∈ L, (Lit.int .u64 a).wf = true) : ∃ ws : List Nat, ws.length = L.length ∧ V.rep (memW W) (.d (drD r c k a b ws)) (.agg #[.int .i64 r, .int .i64 c, .int .i64 k, .int .i64 a, .int .i64 b, v]) := by
  obtain ⟨ws, rfl, -⟩ := nats_of h
  refine ⟨ws, by simp, ?_⟩
  have hw : Cells W v 1 ws.length (ws.map fun n : Nat => Value.int .u64 n) := by
    have e : ((ws.map fun n : Nat => (n : Int)).map fun a => [Value.int .u64 a]).flatten = ws.map fun n : Nat => Value.int .u64 n := by
      rw [List.map_map]
      clear w h
      induction ws with
      | nil => rfl
      | cons x l ih => simp only [List.map_cons, List.flatten_cons, ih]; rfl
    rw [e, List.length_map] at w; exact w
  have hr := rep_cells (fun n : Nat => D.int .u64 n) (fun n : Nat => Value.int .u64 n) (fun _ => rfl) (fun _ => D.rep_int.2 rfl) hw
  refine rep_agg (vs := [.int .i64 r, .int .i64 c, .int .i64 k, .int .i64 a, .int .i64 b, v]) (fun z hz => ?_) ?_
  · simp at hz
    rcases hz with rfl | rfl | rfl | rfl | rfl | rfl <;> first | rfl | exact cells_one w
  · exact D.reps_cons.2 ⟨D.rep_int.2 rfl, D.reps_cons.2 ⟨D.rep_int.2 rfl, D.reps_cons.2 ⟨D.rep_int.2 rfl, D.reps_cons.2 ⟨D.rep_int.2 rfl, D.reps_cons.2 ⟨D.rep_int.2 rfl, D.reps_cons.2 ⟨V.rep_d.1 hr, D.reps_nil.2 rfl⟩⟩⟩⟩⟩⟩
theorem rep_upds {W : World} {v : Value} {L : List (Int × Int)} (w : Cells W v 2 L.length (L.map fun a => [Value.int .u64 a.1, Value.int .i64 a.2]).flatten) (h : ∀ a ∈ L, (Lit.int .u64 a.1).wf = true ∧ (Lit.int .i64 a.2).wf = true) : ∃ us : List (Nat × Int), us.length = L.length ∧ (∀ u ∈ us, u.1 < 18446744073709551616) ∧ V.rep (memW W) (.d (.sl us.length (updD us))) v := by
  obtain ⟨us, rfl, hu⟩ := nats_of1 h
  refine ⟨us, by simp, hu, ?_⟩
  rw [List.map_map, List.length_map] at w
  exact rep_rows (fun u : Nat × Int => [D.int .u64 u.1, D.int .i64 u.2]) (fun u : Nat × Int => [Value.int .u64 u.1, Value.int .i64 u.2]) (fun a u hu => by simp at hu; rcases hu with rfl | rfl <;> rfl) (fun a => by simp [D.reps_cons, D.rep_int]) w
end
end Go.Proofs.YtijbgbpjionfjaaGreatDoor.Am
namespace Go.Proofs.YtijbgbpjionfjaaGreatDoor.Am
section
open Go.RowKit

theorem co_walk {W : World} {v0 v1 : Value} {r c k a b key : Int} {L0 : List Int} {L1 : List (Int × Int)}
    (_ : (Lit.int .i64 r).wf = true) (_ : (Lit.int .i64 c).wf = true) (_ : (Lit.int .i64 k).wf = true) (_ : (Lit.int .i64 a).wf = true) (_ : (Lit.int .i64 b).wf = true)
    (w0 : Cells W v0 1 L0.length (L0.map fun a => [Value.int .u64 a]).flatten) (h0 : L0.length ≤ maxLen) (p0 : ∀ a ∈ L0, (Lit.int .u64 a).wf = true)
    (w1 : Cells W v1 2 L1.length (L1.map fun a => [Value.int .u64 a.1, Value.int .i64 a.2]).flatten) (h1 : L1.length ≤ maxLen) (p1 : ∀ a ∈ L1, (Lit.int .u64 a.1).wf = true ∧ (Lit.int .i64 a.2).wf = true) (wk : (Lit.int .u64 key).wf = true) :
    Calls Tryz.prog n_Tlaw21_CmsOver #[.agg #[.int .i64 r, .int .i64 c, .int .i64 k, .int .i64 a, .int .i64 b, v0], v1, .int .u64 key] W (fun e W' => e = .returned (.bool true) ∧ Same W W') := by
  obtain ⟨ws, hws, hr0⟩ := rep_draw (r := r) (c := c) (k := k) (a := a) (b := b) w0 p0
  obtain ⟨us, hus, hk, hr1⟩ := rep_upds w1 p1
  obtain ⟨key0, rfl, hk0⟩ := nat_of wk
  unfold maxLen at h0 h1
  exact law_walk r_Tlaw21_CmsOver (cmsOver_ok r c k a b ws us key0 (by omega) (by omega) hk hk0) (V.reps_cons.2 ⟨hr0, V.reps_cons.2 ⟨hr1, V.reps_cons.2 ⟨V.rep_int.2 rfl, V.reps_nil.2 rfl⟩⟩⟩)
end
end Go.Proofs.YtijbgbpjionfjaaGreatDoor.Am
