/- The law ThinMeans: walked. -/
import Derived.Test.YtfcamaiehepinaaShl
import Derived.Test.YtfcamaiehepinaaTrees
import Derived.Test.YtfcamaiehepinaaThinZ
import Derived.Laws.EntriesVeiled
import Derived.ArgAppend
namespace Go.Proofs.Ytfcamaiehepinaa
open Go.RowKit
set_option linter.unusedSimpArgs false
set_option linter.unusedVariables false

/-- a cell of its own -/
def At1 (w : World) (B : Nat) (v : Value) : Prop := (B < w.heap.size ∧ ∀ i, w.frozen? ⟨B, i, none⟩ = false) ∧ w.cell? ⟨B, 0, none⟩ = some v
theorem At1.ext {S : Nat → Prop} {w w' : World} {B : Nat} {v : Value} (h : At1 w B v) (e : Ext S w w') (hn : ¬ S B) : At1 w' B v :=
  ⟨⟨Nat.lt_of_lt_of_le h.1.1 e.size, fun i => by rw [e.frozen h.1.1 hn]; exact h.1.2 i⟩, by rw [e.cell h.1.1 hn]; exact h.2⟩

theorem At1.set {w : World} {B : Nat} {v : Value} (h : At1 w B v) (u : Value) : At1 (w.setCell ⟨B, 0, none⟩ u) B u := by
  obtain ⟨⟨h1, h2⟩, h3⟩ := h
  refine ⟨⟨by simpa using h1, fun i => ?_⟩, ?_⟩
  · have := h2 i; simpa [go_sem] using this
  · simp [go_sem, h3]
theorem At1.far {w : World} {B C : Nat} {v : Value} (h : At1 w B v) (hC : ¬ B = C) (u : Value) : At1 (w.setCell ⟨C, 0, none⟩ u) B v :=
  h.ext (Ext.setCell (S := (· = C)) (Ext.refl _ w) (p := ⟨C, 0, none⟩) (fun _ => rfl) u) hC
theorem sum_ret {α : Type} (v : α → Nat) (x : α) (j : Nat) : (Tr.ret x).sum v j = v x * 2 ^ j := by cases j <;> rfl
theorem any_ret {α : Type} (P : α → Bool) (x : α) (j : Nat) : (Tr.ret x).any P j = P x := by cases j <;> rfl
theorem opn_ret {α : Type} (x : α) (j : Nat) : (Tr.ret x).opn j = false := by cases j <;> rfl

/-- what the going through all tapes has about it: where it lies, what it counted -/
structure Where where
  K : Nat
  M : Nat
  W : Nat
  P : Nat
  S : Nat
  F : Nat
  O : Nat
def Where.own (a : Where) (k : Nat) : Prop := k = a.S ∨ k = a.F ∨ k = a.O
def Where.apart (a : Where) : Prop := (¬ a.K = a.S ∧ ¬ a.K = a.F ∧ ¬ a.K = a.O) ∧ (¬ a.M = a.S ∧ ¬ a.M = a.F ∧ ¬ a.M = a.O) ∧ (¬ a.W = a.S ∧ ¬ a.W = a.F ∧ ¬ a.W = a.O) ∧ (¬ a.P = a.S ∧ ¬ a.P = a.F ∧ ¬ a.P = a.O) ∧ ¬ a.S = a.F ∧ ¬ a.S = a.O ∧ ¬ a.F = a.O
def Where.walk (a : Where) : Value := .func (.func 46) #[] #[.pointer (some ⟨a.K, 0, none⟩), .pointer (some ⟨a.M, 0, none⟩), .pointer (some ⟨a.W, 0, none⟩), .pointer (some ⟨a.P, 0, none⟩), .pointer (some ⟨a.S, 0, none⟩), .pointer (some ⟨a.F, 0, none⟩), .pointer (some ⟨a.O, 0, none⟩)]
def Where.env (a : Where) (w : World) (fv : Value) (most times : Nat) : Prop := At1 w a.K fv ∧ At1 w a.M (.int .i64 13) ∧ At1 w a.W a.walk ∧ At1 w a.P (.int .i64 most) ∧ w.cell? ⟨a.P, 1, none⟩ = some (.int .i64 times)
def Where.got (a : Where) (w : World) (sum : Nat) (full opn : Bool) : Prop := At1 w a.S (.int .i64 sum) ∧ At1 w a.F (.bool full) ∧ At1 w a.O (.bool opn)
theorem Where.env_ext {a : Where} (ha : a.apart) {w w' : World} {fv : Value} {most times : Nat} (h : a.env w fv most times) (e : Ext a.own w w') : a.env w' fv most times := by
  obtain ⟨⟨a1, a2, a3⟩, ⟨b1, b2, b3⟩, ⟨c1, c2, c3⟩, ⟨d1, d2, d3⟩, -⟩ := ha
  obtain ⟨h1, h2, h3, h4, h5⟩ := h
  refine ⟨h1.ext e ?_, h2.ext e ?_, h3.ext e ?_, h4.ext e ?_, ?_⟩
  · rintro (h | h | h) <;> contradiction
  · rintro (h | h | h) <;> contradiction
  · rintro (h | h | h) <;> contradiction
  · rintro (h | h | h) <;> contradiction
  · rw [e.cell h4.1.1 (by rintro (h | h | h) <;> contradiction)]; exact h5
theorem Where.got_same {a : Where} {w w' : World} {sum : Nat} {full opn : Bool} (h : a.got w sum full opn) (e : Same w w') : a.got w' sum full opn := ⟨h.1.ext e (fun h => h), h.2.1.ext e (fun h => h), h.2.2.ext e (fun h => h)⟩

theorem Cells.cut {w : World} {p : Option Addr} {n c size : Nat} {xs : List Value} (h : Cells w (.slice p n c) size n xs) : Cells w (.slice p n n) size n xs := by
  obtain ⟨h1, q, cap, he, h2, h3, h4⟩ := h
  simp at he
  obtain ⟨rfl, rfl⟩ := he
  refine ⟨h1, p, n, rfl, Nat.le_refl _, by omega, ?_⟩
  rcases h4 with ⟨rfl, rfl, _⟩ | h4
  · exact .inl ⟨rfl, rfl, rfl⟩
  · exact .inr h4

theorem oper_append_full {P : Program} {w : World} {o : Oper} {a : Act} {K : Act → World → Prop} {Q : Exit → Act → World → Prop} (s x : Operand) (t : TypeId)
    (ho : o.op = .call { callee := .builtin .append, args := #[s, x], argTypes := #[t, t] })
    (e : TypeId) (z : Value) (size bytes : Nat) (ht : P.underlying t = some (.slice e)) (hinf : (P.info? e).map (fun i => (i.zero, i.size, i.bytes)) = some (some z, size, bytes))
    (hzs : z.cells.size = size) (hsz : 0 < size)
    (p : Option Addr) (n : Nat) (xs : List Value) (hs : a.eval s = .slice p n n) (hc : Cells w (.slice p n n) size n xs)
    (u : Value) (m : Nat) (news : List Value) (hx : a.eval x = u) (hu : Cells w u size m news) (h1 : ∀ u ∈ news, u.oneCell' = true) (hm : 0 < m)
    (h63 : n + m ≤ maxLen) (hbytes : (n + m) * bytes ≤ 140737488355328)
    (h : ∀ p' c' w', w'.ownsRow w.heap.size e size (.slice p' (n + m) c') (n + m) (xs ++ news) → w.grownBy w' none → K (a.put o.dst (.slice p' (n + m) c')) w') : Oper.wp P o a w K Q := by
  obtain ⟨i, hi, hz, hsize, hby⟩ := info_parts hinf
  obtain ⟨hul, uq, ucap, rfl, _, _, hu4⟩ := hu
  obtain ⟨ub, uo, rfl, _, huc⟩ : ∃ b o, uq = some ⟨b, o, none⟩ ∧ b < w.heap.size ∧ ∀ i u, news[i]? = some u → w.cell? ⟨b, o + i, none⟩ = some u := by
    rcases hu4 with ⟨_, h0, _⟩ | hu4
    · omega
    · exact hu4
  obtain ⟨hxl, q, cap, he, _, _, h4⟩ := hc
  simp at he
  obtain ⟨rfl, rfl⟩ := he
  have fin : ∀ v' w', (Builtin.append_ #[t, t] o.type #[.slice p n n, .slice (some ⟨ub, uo, none⟩) m ucap]).run P w = .ok v' w' → w'.ownsRow w.heap.size e size v' (n + m) (xs ++ news) → w.grownBy w' none → Oper.wp P o a w K Q := by
    intro v' w' hrun r1 r2
    obtain ⟨p', c', rfl⟩ := ownsRow_shape r1
    unfold Oper.wp
    simp [execOp, ho, resolve, invoke, builtin, hs, hx, hrun, Result.andThen]
    exact h _ _ _ r1 r2
  rcases h4 with ⟨rfl, rfl, _⟩ | ⟨b, off, rfl, _, hcc⟩
  · obtain rfl : xs = [] := List.eq_nil_of_length_eq_zero (by simpa using hxl)
    obtain ⟨v', w', hrun, r1, r2, _⟩ := run_append_own (P := P) w w.heap.size t o.type e i z size bytes ht hi hz hsize hby hzs hsz (.slice none 0 0) 0 [] (World.ownsRow_nil w _ e size) ⟨ub, uo, none⟩ m ucap news hul (fun j u hj => by rw [Addr.add_lit]; exact huc j u hj) h1 h63 hbytes (Nat.le_refl _)
    exact fin v' w' hrun r1 r2
  · obtain ⟨v', w', hrun, r1, r2⟩ := run_append_arg_grows (P := P) w t o.type e i z size bytes ht hi hz hsize hby hzs hsz ⟨b, off, none⟩ n n xs hxl (fun j u hj => by rw [Addr.add_lit]; exact hcc j u hj) ⟨ub, uo, none⟩ m ucap news hul (fun j u hj => by rw [Addr.add_lit]; exact huc j u hj) (by omega) h63 hbytes
    exact fin v' w' hrun r1 r2

theorem lt_alloc (w : World) (o : Obj) : w.heap.size < (w.alloc o).heap.size := by simp

theorem behind_nil {α : Type} (t : Tr α) : t.behind [] = t := by cases t <;> rfl

set_option maxRecDepth 100000 in
set_option maxHeartbeats 8000000 in
theorem walk_any (T : Tr St) (most times : Nat) (fn : Nat) (c1 c2 c3 : Value) (a : Where) (ha : a.apart) (Ask : World → Prop) (hAsk : ∀ w w', Ask w → Ext a.own w w' → Ask w')
    (L : Nat) (hL : ∀ w, Ask w → L ≤ w.heap.size) (hask : ∀ w b v cs, Ask w → L ≤ b → TapeAt w b v cs 0 false → Calls Try.prog fn #[.pointer (some ⟨b, 0, none⟩), c1, c2, c3] w fun e w' => ∃ z : St, ∃ r : Nat, ((∃ q, T.run cs 0 = some (z, q)) ∧ r = 0 ∨ T.run cs 0 = none ∧ r = 8) ∧ e = .returned (.tuple #[.agg #[.int .i64 z.y, .int .i64 z.t, .bool z.full], .int .i64 r]) ∧ Ext (· = b) w w')
    (hfn : ∀ (args : Array Value) (w : World), Sem.run Try.prog (callFunc fn args) w = .ok (.enter fn args) w)
    (hg : goodThin most times) (hok : ∀ x cs q, T.run cs 0 = some (x, q) → x.ok most times) :
    ∀ (j : Nat) (w : World) (p : Option Addr) (c : Nat) (cs : List Bool) (sum : Nat) (full opn : Bool), cs.length + j = 13 → a.env w (.func (.func fn) #[] #[c1, c2, c3]) most times → a.got w sum full opn → Ask w → Bools w (.slice p cs.length c) cs → (∀ k, (Value.slice p cs.length c).ownBlock = some k → ¬ a.own k) → sum + (T.behind cs).sum St.val j ≤ 1099511627776 →
      Calls Try.prog 46 #[.slice p cs.length c, .pointer (some ⟨a.K, 0, none⟩), .pointer (some ⟨a.M, 0, none⟩), .pointer (some ⟨a.W, 0, none⟩), .pointer (some ⟨a.P, 0, none⟩), .pointer (some ⟨a.S, 0, none⟩), .pointer (some ⟨a.F, 0, none⟩), .pointer (some ⟨a.O, 0, none⟩)] w fun e w' =>
        (∃ v, e = .returned v) ∧ a.got w' (sum + (T.behind cs).sum St.val j) (full || (T.behind cs).any St.full j) (opn || (T.behind cs).opn j) ∧ Ext a.own w w' := by
  obtain ⟨K, M, W, P, S, F, O⟩ := a
  intro j
  induction j using Nat.strongRecOn with
  | _ j ih =>
    intro w p c cs sum full opn hj henv hgot hA hb hbo hsum
    have hl : cs.length ≤ 1048576 := by omega
    have hrb := T.run_behind cs []
    generalize hU : T.behind cs = U at *
    replace hU := Lib.hid hU
    replace hrb := Lib.hid hrb
    go_enter Try.func46, Try.ntmps46
    have m := henv
    simp only [Where.env, At1, Where.walk] at m
    go_upto_region 0 with fail
    go_cut [9, 10] (fun s9 s10 wx => ∃ G : Nat, ∃ z : St, ∃ r : Nat, s9 = .pointer (some ⟨G, 0, none⟩) ∧ s10 = .int .i64 r ∧ ((∃ q, T.run cs 0 = some (z, q)) ∧ r = 0 ∨ T.run cs 0 = none ∧ r = 8) ∧ w.heap.size ≤ G ∧ G < wx.heap.size ∧ wx.cell? ⟨G, 0, none⟩ = some (.int .i64 z.y) ∧ wx.cell? ⟨G, 1, none⟩ = some (.int .i64 z.t) ∧ wx.cell? ⟨G, 2, none⟩ = some (.bool z.full) ∧ Same w wx)
    case first =>
      have all : ∀ w' : World, Same w w' → (w'.cell? ⟨K, 0, none⟩ = some (.func (.func fn) #[] #[c1, c2, c3])) := by
        intro w' h
        have mm := h.read [(K, 1)] (by simp [m])
        simp [Reads, SameN, go_sem, m] at mm
        simp [mm]
      replace all := Lib.hid all
      have k7 : Same w w.drew := (Ext.refl _ w).drew
      go_region_held3 (fun w' => w'.cell? ⟨K, 0, none⟩ = some (.func (.func fn) #[] #[c1, c2, c3]))
        ((refine all.out _ ?_; first | exact k7 | exact k7.alloc _ | exact k8 | exact k8.alloc _ | exact k9 | exact k9.alloc _ | (simp [ext_s, k9, z9, z8]; done)))
        (first
          | (go_at_call 13; (first | refine (new_few _ _ cs (hb.same k7) hl).mono ?_ | refine (new_few _ _ cs (hb.same (k7.alloc _)) hl).mono ?_); rintro e w8 ⟨b, v, rfl, hbb, hv, ht, hs8⟩; (first | have k8 : Same w w8 := hs8.to k7 | have k8 : Same w w8 := hs8.to (k7.alloc _)); have z8 := k8.size; (first | have hb8 : w.heap.size ≤ b := Nat.le_trans k7.size hbb | have hb8 : w.heap.size ≤ b := Nat.le_trans (k7.alloc _).size hbb); have hLb : L ≤ b := Nat.le_trans (hL _ hA) hb8; have n8 : ¬ w8.heap.size = b := Nat.ne_of_gt ht.lt; first | (have c8 := Ext.newN (w := w.drew) hs8 (fun h => h) 3; simp [SameN, go_sem] at c8; have n7 : ¬ w.heap.size = b := Nat.ne_of_lt (Nat.lt_of_lt_of_le (lt_alloc w.drew _) hbb)) | skip)
          | ((first | refine (hask _ b v cs (hAsk _ _ hA k8.ext) hLb ht).mono ?_ | refine (hask _ b v cs (hAsk _ _ hA (k8.ext.alloc _)) hLb (ht.same ((Ext.refl _ _).alloc _))).mono ?_); rintro e w9 ⟨z, r, hzr, rfl, hs9⟩; (first | have k9 : Same w w9 := k8.trans hs9 (fun i hi e => absurd (e ▸ hi : b < w.heap.size) (Nat.not_lt.2 hb8)) | have k9 : Same w w9 := (k8.alloc _).trans hs9 (fun i hi e => absurd (e ▸ hi : b < w.heap.size) (Nat.not_lt.2 hb8))); have z9 := k9.size; first | (have c9 := hs9.newN n8 3; simp [SameN, go_sem] at c9) | (have c9 := hs9.sameN c8.1.1.1.1 n7 3; simp [SameN, go_sem, c8] at c9) | skip))
      all_goals go_wp2
      all_goals
        go_meet
        refine ⟨_, z, r, rfl, rfl, hzr, ?_, ?_, ?_, ?_, ?_, ?_⟩
      all_goals first
        | (simp [go_sem, z9, z8]; done)
        | (simp [go_sem, c9]; done)
        | (simp [ext_s, k9, z9, z8]; done)
    case rest =>
      obtain ⟨G, z, r, rfl, rfl, hzr, hG0, hG, g0, g1, g2, hs⟩ := hcut
      have hSl : S < w.heap.size ∧ F < w.heap.size ∧ O < w.heap.size := ⟨hgot.1.1.1, hgot.2.1.1.1, hgot.2.2.1.1⟩
      have henv1 := Where.env_ext ha henv hs.ext
      have hgot1 := Where.got_same hgot hs
      have hA1 := hAsk _ _ hA hs.ext
      have hb1 := hb.same hs
      clear m henv hgot hA hb
      have m := henv1
      simp only [Where.env, At1, Where.walk] at m
      rcases hrb.out with ⟨hr, f, rfl⟩ | ⟨x, q, hr, rfl⟩
      · simp only [List.nil_append, List.length_nil] at hr
        obtain ⟨_, rfl⟩ := hzr.resolve_left (fun h => by obtain ⟨⟨q, hq⟩, _⟩ := h; rw [hr] at hq; cases hq)
        clear hzr hr hrb
        cases j with
        | zero =>
          have hcl : cs.length = 13 := by omega
          have n := hgot1
          simp only [Where.got, At1] at n
          clear ih henv1
          go_wp2
          go_end0
          exact ⟨⟨_, rfl⟩, ⟨hgot1.1.far ha.2.2.2.2.2.1 _, by simpa [Tr.any] using hgot1.2.1.far ha.2.2.2.2.2.2 (.bool true), by simpa [Tr.opn] using hgot1.2.2.set (.bool true)⟩, Ext.setCell hs.ext (fun _ => .inr (.inr rfl)) _⟩
        | succ j =>
          have hrec : ∀ (bit : Bool) (w2 : World) (p2 : Option Addr) (k2 B0 : Nat) (sum2 : Nat) (full2 opn2 : Bool), Where.env ⟨K, M, W, P, S, F, O⟩ w2 (.func (.func fn) #[] #[c1, c2, c3]) most times → Where.got ⟨K, M, W, P, S, F, O⟩ w2 sum2 full2 opn2 → Ask w2 → w.heap.size ≤ B0 → w2.ownsRow B0 4 1 (.slice p2 (cs.length + 1) k2) (cs.length + 1) (cs.map Value.bool ++ [.bool bit]) → sum2 + (f bit).sum St.val j ≤ 1099511627776 →
              Calls Try.prog 46 #[.slice p2 (cs.length + 1) k2, .pointer (some ⟨K, 0, none⟩), .pointer (some ⟨M, 0, none⟩), .pointer (some ⟨W, 0, none⟩), .pointer (some ⟨P, 0, none⟩), .pointer (some ⟨S, 0, none⟩), .pointer (some ⟨F, 0, none⟩), .pointer (some ⟨O, 0, none⟩)] w2 fun e w' =>
                (∃ v, e = .returned v) ∧ Where.got ⟨K, M, W, P, S, F, O⟩ w' (sum2 + (f bit).sum St.val j) (full2 || (f bit).any St.full j) (opn2 || (f bit).opn j) ∧ Ext (Where.own ⟨K, M, W, P, S, F, O⟩) w2 w' := by
            intro bit w2 p2 k2 B0 sum2 full2 opn2 he hg2 hA2 hB0 ho hs2
            have hlen : (cs ++ [bit]).length = cs.length + 1 := by simp
            have hbe : T.behind (cs ++ [bit]) = f bit := by rw [Tr.behind_snoc, hU.out]; exact behind_nil _
            have hbb : Bools w2 (.slice p2 (cs ++ [bit]).length k2) (cs ++ [bit]) := by
              have := Cells.ofOwn ho
              unfold Bools
              rw [hlen, List.map_append]
              exact this
            have := ih j (by omega) w2 p2 k2 (cs ++ [bit]) sum2 full2 opn2 (by omega) he hg2 hA2 hbb (fun k hk hkk => by
              have h1 := (ho.lt k (by cases p2 with | none => exact hk | some a => exact hk)).1
              rcases hkk with e | e | e <;> (simp only at e; omega)) (by rw [hbe]; exact hs2)
            rw [hlen, hbe] at this
            exact this
          clear ih
          have hcl : (cs.length : Int) < 13 := by omega
          go_upto_region 3 with fail
          have hWn : ¬ Where.own ⟨K, M, W, P, S, F, O⟩ W := by rintro (h | h | h) <;> (simp only at h; have := ha.2.2.1; simp only at this; omega)
          have honefalse : ∀ u ∈ [Value.bool false], u.oneCell' = true := by simp [Value.oneCell']
          have honetrue : ∀ u ∈ [Value.bool true], u.oneCell' = true := by simp [Value.oneCell']
          have hml : maxLen = 9223372036854775807 := rfl
          have hb1' : cs.length + 1 ≤ maxLen := by omega
          have hb2 : (cs.length + 1) * 1 ≤ 140737488355328 := by omega
          have hcc : cs.length ≤ c := by
            obtain ⟨_, q, cap, he, h2, h3, _⟩ := hb1
            simp at he
            omega
          have hsA := hs
          have hbA := hb1
          have hb1 := hb1'
          clear hb1'
          have m3 := m.2.2.1
          have hcA := (hbA).cut
          have hsmA : sum + (f false).sum St.val j ≤ 1099511627776 := by simp only [Tr.sum] at hsum; omega
          have all : ∀ w' : World, Ext (Where.own ⟨K, M, W, P, S, F, O⟩) wc w' → (w'.cell? ⟨W, 0, none⟩ = some (.func (.func 46) #[] #[.pointer (some ⟨K, 0, none⟩), .pointer (some ⟨M, 0, none⟩), .pointer (some ⟨W, 0, none⟩), .pointer (some ⟨P, 0, none⟩), .pointer (some ⟨S, 0, none⟩), .pointer (some ⟨F, 0, none⟩), .pointer (some ⟨O, 0, none⟩)])) := by
            intro w' h
            have mm := h.read [(W, 1)] (by simp [m3, hWn])
            simp [Reads, SameN, go_sem, m3, hWn] at mm
            simp [mm]
          replace all := Lib.hid all
          have k7A : Same wc wc.drew := (Ext.refl _ wc).drew
          go_region_held3 (fun w' => w'.cell? ⟨W, 0, none⟩ = some (.func (.func 46) #[] #[.pointer (some ⟨K, 0, none⟩), .pointer (some ⟨M, 0, none⟩), .pointer (some ⟨W, 0, none⟩), .pointer (some ⟨P, 0, none⟩), .pointer (some ⟨S, 0, none⟩), .pointer (some ⟨F, 0, none⟩), .pointer (some ⟨O, 0, none⟩)]))
            ((refine all.out _ ?_; first | exact k7A.ext | exact k7A.ext.alloc _ | exact k3A.ext | exact k4A))
            (first
              | (go_at_call 46; refine (hrec false _ p3A c3A _ (sum) (full) (opn) (Where.env_ext ha henv1 k3A.ext) (Where.got_same hgot1 k3A) (hAsk _ _ hA1 k3A.ext) hBA ho3A hsmA).mono ?_; rintro e w4 ⟨⟨v4, rfl⟩, hg4A, hs4A⟩; have k4A : Ext (Where.own ⟨K, M, W, P, S, F, O⟩) wc w4 := k3A.ext.trans hs4A (fun _ _ h => h))
              | (rw [if_pos (by rfl)]; refine oper_append_full _ _ 22 rfl 4 (.bool false) 1 1 Try.underlying22 bool_info rfl (by decide) p cs.length (cs.map .bool) rfl (hcA.same (k7A.alloc _)) (.slice (some ⟨wc.heap.size, 0, none⟩) 1 1) 1 [.bool false] rfl (Cells.one wc.drew (.bool false) 4) honefalse (by decide) hb1 hb2 ?_; intro p3A c3A w3A ho3A hg3A; have k3A : Same wc w3A := (k7A.alloc _).grown hg3A (fun k hk => by cases hk); have hBA := Nat.le_trans hsA.size (k7A.alloc (.cells #[.bool false] 4)).size))
          have henv4 := Where.env_ext ha henv1 k4A
          have hA4 := hAsk _ _ hA1 k4A
          have hb4 : Bools w4 (.slice p cs.length c) cs := hbA.ext k4A hbo
          have hs4 : Ext (Where.own ⟨K, M, W, P, S, F, O⟩) w w4 := hs.ext.trans k4A (fun _ _ h => h)
          have m4 := henv4.2.2.1
          simp only [At1, Where.walk] at m4
          have hsB := hs4
          go_upto_region 4 with fail
          have hcB := (hb4).cut
          have hsmB : sum + (f false).sum St.val j + (f true).sum St.val j ≤ 1099511627776 := by simp only [Tr.sum] at hsum; omega
          have all : ∀ w' : World, Ext (Where.own ⟨K, M, W, P, S, F, O⟩) w4 w' → (w'.cell? ⟨W, 0, none⟩ = some (.func (.func 46) #[] #[.pointer (some ⟨K, 0, none⟩), .pointer (some ⟨M, 0, none⟩), .pointer (some ⟨W, 0, none⟩), .pointer (some ⟨P, 0, none⟩), .pointer (some ⟨S, 0, none⟩), .pointer (some ⟨F, 0, none⟩), .pointer (some ⟨O, 0, none⟩)])) := by
            intro w' h
            have mm := h.read [(W, 1)] (by simp [m4, hWn])
            simp [Reads, SameN, go_sem, m4, hWn] at mm
            simp [mm]
          replace all := Lib.hid all
          have k7B : Same w4 w4.drew := (Ext.refl _ w4).drew
          go_region_held3 (fun w' => w'.cell? ⟨W, 0, none⟩ = some (.func (.func 46) #[] #[.pointer (some ⟨K, 0, none⟩), .pointer (some ⟨M, 0, none⟩), .pointer (some ⟨W, 0, none⟩), .pointer (some ⟨P, 0, none⟩), .pointer (some ⟨S, 0, none⟩), .pointer (some ⟨F, 0, none⟩), .pointer (some ⟨O, 0, none⟩)]))
            ((refine all.out _ ?_; first | exact k7B.ext | exact k7B.ext.alloc _ | exact k3B.ext | exact k4B))
            (first
              | (go_at_call 46; refine (hrec true _ p3B c3B _ (sum + (f false).sum St.val j) (full || (f false).any St.full j) (opn || (f false).opn j) (Where.env_ext ha henv4 k3B.ext) (Where.got_same hg4A k3B) (hAsk _ _ hA4 k3B.ext) hBB ho3B hsmB).mono ?_; rintro e w5 ⟨⟨v4, rfl⟩, hg4B, hs4B⟩; have k4B : Ext (Where.own ⟨K, M, W, P, S, F, O⟩) w4 w5 := k3B.ext.trans hs4B (fun _ _ h => h))
              | (rw [if_pos (by rfl)]; refine oper_append_full _ _ 22 rfl 4 (.bool false) 1 1 Try.underlying22 bool_info rfl (by decide) p cs.length (cs.map .bool) rfl (hcB.same (k7B.alloc _)) (.slice (some ⟨w4.heap.size, 0, none⟩) 1 1) 1 [.bool true] rfl (Cells.one w4.drew (.bool true) 4) honetrue (by decide) hb1 hb2 ?_; intro p3B c3B w3B ho3B hg3B; have k3B : Same w4 w3B := (k7B.alloc _).grown hg3B (fun k hk => by cases hk); have hBB := Nat.le_trans hsB.size (k7B.alloc (.cells #[.bool true] 4)).size))
          all_goals go_wp2
          all_goals go_end0
          all_goals exact ⟨⟨_, rfl⟩, by simpa [Tr.sum, Tr.any, Tr.opn, Nat.add_assoc, Bool.or_assoc] using hg4B, hs4.trans k4B (fun _ _ h => h)⟩
      · simp only [List.nil_append, List.length_nil] at hr
        obtain ⟨⟨q', hq⟩, rfl⟩ := hzr.resolve_right (fun h => by rw [hr] at h; cases h.1)
        rw [hr] at hq
        cases hq
        have hzo := hok _ _ _ hr
        clear hzr hrb ih hr
        rw [sum_ret] at hsum
        obtain ⟨N, hN⟩ : ∃ N, z.y * 2 ^ z.t = N := ⟨_, rfl⟩
        have hNv : St.val z = N := hN
        rw [hNv] at hsum
        obtain ⟨X, hX⟩ : ∃ X, N * 2 ^ j = X := ⟨_, rfl⟩
        rw [hX] at hsum
        have hNX : N ≤ X := by rw [← hX]; exact Nat.le_mul_of_pos_right _ (Nat.pow_pos (by decide))
        have n1 := hgot1
        simp only [Where.got, At1] at n1
        go_wp2_with fail
        refine (value_any _ most times z hg hzo).mono ?_
        rintro e w2 ⟨p2, k2, c2, rfl, hn2, hs2⟩
        rw [hN] at hn2
        have m2 := hs2.read [(S, 1), (F, 1), (O, 1), (M, 1), (G, 3)] (by simp [m, n1, hG])
        simp [Reads, SameN, go_sem, m, n1, g0, g1, g2] at m2
        have hs' := hs.same hs2
        go_wp2_with fail
        obtain ⟨V, hV⟩ : ∃ V, V = w2.heap.size := ⟨_, rfl⟩
        rw [← hV]
        refine over_wp (w0 := w) (fun _ => False) [(S, 1), (F, 1), (O, 1), (M, 1), (G, 3), (V, 1)] (by simp [ext_s, hs', hs'.size]) (by simp [m2, hV]; omega) ?_
        intro w3 hs3 m3 k3
        simp [Reads, SameN, go_sem, m2, hV] at m3
        rw [← hV] at m3
        have hn3 : NatAt w3 p2 k2 c2 N := (hn2.same (by simp [ext_s])).same k3
        have hgot3 : Where.got ⟨K, M, W, P, S, F, O⟩ w3 sum full opn := Where.got_same hgot1 ((hs2.to (Ext.refl _ _)).alloc _ |>.same k3)
        have int_arm : ∀ wx, Same w3 wx → Calls Try.prog 48 #[.agg #[.slice p2 k2 c2], .int .i64 1099511627776] wx fun e w' => e = .returned (.int .i64 (N : Int)) ∧ Same wx w' := by
          intro wx hx
          have := int_any wx p2 k2 c2 N 1099511627776 (hn3.same hx) (by decide) (by decide)
          rwa [Nat.min_eq_left (by omega)] at this
        replace int_arm := Lib.hid int_arm
        have hMS : ¬ M = S := ha.2.1.1
        have hVS : ¬ V = S ∧ ¬ G = S ∧ ¬ F = S ∧ ¬ O = S := by
          have := ha.2.2.2.2.1
          have := ha.2.2.2.2.2.1
          have := hs.size
          have := hs2.size
          simp only at *
          omega
        have hGF : ¬ G = F := by omega
        have hj13 : (13 : Int) - cs.length = j := by omega
        have hw1 : IntKind.i64.wrap ((N : Int) * 2 ^ j) = (X : Int) := by
          rw [show (N : Int) * 2 ^ j = (X : Int) by rw [← hX, Int.natCast_mul, Int.natCast_pow]; rfl, IntKind.wrap_i64]
          omega
        have hw2 : IntKind.i64.wrap ((sum : Int) + X) = ((sum + X : Nat) : Int) := by rw [IntKind.wrap_i64]; omega
        clear hs2 m2 hs' hn2 k3 n1 hgot1 hN hA1 hb1 henv1 m hV hj
        have k7 : Same w3 w3.drew := (Ext.refl _ w3).drew
        have hj14 : j ≤ 13 := by omega
        have hwj : IntKind.i64.wrap (j : Int) = j := by rw [IntKind.wrap_i64]; omega
        have hcast : ((sum + X : Nat) : Int) = sum + X := by omega
        go_cut [10] (fun s10 wx => s10 = .int .i64 0 ∧ Where.got ⟨K, M, W, P, S, F, O⟩ wx (sum + X) full opn ∧ Ext (Where.own ⟨K, M, W, P, S, F, O⟩) w wx ∧ wx.cell? ⟨G, 2, none⟩ = some (.bool z.full))
        case first =>
          go_region_with (first | (go_at_call 48; refine (int_arm.out _ k7).mono ?_; rintro e w4 ⟨rfl, hs4⟩; have k8 : Same w3 w4 := hs4.to k7; have m4 := k8.read [(S, 1), (F, 1), (O, 1), (G, 3), (M, 1)] (by simp [m3]); simp [Reads, SameN, go_sem, m3] at m4))
          all_goals go_wp2
          all_goals go_meet
          all_goals
            have hg4 := Where.got_same hgot3 k8
            refine ⟨rfl, ⟨by rw [hcast]; exact hg4.1.set _, hg4.2.1.far hVS.2.2.1 _, hg4.2.2.far hVS.2.2.2 _⟩, Ext.setCell (Same.ext (Ext.same hs3 k8)) (fun _ => .inl rfl) _, by simp [go_sem, m4, hVS]⟩
        case rest =>
          obtain ⟨rfl, hg4, hs4, g4⟩ := hcut
          have m4 := hg4
          simp only [Where.got, At1] at m4
          clear m3 hs3 hgot3 int_arm
          have hSF : ¬ S = F := ha.2.2.2.2.1
          have hOF : ¬ O = F := fun e => ha.2.2.2.2.2.2 e.symm
          have hfin : ∀ (u : Bool) (w5 : World), w5 = wc.setCell ⟨F, 0, none⟩ (.bool u) → u = (full || z.full) → Where.got ⟨K, M, W, P, S, F, O⟩ w5 (sum + (Tr.ret z).sum St.val j) (full || (Tr.ret z).any St.full j) (opn || (Tr.ret z).opn j) ∧ Ext (Where.own ⟨K, M, W, P, S, F, O⟩) w w5 := by
            rintro u w5 rfl rfl
            rw [sum_ret, any_ret, opn_ret, hNv, hX, Bool.or_false]
            exact ⟨⟨hg4.1.far hSF _, hg4.2.1.set _, hg4.2.2.far hOF _⟩, Ext.setCell hs4 (fun _ => .inr (.inl rfl)) _⟩
          replace hfin := Lib.hid hfin
          cases full
          all_goals go_wp2
          all_goals go_end0
          all_goals exact ⟨⟨_, rfl⟩, hfin.out _ _ rfl (by simp)⟩

end Go.Proofs.Ytfcamaiehepinaa
