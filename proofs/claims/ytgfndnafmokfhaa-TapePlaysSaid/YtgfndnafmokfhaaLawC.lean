/- The law TapePlays: walked. -/
import Derived.Test.YtgfndnafmokfhaaPlay
import Derived.Test.YtgfndnafmokfhaaFlat
import Derived.Deep.DeepCutAuto
namespace Go.Proofs.Ytgfndnafmokfhaa
open Go.RowKit

/-- the acts that came in -/
def ActsIn (w : World) (v : Value) (l : List (Int × Int)) : Prop := Cells w v 2 l.length (l.map fun a => [Value.int .i64 a.1, Value.int .i64 a.2]).flatten

theorem open_acts {H : Type} {enc : TypeId × Value → H} {w : World} {fuel : Nat} {v : Value} {x : DataW H × List MemPlace}
    (hv : Cell.okWide Try.prog w .any 0 34 v) (h : DataW.trod enc Try.prog w 0 (fun _ => true) true fuel 34 v.cells.toList = some x) : ∃ l, ActsIn w v l := by
  obtain ⟨L, h1, h2⟩ := open_flats (n := 3) (ks := [.i .i64, .i .i64]) Try.underlying34 (by kernel_rfl) (by kernel_rfl) hv h
  obtain ⟨l, rfl, _⟩ := decode (p := fun _ => True) (enc := fun a : Int × Int => [Value.int .i64 a.1, Value.int .i64 a.2]) L (fun l hl => by
    obtain ⟨a, l1, rfl, _, h3⟩ := (h2 l hl).int
    obtain ⟨b, l2, rfl, _, h4⟩ := h3.int
    obtain rfl := h4.nil
    exact ⟨(a, b), rfl, trivial⟩)
  exact ⟨l, by simpa [ActsIn] using h1⟩

theorem acts_cell {w : World} {p : Option Addr} {c : Nat} {l : List (Int × Int)} (h : ActsIn w (.slice p l.length c) l) (i : Nat) (hi : i < l.length) :
    ∃ b o, p = some ⟨b, o, none⟩ ∧ b < w.heap.size ∧ w.cell? ⟨b, o + i * 2, none⟩ = some (.int .i64 (l.getD i (0, 0)).1) ∧ w.cell? ⟨b, o + i * 2 + 1, none⟩ = some (.int .i64 (l.getD i (0, 0)).2) := by
  obtain ⟨_, q, cap, he, _, _, h4⟩ := h
  simp at he
  obtain ⟨rfl, rfl⟩ := he
  rcases h4 with ⟨_, h4, _⟩ | ⟨b, o, h4, hlt, hc⟩
  · omega
  · have key : ∀ (l : List (Int × Int)) (i : Nat), i < l.length → (l.map fun a => [Value.int .i64 a.1, Value.int .i64 a.2]).flatten[i * 2]? = some (.int .i64 (l.getD i (0, 0)).1) ∧ (l.map fun a => [Value.int .i64 a.1, Value.int .i64 a.2]).flatten[i * 2 + 1]? = some (.int .i64 (l.getD i (0, 0)).2) := by
      intro l
      induction l with
      | nil => intro i hi; simp at hi
      | cons a l ih =>
        intro i hi
        cases i with
        | zero => simp
        | succ i =>
          have := ih i (by simpa using hi)
          rw [List.map_cons, List.flatten_cons, Nat.add_mul, Nat.one_mul]
          simpa [List.getElem?_cons] using this
    have := key l i hi
    exact ⟨b, o, h4, hlt, hc _ _ this.1, by rw [Nat.add_assoc]; exact hc _ _ this.2⟩

set_option maxRecDepth 100000 in
theorem plays_walk {w : World} {va vb : Value} {xs : List Bool} {l : List (Int × Int)} (ha : Bools w va xs) (hl : ActsIn w vb l) :
    Calls Try.prog 5 #[va, vb] w fun e w' => e = .returned (.bool true) ∧ Same w w' := by
  obtain ⟨pb, cb, rfl, hlc, hcm⟩ : ∃ p c, vb = .slice p l.length c ∧ l.length ≤ c ∧ c ≤ 9223372036854775807 := by
    obtain ⟨_, p, c, h, h2, h3, _⟩ := id hl
    exact ⟨p, c, h, h2, h3⟩
  go_enter Try.func5, Try.ntmps5
  go_wp2_with fail
  refine (awake_any _).mono ?_
  rintro e w1 ⟨rfl, hs1⟩
  go_wp2_with fail
  refine (few_sh _ _ xs 200 (ha.same hs1) (by omega)).mono ?_
  rintro e w2 ⟨pa, ca, cs, rfl, ha', hal, hao, Hx, rfl⟩
  have hl1 := hl.same hs1
  clear hao Hx ha hl xs
  go_wp2_with fail
  refine (new_few _ _ cs ha' (by omega)).mono ?_
  rintro e w2 ⟨b, v, rfl, hb, hv, ht, hs⟩
  have hs2 := hs1.same hs
  have hbw : w.heap.size ≤ b := by have := hs1.size; omega
  have hb2 := ht.lt
  have hv2 := ht.2.1.lt
  have ha2 := ha'.same hs
  have hl2 := Cells.same hl1 hs
  have hpa : ∀ k, (Value.slice pa cs.length ca).ownBlock = some k → k < b := fun k hk => by have := ha'.lt k hk; omega
  have hpb : ∀ k, (Value.slice pb l.length cb).ownBlock = some k → k < b := fun k hk => by have := Cells.lt hl1 k hk; omega
  clear ha' hl1 hs hs1
  obtain ⟨S, hS⟩ : ∃ S, S = w2.heap.size := ⟨_, rfl⟩
  go_wp2_with fail
  rw [← hS]
  have hbS : b < S := by omega
  have hSh : (w2.alloc (.cells #[.slice pa cs.length ca, .int .i64 0, .bool false] 36)).heap[S]? = some (.cells #[.slice pa cs.length ca, .int .i64 (0 : Nat), .bool false] 36 (0, 0)) := by
    rw [hS]; exact heap_alloc_new _ _
  have ha3 := ha2.same ((Ext.refl _ w2).alloc (.cells #[.slice pa cs.length ca, .int .i64 0, .bool false] 36))
  have hl3 : ActsIn _ _ l := Cells.same hl2 ((Ext.refl _ w2).alloc (.cells #[.slice pa cs.length ca, .int .i64 0, .bool false] 36))
  have ht3 := ht.same ((Ext.refl _ w2).alloc (.cells #[.slice pa cs.length ca, .int .i64 0, .bool false] 36))
  have hs3 := hs2.alloc (.cells #[.slice pa cs.length ca, .int .i64 0, .bool false] 36)
  have hv3 : ∀ k, v.ownBlock = some k → k < S := by rw [hS]; exact hv2
  have hSw : S < (w2.alloc (.cells #[.slice pa cs.length ca, .int .i64 0, .bool false] 36)).heap.size := by rw [hS]; simp
  clear ht ha2 hl2 hs2 hv2 hb2 hS
  generalize w2.alloc (.cells #[.slice pa cs.length ca, .int .i64 0, .bool false] 36) = w3 at *
  go_loopw [7] (fun s wr => ∃ i k : Nat, ∃ d : Bool, i ≤ l.length ∧ s = .int .i64 i ∧ TapeAt wr b v cs k d ∧ wr.heap[S]? = some (.cells #[.slice pa cs.length ca, .int .i64 k, .bool d] 36 (0, 0)) ∧ Ext (fun x => x = b ∨ x = S) w3 wr) (fun s _ => l.length - (intOf s).toNat)
  case atStart => exact ⟨0, 0, false, Nat.zero_le _, rfl, ht3, hSh, Ext.refl _ _⟩
  case round =>
    obtain ⟨i, k, d, hi, rfl, ht, hSh, hx⟩ := hrel
    have hs : Same w wr := hs3.trans hx (fun k hk e => by rcases e with e | e <;> omega)
    clear ht3
    by_cases h1 : i < l.length
    · by_cases h2 : i < 100
      · have ha4 := ha3.ext hx (fun k hk e => by have := hpa k hk; rcases e with e | e <;> omega)
        have hl4 : ActsIn wr _ l := Cells.ext hl3 hx (fun k hk e => by have := hpb k hk; rcases e with e | e <;> omega)
        obtain ⟨bb, o, rfl, hbb, hc1, hc2⟩ := acts_cell hl4 i h1
        obtain ⟨kd0, Hk0⟩ : ∃ z, Hid ((l.getD i (0, 0)).1 = z) := ⟨_, rfl⟩
        obtain ⟨n, Hn⟩ : ∃ z, Hid ((l.getD i (0, 0)).2 = z) := ⟨_, rfl⟩
        rw [Hk0.out] at hc1
        rw [Hn.out] at hc2
        clear hl4
        go_wp2_with fail
        rw [and1]
        obtain ⟨kd, hkd⟩ : ∃ kd, kd = kd0 % 2 := ⟨_, rfl⟩
        rw [← hkd]
        have hkd2 : kd = 0 ∨ kd = 1 := by omega
        clear hkd Hk0 hc1 hc2
        obtain ⟨A, hA⟩ : ∃ A, A = wr.heap.size := ⟨_, rfl⟩
        rw [← hA]
        have hAh : (wr.alloc (.cells #[.int .i64 kd, .int .i64 n] 38)).heap[A]? = some (.cells #[.int .i64 kd, .int .i64 n] 38 (0, 0)) := by rw [hA]; exact heap_alloc_new _ _
        have hal4 : Same wr (wr.alloc (.cells #[.int .i64 kd, .int .i64 n] 38)) := (Ext.refl _ _).alloc _
        refine (tclone_any _ b v cs k d (ht.same hal4)).mono ?_
        rintro e w5 ⟨b', v', rfl, hb', hv', htw, hs5⟩
        have hs15 : Same wr w5 := hal4.same hs5
        have hAh5 := hs5.obj hAh (fun h => h)
        have hSh5 := hs15.obj hSh (fun h => h)
        have ht5 := ht.same hs15
        have hx5 := hx.same hs15
        have hbA : b < A := by rw [hA]; exact ht.lt
        have hSA : S < A := by rw [hA]; exact (Array.getElem?_eq_some_iff.1 hSh).1
        have hb'A : A < b' := by simp at hb'; omega
        have hv'A : ∀ k, v'.ownBlock = some k → A < k := fun k hk => by have := hv' k hk; simp at this; omega
        have ha5 := ha4.same hs15
        have hkl := ht.2.2.2.1
        clear ht hSh hAh hal4 hs5 hx hs hs15 hb' hv' ha4 hA
        have cA0 : w5.cell? ⟨A, 0, none⟩ = some (.int .i64 kd) := cell_of hAh5 rfl
        have cA1 : w5.cell? ⟨A, 1, none⟩ = some (.int .i64 n) := cell_of hAh5 rfl
        go_upto_if 46 with fail
        go_cut [9, 11] (fun s9 s11 wx => ∃ k' : Nat, ∃ d' bit : Bool, ∃ z : Int, s9 = .bool bit ∧ s11 = .int .i64 z ∧ TapeAt wx b v cs k' d' ∧ Ext (· = b) w5 wx ∧
          Hid (∀ w0, Bools w0 (.slice pa cs.length ca) cs → Calls Try.prog 17 #[.agg #[.slice pa cs.length ca, .int .i64 k, .bool d], .agg #[.int .i64 kd, .int .i64 n]] w0 fun e w' => e = .returned (.tuple #[.agg #[.slice pa cs.length ca, .int .i64 k', .bool d'], .bool bit, .int .i64 z]) ∧ Same w0 w'))
        case first =>
          rcases hkd2 with rfl | rfl
          · by_cases hok : d = false ∧ k < cs.length
            · obtain ⟨rfl, hk⟩ := hok
              obtain ⟨bit, Hb⟩ : ∃ bit, Hid (cs.getD k false = bit) := ⟨_, rfl⟩
              go_wp2_with fail
              refine (flip_bit _ b v cs k ht5 hk bit Hb).mono ?_
              rintro e w6 ⟨rfl, ht6, hs6⟩
              have Hp := Lib.hid (fun w0 h => play_ok w0 pa ca k cs n h hk (by omega) bit Hb)
              go_wp2
              go_meet
              exact ⟨k + 1, false, bit, 0, rfl, rfl, ht6, hs6, Hp.out⟩
            · have hno : d = true ∨ k = cs.length := by
                cases d
                · right; simp at hok; omega
                · left; rfl
              go_wp2_with fail
              refine (flip_no _ b v cs k d ht5 hno).mono ?_
              rintro e w6 ⟨rfl, ht6, hs6⟩
              go_wp2
              go_meet
              exact ⟨k, true, false, 8, rfl, rfl, ht6, hs6, fun w0 _ => play_no w0 pa ca k cs d n hno hkl (by omega)⟩
          · by_cases hr : n < 0 ∨ (k : Int) < n
            · go_wp2_with fail
              refine (back_no _ b v cs k d ht5 n hr).mono ?_
              rintro e w6 ⟨rfl, rfl⟩
              go_wp2
              go_meet
              exact ⟨k, d, false, 2, rfl, rfl, ht5, Ext.refl _ _, fun w0 _ => play_range w0 pa ca k cs.length d n hr⟩
            · obtain ⟨m, rfl⟩ : ∃ m : Nat, n = m := ⟨n.toNat, by omega⟩
              go_wp2_with fail
              refine (back_ok _ b v cs k d ht5 m (by omega)).mono ?_
              rintro e w6 ⟨rfl, ht6, hs6⟩
              go_wp2
              go_meet
              exact ⟨m, false, false, 0, rfl, rfl, ht6, hs6, fun w0 _ => play_back w0 pa ca k m cs.length d (by omega)⟩
        case rest =>
          obtain ⟨k', d', bit, z, rfl, rfl, ht6, hx6, Hp⟩ := hcut
          have hSh6 := hx6.obj hSh5 (by omega)
          have hAh6 := hx6.obj hAh5 (by omega)
          have htw6 := htw.ext hx6 (by omega) (fun k hk => by have := hv'A k hk; omega)
          have ha6 := ha5.ext hx6 (fun k hk => by have := hpa k hk; omega)
          have hx7 := hx5.trans hx6 (fun k hk e => .inl e)
          clear cA0 cA1 hSh5 hAh5 htw ha5 ht5 hx6
          have cA0 : wc.cell? ⟨A, 0, none⟩ = some (.int .i64 kd) := cell_of hAh6 rfl
          have cA1 : wc.cell? ⟨A, 1, none⟩ = some (.int .i64 n) := cell_of hAh6 rfl
          have cS0 : wc.cell? ⟨S, 0, none⟩ = some (.slice pa cs.length ca) := cell_of hSh6 rfl
          have cS1 : wc.cell? ⟨S, 1, none⟩ = some (.int .i64 k) := cell_of hSh6 rfl
          have cS2 : wc.cell? ⟨S, 2, none⟩ = some (.bool d) := cell_of hSh6 rfl
          have hSl : S < wc.heap.size := (Array.getElem?_eq_some_iff.1 hSh6).1
          have hAl : A < wc.heap.size := (Array.getElem?_eq_some_iff.1 hAh6).1
          obtain ⟨B, hB⟩ : ∃ B, B = wc.heap.size := ⟨_, rfl⟩
          have hBh : (wc.alloc (.cells #[.slice pa cs.length ca, .int .i64 k, .bool d] 36)).heap[B]? = some (.cells #[.slice pa cs.length ca, .int .i64 k, .bool d] 36 (0, 0)) := by rw [hB]; exact heap_alloc_new _ _
          have hbB : b < B ∧ S < B ∧ b' < B := by rw [hB]; exact ⟨ht6.lt, hSl, htw6.lt⟩
          go_wp2_with fail
          rw [← hB]
          clear hB
          refine (Hp.out _ (ha6.same ((Ext.refl _ _).alloc _))).mono ?_
          rintro e w8 ⟨rfl, hs8⟩
          have hs9 : Same wc w8 := ((Ext.refl _ _).alloc _).same hs8
          have hBh8 := hs8.obj hBh (fun h => h)
          have hSh8 := hs9.obj hSh6 (fun h => h)
          have ht8 := ht6.same hs9
          have htw8 := htw6.same hs9
          have hx8 := hx7.same hs9
          clear cA0 cA1 cS0 cS1 cS2 ht6 htw6 ha6 hx7 hs8 hs9 hBh hSh6 hAh6 Hp
          have cS0 : w8.cell? ⟨S, 0, none⟩ = some (.slice pa cs.length ca) := cell_of hSh8 rfl
          have cS1 : w8.cell? ⟨S, 1, none⟩ = some (.int .i64 k) := cell_of hSh8 rfl
          have cS2 : w8.cell? ⟨S, 2, none⟩ = some (.bool d) := cell_of hSh8 rfl
          have fS : ∀ i, w8.frozen? ⟨S, i, none⟩ = false := fun i => free_of hSh8
          go_upto_region 19 with fail
          obtain ⟨hSh9, hx9⟩ := set3 hSh8 (.slice pa cs.length ca) (.int .i64 k') (.bool d')
          generalize ((w8.setCell ⟨S, 0, none⟩ (.slice pa cs.length ca)).setCell ⟨S, 1, none⟩ (.int .i64 k')).setCell ⟨S, 2, none⟩ (.bool d') = w9 at *
          have ht9 := ht8.ext hx9 (by omega) (fun k hk => by have := hv3 k hk; omega)
          have htw9 := htw8.ext hx9 (by omega) (fun k hk => by have := hv'A k hk; omega)
          have hBh9 := hx9.obj hBh8 (by omega)
          have hx10 := hx8.trans hx9 (fun k hk e => .inr e)
          have hs9 : Same w w9 := hs3.trans hx10 (fun k hk e => by rcases e with e | e <;> omega)
          clear cS0 cS1 cS2 fS hx9 hx8 ht8 htw8 hSh8 hBh8
          have cS0 : w9.cell? ⟨S, 0, none⟩ = some (.slice pa cs.length ca) := cell_of hSh9 rfl
          have cS1 : w9.cell? ⟨S, 1, none⟩ = some (.int .i64 k') := cell_of hSh9 rfl
          have cS2 : w9.cell? ⟨S, 2, none⟩ = some (.bool d') := cell_of hSh9 rfl
          have cB1 : w9.cell? ⟨B, 1, none⟩ = some (.int .i64 k) := cell_of hBh9 rfl
          have cB2 : w9.cell? ⟨B, 2, none⟩ = some (.bool d) := cell_of hBh9 rfl
          have hkl' := ht9.2.2.2.1
          go_upto_if 78 with fail
          go_cut [15] (fun s wx => s = .int .i64 (if d' then 0 else (cs.length : Int) - k') ∧ w9 = wx)
          case first =>
            cases d'
            · go_wp2
              go_meet
              exact ⟨rfl, rfl⟩
            · go_wp2
              go_meet
              exact ⟨rfl, rfl⟩
          case rest =>
            obtain ⟨rfl, rfl⟩ := hcut
            generalize hq : (if d' then 0 else (cs.length : Int) - k') = q at *
            have Hq := Lib.hid hq
            clear hq
            go_wp2_with fail
            go_quiet (first
              | (go_at_call_of 12 (Value.pointer (some ⟨b, 0, none⟩)); exact Calls.quiet_of_same ((read_any _ b v cs k' d' (ht9.drewN _)).mono fun e w' h => ⟨h.1, h.2.symm⟩))
              | (go_at_call_of 13 (Value.pointer (some ⟨b, 0, none⟩)); exact Calls.quiet_of_same ((mark_any _ b v cs k' d' (ht9.drewN _)).mono fun e w' h => ⟨h.1, h.2.symm⟩))
              | (go_at_call_of 11 (Value.pointer (some ⟨b, 0, none⟩)); exact Calls.quiet_of_same ((dead_any _ b v cs k' d' (ht9.drewN _)).mono fun e w' h => ⟨h.1, h.2.symm⟩))
              | (go_at_call_of 15 (Value.pointer (some ⟨b, 0, none⟩)); exact Calls.quiet_of ((left_any _ b v cs k' d' (ht9.drewN _)).mono fun e w' h => ⟨by rw [h.1, Hq.out], h.2⟩))
              | (go_at_call_of 12 (Value.pointer (some ⟨b', 0, none⟩)); exact Calls.quiet_of_same ((read_any _ b' v' cs k d (htw9.drewN _)).mono fun e w' h => ⟨h.1, h.2.symm⟩))
              | (go_at_call_of 11 (Value.pointer (some ⟨b', 0, none⟩)); exact Calls.quiet_of_same ((dead_any _ b' v' cs k d (htw9.drewN _)).mono fun e w' h => ⟨h.1, h.2.symm⟩)))
            go_wp2
            exact ⟨⟨i + 1, k', d', by omega, by go_num, ht9.drewN _, hSh9, hx10.drewN _⟩, by simp [intOf]; omega⟩
      · go_wp2
        go_ret
        exact ⟨rfl, hs⟩
    · go_wp2
      go_ret
      exact ⟨rfl, hs⟩

end Go.Proofs.Ytgfndnafmokfhaa
