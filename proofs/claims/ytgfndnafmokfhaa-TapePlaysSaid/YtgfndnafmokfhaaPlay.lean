/- The reference's Play. -/
import Derived.Test.YtgfndnafmokfhaaAwake9
import Derived.Laws.ResultCell
namespace Go.Proofs.Ytgfndnafmokfhaa
open Go.RowKit

set_option maxRecDepth 100000 in
theorem play_no (w : World) (p : Option Addr) (c k : Nat) (cs : List Bool) (d : Bool) (n : Int) (hk : d = true ∨ k = cs.length) (_hkl : k ≤ cs.length) (_hl : cs.length ≤ 1000) :
    Calls Try.prog 17 #[.agg #[.slice p cs.length c, .int .i64 k, .bool d], .agg #[.int .i64 0, .int .i64 n]] w fun e w' => e = .returned (.tuple #[.agg #[.slice p cs.length c, .int .i64 k, .bool true], .bool false, .int .i64 8]) ∧ Same w w' := by
  cases d with
  | true =>
    go_enter Try.func17, Try.ntmps17
    go_wp2
    exact bodyPost_ret (v := .tuple #[.agg #[.slice p cs.length c, .int .i64 k, .bool true], .bool false, .int .i64 8]) (by simp [results, Try.results17, go_sem]) rfl ⟨rfl, (((Ext.refl _ _).alloc _).alloc _).alloc _⟩
  | false =>
    have hk := hk.resolve_left (by simp)
    have h1 : (cs.length : Int) ≤ (k : Int) := by omega
    clear hk
    go_enter Try.func17, Try.ntmps17
    go_wp2
    exact bodyPost_ret (v := .tuple #[.agg #[.slice p cs.length c, .int .i64 k, .bool true], .bool false, .int .i64 8]) (by simp [results, Try.results17, go_sem]) rfl ⟨rfl, (((Ext.refl _ _).alloc _).alloc _).alloc _⟩

theorem bool_cell {w : World} {p : Option Addr} {c : Nat} {cs : List Bool} (hb : Bools w (.slice p cs.length c) cs) {k : Nat} (hk : k < cs.length) {bit : Bool} (Hb : Hid (cs.getD k false = bit)) :
    ∃ bb o, p = some ⟨bb, o, none⟩ ∧ bb < w.heap.size ∧ w.cell? ⟨bb, o + k, none⟩ = some (.bool bit) := by
  obtain ⟨_, q, cap, he, _, _, h4⟩ := hb
  simp at he
  obtain ⟨rfl, rfl⟩ := he
  rcases h4 with ⟨_, h4, _⟩ | ⟨bb, o, h4, hlt, hc⟩
  · omega
  · refine ⟨bb, o, h4, hlt, hc k _ ?_⟩
    rw [List.getElem?_map, List.getElem?_eq_getElem hk, ← Hb.out]
    simp [List.getD, List.getElem?_eq_getElem hk]

set_option maxRecDepth 100000 in
theorem play_ok (w : World) (p : Option Addr) (c k : Nat) (cs : List Bool) (n : Int) (hb : Bools w (.slice p cs.length c) cs) (hk : k < cs.length) (hl : cs.length ≤ 1000) (bit : Bool) (Hb : Hid (cs.getD k false = bit)) :
    Calls Try.prog 17 #[.agg #[.slice p cs.length c, .int .i64 k, .bool false], .agg #[.int .i64 0, .int .i64 n]] w fun e w' => e = .returned (.tuple #[.agg #[.slice p cs.length c, .int .i64 (k + 1), .bool false], .bool bit, .int .i64 0]) ∧ Same w w' := by
  obtain ⟨bb, o, rfl, hbb, hcell⟩ := bool_cell hb hk Hb
  have hk1 : k ≤ 1000 := by omega
  have hbb1 : bb < w.heap.size + 1 := by omega
  have hbb2 : bb < w.heap.size + 1 + 1 := by omega
  have hw1 : IntKind.i64.wrap (k : Int) = (k : Int) := by rw [IntKind.wrap_i64]; omega
  go_enter Try.func17, Try.ntmps17
  go_wp2
  go_region
  go_wp2
  exact bodyPost_ret (v := .tuple #[.agg #[.slice (some ⟨bb, o, none⟩) cs.length c, .int .i64 (k + 1), .bool false], .bool bit, .int .i64 0]) (by simp [results, Try.results17, go_sem]) rfl ⟨rfl, ((((Ext.refl _ _).alloc _).alloc _).alloc _).drew⟩

set_option maxRecDepth 100000 in
theorem play_range (w : World) (p : Option Addr) (c k : Nat) (l : Nat) (d : Bool) (n : Int) (hn : n < 0 ∨ (k : Int) < n) :
    Calls Try.prog 17 #[.agg #[.slice p l c, .int .i64 k, .bool d], .agg #[.int .i64 1, .int .i64 n]] w fun e w' => e = .returned (.tuple #[.agg #[.slice p l c, .int .i64 k, .bool d], .bool false, .int .i64 2]) ∧ Same w w' := by
  by_cases h0 : n < 0
  · go_enter Try.func17, Try.ntmps17
    go_wp2
    exact bodyPost_ret (v := .tuple #[.agg #[.slice p l c, .int .i64 k, .bool d], .bool false, .int .i64 2]) (by simp [results, Try.results17, go_sem]) rfl ⟨rfl, (((Ext.refl _ _).alloc _).alloc _).alloc _⟩
  · have h1 : (k : Int) < n := by omega
    clear hn
    go_enter Try.func17, Try.ntmps17
    go_wp2
    exact bodyPost_ret (v := .tuple #[.agg #[.slice p l c, .int .i64 k, .bool d], .bool false, .int .i64 2]) (by simp [results, Try.results17, go_sem]) rfl ⟨rfl, (((Ext.refl _ _).alloc _).alloc _).alloc _⟩

set_option maxRecDepth 100000 in
theorem play_back (w : World) (p : Option Addr) (c k n : Nat) (l : Nat) (d : Bool) (hn : n ≤ k) :
    Calls Try.prog 17 #[.agg #[.slice p l c, .int .i64 k, .bool d], .agg #[.int .i64 1, .int .i64 n]] w fun e w' => e = .returned (.tuple #[.agg #[.slice p l c, .int .i64 n, .bool false], .bool false, .int .i64 0]) ∧ Same w w' := by
  have h0 : ¬ (n : Int) < 0 := by omega
  go_enter Try.func17, Try.ntmps17
  go_wp2
  exact bodyPost_ret (v := .tuple #[.agg #[.slice p l c, .int .i64 n, .bool false], .bool false, .int .i64 0]) (by simp [results, Try.results17, go_sem]) rfl ⟨rfl, (((Ext.refl _ _).alloc _).alloc _).alloc _⟩

end Go.Proofs.Ytgfndnafmokfhaa
