/- package thin, walked: parameters and states that may be. -/
import Derived.Test.YtfcamaiehepinaaFlip
namespace Go.Proofs.Ytfcamaiehepinaa
open Go.RowKit

/-- a parameter that may be -/
def goodThin (most times : Nat) : Prop := 1 ≤ most ∧ most ≤ 1023 ∧ times ≤ 20

theorem tcheck_ok (w : World) (most times : Nat) (h : goodThin most times) :
    Calls Try.prog 38 #[.agg #[.int .i64 most, .int .i64 times]] w fun e w' => e = .returned (.int .i64 0) ∧ Same w w' := by
  obtain ⟨h1, h2, h3⟩ := h
  have a1 : ¬ (most : Int) < 1 := by omega
  have a2 : ¬ (1023 : Int) < most := by omega
  have a3 : ¬ (times : Int) < 0 := by omega
  have a4 : ¬ (20 : Int) < times := by omega
  go_enter Try.func38, Try.ntmps38
  go_wp2
  go_ret
  exact ⟨rfl, (Ext.refl _ _).alloc _⟩

theorem twell_ok (w : World) (most times : Nat) (s : St) (h : goodThin most times) (hs : s.ok most times) :
    Calls Try.prog 30 #[.agg #[.int .i64 most, .int .i64 times], encSt s] w fun e w' => e = .returned (.bool true) ∧ Same w w' := by
  obtain ⟨y, t, full⟩ := s
  obtain ⟨h1, h2, h3⟩ := hs
  simp only at h1 h2 h3
  have b1 := h.2.1
  have b2 := h.2.2
  unfold encSt
  cases full with
  | false =>
    clear h3
    go_enter Try.func30, Try.ntmps30
    go_wp2_with fail
    refine (tcheck_ok _ _ _ h).mono ?_
    rintro e w1 ⟨rfl, hs⟩
    have c2 : w1.cell? ⟨w.heap.size + 1, 2, none⟩ = some (.bool false) := Ext.keepS hs (by simp [go_sem])
    go_wp2
    go_ret
    exact ⟨rfl, (((Ext.refl _ _).alloc _).alloc _).same hs⟩
  | true =>
    have h3 := h3 rfl
    subst h3
    go_enter Try.func30, Try.ntmps30
    go_wp2_with fail
    refine (tcheck_ok _ _ _ h).mono ?_
    rintro e w1 ⟨rfl, hs⟩
    have c2 : w1.cell? ⟨w.heap.size + 1, 2, none⟩ = some (.bool true) := Ext.keepS hs (by simp [go_sem])
    have c1 : w1.cell? ⟨w.heap.size + 1, 1, none⟩ = some (.int .i64 t) := Ext.keepS hs (by simp [go_sem])
    have c3 : w1.cell? ⟨w.heap.size, 1, none⟩ = some (.int .i64 t) := Ext.keepS hs (by simp [go_sem])
    go_wp2
    go_ret
    exact ⟨rfl, (((Ext.refl _ _).alloc _).alloc _).same hs⟩

def cellsSt (s : St) : List Value := [.int .i64 s.y, .int .i64 s.t, .bool s.full]

theorem twrong_ok (w : World) (most times : Nat) (p : Option Addr) (c : Nat) (L : List St) (hv : Cells w (.slice p L.length c) 3 L.length (L.map cellsSt).flatten) (h : goodThin most times) (hL : ∀ s ∈ L, s.ok most times) (hl : L.length ≤ 1000) :
    Calls Try.prog 39 #[.agg #[.int .i64 most, .int .i64 times], .slice p L.length c] w fun e w' => e = .returned (.int .i64 0) ∧ Same w w' := by
  go_enter Try.func39, Try.ntmps39
  go_wp2_with fail
  refine (tcheck_ok _ _ _ h).mono ?_
  rintro e w1 ⟨rfl, hs⟩
  have hs1 : Same w w1 := ((Ext.refl _ _).alloc _).same hs
  have hbox := hs.obj (heap_alloc_new w (.cells #[.int .i64 most, .int .i64 times] 53)) (fun h => h)
  clear hs
  go_wp2_with fail
  go_loopw [15] (fun s wr => ∃ i : Nat, i ≤ L.length ∧ s = .int .i64 i ∧ Same w wr ∧ wr.heap[w.heap.size]? = some (.cells #[.int .i64 most, .int .i64 times] 53 (0, 0))) (fun s _ => L.length - (intOf s).toNat)
  case atStart => exact ⟨0, Nat.zero_le _, rfl, hs1, hbox⟩
  case round =>
    obtain ⟨i, hi, rfl, hs, hbox⟩ := hrel
    clear hs1
    by_cases hil : i < L.length
    · obtain ⟨s, hs'⟩ : ∃ s, L[i]? = some s := ⟨_, List.getElem?_eq_getElem hil⟩
      have hok := hL s (List.mem_of_getElem? hs')
      obtain ⟨b, o, rfl, hb, hc⟩ : ∃ b o, p = some ⟨b, o, none⟩ ∧ b < w.heap.size ∧ ∀ j u, (cellsSt s)[j]? = some u → j < 3 → wr.cell? ⟨b, o + i * 3 + j, none⟩ = some u := by
        obtain ⟨_, q, cap, he, _, _, h4⟩ := hv
        simp at he
        obtain ⟨rfl, rfl⟩ := he
        rcases h4 with ⟨_, h4, _⟩ | ⟨b, o, h4, hlt, hc⟩
        · omega
        · refine ⟨b, o, h4, hlt, fun j u hu hj => Ext.keepS hs ?_⟩
          rw [Nat.add_assoc]
          exact hc _ _ (by rw [flat_get cellsSt 3 (fun _ => rfl) L i s hs' j hj]; exact hu)
      have e0 : wr.cell? ⟨b, o + i * 3, none⟩ = some (.int .i64 s.y) := hc 0 _ rfl (by decide)
      have e1 : wr.cell? ⟨b, o + i * 3 + 1, none⟩ = some (.int .i64 s.t) := hc 1 _ rfl (by decide)
      have e2 : wr.cell? ⟨b, o + i * 3 + 2, none⟩ = some (.bool s.full) := hc 2 _ rfl (by decide)
      have d0 : wr.cell? ⟨w.heap.size, 0, none⟩ = some (.int .i64 most) := cell_of hbox rfl
      have d1 : wr.cell? ⟨w.heap.size, 1, none⟩ = some (.int .i64 times) := cell_of hbox rfl
      have hbl := (Array.getElem?_eq_some_iff.1 hbox).1
      clear hc hs'
      go_wp2_with fail
      refine (twell_ok _ _ _ s h hok).mono ?_
      rintro e w2 ⟨rfl, hs2⟩
      have hs3 : Same wr w2 := ((Ext.refl _ _).alloc _).same hs2
      have hbox2 := hs3.obj hbox (fun h => h)
      have hs4 := hs.same hs3
      clear hs hs2 hs3 hbox d0 d1 e0 e1 e2
      go_wp2
      go_roundw
      case rel => exact ⟨i + 1, by omega, by go_num, hs4, hbox2⟩
      case measure => simp [intOf]; omega
    · have : i = L.length := by omega
      subst this
      go_wp2
      go_ret
      exact ⟨rfl, hs⟩

end Go.Proofs.Ytfcamaiehepinaa
