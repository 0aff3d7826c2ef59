/- The rest of package tape: Mark, Left, Back, Clone. -/
import Derived.Test.YtfcamaiehepinaaTape
import Derived.Deep.RegionHeld3
namespace Go.Proofs.Ytfcamaiehepinaa
open Go.RowKit

theorem mark_any (w : World) (b : Nat) (v : Value) (cs : List Bool) (k : Nat) (d : Bool) (h : TapeAt w b v cs k d) :
    Calls Try.prog 17 #[.pointer (some ⟨b, 0, none⟩)] w fun e w' => e = .returned (.int .i64 k) ∧ w = w' := by
  obtain ⟨c0, c1, c2, f0, f1⟩ := h.cells
  go_enter Try.func17, Try.ntmps17
  go_wp2
  go_ret
  exact ⟨rfl, rfl⟩

/-- Left: what is left, 0 of a dead one. -/
theorem left_any (w : World) (b : Nat) (v : Value) (cs : List Bool) (k : Nat) (d : Bool) (h : TapeAt w b v cs k d) :
    Calls Try.prog 19 #[.pointer (some ⟨b, 0, none⟩)] w fun e w' => e = .returned (.int .i64 (if d then 0 else (cs.length : Int) - k)) ∧ ∃ n, w' = w.drewN n := by
  have h0 := h
  obtain ⟨h1, h2, h3, h4, h5⟩ := h0
  obtain ⟨c0, c1, c2, f0, f1⟩ := h.cells
  have h2' := h2
  obtain ⟨h6, p, cap, rfl, h7, h8, h9⟩ := h2'
  clear h1 h2 h3 h6 h9
  cases d with
  | true =>
    go_enter Try.func19, Try.ntmps19
    go_wp2
    go_ret
    exact ⟨rfl, 0, rfl⟩
  | false =>
    go_enter Try.func19, Try.ntmps19
    go_wp2_with fail
    go_quiet (fail)
    go_wp2
    go_ret
    exact ⟨rfl, _, rfl⟩

theorem back_no (w : World) (b : Nat) (v : Value) (cs : List Bool) (k : Nat) (d : Bool) (h : TapeAt w b v cs k d) (m : Int) (hm : m < 0 ∨ (k : Int) < m) :
    Calls Try.prog 18 #[.pointer (some ⟨b, 0, none⟩), .int .i64 m] w fun e w' => e = .returned (.int .i64 2) ∧ w = w' := by
  obtain ⟨c0, c1, c2, f0, f1⟩ := h.cells
  rcases hm with hm | hm
  · go_enter Try.func18, Try.ntmps18
    go_wp2
    go_ret
    exact ⟨rfl, rfl⟩
  · by_cases h0 : m < 0
    · go_enter Try.func18, Try.ntmps18
      go_wp2
      go_ret
      exact ⟨rfl, rfl⟩
    · go_enter Try.func18, Try.ntmps18
      go_wp2
      go_ret
      exact ⟨rfl, rfl⟩

theorem back_ok (w : World) (b : Nat) (v : Value) (cs : List Bool) (k : Nat) (d : Bool) (h : TapeAt w b v cs k d) (m : Nat) (hm : m ≤ k) :
    Calls Try.prog 18 #[.pointer (some ⟨b, 0, none⟩), .int .i64 m] w fun e w' => e = .returned (.int .i64 0) ∧ TapeAt w' b v cs m false ∧ Ext (· = b) w w' := by
  obtain ⟨c0, c1, c2, f0, f1⟩ := h.cells
  have hk := h.2.2.2.1
  have h1 : ¬ ((m : Int) < 0) := by omega
  go_enter Try.func18, Try.ntmps18
  go_wp2
  go_ret
  obtain ⟨h', he⟩ := h.set0 m (by omega)
  obtain ⟨h'', he'⟩ := h'.set1 false
  exact ⟨rfl, h'', he.trans he' (fun _ _ h => h)⟩


/-- Clone: another tape like it. -/
theorem tclone_any (w : World) (b : Nat) (v : Value) (cs : List Bool) (k : Nat) (d : Bool) (h : TapeAt w b v cs k d) :
    Calls Try.prog 20 #[.pointer (some ⟨b, 0, none⟩)] w fun e w' => ∃ b' v', e = .returned (.pointer (some ⟨b', 0, none⟩)) ∧ w.heap.size ≤ b' ∧ (∀ k, v'.ownBlock = some k → w.heap.size ≤ k) ∧ TapeAt w' b' v' cs k d ∧ Same w w' := by
  have hlt := h.lt
  obtain ⟨c0, c1, c2, f0, f1⟩ := h.cells
  obtain ⟨h1, h2, h3, h4, h5⟩ := h
  have h2' := h2
  obtain ⟨h6, p, cap, rfl, h7, h8, h9⟩ := h2'
  clear h1 h3 h6 h9
  go_enter Try.func20, Try.ntmps20
  go_wp2_with fail
  go_region_held3 (fun w' => w'.cell? ⟨b, 0, none⟩ = some (.int .i64 k) ∧ w'.cell? ⟨b, 1, none⟩ = some (.bool d) ∧ w'.cell? ⟨b, 2, none⟩ = some (.slice p cs.length cap))
    (first | exact ⟨c0, c1, c2⟩ | exact ⟨Ext.keepS hs c0, Ext.keepS hs c1, Ext.keepS hs c2⟩ | exact ⟨Ext.keepS (hs.alloc _) c0, Ext.keepS (hs.alloc _) c1, Ext.keepS (hs.alloc _) c2⟩)
    (first | (go_at_call 36; refine (clone_any _ _ cs (h2.same (Ext.drew (Ext.refl _ _))) h5).mono ?_; rintro e w1 ⟨p1, c1', rfl, hown, hs⟩))
  go_wp2
  go_ret
  exact ⟨w1.heap.size, _, rfl, hs.size, fun k hk => (hown.lt k hk).1, TapeAt.made hown h4 h5, (Ext.drew (Ext.refl _ _)).trans (hs.alloc _) (fun _ _ h => h)⟩

end Go.Proofs.Ytfcamaiehepinaa
