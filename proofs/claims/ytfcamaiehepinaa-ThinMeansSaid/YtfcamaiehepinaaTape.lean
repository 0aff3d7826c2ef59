/- Tape: the walks of package tape and of the laws' Few. -/
import Derived.Test.YtfcamaiehepinaaRows
import Derived.Test.YtfcamaiehepinaaBase
import Derived.Deep.QuietTactic
import Derived.BigQuiet
namespace Go.Proofs.Ytfcamaiehepinaa
open Go.RowKit

theorem bool_info : (Try.prog.info? 4).map (fun i => (i.zero, i.size, i.bytes)) = some (some (Value.bool false), 1, 1) := by kernel_rfl

set_option maxHeartbeats 400000 in
theorem few_any (w : World) (v : Value) (cs : List Bool) (n : Nat) (hv : Bools w v cs) (hn : n ≤ 1000000) :
    Calls Try.prog 12 #[v, .int .i64 n] w fun e w' => ∃ v', e = .returned v' ∧ Bools w v' (cs.take n) ∧ v'.ownBlock = v.ownBlock ∧ w = w' := by
  have hv0 := hv
  obtain ⟨h1, p, cap, rfl, h2, h3, h4⟩ := hv0
  have hm : maxLen = 9223372036854775807 := rfl
  have hl : cs.length ≤ 9223372036854775807 := by omega
  clear h1 h4
  by_cases hlt : n < cs.length
  · have hcap : n ≤ cap := by omega
    go_enter Try.func12, Try.ntmps12
    go_wp2
    go_ret
    have e : (cs.take n).length = n := by rw [List.length_take]; omega
    have := hv.take n (by omega)
    rw [Nat.mul_one, ← List.map_take] at this
    refine ⟨Value.slice p n cap, rfl, ?_, by cases p <;> rfl, rfl⟩
    show Cells w (Value.slice p n cap) 1 (cs.take n).length _
    rw [e]; exact this
  · go_enter Try.func12, Try.ntmps12
    go_wp2
    go_ret
    exact ⟨_, rfl, by rw [List.take_of_length_le (by omega)]; exact hv, rfl, rfl⟩

/-- the same, the value's shape told -/
theorem few_sh (w : World) (v : Value) (cs : List Bool) (n : Nat) (hv : Bools w v cs) (hn : n ≤ 1000000) :
    Calls Try.prog 12 #[v, .int .i64 n] w fun e w' => ∃ p c, ∃ ds : List Bool, e = .returned (.slice p ds.length c) ∧ Bools w (.slice p ds.length c) ds ∧ ds.length ≤ n ∧ (∀ k, (Value.slice p ds.length c).ownBlock = some k → v.ownBlock = some k) ∧ Hid (ds = cs.take n) ∧ w = w' := by
  refine (few_any w v cs n hv hn).mono ?_
  rintro e w' ⟨v', rfl, h1, h2, rfl⟩
  obtain ⟨h3, p, cap, rfl, h4⟩ := id h1
  exact ⟨p, cap, cs.take n, rfl, h1, by rw [List.length_take]; omega, fun k hk => by rw [← h2]; exact hk, rfl, rfl⟩

set_option maxHeartbeats 400000 in
theorem clone_any (w : World) (v : Value) (cs : List Bool) (hv : Bools w v cs) (hn : cs.length ≤ 1048576) :
    Calls Try.prog 36 #[v] w fun e w' => ∃ p' c', e = .returned (.slice p' cs.length c') ∧ w'.ownsRow w.heap.size 4 1 (.slice p' cs.length c') cs.length (cs.map .bool) ∧ Same w w' := by
  have hv0 := hv
  obtain ⟨h1, p, cap, rfl, h2, h3, h4⟩ := hv0
  have hne := fun (w : World) a n c => Lib.run_eql_slice_nil (P := Try.prog) w 22 _ a n c 0 0 Try.underlying22
  have hm : maxLen = 9223372036854775807 := rfl
  rcases h4 with ⟨rfl, h0, rfl⟩ | ⟨b, o, rfl, hb, hc⟩
  · have : cs = [] := List.eq_nil_of_length_eq_zero h0
    subst this
    go_enter Try.func36, Try.ntmps36
    go_wp2
    go_ret
    exact ⟨none, 0, rfl, World.ownsRow_nil _ _ _ _, Ext.refl _ _⟩
  · clear h1 hc
    go_enter Try.func36, Try.ntmps36
    go_wp2_with (at_builtin; go_loud (refine wpList_append_cells rfl _ _ 22 rfl w.heap.size 4 (.bool false) 1 1 Try.underlying22 bool_info rfl (by decide) (.slice (some ⟨w.heap.size, 0, none⟩) 0 0) 0 [] rfl (World.ownsRow_lit w #[] 0 (Nat.le_refl _) (by omega) rfl) (.slice (some ⟨b, o, none⟩) cs.length cap) cs.length (cs.map .bool) rfl (hv.same ((Ext.refl _ _).alloc _)) (bools_oneCell _) (by omega) (by omega) (by simp) ?_))
    intro v' w1 hown hg
    obtain ⟨p', c', hv'⟩ := ownsRow_shape hown
    rw [hv'] at hown ⊢
    go_wp2
    go_ret
    exact ⟨p', c', rfl, hown, ((Ext.refl _ _).alloc _).grown hg (by intro k hk hlt; simp [Value.ownBlock] at hk; omega)⟩

/-- New: a new block, of a copy of the coins. -/
theorem new_any (w : World) (v : Value) (cs : List Bool) (hv : Bools w v cs) :
    Calls Try.prog 13 #[v] w fun e w' => ∃ b v', e = .returned (.pointer (some ⟨b, 0, none⟩)) ∧ w.heap.size ≤ b ∧ (∀ k, v'.ownBlock = some k → w.heap.size ≤ k) ∧ TapeAt w' b v' (cs.take 1048576) 0 false ∧ Same w w' := by
  have hv0 := hv
  obtain ⟨h1, p, cap, rfl, h2, h3, h4⟩ := hv0
  clear h1 h4
  have hm : maxLen = 9223372036854775807 := rfl
  have hl : cs.length ≤ 9223372036854775807 := by omega
  by_cases hlt : 1048576 < cs.length
  · have hcap : 1048576 ≤ cap := by omega
    have hcut : Bools w (Value.slice p 1048576 cap) (cs.take 1048576) := by
      have := hv.take 1048576 (by omega)
      rw [Nat.mul_one, ← List.map_take] at this
      show Cells w _ 1 (cs.take 1048576).length _
      rw [show (cs.take 1048576).length = 1048576 by rw [List.length_take]; omega]
      exact this
    have hlen : (cs.take 1048576).length ≤ 1048576 := by rw [List.length_take]; omega
    generalize cs.take 1048576 = ds at *
    go_enter Try.func13, Try.ntmps13
    go_wp2_with fail
    refine (clone_any _ _ _ hcut hlen).mono ?_
    rintro e w1 ⟨p1, c1, rfl, hown, hs⟩
    go_wp2
    go_ret
    exact ⟨w1.heap.size, _, rfl, hs.size, fun k hk => (hown.lt k hk).1, TapeAt.made (k := 0) hown (Nat.zero_le _) hlen, hs.alloc _⟩
  · have hcut : cs.take 1048576 = cs := List.take_of_length_le (by omega)
    have H := Lib.hid hcut
    clear hcut
    have hlen : cs.length ≤ 1048576 := by omega
    go_enter Try.func13, Try.ntmps13
    go_wp2_with fail
    refine (clone_any _ _ _ hv hlen).mono ?_
    rintro e w1 ⟨p1, c1, rfl, hown, hs⟩
    go_wp2
    go_ret
    exact ⟨w1.heap.size, _, rfl, hs.size, fun k hk => (hown.lt k hk).1, by rw [H.out]; exact TapeAt.made (k := 0) hown (Nat.zero_le _) hlen, hs.alloc _⟩

/-- Flip: the next coin. -/
theorem flip_ok (w : World) (b : Nat) (v : Value) (cs : List Bool) (k : Nat) (h : TapeAt w b v cs k false) (hk : k < cs.length) :
    Calls Try.prog 14 #[.pointer (some ⟨b, 0, none⟩)] w fun e w' => e = .returned (.tuple #[.bool (cs.getD k false), .int .i64 0]) ∧ TapeAt w' b v cs (k + 1) false ∧ Ext (· = b) w w' := by
  have h0 := h
  obtain ⟨h1, h2, h3, h4, h5⟩ := h0
  obtain ⟨c0, c1, c2, f0, f1⟩ := h.cells
  have h2' := h2
  obtain ⟨h6, p, cap, rfl, h7, h8, h9⟩ := h2'
  rcases h9 with ⟨rfl, h0, rfl⟩ | ⟨bb, o, rfl, hb, hc⟩
  · omega
  have hcell : w.cell? ⟨bb, o + k, none⟩ = some (.bool (cs.getD k false)) := hc k _ (by simp [hk])
  have hne : bb ≠ b := by intro e; apply h3; simp [Value.ownBlock, e]
  clear hc h6 h1 h2
  generalize cs.getD k false = x at *
  go_enter Try.func14, Try.ntmps14
  go_wp2_with fail
  go_quiet (fail)
  go_wp2
  obtain ⟨h', he⟩ := (h.drewN nq).set0 (k + 1) (by omega)
  have he' : Ext (· = b) w _ := ((Ext.refl _ w).drewN nq).trans he (fun _ _ h => h)
  rw [show ((k + 1 : Nat) : Int) = (k : Int) + 1 by omega] at h' he'
  clear he
  have hcell' := he'.cell (p := ⟨bb, o + k, none⟩) hb hne
  rw [hcell] at hcell'
  generalize (w.drewN nq).setCell { block := b, off := 0 } (Value.int IntKind.i64 (↑k + 1)) = w2 at *
  clear h c0 c1 c2 f0 f1 hcell
  obtain ⟨c0, c1, c2, f0, f1⟩ := h'.cells
  rw [show ((k + 1 : Nat) : Int) = (k : Int) + 1 by omega] at c0
  go_quiet (fail)
  go_wp2
  go_ret2
  exact ⟨rfl, h'.drewN _, he'.drewN _⟩

theorem flip_bit (w : World) (b : Nat) (v : Value) (cs : List Bool) (k : Nat) (h : TapeAt w b v cs k false) (hk : k < cs.length) (x : Bool) (hx : Hid (cs.getD k false = x)) :
    Calls Try.prog 14 #[.pointer (some ⟨b, 0, none⟩)] w fun e w' => e = .returned (.tuple #[.bool x, .int .i64 0]) ∧ TapeAt w' b v cs (k + 1) false ∧ Ext (· = b) w w' := by
  have := flip_ok w b v cs k h hk
  rwa [hx.out] at this

theorem flip_no (w : World) (b : Nat) (v : Value) (cs : List Bool) (k : Nat) (d : Bool) (h : TapeAt w b v cs k d) (hk : d = true ∨ k = cs.length) :
    Calls Try.prog 14 #[.pointer (some ⟨b, 0, none⟩)] w fun e w' => e = .returned (.tuple #[.bool false, .int .i64 8]) ∧ TapeAt w' b v cs k true ∧ Ext (· = b) w w' := by
  have h0 := h
  obtain ⟨h1, h2, h3, h4, h5⟩ := h0
  obtain ⟨c0, c1, c2, f0, f1⟩ := h.cells
  have h2' := h2
  obtain ⟨h6, p, cap, rfl, h7, h8, h9⟩ := h2'
  clear h1 h2 h3 h6 h9
  cases d with
  | true =>
    clear hk
    go_enter Try.func14, Try.ntmps14
    go_wp2_with fail
    go_quiet (fail)
    go_wp2
    go_ret2
    obtain ⟨h', he⟩ := (h.drewN nq).set1 true
    exact ⟨rfl, h', ((Ext.refl _ w).drewN nq).trans he (fun _ _ h => h)⟩
  | false =>
    obtain hk := hk.resolve_left (by simp)
    have hb : ((k : Int) == (cs.length : Int)) = true := by rw [beq_iff_eq]; omega
    clear hk
    go_enter Try.func14, Try.ntmps14
    go_wp2_with fail
    go_quiet (fail)
    go_wp2
    go_ret2
    obtain ⟨h', he⟩ := (h.drewN nq).set1 true
    exact ⟨rfl, h', ((Ext.refl _ w).drewN nq).trans he (fun _ _ h => h)⟩

/-- the i-th flip from the beginning -/
theorem flip_run (w : World) (b : Nat) (v : Value) (cs : List Bool) (i : Nat) (h : TapeRun w b v cs i) (x : Bool) (hx : Hid (cs.getD i false = x)) :
    Calls Try.prog 14 #[.pointer (some ⟨b, 0, none⟩)] w fun e w' => (∃ z : Int, e = .returned (.tuple #[.bool x, .int .i64 z]) ∧ Hid (z = if i < cs.length then 0 else 8)) ∧ TapeRun w' b v cs (i + 1) ∧ Ext (· = b) w w' := by
  by_cases hi : i < cs.length
  · refine (flip_bit w b v cs i (h.live (by omega)) hi x hx).mono ?_
    rintro e w' ⟨rfl, h1, h2⟩
    exact ⟨⟨0, rfl, by show _ = _; rw [if_pos hi]⟩, TapeRun.on h1 hi, h2⟩
  · have hx' : x = false := by have := hx.out; rw [← this]; simp [List.getD, List.getElem?_eq_none (show cs.length ≤ i by omega)]
    subst hx'
    refine (flip_no w b v cs _ _ h (by rcases Nat.lt_or_ge cs.length i with h | h; exact .inl (by simpa using h); exact .inr (by omega))).mono ?_
    rintro e w' ⟨rfl, h1, h2⟩
    exact ⟨⟨8, rfl, by show _ = _; rw [if_neg hi]⟩, TapeRun.off h1 (by omega), h2⟩

theorem dead_any (w : World) (b : Nat) (v : Value) (cs : List Bool) (k : Nat) (d : Bool) (h : TapeAt w b v cs k d) :
    Calls Try.prog 15 #[.pointer (some ⟨b, 0, none⟩)] w fun e w' => e = .returned (.bool d) ∧ w = w' := by
  obtain ⟨c0, c1, c2, f0, f1⟩ := h.cells
  go_enter Try.func15, Try.ntmps15
  go_wp2
  go_ret
  exact ⟨rfl, rfl⟩

theorem read_any (w : World) (b : Nat) (v : Value) (cs : List Bool) (k : Nat) (d : Bool) (h : TapeAt w b v cs k d) :
    Calls Try.prog 16 #[.pointer (some ⟨b, 0, none⟩)] w fun e w' => e = .returned (.int .i64 k) ∧ w = w' := by
  obtain ⟨c0, c1, c2, f0, f1⟩ := h.cells
  go_enter Try.func16, Try.ntmps16
  go_wp2
  go_ret
  exact ⟨rfl, rfl⟩

end Go.Proofs.Ytfcamaiehepinaa
