/- Package nat, walked: what the smaller ones do. -/
import Derived.Test.YtfcamaiehepinaaWordsM
import Derived.Test.YtfcamaiehepinaaMem
import Derived.Test.YtfcamaiehepinaaProg
import Derived.Laws.Bits64b
import Derived.Deep.DeepCutAuto
import Derived.Deep.RegionHeld3
namespace Go.Proofs.Ytfcamaiehepinaa
open Go.RowKit
set_option linter.unusedSimpArgs false
set_option linter.unusedVariables false

/-- A slice of words. -/
abbrev Words (w : World) (v : Value) (ws : List Nat) : Prop := Cells w v 1 ws.length (ws.map fun x : Nat => .int .u64 x)

/-- A number: its words. -/
def NatAt (w : World) (p : Option Addr) (k c : Nat) (n : Nat) : Prop := ∃ ws : List Nat, ws.length = k ∧ small ws ∧ top1 ws ∧ wval ws = n ∧ Words w (.slice p ws.length c) ws

theorem NatAt.ext {S : Nat → Prop} {w w' : World} {p : Option Addr} {k c n : Nat} (h : NatAt w p k c n) (e : Ext S w w') (hn : ∀ b, (Value.slice p k c).ownBlock = some b → ¬ S b) : NatAt w' p k c n := by
  obtain ⟨ws, h1, h2, h3, h4, h5⟩ := h
  subst h1
  exact ⟨ws, rfl, h2, h3, h4, h5.ext e hn⟩
theorem NatAt.same {w w' : World} {p : Option Addr} {k c n : Nat} (h : NatAt w p k c n) (e : Same w w') : NatAt w' p k c n := h.ext e (fun _ _ h => h)
theorem NatAt.zero_iff {w : World} {p : Option Addr} {k c n : Nat} (h : NatAt w p k c n) : k = 0 ↔ n = 0 := by
  obtain ⟨ws, rfl, h2, h3, rfl, _⟩ := h
  constructor
  · intro h; rw [List.eq_nil_of_length_eq_zero h]; rfl
  · intro h; rw [top1_zero h2 h3 h]; rfl

theorem NatAt.le {w : World} {p : Option Addr} {k c n : Nat} (h : NatAt w p k c n) {m : Nat} (hn : n < 18446744073709551616 ^ m) : k ≤ m := by
  obtain ⟨ws, rfl, h2, h3, rfl, _⟩ := h
  exact words_le h3 hn

theorem word_info : (Try.prog.info? 96).map (fun i => (i.zero, i.size, i.bytes)) = some (some (Value.int .u64 0), 1, 8) := by kernel_rfl

theorem words_oneCell (ws : List Nat) : ∀ u ∈ ws.map (fun x : Nat => Value.int .u64 x), u.oneCell' = true := by
  intro u hu
  obtain ⟨_, _, rfl⟩ := List.mem_map.1 hu
  rfl

theorem word_cell {w : World} {p : Option Addr} {c : Nat} {ws : List Nat} (h : Words w (.slice p ws.length c) ws) {k : Nat} (hk : k < ws.length) :
    ∃ b o, p = some ⟨b, o, none⟩ ∧ b < w.heap.size ∧ w.cell? ⟨b, o + k, none⟩ = some (.int .u64 (ws.getD k 0 : Nat)) := by
  obtain ⟨_, q, cap, he, _, _, h4⟩ := h
  simp at he
  obtain ⟨rfl, rfl⟩ := he
  rcases h4 with ⟨_, h4, _⟩ | ⟨bb, o, h4, hlt, hc⟩
  · omega
  · refine ⟨bb, o, h4, hlt, hc k _ ?_⟩
    rw [List.getElem?_map, List.getElem?_eq_getElem hk]
    simp [List.getD, List.getElem?_eq_getElem hk]

theorem clone64_any (w : World) (p : Option Addr) (c : Nat) (ws : List Nat) (hv : Words w (.slice p ws.length c) ws) (hn : ws.length ≤ 1048576) :
    Calls Try.prog 57 #[.slice p ws.length c] w fun e w' => ∃ p' c', e = .returned (.slice p' ws.length c') ∧ w'.ownsRow w.heap.size 96 1 (.slice p' ws.length c') ws.length (ws.map fun x : Nat => .int .u64 x) ∧ Same w w' := by
  have hv0 := hv
  obtain ⟨h1, p1, cap, he, h2, h3, h4⟩ := hv0
  simp at he
  obtain ⟨rfl, rfl⟩ := he
  have hne := fun (w : World) a n c => Lib.run_eql_slice_nil (P := Try.prog) w 86 _ a n c 0 0 Try.underlying86
  have hm : maxLen = 9223372036854775807 := rfl
  rcases h4 with ⟨rfl, h0, rfl⟩ | ⟨b, o, rfl, hb, hc⟩
  · have : ws = [] := List.eq_nil_of_length_eq_zero h0
    subst this
    go_enter Try.func57, Try.ntmps57
    go_wp2
    go_ret
    exact ⟨none, 0, rfl, World.ownsRow_nil _ _ _ _, Ext.refl _ _⟩
  · clear h1 hc
    go_enter Try.func57, Try.ntmps57
    go_wp2_with (at_builtin; go_loud (refine wpList_append_cells rfl _ _ 86 rfl w.heap.size 96 (.int .u64 0) 1 8 Try.underlying86 word_info rfl (by decide) (.slice (some ⟨w.heap.size, 0, none⟩) 0 0) 0 [] rfl (World.ownsRow_lit w #[] 0 (Nat.le_refl _) (by omega) rfl) (.slice (some ⟨b, o, none⟩) ws.length c) ws.length (ws.map fun x : Nat => .int .u64 x) rfl (hv.same ((Ext.refl _ _).alloc _)) (words_oneCell _) (by omega) (by omega) (by simp) ?_))
    intro v' w1 hown hg
    obtain ⟨p', c', hv'⟩ := ownsRow_shape hown
    rw [hv'] at hown ⊢
    go_wp2
    go_ret
    exact ⟨p', c', rfl, by simpa using hown, ((Ext.refl _ _).alloc _).grown hg (by intro k hk hlt; simp [Value.ownBlock] at hk; omega)⟩

theorem trimmed_any (w : World) (p : Option Addr) (c : Nat) (ws : List Nat) (h : Words w (.slice p ws.length c) ws) (hs : small ws) :
    Calls Try.prog 55 #[.slice p ws.length c] w fun e w' => ∃ k, e = .returned (.agg #[.slice p k c]) ∧ NatAt w' p k c (wval ws) ∧ Same w w' := by
  have hl := h.len
  have hm : maxLen = 9223372036854775807 := rfl
  have hcl : ws.length ≤ c ∧ c ≤ maxLen := by
    obtain ⟨_, q, cap, he, h2, h3, _⟩ := h
    simp at he
    obtain ⟨_, rfl⟩ := he
    exact ⟨h2, h3⟩
  go_enter Try.func55, Try.ntmps55
  go_wp2_with fail
  go_loopw [3] (fun s wr => ∃ m : Nat, s = .int .i64 m ∧ m ≤ ws.length ∧ Hid (trimN ws m = trimN ws ws.length) ∧ wr = w.alloc (.cells #[.slice none 0 0] 88)) (fun s _ => (intOf s).toNat)
  case atStart => exact ⟨ws.length, rfl, Nat.le_refl _, rfl, rfl⟩
  case round =>
    obtain ⟨m, rfl, hm2, Hm, rfl⟩ := hrel
    have fin : ∀ k, k = trimN ws ws.length → NatAt w p k c (wval ws) := by
      rintro k rfl
      have hle := trimN_le ws ws.length
      have hlen : (ws.take (trimN ws ws.length)).length = trimN ws ws.length := by rw [List.length_take]; omega
      refine ⟨ws.take (trimN ws ws.length), hlen, hs.take _, trimN_top ws _ (Nat.le_refl _), by rw [trimN_val _ _ (Nat.le_refl _), List.take_length], ?_⟩
      have := h.take _ hle
      rw [Nat.mul_one, ← List.map_take] at this
      unfold Words
      rw [hlen]
      exact this
    cases m with
    | zero =>
      go_wp2
      exact bodyPost_ret (v := .agg #[.slice p 0 c]) (by simp [results, Try.results55, go_sem]) rfl ⟨0, rfl, (fin 0 Hm.out).same (by simp [ext_s]), by simp [ext_s]⟩
    | succ m =>
      obtain ⟨b, o, rfl, hb, hc⟩ := word_cell h (show m < ws.length by omega)
      have hc' : (w.alloc (.cells #[.slice none 0 0] 88)).cell? ⟨b, o + m, none⟩ = some (.int .u64 (ws.getD m 0 : Nat)) := by rw [World.cell?_alloc_lt _ _ _ hb]; exact hc
      by_cases h0 : ws.getD m 0 = 0
      · rw [h0] at hc'
        have Hm' : Hid (trimN ws m = trimN ws ws.length) := by have := Hm.out; rw [trimN, if_pos h0] at this; exact this
        clear Hm fin
        go_wp2
        go_roundw
        case rel => exact ⟨m, by go_num, by omega, Hm', trivial⟩
        case measure => simp [intOf]
      · have hk : m + 1 = trimN ws ws.length := by have := Hm.out; rw [trimN, if_neg h0] at this; exact this
        have := fin _ hk
        obtain ⟨x, hx⟩ : ∃ x : Nat, ws.getD m 0 = x := ⟨_, rfl⟩
        rw [hx] at hc' h0
        clear hk fin Hm
        go_wp2
        exact bodyPost_ret (v := .agg #[.slice (some ⟨b, o, none⟩) (m + 1) c]) (by simp [results, Try.results55, go_sem]) rfl ⟨m + 1, rfl, this.same (by simp [ext_s]), by simp [ext_s]⟩

theorem zero_any (w : World) (p : Option Addr) (k c n : Nat) (h : NatAt w p k c n) :
    Calls Try.prog 54 #[.agg #[.slice p k c]] w fun e w' => e = .returned (.bool (n == 0)) ∧ Same w w' := by
  have hz := h.zero_iff
  have e : ((k : Int) == 0) = (n == 0) := by rw [Bool.eq_iff_iff]; simp [hz]
  clear hz
  go_enter Try.func54, Try.ntmps54
  go_wp2
  go_ret
  exact ⟨by simp [e], by simp [ext_s]⟩

set_option maxRecDepth 100000 in
theorem moved_any (w : World) (p : Option Addr) (c : Nat) (ws : List Nat) (y : Nat) (h : Words w (.slice p ws.length c) ws) (hs : small ws) (hy : y < 64) (hl : ws.length ≤ 1000000) :
    Calls Try.prog 56 #[.slice p ws.length c, .int .i64 y] w fun e w' => ∃ b c', e = .returned (.slice (some ⟨b, 0, none⟩) (ws.length + 1) c') ∧ Words w' (.slice (some ⟨b, 0, none⟩) (ws.length + 1) c') (movedL y 0 ws) ∧ Same w w' := by
  have hm : maxLen = 9223372036854775807 := rfl
  obtain ⟨n, hn⟩ : ∃ n, n = ws.length := ⟨_, rfl⟩
  go_enter Try.func56, Try.ntmps56
  obtain ⟨i0, hi, hz0, hz1, hz2⟩ := info_parts word_info
  go_wp2_with (at_make; go_loud (refine wpList_make_full _ rfl _ _ 86 rfl w.heap.size 96 i0 (.int .u64 0) 1 Try.underlying86 hi hz0 hz1 .i64 .i64 _ _ (ws.length + 1) rfl rfl (by simp) (by simp) (by rw [hz2]; omega) (by unfold maxLen; omega) (Nat.le_refl _) ?_))
  intro w1 hown hg
  have hs1 : Same w w1 := (Ext.refl _ w).grown hg (fun k hk => by cases hk)
  have hown1 : w1.ownsRow w.heap.size 96 1 (.slice (some ⟨w.heap.size, 0, none⟩) (ws.length + 1) (ws.length + 1)) (ws.length + 1) ((movedB y 0 (ws.take 0) ++ movedC y 0 (ws.take 0) :: List.replicate (ws.length - 0) 0).map fun x : Nat => Value.int .u64 x) := by
    have e : (madeCells #[Value.int .u64 0] (ws.length + 1)).toList = ((movedB y 0 (ws.take 0) ++ movedC y 0 (ws.take 0) :: List.replicate (ws.length - 0) 0).map fun x : Nat => Value.int .u64 x) := by
      show (madeCells #[Value.int .u64 0] (ws.length + 1)).toList = _
      rw [toList_madeCells_one]
      simp [movedB, movedC, List.replicate_succ]
    rw [← e]; simpa using hown
  clear hown hg hi hz0 hz1 hz2
  go_wp2_with fail
  go_loopw [14] (fun s wr => ∃ i : Nat, i ≤ ws.length ∧ s = .int .i64 i ∧ wr.ownsRow w.heap.size 96 1 (.slice (some ⟨w.heap.size, 0, none⟩) (ws.length + 1) (ws.length + 1)) (ws.length + 1) ((movedB y 0 (ws.take i) ++ movedC y 0 (ws.take i) :: List.replicate (ws.length - i) 0).map fun x : Nat => Value.int .u64 x) ∧ Same w wr) (fun s _ => ws.length - (intOf s).toNat)
  case atStart => exact ⟨0, Nat.zero_le _, rfl, hown1, hs1⟩
  case round =>
    obtain ⟨i, hi, rfl, hown, hs'⟩ := hrel
    clear hown1 hs1
    by_cases him : i < ws.length
    · obtain ⟨b, o, rfl, hb, hc⟩ := word_cell h him
      replace hc := hs'.keepS hc
      obtain ⟨x, hx⟩ : ∃ x : Nat, ws.getD i 0 = x := ⟨_, rfl⟩
      have hxs : x < 18446744073709551616 := by rw [← hx]; exact hs _ (by simp [List.getD, him])
      rw [hx] at hc
      have hc0 := hown.cellAt i (by omega)
      have hc1 := hown.cellAt (i + 1) (by omega)
      have hf0 := hown.frozenAt i
      have hf1 := hown.frozenAt (i + 1)
      have hl0 : (movedB y 0 (ws.take i)).length = i := by rw [movedB_len, List.length_take]; omega
      obtain ⟨r, hr⟩ : ∃ r, ws.length - i = r + 1 := ⟨ws.length - i - 1, by omega⟩
      rw [hr, List.replicate_succ] at hown hc0 hc1
      rw [List.getElem?_map, List.getElem?_append_right (by omega), hl0, Nat.sub_self] at hc0
      rw [List.getElem?_map, List.getElem?_append_right (by omega), hl0, Nat.add_sub_cancel_left] at hc1
      simp at hc0 hc1
      obtain ⟨c0, hc0'⟩ : ∃ c0, movedC y 0 (ws.take i) = c0 := ⟨_, rfl⟩
      have hcl : c0 < 2 ^ y := by rw [← hc0']; exact movedC_lt (hs.take _) (Nat.pow_pos (by decide))
      rw [hc0'] at hc0
      replace hown := Lib.hid hown
      replace hc0' := Lib.hid hc0'
      replace hx := Lib.hid hx
      replace hr := Lib.hid hr
      clear hb h hn
      have hor : bits BinOp.or IntKind.u64 (c0 : Int) (IntKind.u64.wrap ((x : Int) * 2 ^ y)) = (((x * 2 ^ y) % 18446744073709551616 + c0 : Nat) : Int) := by
        rw [show IntKind.u64.wrap ((x : Int) * 2 ^ y) = (((x * 2 ^ y) % 18446744073709551616 : Nat) : Int) by rw [IntKind.wrap_u64, Int.natCast_emod, Int.natCast_mul, Int.natCast_pow]; rfl, bits_or_u64_nat _ _ (Nat.lt_of_lt_of_le hcl (by rw [show (18446744073709551616 : Nat) = 2 ^ 64 by decide]; exact Nat.pow_le_pow_right (by decide) (by omega))) (Nat.mod_lt _ (by decide)), or_moved hy hcl]
      go_wp2_with fail
      go_region
      go_wp2_with fail
      have h1 := (hown.out.stored i (.int .u64 ((x * 2 ^ y % 18446744073709551616 + c0 : Nat) : Int))).1
      have h2 := (h1.stored (i + 1) (.int .u64 ((x / 2 ^ (64 - y) : Nat) : Int))).1
      have e1 : ((x * 2 ^ y % 18446744073709551616 + c0 : Nat) : Int) = (x : Int) * 2 ^ y % 18446744073709551616 + c0 := by rw [Int.natCast_add, Int.natCast_emod, Int.natCast_mul, Int.natCast_pow]; rfl
      have e2 : ((x / 2 ^ (64 - y) : Nat) : Int) = (x : Int) / 2 ^ (64 - y) := by rw [Int.natCast_ediv, Int.natCast_pow]; rfl
      have e3 : (((movedB y 0 (ws.take i) ++ movedC y 0 (ws.take i) :: 0 :: List.replicate r 0).map fun x : Nat => Value.int .u64 x).set i (.int .u64 ((x * 2 ^ y % 18446744073709551616 + c0 : Nat) : Int))).set (i + 1) (.int .u64 ((x / 2 ^ (64 - y) : Nat) : Int)) = (movedB y 0 (ws.take (i + 1)) ++ movedC y 0 (ws.take (i + 1)) :: List.replicate (ws.length - (i + 1)) 0).map fun x : Nat => Value.int .u64 x := by
        rw [take_succ_getD _ _ him, hx.out, movedB_snoc, movedC_snoc, hc0'.out, moved_div (by omega), show ws.length - (i + 1) = r by have := hr.out; omega]
        rw [← List.map_set, ← List.map_set, List.set_append_right _ _ (by omega), hl0, Nat.sub_self, List.set_cons_zero, List.set_append_right _ _ (by omega), hl0, Nat.add_sub_cancel_left, List.set_cons_succ, List.set_cons_zero]
        simp
      rw [e3] at h2
      rw [e1, e2] at h2
      exact ⟨⟨i + 1, him, by go_num, ownsRow_ext h2 ((Ext.refl (fun _ => False) _).drew) (fun _ _ h => h), Ext.drew (Ext.setCell (Ext.setCell hs' (p := ⟨w.heap.size, i, none⟩) (fun h => by simp at h) _) (p := ⟨w.heap.size, i + 1, none⟩) (fun h => by simp at h) _)⟩, by simp [intOf]; omega⟩
    · obtain rfl : i = ws.length := by omega
      rw [List.take_length, Nat.sub_self, List.replicate_zero, ← movedL_eq] at hown
      clear h hn
      have hfin : Words wr (.slice (some ⟨w.heap.size, 0, none⟩) (ws.length + 1) (ws.length + 1)) (movedL y 0 ws) := by
        have := Cells.ofOwn hown
        unfold Words
        rw [movedL_len]
        exact this
      clear hown
      go_wp2
      go_ret
      exact ⟨_, _, rfl, hfin, hs'⟩

theorem of_any (w : World) (p : Option Addr) (c : Nat) (ws : List Nat) (h : Words w (.slice p ws.length c) ws) (hs : small ws) (hl : ws.length ≤ 1048576) :
    Calls Try.prog 53 #[.slice p ws.length c] w fun e w' => ∃ p' k c', e = .returned (.agg #[.slice p' k c']) ∧ NatAt w' p' k c' (wval ws) ∧ (∀ b, (Value.slice p' k c').ownBlock = some b → w.heap.size ≤ b) ∧ Same w w' := by
  go_enter Try.func53, Try.ntmps53
  go_wp2_with fail
  refine (clone64_any _ p c ws (h.same (by simp [ext_s])) hl).mono ?_
  rintro e w1 ⟨p1, c1, rfl, hown, hs1⟩
  have m1 := hs1.read [(w.heap.size, 1)] (by simp)
  simp [Reads, SameN, go_sem] at m1
  have hs2 : Same w w1 := hs1.to (by simp [ext_s])
  have hk1 : ∀ k b, (Value.slice p1 k c1).ownBlock = some b → w.heap.size < b := fun k b hb => by
    have := (hown.lt b (by cases p1 with | none => exact hb | some a => exact hb)).1
    simp at this
    omega
  clear hs1
  go_wp2_with fail
  refine (trimmed_any _ p1 c1 ws (Cells.ofOwn hown) hs).mono ?_
  rintro e w2 ⟨k, rfl, hn, hs3⟩
  have m2 := hs3.read [(w.heap.size, 1)] (by simp [m1])
  simp [Reads, SameN, go_sem, m1] at m2
  replace hs2 := hs2.same hs3
  clear m1 hown
  go_wp2
  exact bodyPost_ret (v := .agg #[.slice p1 k c1]) (by simp [results, Try.results53, go_sem, m2]) rfl ⟨p1, k, c1, rfl, hn.ext (S := (· = w.heap.size)) (by simp [ext_s]) (fun b hb e => by have := hk1 k b hb; have : b = w.heap.size := e; omega), fun b hb => Nat.le_of_lt (hk1 k b hb), by simp [ext_s, hs2]⟩

theorem int_any (w : World) (p : Option Addr) (k c n : Nat) (most : Nat) (h : NatAt w p k c n) (hm : most ≤ 4611686018427387904) (hm0 : 0 < most) :
    Calls Try.prog 48 #[.agg #[.slice p k c], .int .i64 most] w fun e w' => e = .returned (.int .i64 (min n most : Nat)) ∧ Same w w' := by
  obtain ⟨ws, rfl, h2, h3, rfl, h5⟩ := h
  have hml : maxLen = 9223372036854775807 := rfl
  have hl := h5.len
  have hm0' : ¬ (most : Int) ≤ 0 := by omega
  rcases ws with _ | ⟨x, _ | ⟨y, l⟩⟩
  · go_enter Try.func48, Try.ntmps48
    go_wp2
    go_ret
    exact ⟨by simp [wval], by simp [ext_s]⟩
  · have hx := h2 x (by simp)
    obtain ⟨b, o, rfl, hb, hc⟩ := word_cell h5 (show 0 < [x].length by simp)
    simp at hc
    have hw : IntKind.u64.wrap (most : Int) = most := by rw [IntKind.wrap_u64]; omega
    have e : wval [x] = x := by simp [wval]
    rw [e]
    have hx0 : 0 < x := Nat.pos_of_ne_zero (by have := h3 0 rfl; simpa using this)
    by_cases hxm : most < x
    · rw [Nat.min_eq_right (Nat.le_of_lt hxm)]
      clear h5 h2 h3 hl hml e
      go_enter Try.func48, Try.ntmps48
      go_wp2
      go_ret
      exact ⟨rfl, by simp [ext_s]⟩
    · rw [Nat.min_eq_left (by omega)]
      clear h5 h2 h3 hl hml e
      go_enter Try.func48, Try.ntmps48
      go_wp2
      go_ret
      exact ⟨rfl, by simp [ext_s]⟩
  · have hbig : most ≤ wval (x :: y :: l) := by
      have h4 : 18446744073709551616 ≤ wval (x :: y :: l) := by
        rw [wval]
        have : wval (y :: l) ≠ 0 := fun h0 => by
          have := top1_zero (ws := y :: l) (fun z hz => h2 z (by simp [hz])) (fun k hk => by have := h3 (k + 1) (by simp [hk]); simpa using this) h0
          simp at this
        omega
      omega
    rw [Nat.min_eq_right hbig]
    have hl1 : ¬ (((l.length + 1 + 1 : Nat) : Int) ≤ 1) := by omega
    clear h5 h2 h3 hbig
    simp only [List.length_cons] at hl ⊢
    generalize l.length = n at *
    go_enter Try.func48, Try.ntmps48
    go_wp2
    all_goals go_ret
    all_goals exact ⟨rfl, by simp [ext_s]⟩

end Go.Proofs.Ytfcamaiehepinaa
