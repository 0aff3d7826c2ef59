/- Package nat: Shl, of less than a word; thin's Value. -/
import Derived.Test.YtfcamaiehepinaaNat
import Derived.Test.YtfcamaiehepinaaThinE
namespace Go.Proofs.Ytfcamaiehepinaa
open Go.RowKit
set_option linter.unusedSimpArgs false
set_option linter.unusedVariables false

theorem oper_append_cells {P : Program} {w : World} {o : Oper} {a : Act} {K : Act → World → Prop} {Q : Exit → Act → World → Prop} (s x : Operand) (t : TypeId)
    (ho : o.op = .call { callee := .builtin .append, args := #[s, x], argTypes := #[t, t] })
    (base : Nat) (e : TypeId) (z : Value) (size bytes : Nat) (ht : P.underlying t = some (.slice e)) (hinf : (P.info? e).map (fun i => (i.zero, i.size, i.bytes)) = some (some z, size, bytes))
    (hzs : z.cells.size = size) (hsz : 0 < size)
    (v : Value) (n : Nat) (xs : List Value) (hs : a.eval s = v) (hown : w.ownsRow base e size v n xs)
    (u : Value) (m : Nat) (news : List Value) (hx : a.eval x = u) (hu : Cells w u size m news) (h1 : ∀ u ∈ news, u.oneCell' = true)
    (h63 : n + m ≤ maxLen) (hbytes : (n + m) * bytes ≤ 140737488355328) (hbase : base ≤ w.heap.size)
    (h : ∀ p' c' w', w'.ownsRow base e size (.slice p' (n + m) c') (n + m) (xs ++ news) → w.grownBy w' v.ownBlock → K (a.put o.dst (.slice p' (n + m) c')) w') : Oper.wp P o a w K Q := by
  obtain ⟨i, hi, hz, hsize, hby⟩ := info_parts hinf
  obtain ⟨v', w', hrun, r1, r2⟩ := run_append_cells (P := P) w base t o.type e i z size bytes ht hi hz hsize hby hzs hsz v n xs hown u m news hu h1 h63 hbytes hbase
  obtain ⟨p', c', rfl⟩ := ownsRow_shape r1
  unfold Oper.wp
  simp [execOp, ho, resolve, invoke, builtin, hs, hx, hrun, Result.andThen]
  exact h _ _ _ r1 r2

theorem Ext.grownS {S : Nat → Prop} {a b c : World} {g n q : Nat} (h : Ext S a b) (hg : b.grownBy c (Value.slice (some ⟨g, 0, none⟩) n q).ownBlock) (hr : a.heap.size ≤ g) : Ext S a c := h.grown hg (fun k hk hlt => by simp [Value.ownBlock] at hk; omega)

theorem made_words (q : Nat) : (madeCells #[Value.int .u64 0] q).toList = (List.replicate q 0).map fun x : Nat => Value.int .u64 x := by
  rw [toList_madeCells_one]
  simp

theorem shl_val (q y : Nat) (ws : List Nat) : wval (List.replicate q 0 ++ movedL y 0 ws) = wval ws * 2 ^ (64 * q + y) := by
  rw [wval_append, wval_zeros, List.length_replicate, movedL_val, Nat.zero_add, Nat.add_zero, Nat.mul_left_comm, Nat.pow_add, show (18446744073709551616 : Nat) = 2 ^ 64 by decide, ← Nat.pow_mul]

set_option maxRecDepth 100000 in
theorem shl_any (w : World) (p : Option Addr) (k c n t : Nat) (h : NatAt w p k c n) (ht : t ≤ 8192) (hl : k ≤ 1000000) :
    Calls Try.prog 52 #[.agg #[.slice p k c], .int .i64 t] w fun e w' => ∃ p' k' c', e = .returned (.tuple #[.agg #[.slice p' k' c'], .int .i64 0]) ∧ NatAt w' p' k' c' (n * 2 ^ t) ∧ (∀ b, (Value.slice p' k' c').ownBlock = some b → w.heap.size ≤ b) ∧ Same w w' := by
  obtain ⟨ws, rfl, h2, h3, rfl, h5⟩ := h
  obtain ⟨q, hq⟩ : ∃ q, t / 64 = q := ⟨_, rfl⟩
  obtain ⟨y, hy⟩ : ∃ y, t % 64 = y := ⟨_, rfl⟩
  have hy64 : y < 64 := by omega
  have hq128 : q ≤ 128 := by omega
  have ety : 64 * q + y = t := by omega
  have t0 : (t : Int) / 64 = q := by omega
  have t1 : (t : Int).tdiv 64 = q := by rw [Int.tdiv_eq_ediv_of_nonneg (by omega)]; exact t0
  have t2 : (t : Int).tmod 64 = y := by rw [Int.tmod_eq_emod_of_nonneg (by omega)]; omega
  have t3 : (t : Int) % 64 = y := by omega
  have t4 : IntKind.i64.wrap (q : Int) = q := by rw [IntKind.wrap_i64]; omega
  have hml : maxLen = 9223372036854775807 := rfl
  have hl8 : ¬ (8192 : Int) < t := by omega
  have hmk : ∀ w' : World, Sem.run Try.prog (Instr.makeSlice 86 (.int .i64 (q : Int)) (.int .i64 (q : Int))) w' = .ok (.slice (some ⟨w'.heap.size, 0, none⟩) q q) (w'.alloc (.cells (madeCells #[.int .u64 0] q) 96)) := by
    intro w'
    obtain ⟨i, hi, hz, hsz, hb⟩ := info_parts word_info
    have := run_make (P := Try.prog) w' 86 96 i _ Try.underlying86 hi hz .i64 .i64 q q (by omega) (Int.le_refl _) (by rw [hb]; omega) (by omega)
    rw [hsz] at this
    simpa [Value.cells] using this
  go_enter Try.func52, Try.ntmps52
  go_wp2_with fail
  refine over_wp (w0 := w) (fun _ => False) [(w.heap.size, 1), (w.heap.size + 1, 1)] (by simp [ext_s]) (by simp; omega) ?_
  intro w1 hs1 m1 k1
  simp [Reads, SameN, go_sem] at m1
  have hw1 : Words w1 (.slice p ws.length c) ws := h5.same hs1
  clear k1 h5
  obtain ⟨R, hR⟩ : ∃ R, R = w.heap.size + 1 := ⟨_, rfl⟩
  obtain ⟨Q, hQ⟩ : ∃ Q, Q = w.heap.size := ⟨_, rfl⟩
  rw [← hR, ← hQ] at m1
  rw [← hR, ← hQ]
  have hQR : ¬ Q = R := by omega
  have hRw : w.heap.size ≤ R := by omega
  clear hR hQ
  have fin : ∀ (v : Value) (N : Nat) (w3 : World), w3.ownsRow w1.heap.size 96 1 v N ((madeCells #[Value.int .u64 0] q).toList ++ (movedL y 0 ws).map fun x : Nat => Value.int .u64 x) → Cells w3 v 1 N ((List.replicate q 0 ++ movedL y 0 ws).map fun x : Nat => Value.int .u64 x) := by
    intro v N w3 ho
    rw [made_words, ← List.map_append] at ho
    exact Cells.ofOwn ho
  have hNN : q + (ws.length + 1) = (List.replicate q 0 ++ movedL y 0 ws).length := by simp [movedL_len]
  have hsm : small (List.replicate q 0 ++ movedL y 0 ws) := by
    intro x hx
    rcases List.mem_append.1 hx with hx | hx
    · rw [List.eq_of_mem_replicate hx]; decide
    · exact movedL_small hy64 h2 (Nat.pow_pos (by decide)) x hx
  have hb1 : q + (ws.length + 1) ≤ maxLen := by omega
  have hb2 : (q + (ws.length + 1)) * 8 ≤ 140737488355328 := by omega
  have hqm : q ≤ maxLen := by omega
  have hsz1 : (madeCells #[Value.int .u64 0] q).size = q * 1 := by rw [size_madeCells, Nat.mul_one]
  have hm2 : (movedL y 0 ws).length = ws.length + 1 := movedL_len _ _ _
  have trimmed_arm : ∀ (p3 : Option Addr) (c3 : Nat) (w3 : World), w3.ownsRow w1.heap.size 96 1 (.slice p3 (q + (ws.length + 1)) c3) (q + (ws.length + 1)) ((madeCells #[Value.int .u64 0] q).toList ++ (movedL y 0 ws).map fun x : Nat => Value.int .u64 x) → Calls Try.prog 55 #[.slice p3 (q + (ws.length + 1)) c3] w3 fun e w' => ∃ k, e = .returned (.agg #[.slice p3 k c3]) ∧ NatAt w' p3 k c3 (wval ws * 2 ^ t) ∧ Same w3 w' := by
    intro p3 c3 w3 ho
    have h1 := fin _ _ _ ho
    rw [hNN] at h1 ⊢
    have := trimmed_any w3 p3 c3 _ h1 hsm
    rwa [shl_val, ety] at this
  have blk : ∀ (p3 : Option Addr) (n c3 : Nat) (w3 : World) (xs : List Value), w3.ownsRow w1.heap.size 96 1 (.slice p3 n c3) n xs → ∀ k b, (Value.slice p3 k c3).ownBlock = some b → w1.heap.size ≤ b := by
    intro p3 n c3 w3 xs ho k b hb
    exact (ho.lt b (by cases p3 with | none => exact hb | some a => exact hb)).1
  replace trimmed_arm := Lib.hid trimmed_arm
  replace blk := Lib.hid blk
  replace fin := Lib.hid fin
  replace hNN := Lib.hid hNN
  have all : ∀ w' : World, Ext (· = R) w1 w' → (w'.cell? ⟨Q, 0, none⟩ = some (.slice p ws.length c)) := by
    intro w' h
    have mm := h.read [(Q, 1)] (by simp [m1, hQR])
    simp [Reads, SameN, go_sem, m1, hQR] at mm
    simp [mm]
  replace all := Lib.hid all
  have k1 : Same w1 w1.drew := (Ext.refl _ w1).drew
  go_region_held3 (fun w' => w'.cell? ⟨Q, 0, none⟩ = some (.slice p ws.length c))
    ((refine all.out _ ?_; first | exact k1.ext | exact k1.ext.alloc _ | exact k2.ext | exact k2.ext.alloc _ | exact k3.ext | exact k4.ext | exact Ext.setCell (S := (· = R)) k4.ext (p := ⟨R, 0, none⟩) (fun _ => rfl) _))
    (first
      | (go_at_call 56; (first | refine (moved_any _ p c ws y (hw1.same k1) h2 hy64 hl).mono ?_ | refine (moved_any _ p c ws y (hw1.same (k1.alloc _)) h2 hy64 hl).mono ?_); rintro e w2 ⟨b2, c2, rfl, hw2, hs2⟩; have hw2' : Cells w2 (.slice (some ⟨b2, 0, none⟩) (ws.length + 1) c2) 1 (ws.length + 1) ((movedL y 0 ws).map fun x : Nat => .int .u64 x) := hm2 ▸ hw2; (first | have k2 : Same w1 w2 := hs2.to k1 | have k2 : Same w1 w2 := hs2.to (k1.alloc _)); first | (have ho2 := ownsRow_ext (World.ownsRow_lit (base := w1.heap.size) (e := 96) w1.drew (madeCells #[.int .u64 0] q) q (Nat.le_refl _) hqm hsz1) hs2 (fun _ _ h => h)) | skip)
      | (go_at_call 55; refine (trimmed_arm.out _ _ _ ho3).mono ?_; rintro e w4 ⟨k4', rfl, hn4, hs4⟩; have b4 := blk.out _ _ _ _ _ ho3; have k4 : Same w1 w4 := hs4.to k3; have m4 := k4.read [(R, 1)] (by simp [m1]); simp [Reads, SameN, go_sem, m1] at m4)
      | (rw [if_pos (by rfl)]; (first | refine oper_append_cells _ _ 86 rfl w1.heap.size 96 (.int .u64 0) 1 8 Try.underlying86 word_info rfl (by decide) _ q _ rfl ho2 (.slice (some ⟨b2, 0, none⟩) (ws.length + 1) c2) (ws.length + 1) _ rfl hw2' (words_oneCell _) hb1 hb2 k2.size ?_ | refine oper_append_cells _ _ 86 rfl w1.heap.size 96 (.int .u64 0) 1 8 Try.underlying86 word_info rfl (by decide) _ q _ rfl (World.ownsRow_lit w2 (madeCells #[.int .u64 0] q) q k2.size hqm hsz1) (.slice (some ⟨b2, 0, none⟩) (ws.length + 1) c2) (ws.length + 1) _ rfl (hw2'.same ((Ext.refl _ _).alloc _)) (words_oneCell _) hb1 hb2 (k2.alloc _).size ?_); intro p3 c3 w3 ho3 hg3; (first | have k3 : Same w1 w3 := k2.grownS hg3 (Nat.le_refl _) | have k3 : Same w1 w3 := (k2.alloc _).grownS hg3 k2.size)))
  all_goals go_wp2
  all_goals
    have hRl : R < w1.heap.size := by simp [m1]
    exact bodyPost_ret (v := .tuple #[.agg #[.slice p3 k4' c3], .int .i64 0]) (by simp [results, Try.results52, go_sem, m4]) rfl ⟨p3, k4', c3, rfl, hn4.ext (S := (· = R)) (by simp [ext_s]) (fun b hb e => by have := b4 _ _ hb; have : b = R := e; omega), fun b hb => Nat.le_trans hs1.size (b4 _ _ hb), by simp [ext_s, hs1.same k4, hRw]⟩

/-- thin's Value -/
theorem value_any (w : World) (most times : Nat) (s : St) (hg : goodThin most times) (hok : s.ok most times) :
    Calls Try.prog 47 #[.agg #[.int .i64 most, .int .i64 times], .agg #[.int .i64 s.y, .int .i64 s.t, .bool s.full]] w fun e w' => ∃ p' k' c', e = .returned (.tuple #[.agg #[.slice p' k' c'], .int .i64 0]) ∧ NatAt w' p' k' c' (s.y * 2 ^ s.t) ∧ Same w w' := by
  go_enter Try.func47, Try.ntmps47
  go_wp2_with fail
  refine (twrong_ok _ most times (some ⟨w.heap.size + 1 + 1 + 1, 0, none⟩) 1 [s] (by have := Cells.st1 (((w.alloc (.cells #[.int .i64 most, .int .i64 times] 53)).alloc (.cells #[.int .i64 s.y, .int .i64 s.t, .bool s.full] 55)).alloc (.cells #[.slice none 0 0] 88)) s 55; simpa using this) hg (by intro x hx; simp at hx; subst hx; exact hok) (by simp)).mono ?_
  rintro e w1 ⟨rfl, hs0⟩
  have m1 := hs0.read [(w.heap.size + 1, 3), (w.heap.size + 1 + 1, 1)] (by simp)
  simp [Reads, SameN, go_sem] at m1
  have hs1 : Same w w1 := hs0.to (by simp [ext_s])
  clear hs0
  go_wp2_with fail
  obtain ⟨A, hA⟩ : ∃ A, A = w.heap.size + 1 := ⟨_, rfl⟩
  obtain ⟨R, hR⟩ : ∃ R, R = A + 1 := ⟨_, rfl⟩
  rw [← hA, ← hR] at m1
  rw [← hA, ← hR]
  have hAR : ¬ A = R := by omega
  have hRw : w.heap.size ≤ R := by omega
  have hRl : R < w1.heap.size := by simp [m1]
  have hy1 := hok.1
  have ht1 := hok.2.1
  have hg1 := hg.2.1
  have hg2 := hg.2.2
  have hy2 : s.y < 18446744073709551616 := by omega
  have hwr : IntKind.u64.wrap (s.y : Int) = s.y := by rw [IntKind.wrap_u64]; omega
  have hsm : small [s.y] := by intro x hx; simp at hx; omega
  have hv1 : wval [s.y] = s.y := by simp [wval]
  have hlt1 : s.t ≤ 8192 := by omega
  have hle1 : [s.y].length ≤ 1048576 := by simp
  clear hA hR
  have of_arm : ∀ wx : World, Calls Try.prog 53 #[.slice (some ⟨wx.heap.size, 0, none⟩) 1 1] (wx.alloc (.cells #[.int .u64 s.y] 96)) fun e w' => ∃ p' k c', e = .returned (.agg #[.slice p' k c']) ∧ NatAt w' p' k c' s.y ∧ k ≤ 1000000 ∧ Same wx w' := by
    intro wx
    have := of_any (wx.alloc (.cells #[.int .u64 s.y] 96)) (some ⟨wx.heap.size, 0, none⟩) 1 [s.y] (Cells.one wx (.int .u64 s.y) 96) hsm hle1
    rw [hv1] at this
    refine this.mono ?_
    rintro e w' ⟨p', k, c', rfl, hn, _, hs⟩
    exact ⟨p', k, c', rfl, hn, Nat.le_trans (hn.le (m := 1) (by rw [Nat.pow_one]; exact hy2)) (by decide), hs.to (by simp [ext_s])⟩
  replace of_arm := Lib.hid of_arm
  have all : ∀ w' : World, Ext (· = R) w1 w' → (w'.cell? ⟨A, 0, none⟩ = some (.int .i64 s.y) ∧ w'.cell? ⟨A, 1, none⟩ = some (.int .i64 s.t) ∧ w'.cell? ⟨A, 2, none⟩ = some (.bool s.full)) := by
    intro w' h
    have mm := h.read [(A, 3)] (by simp [m1, hAR])
    simp [Reads, SameN, go_sem, m1, hAR] at mm
    simp [mm]
  replace all := Lib.hid all
  have k1 : Same w1 w1.drew := (Ext.refl _ w1).drew
  go_region_held3 (fun w' => w'.cell? ⟨A, 0, none⟩ = some (.int .i64 s.y) ∧ w'.cell? ⟨A, 1, none⟩ = some (.int .i64 s.t) ∧ w'.cell? ⟨A, 2, none⟩ = some (.bool s.full))
    ((refine all.out _ ?_; first | exact k1.ext | exact k1.ext.alloc _ | exact k2.ext | exact k3.ext | exact Ext.setCell (S := (· = R)) k3.ext (p := ⟨R, 0, none⟩) (fun _ => rfl) _))
    (first
      | (go_at_call 53; refine (of_arm.out w1.drew).mono ?_; rintro e w2 ⟨p2, k2', c2, rfl, hn2, hl2, hs2⟩; have k2 : Same w1 w2 := hs2.to k1)
      | (go_at_call 52; refine (shl_any _ p2 k2' c2 s.y s.t hn2 hlt1 hl2).mono ?_; rintro e w3 ⟨p3, k3', c3, rfl, hn3, hf3, hs3⟩; have k3 : Same w1 w3 := hs3.to k2; have m3 := k3.read [(R, 1)] (by simp [m1]); simp [Reads, SameN, go_sem, m1] at m3))
  all_goals go_wp2
  all_goals exact bodyPost_ret (v := .tuple #[.agg #[.slice p3 k3' c3], .int .i64 0]) (by simp [results, Try.results47, go_sem, m3]) rfl ⟨p3, k3', c3, rfl, hn3.ext (S := (· = R)) (by simp [ext_s]) (fun b hb e => by have := hf3 _ hb; have : b = R := e; have := k2.size; omega), by simp [ext_s, hs1.same k3, hRw]⟩

end Go.Proofs.Ytfcamaiehepinaa
