/- Parts of the proof: Nat8, Nat9, Nat10, Rat3, RatQ, Rat4, Rat5, Pow1, Text1, Tape1, Float1, Flip1, Flip2, Morris1, Pow2, Float2, Float3, Rise1, Chain1. -/
import Derived.Test.YtdbfenhaljmbfaaGreatPd
namespace Go.Proofs.YtdbfenhaljmbfaaGreat.Am
section
set_option linter.unusedVariables false
set_option linter.unusedSimpArgs false
open Go.RowKit
set_option maxRecDepth 100000
set_option linter.unusedSimpArgs false
set_option linter.unusedVariables false

theorem uW_ren (θ : Nat → Nat) (ws : List Nat) : V.rens θ (uW ws) = uW ws := by
  have h := rens_map_d θ (ws.map fun x : Nat => D.int .u64 x)
  rw [List.map_map] at h
  exact h
theorem uW_plain (ws : List Nat) : plainL (uW ws) := ⟨uW_low 0 ws, fun θ => uW_ren θ ws⟩

theorem prod_parts {y g hi lo : Nat} (hy : y < 18446744073709551616) (hg : g < 18446744073709551616) (h1 : hi = y * g / 18446744073709551616) (h2 : lo = y * g % 18446744073709551616) : y * g = hi * 18446744073709551616 + lo ∧ lo < 18446744073709551616 ∧ hi + 1 < 18446744073709551616 := by
  have hp : y * g ≤ 18446744073709551615 * 18446744073709551615 := Nat.mul_le_mul (by omega) (by omega)
  generalize y * g = p at *
  omega

/-- what is left when so often the divisor is taken away -/
def takeR (ws d : List Nat) (k g : Nat) : List Nat := wordsN (d.length + 1) (wval ((ws.drop k).take (d.length + 1)) + (if wval ((ws.drop k).take (d.length + 1)) < g * wval d then 18446744073709551616 ^ (d.length + 1) else 0) - g * wval d)
set_option maxHeartbeats 4000000 in
theorem take_ok (ws d : List Nat) (k g : Nat) (hs : small ws) (hd : small d) (hk : k + d.length + 1 ≤ ws.length) (hn : ws.length ≤ 1000000) (hg : g < 18446744073709551616) :
    Eqn Tryz.prog n_nat_take [.row 0 k (d.length + 1), .d (W d), .d (.int .u64 g)] [⟨80, uW ws⟩] (.d (.int .i64 (if wval ((ws.drop k).take (d.length + 1)) < g * wval d then 1 else 0))) [⟨80, uW (ovr ws k (takeR ws d k g))⟩] := by
  refine Eqn.obj1 r_nat_take Plain.ok (uW_plain _) ?_
  obtain ⟨u, hu⟩ : ∃ u, u = (ws.drop k).take (d.length + 1) := ⟨_, rfl⟩
  have hul : u.length = d.length + 1 := by rw [hu]; exact segN_len (by omega)
  have hus : small u := by rw [hu]; exact (small_drop hs k).take _
  have hug : ∀ i, i < d.length + 1 → u.getD i 0 = ws.getD (k + i) 0 := fun i hi => by rw [hu]; exact segN_get hi
  rw [takeR, ← hu]
  simp only [c_nat_take, W]
  repeat (first | refine AW.seq ?_ | refine AW.block ?_ | (refine AW.reg mix ?_; simp -implicitDefEqProofs; try simp (disch := omega) only [w64, wu64]) | (refine need.of (by first | omega | kernel_rfl) ?_) | (refine AW.fin ?_; try simp -implicitDefEqProofs))
  refine AW.loopT (α := Nat × Nat × Nat × List Nat) 1 (fun s => [(17, .d (.int .i64 (s.1 : Int))), (7, .d (.int .u64 (s.2.1 : Int))), (8, .d (.int .u64 (s.2.2.1 : Int)))]) (fun s => [(0, ⟨80, uW (ovr ws k s.2.2.2)⟩)]) (fun s => s.1 ≤ d.length ∧ s.2.1 < 18446744073709551616 ∧ s.2.2.1 ≤ 1 ∧ s.2.2.2.length = s.1 ∧ small s.2.2.2 ∧ wval s.2.2.2 + g * wval (d.take s.1) = wval (u.take s.1) + 18446744073709551616 ^ s.1 * (s.2.2.1 + s.2.1)) (fun s => d.length - s.1) (0, 0, 0, []) ?_ ?_ ⟨Nat.zero_le _, by simp, by simp, rfl, small_nilN, by simp [wval]⟩ ?_ ?_ ?_
  · simp
  · simp
  · simp
  · simp [ovr_nil, uW_low]
  rintro ⟨i, c, b, l⟩ ⟨hi, hc, hb, hl, hsl, hv⟩
  simp only at hi hc hb hl hsl hv
  simp
  have hol : (uW (ovr ws k l)).length = ws.length := by rw [uW_length, ovr_len (by omega)]
  have hget := uW_get (ws := ovr ws k l) (j := k + i) (by rw [← uW_length, hol]; omega)
  have hnx := ovr_next (ws := ws) (k := k) (l := l) (by omega)
  rw [hl] at hnx
  rw [hnx, ← hug i (by omega)] at hget
  have hx := hus.getD i
  have hset : ∀ v : Nat, (uW (ovr ws k l)).set (k + i) (.d (.int .u64 v)) = uW (ovr ws k (l ++ [v])) := fun v => by rw [uW_set, ← hl, ovr_set (by omega)]
  have hki : ((k : Int) + i).toNat = k + i := by omega
  obtain ⟨x, hxd⟩ : ∃ x, x = u.getD i 0 := ⟨_, rfl⟩
  rw [← hxd] at hget hx
  by_cases hin : i < d.length
  · have hin' : (i : Int) < d.length := by omega
    have hy : d[i] < 18446744073709551616 := hd _ (List.getElem_mem _)
    have hyd : d[i] = d.getD i 0 := W_get hin
    have e2 : IntKind.i64.wrap ((i : Int) + 1) = (i : Int) + 1 := w64 (by omega) (by omega)
    repeat (first | refine AW.seq ?_ | refine AW.block ?_ | (refine AW.reg mix ?_; simp -implicitDefEqProofs [hin, hin']; try simp (disch := omega) only [w64, wu64]) | (refine need.of (by first | omega | kernel_rfl) ?_) | (refine AW.fin ?_; try simp -implicitDefEqProofs [hin, hin']))
    refine AW.cond rfl (fun h => ?_) (fun h => ?_)
    · clear h
      repeat (first | refine AW.seq ?_ | refine AW.block ?_ | (refine AW.reg mix ?_; simp -implicitDefEqProofs [hin, hin']; try simp (disch := omega) only [w64, wu64]) | (refine need.of (by first | omega | kernel_rfl) ?_) | (refine AW.fin ?_; try simp -implicitDefEqProofs [hin, hin']))
      generalize d[i] = y at hy hyd ⊢
      have hmul := mul64_ok y g hy hg
      obtain ⟨hi', hhi⟩ : ∃ q, q = y * g / 18446744073709551616 := ⟨_, rfl⟩
      obtain ⟨lo, hlo⟩ : ∃ q, q = y * g % 18446744073709551616 := ⟨_, rfl⟩
      rw [← hhi, ← hlo] at hmul
      obtain ⟨hyg, hl0, hh0⟩ := prod_parts hy hg hhi hlo
      clear hhi hlo
      obtain ⟨l2, k2, hl1, hll2, hk2⟩ : ∃ l2 k2 : Nat, lo + c + 0 = l2 + 18446744073709551616 * k2 ∧ l2 < 18446744073709551616 ∧ k2 ≤ 1 := ⟨(lo + c) % 18446744073709551616, (lo + c) / 18446744073709551616, by omega, by omega, by omega⟩
      obtain ⟨z, nb, hzb, hz, hnb⟩ : ∃ z nb : Nat, x + 18446744073709551616 * nb = z + l2 + b ∧ z < 18446744073709551616 ∧ nb ≤ 1 := by
        by_cases h : l2 + b ≤ x
        · exact ⟨x - l2 - b, 0, by omega, by omega, by omega⟩
        · exact ⟨x + 18446744073709551616 - l2 - b, 1, by omega, by omega, by omega⟩
      have w1 : IntKind.u64.wrap ((hi' : Int) + k2) = ((hi' + k2 : Nat) : Int) := wu64 (by omega) (by omega)
      have hround := take_round hv hyg (by omega : lo + c = l2 + 18446744073709551616 * k2) hzb
      have ht : g * wval (d.take (i + 1)) = g * (wval (d.take i) + 18446744073709551616 ^ i * y) := by rw [wval_take, ← hyd]
      have hut : wval (u.take (i + 1)) = wval (u.take i) + 18446744073709551616 ^ i * x := by rw [wval_take, ← hxd]
      have hsn : wval (l ++ [z]) = wval l + 18446744073709551616 ^ i * z := by rw [wval_snoc, hl]
      rw [← hsn, ← ht, ← hut, ← Nat.pow_succ] at hround
      have hhk : hi' + k2 < 18446744073709551616 := by omega
      refine CallS.pu (hmul) ?_
      (try (simp -implicitDefEqProofs [hol, hget, hki]; try simp (disch := omega) only [w64, wu64]))
      repeat (first | refine AW.seq ?_ | refine AW.block ?_ | (refine AW.reg mix ?_; simp -implicitDefEqProofs [hol, hget, hki]; try simp (disch := omega) only [w64, wu64]) | (refine need.of (by first | omega | kernel_rfl) ?_) | (refine AW.fin ?_; try simp -implicitDefEqProofs [hol, hget, hki]))
      generalize hi' + k2 = hk at *
      refine CallS.pu (add64_ok lo c 0 l2 k2 hl0 hc (by omega) hll2 hl1) ?_
      (try (simp -implicitDefEqProofs [w1, hol, hget, hki]; try simp (disch := omega) only [w64, wu64]))
      repeat (first | refine AW.seq ?_ | refine AW.block ?_ | (refine AW.reg mix ?_; simp -implicitDefEqProofs [w1, hol, hget, hki]; try simp (disch := omega) only [w64, wu64]) | (refine need.of (by first | omega | kernel_rfl) ?_) | (refine AW.fin ?_; try simp -implicitDefEqProofs [w1, hol, hget, hki]))
      refine CallS.pu (sub64_ok x l2 b z nb hx hll2 hb hz (by omega)) ?_
      (try (simp -implicitDefEqProofs [hol, hki, hset, e2]; try simp (disch := omega) only [w64, wu64]))
      repeat (first | refine AW.seq ?_ | refine AW.block ?_ | (refine AW.reg mix ?_; simp -implicitDefEqProofs [hol, hki, hset, e2]; try simp (disch := omega) only [w64, wu64]) | (refine need.of (by first | omega | kernel_rfl) ?_) | (refine AW.fin ?_; try simp -implicitDefEqProofs [hol, hki, hset, e2]))
      refine ⟨i + 1, hk, nb, l ++ [z], ⟨hin, hhk, hnb, by simp [hl], small_snoc hsl hz, hround⟩, by omega, by simp, ?_⟩
      exact ⟨Subs.refl _, uW_low _ _⟩
    · simp [hin, hin'] at h
  · have h2 : i = d.length := by omega
    subst h2
    rw [List.take_length] at hv
    obtain ⟨z, nb, hzb, hz, hnb⟩ : ∃ z nb : Nat, x + 18446744073709551616 * nb = z + c + b ∧ z < 18446744073709551616 ∧ nb ≤ 1 := by
      by_cases h : c + b ≤ x
      · exact ⟨x - c - b, 0, by omega, by omega, by omega⟩
      · exact ⟨x + 18446744073709551616 - c - b, 1, by omega, by omega, by omega⟩
    repeat (first | refine AW.seq ?_ | refine AW.block ?_ | (refine AW.reg mix ?_; simp -implicitDefEqProofs; try simp (disch := omega) only [w64, wu64]) | (refine need.of (by first | omega | kernel_rfl) ?_) | (refine AW.fin ?_; try simp -implicitDefEqProofs))
    refine AW.cond rfl (fun h => ?_) (fun h => ?_)
    · simp at h
    refine AW.exit ?_
    (try (simp -implicitDefEqProofs; try simp (disch := omega) only [w64, wu64]))
    repeat (first | refine AW.seq ?_ | refine AW.block ?_ | (refine AW.reg mix ?_; simp -implicitDefEqProofs [hol, hget, hki]; try simp (disch := omega) only [w64, wu64]) | (refine need.of (by first | omega | kernel_rfl) ?_) | (refine AW.fin ?_; try simp -implicitDefEqProofs [hol, hget, hki]))
    refine CallS.pu (sub64_ok x c b z nb hx hc hb hz (by omega)) ?_
    (try (simp -implicitDefEqProofs [hol, hki, hset]; try simp (disch := omega) only [w64, wu64]))
    repeat (first | refine AW.seq ?_ | refine AW.block ?_ | (refine AW.reg mix ?_; simp -implicitDefEqProofs [hol, hki, hset]; try simp (disch := omega) only [w64, wu64]) | (refine need.of (by first | omega | kernel_rfl) ?_) | (refine AW.fin ?_; try simp -implicitDefEqProofs [hol, hki, hset]))
    have hux : wval u = wval (u.take d.length) + 18446744073709551616 ^ d.length * x := by
      rw [hxd, ← wval_take, List.take_of_length_le (by omega)]
    obtain ⟨hnb', hR⟩ := take_end (n := d.length) (by rw [wval_snoc, hl]) hv hux hzb hnb (small_snoc hsl hz) (by simp [hl]) hus hul
    rw [← hR]
    refine ⟨Sub1.int ?_, Subs.refl _⟩
    rw [hnb']
    split <;> rfl
end
end Go.Proofs.YtdbfenhaljmbfaaGreat.Am
namespace Go.Proofs.YtdbfenhaljmbfaaGreat.Am
section
set_option linter.unusedVariables false
set_option linter.unusedSimpArgs false
open Go.RowKit
set_option maxRecDepth 100000
set_option linter.unusedSimpArgs false
set_option linter.unusedVariables false

set_option maxHeartbeats 4000000 in
/-- how often the divisor is in a row that is one word longer; the row becomes the rest -/
theorem digit_ok (ws d : List Nat) (k : Nat) (hs : small ws) (hd : small d) (hd1 : 1 ≤ d.length) (hk : k + d.length + 1 ≤ ws.length) (hn : ws.length ≤ 1000000) (htop : d.getD (d.length - 1) 0 ≠ 0) (hU : wval ((ws.drop k).take (d.length + 1)) < wval d * 18446744073709551616) :
    Eqn Tryz.prog n_nat_digit [.row 0 k (d.length + 1), .d (W d)] [⟨80, uW ws⟩] (.d (.int .u64 (wval ((ws.drop k).take (d.length + 1)) / wval d : Nat))) [⟨80, uW (ovr ws k (wordsN (d.length + 1) (wval ((ws.drop k).take (d.length + 1)) % wval d)))⟩] := by
  refine Eqn.obj1 r_nat_digit Plain.ok (uW_plain _) ?_
  have htk := fun g hg => take_ok ws d k g hs hd hk hn hg
  obtain ⟨u, hu⟩ : ∃ u, u = (ws.drop k).take (d.length + 1) := ⟨_, rfl⟩
  have hul : u.length = d.length + 1 := by rw [hu]; exact segN_len (by omega)
  have hus : small u := by rw [hu]; exact (small_drop hs k).take _
  have hug : ∀ i, i < d.length + 1 → u.getD i 0 = ws.getD (k + i) 0 := fun i hi => by rw [hu]; exact segN_get hi
  simp only [takeR, ← hu] at htk hU ⊢
  obtain ⟨n, hdn⟩ : ∃ n, d.length = n + 1 := ⟨d.length - 1, by omega⟩
  have hgn := uW_get (ws := ws) (j := k + d.length) (by omega)
  have hgm := uW_get (ws := ws) (j := k + n) (by omega)
  rw [← hug _ (by omega)] at hgn hgm
  have hwl := uW_length ws
  have hx1 := hus.getD d.length
  have hx0 := hus.getD n
  have hdt : d[n]? = some (d.getD n 0) := by rw [List.getD_eq_getElem?_getD, List.getElem?_eq_getElem (by omega)]; rfl
  have hdt2 : d[n]'(by omega) = d.getD n 0 := W_get (by omega)
  have hdg := hd.getD n
  rw [hdn, Nat.add_sub_cancel] at htop
  have hUx : wval u / 18446744073709551616 ^ n = u.getD d.length 0 * 18446744073709551616 + u.getD n 0 := digit_tops hus (by omega) hdn
  have hDt : d.getD n 0 * 18446744073709551616 ^ n ≤ wval d := digit_top (by omega)
  generalize u.getD d.length 0 = x1 at *
  generalize u.getD n 0 = x0 at *
  generalize hdd : d.getD n 0 = dt at *
  have hD0 : 0 < wval d := Nat.lt_of_lt_of_le (Nat.mul_pos (by omega) (Nat.pow_pos (by decide))) hDt
  have ed : IntKind.i64.wrap ((d.length : Int) - 1) = (n : Int) := by rw [w64 (by omega) (by omega)]; omega
  have hkd : ((k : Int) + d.length).toNat = k + d.length := by omega
  have hnd : (n : Int) < d.length := by omega
  have hnd' : n < d.length := by omega
  obtain ⟨g, hg, hgD, hgc⟩ : ∃ g : Nat, g ≤ 18446744073709551615 ∧ wval u / wval d ≤ g ∧ (if x1 < dt then g = (x1 * 18446744073709551616 + x0) / dt else g = 18446744073709551615) := by
    by_cases h : x1 < dt
    · refine ⟨(x1 * 18446744073709551616 + x0) / dt, ?_, digit_guess (B := 18446744073709551616) (by decide) (Nat.pow_pos (by decide)) hUx hDt (by omega), by rw [if_pos h]⟩
      have : (x1 * 18446744073709551616 + x0) / dt < 18446744073709551616 := by
        rw [Nat.div_lt_iff_lt_mul (by omega)]
        have : (x1 + 1) * 18446744073709551616 ≤ dt * 18446744073709551616 := Nat.mul_le_mul_right _ h
        omega
      omega
    · refine ⟨18446744073709551615, by omega, ?_, by rw [if_neg h]⟩
      have : wval u / wval d < 18446744073709551616 := by rw [Nat.div_lt_iff_lt_mul hD0, Nat.mul_comm]; exact hU
      omega
  simp only [c_nat_digit, W] at htk ⊢
  repeat (first | refine AW.seq ?_ | refine AW.block ?_)
  refine AW.reg mix ?_
  (simp -implicitDefEqProofs; try simp (disch := omega) only [w64, wu64])
  try refine need.of (by first | omega | kernel_rfl) ?_
  repeat (first | refine AW.seq ?_ | refine AW.block ?_)
  refine AW.reg mix ?_
  (simp -implicitDefEqProofs; try simp (disch := omega) only [w64, wu64])
  try refine need.of (by first | omega | kernel_rfl) ?_
  repeat (first | refine AW.seq ?_ | refine AW.block ?_)
  refine AW.reg mix ?_
  (simp -implicitDefEqProofs; try simp (disch := omega) only [w64, wu64])
  try refine need.of (by first | omega | kernel_rfl) ?_
  refine AW.cut 1 [(6, .d (.int .u64 g))] [(0, ⟨80, uW ws⟩)] (by simp) (by simp) ?_ ?_
  · by_cases hlt : x1 < dt
    · rw [if_pos hlt] at hgc
      have hlt' : (x1 : Int) < dt := by omega
      repeat (first | refine AW.seq ?_ | refine AW.block ?_ | (refine AW.reg mix ?_; simp -implicitDefEqProofs [hwl, hgn, hgm, ed, hkd, hnd, hnd', hdt, hdt2, hlt, hlt']; try simp (disch := omega) only [w64, wu64]) | (refine need.of (by first | omega | kernel_rfl) ?_) | (refine AW.fin ?_; try simp -implicitDefEqProofs [hwl, hgn, hgm, ed, hkd, hnd, hnd', hdt, hdt2, hlt, hlt']))
      refine AW.cond rfl (fun h => ?_) (fun h => ?_)
      · have hdiv := div64_ok x1 x0 dt hlt hx0 hdg
        rw [← hgc] at hdiv
        repeat (first | refine AW.seq ?_ | refine AW.block ?_ | (refine AW.reg mix ?_; simp -implicitDefEqProofs [hwl, hgn, hgm, ed, hkd, hnd, hnd', hdt]; try simp (disch := omega) only [w64, wu64]) | (refine need.of (by first | omega | kernel_rfl) ?_) | (refine AW.fin ?_; try simp -implicitDefEqProofs [hwl, hgn, hgm, ed, hkd, hnd, hnd', hdt]))
        simp only [hdt2]
        refine CallS.pu (hdiv) ?_
        (try (simp -implicitDefEqProofs; try simp (disch := omega) only [w64, wu64]))
        repeat (first | refine AW.seq ?_ | refine AW.block ?_ | (refine AW.reg mix ?_; simp -implicitDefEqProofs; try simp (disch := omega) only [w64, wu64]) | (refine need.of (by first | omega | kernel_rfl) ?_) | (refine AW.fin ?_; try simp -implicitDefEqProofs))
        exact uW_low _ _
      · simp [hlt, hlt'] at h
    · rw [if_neg hlt] at hgc
      have hlt' : ¬ (x1 : Int) < dt := by omega
      repeat (first | refine AW.seq ?_ | refine AW.block ?_ | (refine AW.reg mix ?_; simp -implicitDefEqProofs [hwl, hgn, hgm, ed, hkd, hnd, hnd', hdt, hdt2, hlt, hlt']; try simp (disch := omega) only [w64, wu64]) | (refine need.of (by first | omega | kernel_rfl) ?_) | (refine AW.fin ?_; try simp -implicitDefEqProofs [hwl, hgn, hgm, ed, hkd, hnd, hnd', hdt, hdt2, hlt, hlt']))
      refine AW.cond rfl (fun h => ?_) (fun h => ?_)
      · simp [hlt, hlt'] at h
      · refine AW.skip ?_
        subst hgc
        simp [uW_low]
  clear hgc
  have hDn : wval d < 18446744073709551616 ^ d.length := wval_lt hd
  have hgM : g * wval d ≤ wval u + 18446744073709551616 ^ (d.length + 1) := by
    rw [Nat.pow_succ]
    have : g * wval d ≤ 18446744073709551616 * 18446744073709551616 ^ d.length := Nat.mul_le_mul (by omega) (by omega)
    rw [Nat.mul_comm _ 18446744073709551616]
    omega
  obtain ⟨t0, l0, ht0, hl0, hsl0, hv0, hE0⟩ : ∃ (t0 : Nat) (l0 : List Nat), t0 ≤ 1 ∧ l0.length = d.length + 1 ∧ small l0 ∧ wval l0 + g * wval d = wval u + 18446744073709551616 ^ (d.length + 1) * t0 ∧
      Eqn Tryz.prog n_nat_take [.row 0 k (d.length + 1), .d (.sl d.length (d.map fun x : Nat => D.int .u64 x)), .d (.int .u64 g)] [⟨80, uW ws⟩] (.d (.int .i64 t0)) [⟨80, uW (ovr ws k l0)⟩] := by
    refine ⟨if wval u < g * wval d then 1 else 0, _, by split <;> omega, wordsN_len _ _, wordsN_small _ _, take_start hus hul hgM, ?_⟩
    have := htk g (by omega)
    rw [show ((if wval u < g * wval d then 1 else 0 : Nat) : Int) = if wval u < g * wval d then 1 else 0 by split <;> rfl]
    exact this
  clear htk hgM
  simp
  repeat (first | refine AW.seq ?_ | refine AW.block ?_ | (refine AW.reg mix ?_; simp -implicitDefEqProofs; try simp (disch := omega) only [w64, wu64]) | (refine need.of (by first | omega | kernel_rfl) ?_) | (refine AW.fin ?_; try simp -implicitDefEqProofs))
  refine CallS.o1 0 (hE0) (hO := uW_plain _) (hO' := (uW_plain _)) ?_
  (try (simp -implicitDefEqProofs; try simp (disch := omega) only [w64, wu64]))
  repeat (first | refine AW.seq ?_ | refine AW.block ?_ | (refine AW.reg mix ?_; simp -implicitDefEqProofs; try simp (disch := omega) only [w64, wu64]) | (refine need.of (by first | omega | kernel_rfl) ?_) | (refine AW.fin ?_; try simp -implicitDefEqProofs))
  refine AW.loopT (α := Nat × Nat × List Nat) 1 (fun s => [(7, .d (.int .i64 (s.1 : Nat))), (6, .d (.int .u64 (s.2.1 : Nat)))]) (fun s => [(0, ⟨80, uW (ovr ws k s.2.2)⟩)]) (fun s => s.1 ≤ 1 ∧ s.2.1 ≤ 18446744073709551615 ∧ wval u / wval d ≤ s.2.1 ∧ s.2.2.length = d.length + 1 ∧ small s.2.2 ∧ wval s.2.2 + s.2.1 * wval d = wval u + 18446744073709551616 ^ (d.length + 1) * s.1) (fun s => s.2.1) (t0, g, l0) ?_ ?_ ⟨ht0, hg, hgD, hl0, hsl0, hv0⟩ ?_ ?_ ?_
  · simp
  · simp
  · simp
  · simp [uW_low]
  clear hE0 hl0 hsl0 hv0 ht0 hg hgD
  rintro ⟨t, g, l⟩ ⟨ht, hg, hgD, hl, hsl, hv⟩
  simp only at ht hg hgD hl hsl hv
  simp
  rcases (by omega : t = 0 ∨ t = 1) with rfl | rfl
  · rw [Nat.mul_zero, Nat.add_zero] at hv
    obtain ⟨hq, hr⟩ := digit_done hD0 hgD hv
    have hlw := wordsN_eq hsl hl hr.symm
    repeat (first | refine AW.seq ?_ | refine AW.block ?_ | (refine AW.reg mix ?_; simp -implicitDefEqProofs; try simp (disch := omega) only [w64, wu64]) | (refine need.of (by first | omega | kernel_rfl) ?_) | (refine AW.fin ?_; try simp -implicitDefEqProofs))
    refine AW.cond rfl (fun h => ?_) (fun h => ?_)
    · simp at h
    refine AW.exit ?_
    (try (simp -implicitDefEqProofs; try simp (disch := omega) only [w64, wu64]))
    repeat (first | refine AW.seq ?_ | refine AW.block ?_ | (refine AW.reg mix ?_; simp -implicitDefEqProofs; try simp (disch := omega) only [w64, wu64]) | (refine need.of (by first | omega | kernel_rfl) ?_) | (refine AW.fin ?_; try simp -implicitDefEqProofs))
    rw [← hlw]
    refine ⟨Sub1.int ?_, Subs.refl _⟩
    rw [← hq]; rfl
  · rw [Nat.mul_one] at hv
    obtain ⟨hg0, hn1, hn2⟩ := digit_next (P := 18446744073709551616 ^ d.length) (by rw [Nat.pow_succ, Nat.mul_comm]) hDn hD0 hg (by rw [← hl]; exact wval_lt hsl) hv
    have ew : IntKind.u64.wrap ((g : Int) - 1) = ((g - 1 : Nat) : Int) := by rw [wu64 (by omega) (by omega)]; omega
    repeat (first | refine AW.seq ?_ | refine AW.block ?_ | (refine AW.reg mix ?_; simp -implicitDefEqProofs [ew]; try simp (disch := omega) only [w64, wu64]) | (refine need.of (by first | omega | kernel_rfl) ?_) | (refine AW.fin ?_; try simp -implicitDefEqProofs [ew]))
    refine AW.cond rfl (fun h => ?_) (fun h => ?_)
    rotate_left
    · simp at h
    repeat (first | refine AW.seq ?_ | refine AW.block ?_ | (refine AW.reg mix ?_; simp -implicitDefEqProofs [ew]; try simp (disch := omega) only [w64, wu64]) | (refine need.of (by first | omega | kernel_rfl) ?_) | (refine AW.fin ?_; try simp -implicitDefEqProofs [ew]))
    have hwlen : (ovr ws k l).length = ws.length := ovr_len (by omega)
    have hlg : ∀ j, j < d.length + 1 → (ovr ws k l).getD (k + j) 0 = l.getD j 0 := fun j hj => ovr_get (by omega) (by omega)
    have hws1 : small (ovr ws k l) := ovr_small hs hsl
    have hoo : ∀ r, r.length = d.length + 1 → ovr (ovr ws k l) k r = ovr ws k r := fun r hr => ovr_ovr (by omega) (by omega)
    refine AW.loopT (α := Nat × Nat × List Nat) 1 (fun s => [(53, .d (.int .i64 (s.1 : Nat))), (8, .d (.int .u64 (s.2.1 : Nat)))]) (fun s => [(0, ⟨80, uW (ovr (ovr ws k l) k s.2.2)⟩)]) (fun s => s.1 ≤ d.length ∧ s.2.1 ≤ 1 ∧ s.2.2.length = s.1 ∧ small s.2.2 ∧ wval s.2.2 + 18446744073709551616 ^ s.1 * s.2.1 = wval (l.take s.1) + wval (d.take s.1)) (fun s => d.length - s.1) (0, 0, []) ?_ ?_ ⟨Nat.zero_le _, by simp, rfl, small_nilN, by simp [wval]⟩ ?_ ?_ ?_
    · simp
    · simp
    · simp
    · simp [uW_low, ovr_nil]
    rintro ⟨j, c, r⟩ ⟨hj, hc, hr, hsr, hv2⟩
    simp only at hj hc hr hsr hv2
    simp
    have hol : (uW (ovr (ovr ws k l) k r)).length = ws.length := by rw [uW_length, ovr_len (by omega), hwlen]
    have hget := uW_get (ws := ovr (ovr ws k l) k r) (j := k + j) (by rw [← uW_length, hol]; omega)
    have hnx := ovr_next (ws := ovr ws k l) (k := k) (l := r) (by omega)
    rw [hr] at hnx
    rw [hnx, hlg j (by omega)] at hget
    have hx := hsl.getD j
    have hset : ∀ v : Nat, (uW (ovr (ovr ws k l) k r)).set (k + j) (.d (.int .u64 v)) = uW (ovr (ovr ws k l) k (r ++ [v])) := fun v => by rw [uW_set, ← hr, ovr_set (by omega)]
    have hkj : ((k : Int) + j).toNat = k + j := by omega
    obtain ⟨x, hxd⟩ : ∃ x, x = l.getD j 0 := ⟨_, rfl⟩
    rw [← hxd] at hget hx
    by_cases hjn : j < d.length
    · have hjn' : (j : Int) < d.length := by omega
      have hy : d[j] < 18446744073709551616 := hd _ (List.getElem_mem _)
      have hyd : d[j] = d.getD j 0 := W_get hjn
      have e2 : IntKind.i64.wrap ((j : Int) + 1) = ((j + 1 : Nat) : Int) := by rw [w64 (by omega) (by omega)]; omega
      repeat (first | refine AW.seq ?_ | refine AW.block ?_ | (refine AW.reg mix ?_; simp -implicitDefEqProofs [hjn, hjn']; try simp (disch := omega) only [w64, wu64]) | (refine need.of (by first | omega | kernel_rfl) ?_) | (refine AW.fin ?_; try simp -implicitDefEqProofs [hjn, hjn']))
      refine AW.cond rfl (fun h => ?_) (fun h => ?_)
      rotate_left
      · simp [hjn, hjn'] at h
      clear h
      repeat (first | refine AW.seq ?_ | refine AW.block ?_ | (refine AW.reg mix ?_; simp -implicitDefEqProofs [hjn, hjn', hol, hget, hkj]; try simp (disch := omega) only [w64, wu64]) | (refine need.of (by first | omega | kernel_rfl) ?_) | (refine AW.fin ?_; try simp -implicitDefEqProofs [hjn, hjn', hol, hget, hkj]))
      generalize d[j] = y at hy hyd ⊢
      obtain ⟨z, nc, hzc, hz, hnc⟩ : ∃ z nc : Nat, x + y + c = z + 18446744073709551616 * nc ∧ z < 18446744073709551616 ∧ nc ≤ 1 := ⟨(x + y + c) % 18446744073709551616, (x + y + c) / 18446744073709551616, by omega, by omega, by omega⟩
      have hround := add_round hv2 hzc
      rw [show wval r + 18446744073709551616 ^ j * z = wval (r ++ [z]) by rw [wval_snoc, hr], show wval (l.take j) + 18446744073709551616 ^ j * x = wval (l.take (j + 1)) by rw [wval_take, ← hxd], show wval (d.take j) + 18446744073709551616 ^ j * y = wval (d.take (j + 1)) by rw [wval_take, ← hyd], ← Nat.pow_succ] at hround
      refine CallS.pu (add64_ok x y c z nc hx hy hc hz hzc) ?_
      (try (simp -implicitDefEqProofs [hol, hkj, hset, e2]; try simp (disch := omega) only [w64, wu64]))
      repeat (first | refine AW.seq ?_ | refine AW.block ?_ | (refine AW.reg mix ?_; simp -implicitDefEqProofs [hol, hkj, hset, e2]; try simp (disch := omega) only [w64, wu64]) | (refine need.of (by first | omega | kernel_rfl) ?_) | (refine AW.fin ?_; try simp -implicitDefEqProofs [hol, hkj, hset, e2]))
      exact ⟨j + 1, nc, r ++ [z], ⟨hjn, hnc, by simp [hr], small_snoc hsr hz, hround⟩, by omega, by simp, Subs.refl _, uW_low _ _⟩
    · have h2 : j = d.length := by omega
      subst h2
      rw [List.take_length] at hv2
      have hlx : wval l = wval (l.take d.length) + 18446744073709551616 ^ d.length * x := by rw [hxd, ← wval_take, List.take_of_length_le (by omega)]
      obtain ⟨v, nv, hvc, hvl, hnv⟩ : ∃ v nv : Nat, x + c = v + 18446744073709551616 * nv ∧ v < 18446744073709551616 ∧ nv ≤ 1 := ⟨(x + c) % 18446744073709551616, (x + c) / 18446744073709551616, by omega, by omega, by omega⟩
      have wv : IntKind.u64.wrap ((x : Int) + c) = (v : Int) := by rw [IntKind.wrap_u64]; omega
      have hrv : (r ++ [v]).length = d.length + 1 := by simp [hr]
      have hsum := add_end (p := 18446744073709551616 ^ d.length) (wr := wval r) (c := c) (x := x) hv2 hlx hvc
      rw [show wval r + 18446744073709551616 ^ d.length * v = wval (r ++ [v]) by rw [wval_snoc, hr], ← Nat.pow_succ] at hsum
      have hrlt := wval_lt (small_snoc hsr hvl)
      rw [hrv] at hrlt
      replace hset := hset v
      rw [hoo _ hrv] at hset
      have hget2 := uW_get (ws := ovr ws k (r ++ [v])) (j := k + d.length) (by rw [ovr_len (by omega)]; omega)
      rw [ovr_get (by omega) (by omega), show (r ++ [v]).getD d.length 0 = v by rw [← hr]; simp] at hget2
      repeat (first | refine AW.seq ?_ | refine AW.block ?_ | (refine AW.reg mix ?_; simp -implicitDefEqProofs; try simp (disch := omega) only [w64, wu64]) | (refine need.of (by first | omega | kernel_rfl) ?_) | (refine AW.fin ?_; try simp -implicitDefEqProofs))
      refine AW.cond rfl (fun h => ?_) (fun h => ?_)
      · simp at h
      refine AW.exit ?_
      (try (simp -implicitDefEqProofs; try simp (disch := omega) only [w64, wu64]))
      have hol2 : (uW (ovr ws k (r ++ [v]))).length = ws.length := by rw [uW_length, ovr_len (by omega)]
      have hsr2 := small_snoc hsr hvl
      generalize hr2 : r ++ [v] = r2 at *
      have hrw : wval r < 18446744073709551616 ^ d.length := by rw [← hr]; exact wval_lt hsr
      have hrw2 : wval r2 = wval r + 18446744073709551616 ^ d.length * v := by rw [← hr2, wval_snoc, hr]
      by_cases hv0 : v = 0
      · subst hv0
        have hnv1 : nv = 1 := by
          rcases (by omega : nv = 0 ∨ nv = 1) with rfl | h
          · exfalso
            rw [Nat.mul_zero, Nat.add_zero] at hsum
            rw [Nat.mul_zero, Nat.add_zero] at hrw2
            have := (hn2 (by omega)).2
            omega
          · exact h
        subst hnv1
        rw [Nat.mul_one] at hsum
        obtain ⟨k1, k2, k3, -⟩ := hn1 (by omega)
        simp at hset hget2 wv
        repeat (first | refine AW.seq ?_ | refine AW.block ?_ | (refine AW.reg mix ?_; simp -implicitDefEqProofs [hol, hget, hkj, wv, hset, hget2, hol2]; try simp (disch := omega) only [w64, wu64]) | (refine need.of (by first | omega | kernel_rfl) ?_) | (refine AW.fin ?_; try simp -implicitDefEqProofs [hol, hget, hkj, wv, hset, hget2, hol2]))
        refine AW.cond rfl (fun h => ?_) (fun h => ?_)
        · simp at h
        repeat (first | refine AW.seq ?_ | refine AW.block ?_ | (refine AW.reg mix ?_; simp -implicitDefEqProofs; try simp (disch := omega) only [w64, wu64]) | (refine need.of (by first | omega | kernel_rfl) ?_) | (refine AW.fin ?_; try simp -implicitDefEqProofs))
        (try (simp -implicitDefEqProofs; try simp (disch := omega) only [w64, wu64]))
        repeat (first | refine AW.seq ?_ | refine AW.block ?_ | (refine AW.reg mix ?_; simp -implicitDefEqProofs; try simp (disch := omega) only [w64, wu64]) | (refine need.of (by first | omega | kernel_rfl) ?_) | (refine AW.fin ?_; try simp -implicitDefEqProofs))
        refine ⟨0, g - 1, r2, ⟨by omega, by omega, by omega, hrv, hsr2, ?_⟩, by omega, by simp, ?_⟩
        · rw [Nat.mul_zero, Nat.add_zero, ← k1]; omega
        · exact ⟨Subs.refl _, uW_low _ _⟩
      · have hnv0 : nv = 0 := by omega
        subst hnv0
        rw [Nat.mul_zero, Nat.add_zero] at hsum
        obtain ⟨k1, k2⟩ := hn2 (by omega)
        repeat (first | refine AW.seq ?_ | refine AW.block ?_ | (refine AW.reg mix ?_; simp -implicitDefEqProofs [hol, hget, hkj, wv, hset, hget2, hol2, hv0]; try simp (disch := omega) only [w64, wu64]) | (refine need.of (by first | omega | kernel_rfl) ?_) | (refine AW.fin ?_; try simp -implicitDefEqProofs [hol, hget, hkj, wv, hset, hget2, hol2, hv0]))
        refine AW.cond rfl (fun h => ?_) (fun h => ?_)
        rotate_left
        · simp [hv0] at h
        repeat (first | refine AW.seq ?_ | refine AW.block ?_ | (refine AW.reg mix ?_; simp -implicitDefEqProofs; try simp (disch := omega) only [w64, wu64]) | (refine need.of (by first | omega | kernel_rfl) ?_) | (refine AW.fin ?_; try simp -implicitDefEqProofs))
        (try (simp -implicitDefEqProofs; try simp (disch := omega) only [w64, wu64]))
        repeat (first | refine AW.seq ?_ | refine AW.block ?_ | (refine AW.reg mix ?_; simp -implicitDefEqProofs; try simp (disch := omega) only [w64, wu64]) | (refine need.of (by first | omega | kernel_rfl) ?_) | (refine AW.fin ?_; try simp -implicitDefEqProofs))
        refine ⟨1, g - 1, r2, ⟨by omega, by omega, ?_, hrv, hsr2, ?_⟩, by omega, by simp, ?_⟩
        · exact Nat.div_le_of_le_mul (by rw [Nat.mul_comm]; omega)
        · omega
        · exact ⟨Subs.refl _, uW_low _ _⟩
end
end Go.Proofs.YtdbfenhaljmbfaaGreat.Am
namespace Go.Proofs.YtdbfenhaljmbfaaGreat.Am
section
set_option linter.unusedVariables false
set_option linter.unusedSimpArgs false
open Go.RowKit
set_option maxRecDepth 100000
set_option linter.unusedSimpArgs false
set_option linter.unusedVariables false

set_option maxHeartbeats 1000000 in
theorem moved_new (A : List Nat) (k : Nat) (hk : k < 64) (hs : small A) (hn : A.length ≤ 1000000) : Eqn Tryz.prog n_nat_moved [.d (W A), .d (.int .i64 k)] [] (.own 0 1 (A.length + 1)) [⟨80, uW (movedL k 0 A)⟩] := by
  refine Eqn.gen [0] r_nat_moved (by simp) (by simp) (by rfl) (by decide) (by simp) (by simp [uW_low]) ?_
  simp only [c_nat_moved, W]
  repeat (first | refine AW.seq ?_ | refine AW.block ?_ | (refine AW.reg mix ?_; simp -implicitDefEqProofs; try simp (disch := omega) only [w64, wu64]) | (refine need.of (by first | omega | kernel_rfl) ?_) | (refine AW.fin ?_; try simp -implicitDefEqProofs))
  rw [show List.replicate (A.length + 1) (V.d (.int .u64 0)) = cellM k A 0 by rw [cellM, rowM_zero]; simp [U]]
  have hlow : ∀ i, V.lowl 1 (cellM k A i) = true := fun i => lowl_U 1 _
  refine AW.loopT (α := Nat) 1 (fun i => [(14, .d (.int .i64 (i : Int)))]) (fun i => [(0, ⟨80, cellM k A i⟩)]) (fun i => i ≤ A.length) (fun i => A.length - i) 0 ?_ ?_ (Nat.zero_le _) ?_ ?_ ?_
  · simp
  · simp
  · simp
  · simp [hlow]
  rintro i hi
  simp
  by_cases h : i = A.length
  · subst h
    repeat (first | refine AW.seq ?_ | refine AW.block ?_ | (refine AW.reg mix ?_; simp -implicitDefEqProofs; try simp (disch := omega) only [w64, wu64]) | (refine need.of (by first | omega | kernel_rfl) ?_) | (refine AW.fin ?_; try simp -implicitDefEqProofs))
    refine AW.cond rfl (fun h => ?_) (fun h => ?_)
    · simp at h
    refine AW.exit ?_
    (try (simp -implicitDefEqProofs; try simp (disch := omega) only [w64, wu64]))
    rw [cellM, rowM_end]
    repeat (first | refine AW.seq ?_ | refine AW.block ?_ | (refine AW.reg mix ?_; simp -implicitDefEqProofs [uW]; try simp (disch := omega) only [w64, wu64]) | (refine need.of (by first | omega | kernel_rfl) ?_) | (refine AW.fin ?_; try simp -implicitDefEqProofs [uW]))
    rw [show U (movedL k 0 A) = uW (movedL k 0 A) from rfl, uW_ren]
    exact Subs.refl _
  · have hi' : i < A.length := by omega
    have hp : (i : Int) < A.length := by omega
    obtain ⟨c, y, u, hl, hq, hor, hw, hd, hset⟩ : ∃ c z u : Nat, (cellM k A i).length = A.length + 1 ∧ (cellM k A i)[i]? = some (.d (.int .u64 c)) ∧ bits BinOp.or IntKind.u64 (c : Int) (IntKind.u64.wrap ((A[i] : Int) * 2 ^ k)) = (z : Int) ∧
        True ∧ (A[i] : Int) / 2 ^ (64 - k) = (u : Int) ∧ ((cellM k A i).set i (.d (.int .u64 z))).set (i + 1) (.d (.int .u64 u)) = cellM k A (i + 1) := by
      have hl := rowM_length k A i hi
      have hc := movedC_lt (k := k) (l := A.take i) (c := 0) (hs.take i) (Nat.two_pow_pos k)
      have hset := rowM_set k A i hi'
      rw [← W_get hi'] at hset
      refine ⟨movedC k 0 (A.take i), A[i] * 2 ^ k % 18446744073709551616 + movedC k 0 (A.take i), A[i] * 2 ^ k / 18446744073709551616, by simp [cellM, U, hl], ?_, ?_, trivial, ?_, ?_⟩
      · have := rowM_get k A i hi'
        rw [List.getD, List.getElem?_eq_getElem (by omega)] at this
        rw [cellM, U, List.getElem?_map, List.getElem?_eq_getElem (by omega)]
        simp at this
        simp [this]
      · rw [show IntKind.u64.wrap ((A[i] : Int) * 2 ^ k) = ((A[i] * 2 ^ k % 18446744073709551616 : Nat) : Int) by rw [IntKind.wrap_u64, Int.natCast_emod, Int.natCast_mul, Int.natCast_pow]; rfl]
        rw [bits_or_u64_nat _ _ (Nat.lt_of_lt_of_le hc (by rw [show (18446744073709551616 : Nat) = 2 ^ 64 by rfl]; exact Nat.pow_le_pow_right (by decide) (by omega))) (Nat.mod_lt _ (by decide)), or_moved hk hc]
      · rw [moved_div (by omega), Int.natCast_ediv, Int.natCast_pow]; rfl
      · rw [cellM, cellM, ← hset, U, U, List.map_set, List.map_set]
    have hn : ((64 : Int) - k).toNat = 64 - k := by omega
    have e1 : IntKind.i64.wrap ((i : Int) + 1) = (i : Int) + 1 := w64 (by omega) (by omega)
    have e2 : IntKind.i64.wrap ((64 : Int) - k) = (64 : Int) - k := w64 (by omega) (by omega)
    generalize cellM k A i = cm at hl hq hset
    repeat (first | refine AW.seq ?_ | refine AW.block ?_ | (refine AW.reg mix ?_; simp -implicitDefEqProofs [hi', hp]; try simp (disch := omega) only [w64, wu64]) | (refine need.of (by first | omega | kernel_rfl) ?_) | (refine AW.fin ?_; try simp -implicitDefEqProofs [hi', hp]))
    refine AW.cond rfl (fun h => ?_) (fun h => ?_)
    · clear h
      repeat (first | refine AW.seq ?_ | refine AW.block ?_ | (refine AW.reg mix ?_; simp -implicitDefEqProofs [hi', hp, hl, hq, hor, e1, e2, hn, hd, hset]; try simp (disch := omega) only [w64, wu64]) | (refine need.of (by first | omega | kernel_rfl) ?_) | (refine AW.fin ?_; try simp -implicitDefEqProofs [hi', hp, hl, hq, hor, e1, e2, hn, hd, hset]))
      exact ⟨i + 1, by omega, by omega, by simp [wk], by simp [wkH, hlow]⟩
    · simp at h

theorem frzs_uW (n s : Nat) (ds : List D) (ws : List Nat) : V.frzs n s ds (uW ws) = uW ws := by
  rw [frzs_map, uW, U, List.map_map]; rfl
theorem uW_d (ws : List Nat) : uW ws = (ws.map fun x : Nat => D.int .u64 x).map V.d := by rw [List.map_map]; rfl

set_option maxHeartbeats 4000000 in
theorem long_ok (a b : Nat) (hb : 18446744073709551616 ≤ b) (hab : b ≤ a) (ha : size a ≤ 900000) : Eqn Tryz.prog n_nat_long [.d (.agg [natW a]), .d (.agg [natW b])] [] (.tup [.d (.agg [natW (a / b)]), .d (.agg [natW (a % b)]), .d (.int .i64 0)]) [] := by
  refine Eqn.pure r_nat_long Plain.ok ?_
  have hba := size_le hab
  unfold size at ha hba
  have hsA := words_small a
  have hsB := words_small b
  have htB := words_top b
  have hvA := words_val a
  have hvB := words_val b
  have hB2 : 2 ≤ (words b).length := by
    rcases Nat.lt_or_ge (words b).length 2 with h | h
    · exfalso
      have := wval_lt hsB
      rw [hvB] at this
      have h2 : 18446744073709551616 ^ (words b).length ≤ 18446744073709551616 ^ 1 := Nat.pow_le_pow_right (by decide) (by omega)
      omega
    · exact h
  simp only [c_nat_long, natW, W]
  generalize words a = A at *
  generalize words b = Bw at *
  obtain ⟨n, hn⟩ : ∃ n, Bw.length = n + 1 := ⟨Bw.length - 1, by omega⟩
  have htop := htB n hn
  have htl := hsB.getD n
  have hget : Bw[n]'(by omega) = Bw.getD n 0 := W_get (by omega)
  have hlead := lead64_ok (Bw.getD n 0) htl
  have e1 : IntKind.i64.wrap ((Bw.length : Int) - 1) = (n : Int) := by rw [w64 (by omega) (by omega)]; omega
  have hnB : n < Bw.length := by omega
  have hnB' : (n : Int) < Bw.length := by omega
  generalize Bw.getD n 0 = top at *
  obtain ⟨s, hs⟩ : ∃ s, s = 64 - bitsN top := ⟨_, rfl⟩
  rw [← hs] at hlead
  have hs64 : s < 64 := by have := (bitsN_pos (n := top) (by omega)).2; omega
  have hmB := moved_ok Bw s hs64 hsB (by omega)
  have hmA := moved_new A s hs64 hsA (by omega)
  simp only [W, movedL_len] at hmB
  repeat (first | refine AW.seq ?_ | refine AW.block ?_ | (refine AW.reg mix ?_; simp -implicitDefEqProofs [e1, hnB, hnB', hget]; try simp (disch := omega) only [w64, wu64]) | (refine need.of (by first | omega | kernel_rfl) ?_) | (refine AW.fin ?_; try simp -implicitDefEqProofs [e1, hnB, hnB', hget]))
  refine CallS.pu (hlead) ?_
  (try (simp -implicitDefEqProofs [e1, hnB, hnB', hget]; try simp (disch := omega) only [w64, wu64]))
  repeat (first | refine AW.seq ?_ | refine AW.block ?_ | (refine AW.reg mix ?_; simp -implicitDefEqProofs [e1, hnB, hnB', hget]; try simp (disch := omega) only [w64, wu64]) | (refine need.of (by first | omega | kernel_rfl) ?_) | (refine AW.fin ?_; try simp -implicitDefEqProofs [e1, hnB, hnB', hget]))
  refine CallS.pu (hmB) ?_
  (try (simp -implicitDefEqProofs [e1, hnB, hnB', hget]; try simp (disch := omega) only [w64, wu64]))
  repeat (first | refine AW.seq ?_ | refine AW.block ?_ | (refine AW.reg mix ?_; simp -implicitDefEqProofs [e1, hnB, hnB', hget]; try simp (disch := omega) only [w64, wu64]) | (refine need.of (by first | omega | kernel_rfl) ?_) | (refine AW.fin ?_; try simp -implicitDefEqProofs [e1, hnB, hnB', hget]))
  have hlm : (A.length : Int) + 1 - Bw.length = ((A.length - n : Nat) : Int) := by omega
  have hlm2 : IntKind.i64.wrap ((A.length : Int) + 1 - Bw.length) = ((A.length - n : Nat) : Int) := by rw [w64 (by omega) (by omega), hlm]
  have hlm3 : IntKind.i64.wrap (((A.length - n : Nat) : Int) - 1) = ((A.length - n : Nat) : Int) - 1 := w64 (by omega) (by omega)
  refine CallS.nX (hmA) (hO' := (uW_plain _)) ?_
  (try (simp -implicitDefEqProofs [e1, hnB, hnB', hget, hlm2, hlm3]; try simp (disch := omega) only [w64, wu64]))
  repeat (first | refine AW.seq ?_ | refine AW.block ?_ | (refine AW.reg mix ?_; simp -implicitDefEqProofs [e1, hnB, hnB', hget, hlm2, hlm3]; try simp (disch := omega) only [w64, wu64]) | (refine need.of (by first | omega | kernel_rfl) ?_) | (refine AW.fin ?_; try simp -implicitDefEqProofs [e1, hnB, hnB', hget, hlm2, hlm3]))
  have hnA : n + 1 ≤ A.length := by omega
  have hbn : 18446744073709551616 ^ n ≤ wval Bw := by
    have h1 := digit_top (d := Bw) (n := n) hnB
    rw [W_get hnB] at hget
    rw [hget] at h1
    have : 1 * 18446744073709551616 ^ n ≤ top * 18446744073709551616 ^ n := Nat.mul_le_mul_right _ (by omega)
    omega
  have hD2 : wval Bw * 2 ^ s < 18446744073709551616 ^ Bw.length := by
    have h1 := wval_take Bw n
    rw [List.take_of_length_le (by omega)] at h1
    rw [W_get hnB] at hget
    rw [hget] at h1
    have h2 := take_lt hsB n
    have h3 : top < 2 ^ bitsN top := lt_bitsN top
    have h4 : wval Bw < 2 ^ bitsN top * 18446744073709551616 ^ n := by
      have : (top + 1) * 18446744073709551616 ^ n ≤ 2 ^ bitsN top * 18446744073709551616 ^ n := Nat.mul_le_mul_right _ h3
      rw [Nat.add_mul, Nat.one_mul, Nat.mul_comm top] at this
      omega
    have h5 : wval Bw * 2 ^ s < 2 ^ bitsN top * 18446744073709551616 ^ n * 2 ^ s := Nat.mul_lt_mul_of_pos_right h4 (Nat.two_pow_pos s)
    have h6 : 2 ^ bitsN top * 18446744073709551616 ^ n * 2 ^ s = 18446744073709551616 ^ Bw.length := by
      have hb64 : bitsN top ≤ 64 := bitsN_le htl
      rw [Nat.mul_right_comm, ← Nat.pow_add, show bitsN top + s = 64 by omega, hn, Nat.pow_succ, Nat.mul_comm]
      rfl
    omega
  have hDv := moved_low hD2
  have hsd : small ((movedL s 0 Bw).take Bw.length) := (movedL_small hs64 hsB (Nat.two_pow_pos s)).take _
  have hdl : ((movedL s 0 Bw).take Bw.length).length = n + 1 := by rw [List.length_take, movedL_len]; omega
  have hU0 := movedL_val s A 0
  have hsU : small (movedL s 0 A) := movedL_small hs64 hsA (Nat.two_pow_pos s)
  have hlU := movedL_len s A 0
  rw [Nat.add_zero] at hU0
  have hp2 := Nat.two_pow_pos s
  have hD0 : 18446744073709551616 ^ n * 2 ^ s ≤ wval Bw * 2 ^ s := Nat.mul_le_mul_right _ hbn
  have hDpos : 0 < wval Bw * 2 ^ s := Nat.lt_of_lt_of_le (Nat.mul_pos (Nat.pow_pos (by decide)) hp2) hD0
  simp only [← List.map_take]
  generalize hdd : (movedL s 0 Bw).take Bw.length = d at *
  generalize hUU : movedL s 0 A = u0 at *
  have hdtop : d.getD (d.length - 1) 0 ≠ 0 := by
    intro h0
    have h1 := wval_take d n
    have he : d.take (n + 1) = d := List.take_of_length_le (by omega)
    rw [he] at h1
    rw [hdl, Nat.add_sub_cancel] at h0
    rw [h0, Nat.mul_zero, Nat.add_zero] at h1
    have h2 := take_lt hsd n
    have h3 : 18446744073709551616 ^ n * 1 ≤ 18446744073709551616 ^ n * 2 ^ s := Nat.mul_le_mul_left _ hp2
    omega
  generalize hm : A.length - n = m at *
  have hstart : wval ((u0.drop m).take (n + 1)) < wval d := by
    have h1 := wval_seg (ws := u0) m (n + 1) (by omega)
    rw [List.take_of_length_le (by omega), hU0] at h1
    have h2 := wval_lt hsA
    have h3 : wval A * 2 ^ s < 18446744073709551616 ^ A.length * 2 ^ s := Nat.mul_lt_mul_of_pos_right h2 hp2
    rw [hDv]
    refine Nat.lt_of_lt_of_le ?_ hD0
    have h4 : 18446744073709551616 ^ A.length = 18446744073709551616 ^ m * 18446744073709551616 ^ n := by rw [← Nat.pow_add]; congr 1; omega
    rw [h4, Nat.mul_assoc] at h3
    have h5 : 18446744073709551616 ^ m * wval ((u0.drop m).take (n + 1)) < 18446744073709551616 ^ m * (18446744073709551616 ^ n * 2 ^ s) := by omega
    exact Nat.lt_of_mul_lt_mul_left h5
  have hdlt : wval d < 18446744073709551616 ^ (n + 1) := by rw [← hdl]; exact wval_lt hsd
  have htkall : u0.take (m + (n + 1)) = u0 := List.take_of_length_le (by omega)
  have hdB : d.length = Bw.length := by omega
  rw [show List.replicate m (V.d (.int .u64 0)) = uW (List.replicate m 0 ++ []) by simp [uW, U]]
  refine AW.loopT (α := Nat × List Nat × List Nat) 6 (fun s => [(12, .d (.int .i64 ((s.1 : Int) - 1)))]) (fun s => [(4, ⟨80, uW s.2.1⟩), (5, ⟨80, uW (List.replicate s.1 0 ++ s.2.2)⟩)]) (fun s => s.1 ≤ m ∧ s.2.1.length = A.length + 1 ∧ small s.2.1 ∧ s.2.2.length = m - s.1 ∧ small s.2.2 ∧ wval u0 = wval (s.2.1.take (s.1 + (n + 1))) + wval d * (18446744073709551616 ^ s.1 * wval s.2.2) ∧ wval ((s.2.1.drop s.1).take (n + 1)) < wval d) (fun s => s.1) (m, u0, []) ?_ ?_ ⟨Nat.le_refl _, hlU, hsU, by simp, small_nilN, by rw [htkall]; simp [wval], hstart⟩ ?_ ?_ ?_
  · simp
  · simp
  · simp
  · simp [uW_low]
  clear hstart hsU hlU
  rintro ⟨kk, ws, q⟩ ⟨hkm, hwl, hws, hql, hsq, hv, hlt⟩
  simp only at hkm hwl hws hql hsq hv hlt
  simp
  cases kk with
  | zero =>
    repeat (first | refine AW.seq ?_ | refine AW.block ?_ | (refine AW.reg mix ?_; simp -implicitDefEqProofs; try simp (disch := omega) only [w64, wu64]) | (refine need.of (by first | omega | kernel_rfl) ?_) | (refine AW.fin ?_; try simp -implicitDefEqProofs))
    refine AW.cond rfl (fun h => ?_) (fun h => ?_)
    · simp at h
    refine AW.exit ?_
    (try (simp -implicitDefEqProofs; try simp (disch := omega) only [w64, wu64]))
    rw [Nat.zero_add, Nat.pow_zero, Nat.one_mul] at hv
    rw [List.drop_zero] at hlt
    rw [Nat.sub_zero] at hql
    have hdp : 0 < wval d := by omega
    have hqv : wval q = wval u0 / wval d := by rw [hv, Nat.add_mul_div_left _ _ hdp, Nat.div_eq_of_lt hlt, Nat.zero_add]
    have hrv : wval (ws.take (n + 1)) = wval u0 % wval d := by rw [hv, Nat.add_mul_mod_self_left, Nat.mod_eq_of_lt hlt]
    obtain ⟨k1, k2⟩ := shifted_div (n := wval A) (y := wval Bw) (s := s)
    rw [hU0, hDv] at hqv hrv
    rw [k1] at hqv
    have ht1 := trimmed_ok q hsq (by omega)
    have ht2 := trimmed_ok (ws.take (n + 1)) (hws.take _) (by rw [List.length_take]; omega)
    have hl2 : (ws.take (n + 1)).length = n + 1 := by rw [List.length_take]; omega
    have hsz : size (wval (ws.take (n + 1))) ≤ 1000000 := Nat.le_trans (words_le (words_top _) (m := n + 1) (by rw [words_val]; have := wval_lt (hws.take (n + 1)); rw [hl2] at this; exact this)) (by omega)
    have ht3 := shr_ok (wval (ws.take (n + 1))) s hsz (by omega)
    rw [hrv, k2, ← hrv] at ht3
    rw [hqv] at ht1
    simp only [natW, W, hql, hl2] at ht1 ht2 ht3
    refine AW.freeze 4 1 ⟨80, uW ws⟩ (ws.map fun x : Nat => D.int .u64 x) (by rfl) (uW_d ws) ?_
    simp [frzs_uW]
    refine AW.freeze 5 1 ⟨80, uW q⟩ (q.map fun x : Nat => D.int .u64 x) (by rfl) (uW_d q) ?_
    have hqt : q.take m = q := List.take_of_length_le (by omega)
    have hwt : ws.take (A.length + 1) = ws := List.take_of_length_le (by omega)
    have hnAl : (Bw.length : Int) ≤ (A.length : Int) + 1 := by omega
    simp [frzs_uW, ← List.map_take, hqt, hwt]
    repeat (first | refine AW.seq ?_ | refine AW.block ?_ | (refine AW.reg mix ?_; simp -implicitDefEqProofs [hnAl]; try simp (disch := omega) only [w64, wu64]) | (refine need.of (by first | omega | kernel_rfl) ?_) | (refine AW.fin ?_; try simp -implicitDefEqProofs [hnAl]))
    refine CallS.pu (ht1) ?_
    (try (simp -implicitDefEqProofs [hnAl]; try simp (disch := omega) only [w64, wu64]))
    repeat (first | refine AW.seq ?_ | refine AW.block ?_ | (refine AW.reg mix ?_; simp -implicitDefEqProofs [hnAl]; try simp (disch := omega) only [w64, wu64]) | (refine need.of (by first | omega | kernel_rfl) ?_) | (refine AW.fin ?_; try simp -implicitDefEqProofs [hnAl]))
    rw [← List.map_take, hn]
    refine CallS.pu (ht2) ?_
    (try (simp -implicitDefEqProofs; try simp (disch := omega) only [w64, wu64]))
    repeat (first | refine AW.seq ?_ | refine AW.block ?_ | (refine AW.reg mix ?_; simp -implicitDefEqProofs; try simp (disch := omega) only [w64, wu64]) | (refine need.of (by first | omega | kernel_rfl) ?_) | (refine AW.fin ?_; try simp -implicitDefEqProofs))
    refine CallS.pu (ht3) ?_
    (try (simp -implicitDefEqProofs; try simp (disch := omega) only [w64, wu64]))
    repeat (first | refine AW.seq ?_ | refine AW.block ?_ | (refine AW.reg mix ?_; simp -implicitDefEqProofs; try simp (disch := omega) only [w64, wu64]) | (refine need.of (by first | omega | kernel_rfl) ?_) | (refine AW.fin ?_; try simp -implicitDefEqProofs))
    rw [hvA, hvB]
    exact Sub1.refl _
  | succ k =>
    have hg0 : (0 : Int) ≤ k := by omega
    repeat (first | refine AW.seq ?_ | refine AW.block ?_ | (refine AW.reg mix ?_; simp -implicitDefEqProofs [hg0]; try simp (disch := omega) only [w64, wu64]) | (refine need.of (by first | omega | kernel_rfl) ?_) | (refine AW.fin ?_; try simp -implicitDefEqProofs [hg0]))
    refine AW.cond rfl (fun h => ?_) (fun h => ?_)
    rotate_left
    · simp at h
    have w1 : IntKind.i64.wrap ((k : Int) + Bw.length) = (k : Int) + Bw.length := w64 (by omega) (by omega)
    have w2 : IntKind.i64.wrap ((k : Int) + Bw.length + 1) = (k : Int) + Bw.length + 1 := w64 (by omega) (by omega)
    have w3 : ((k : Int) + Bw.length + 1).toNat - k = Bw.length + 1 := by omega
    have w4 : IntKind.i64.wrap ((k : Int) - 1) = (k : Int) - 1 := w64 (by omega) (by omega)
    have hc1 : (k : Int) ≤ (k : Int) + Bw.length + 1 := by omega
    have hc2 : (k : Int) + Bw.length + 1 ≤ (A.length : Int) + 1 := by omega
    have hseg := seg_cons (ws := ws) (k := k) (m := n + 1) (by omega)
    have hxk := hws.getD k
    have hS : wval ((ws.drop k).take (d.length + 1)) < wval d * 18446744073709551616 := by
      rw [hdl, hseg]; omega
    have hdig := digit_ok ws d k hws hsd (by omega) (by omega) (by omega) hdtop hS
    simp only [W] at hdig
    rw [hdB] at hdig hS
    obtain ⟨S, hSd⟩ : ∃ S, S = wval ((ws.drop k).take (Bw.length + 1)) := ⟨_, rfl⟩
    have hvs := wval_seg (ws := ws) k (Bw.length + 1) (by omega)
    rw [← hSd] at hdig hS hvs
    rw [show k + 1 + (n + 1) = k + (Bw.length + 1) by omega] at hv
    have hround := long_round (Bk := 18446744073709551616 ^ k) (S := S) (Q := wval q) (D := wval d) (W1 := wval (ws.take k)) (U0 := wval u0) (BQ := 18446744073709551616 ^ (k + 1) * wval q) (by rw [hv, ← hvs]) (by rw [Nat.pow_succ])
    have hdp : 0 < wval d := by omega
    have hmodl : S % wval d < wval d := Nat.mod_lt _ hdp
    have hlow := ovr_low (ws := ws) (k := k) (n := Bw.length) (x := S % wval d) (by omega) (by rw [hn]; exact Nat.lt_trans hmodl hdlt)
    have hwn := wordsN_len (Bw.length + 1) (S % wval d)
    have hwlen : (ovr ws k (wordsN (Bw.length + 1) (S % wval d))).length = ws.length := ovr_len (by omega)
    have hsm := ovr_small (k := k) hws (wordsN_small (Bw.length + 1) (S % wval d))
    have hseg2 := wval_seg (ws := ovr ws k (wordsN (Bw.length + 1) (S % wval d))) k Bw.length (by omega)
    rw [ovr_take (by omega), hlow] at hseg2
    have hqd : S / wval d < 18446744073709551616 := by rw [Nat.div_lt_iff_lt_mul hdp, Nat.mul_comm]; exact hS
    have hset : (uW (List.replicate (k + 1) 0 ++ q)).set k (.d (.int .u64 (S / wval d : Nat))) = uW (List.replicate k 0 ++ (S / wval d) :: q) := by rw [uW_set, rep_set]
    have hol : (uW (List.replicate (k + 1) 0 ++ q)).length = m := by rw [uW_length]; simp; omega
    generalize ovr ws k (wordsN (Bw.length + 1) (S % wval d)) = ws' at *
    generalize S / wval d = q0 at *
    repeat (first | refine AW.seq ?_ | refine AW.block ?_ | (refine AW.reg mix ?_; simp -implicitDefEqProofs [w1, w2, w3, hg0, hc1, hc2]; try simp (disch := omega) only [w64, wu64]) | (refine need.of (by first | omega | kernel_rfl) ?_) | (refine AW.fin ?_; try simp -implicitDefEqProofs [w1, w2, w3, hg0, hc1, hc2]))
    refine CallS.o1 4 (hdig) (hO := uW_plain _) (hO' := (uW_plain _)) ?_
    (try (simp -implicitDefEqProofs [hol, hset, w4]; try simp (disch := omega) only [w64, wu64]))
    repeat (first | refine AW.seq ?_ | refine AW.block ?_ | (refine AW.reg mix ?_; simp -implicitDefEqProofs [hol, hset, w4]; try simp (disch := omega) only [w64, wu64]) | (refine need.of (by first | omega | kernel_rfl) ?_) | (refine AW.fin ?_; try simp -implicitDefEqProofs [hol, hset, w4]))
    refine ⟨k, ws', q0 :: q, ⟨by omega, by omega, hsm, by simp [hql]; omega, fun y hy => ?_, ?_, ?_⟩, by omega, by simp, ⟨Subs.refl _, uW_low _ _⟩, Subs.refl _, uW_low _ _⟩
    · rcases List.mem_cons.1 hy with rfl | hy
      · exact hqd
      · exact hsq y hy
    · rw [← hn, hseg2]; exact hround
    · rw [← hn, hlow]; exact hmodl
end
end Go.Proofs.YtdbfenhaljmbfaaGreat.Am
namespace Go.Proofs.YtdbfenhaljmbfaaGreat.Am
section
set_option linter.unusedVariables false
set_option linter.unusedSimpArgs false
open Go.RowKit
set_option maxRecDepth 100000
set_option linter.unusedSimpArgs false
set_option linter.unusedVariables false

theorem divmod_any (a b : Nat) (ha : size a ≤ 900000) (h0 : 0 < b) (hbs : size b ≤ 900000) : Eqn Tryz.prog n_nat_DivMod [.d (.agg [natW a]), .d (.agg [natW b])] [] (.tup [.d (.agg [natW (a / b)]), .d (.agg [natW (a % b)]), .d (.int .i64 0)]) [] := by
  by_cases hsm : b < 18446744073709551616 ∨ a < b
  · exact divmod_ok a b (by omega) h0 hsm (by omega)
  · have hb1 : 18446744073709551616 ≤ b := by omega
    have hab : b ≤ a := by omega
    refine Eqn.pure r_nat_DivMod (plain_tup3 _ _ _) ?_
    have hlong := long_ok a b hb1 hab ha
    have hz : (b == 0) = false := by simp; omega
    have hsz : 2 ≤ (words b).length := by
      rcases Nat.lt_or_ge (words b).length 2 with h | h
      · exfalso
        have := wval_lt (words_small b)
        rw [words_val] at this
        have h2 : 18446744073709551616 ^ (words b).length ≤ 18446744073709551616 ^ 1 := Nat.pow_le_pow_right (by decide) (by omega)
        omega
      · exact h
    obtain ⟨bn, bl, e', hbn⟩ : ∃ bn bl, natW b = .sl bn bl ∧ bn ≠ 1 := ⟨_, _, rfl, by omega⟩
    have hbn' : ¬ (bn : Int) = 1 := by omega
    have hcz : ¬ cmpZ a b < 0 := by rw [cmpZ_lt]; omega
    simp only [c_nat_DivMod]
    repeat (first | refine AW.seq ?_ | refine AW.block ?_ | (refine AW.reg mix ?_; simp -implicitDefEqProofs; try simp (disch := omega) only [w64, wu64]) | (refine need.of (by first | omega | kernel_rfl) ?_) | (refine AW.fin ?_; try simp -implicitDefEqProofs))
    refine CallS.pu (zero_ok b) ?_
    (try (simp -implicitDefEqProofs; try simp (disch := omega) only [w64, wu64]))
    repeat (first | refine AW.seq ?_ | refine AW.block ?_ | (refine AW.reg mix ?_; simp -implicitDefEqProofs; try simp (disch := omega) only [w64, wu64]) | (refine need.of (by first | omega | kernel_rfl) ?_) | (refine AW.fin ?_; try simp -implicitDefEqProofs))
    refine AW.cond rfl (fun h => ?_) (fun h => ?_)
    · simp [hz] at h
    repeat (first | refine AW.seq ?_ | refine AW.block ?_ | (refine AW.reg mix ?_; simp -implicitDefEqProofs; try simp (disch := omega) only [w64, wu64]) | (refine need.of (by first | omega | kernel_rfl) ?_) | (refine AW.fin ?_; try simp -implicitDefEqProofs))
    refine CallS.pu (cmp_ok a b (by omega) (by omega)) ?_
    (try (simp -implicitDefEqProofs [hcz]; try simp (disch := omega) only [w64, wu64]))
    repeat (first | refine AW.seq ?_ | refine AW.block ?_ | (refine AW.reg mix ?_; simp -implicitDefEqProofs [hcz]; try simp (disch := omega) only [w64, wu64]) | (refine need.of (by first | omega | kernel_rfl) ?_) | (refine AW.fin ?_; try simp -implicitDefEqProofs [hcz]))
    refine AW.cond rfl (fun h => ?_) (fun h => ?_)
    · simp [hcz] at h
    rw [e'] at hlong
    repeat (first | refine AW.seq ?_ | refine AW.block ?_ | (refine AW.reg mix ?_; simp -implicitDefEqProofs [e', hbn, hbn']; try simp (disch := omega) only [w64, wu64]) | (refine need.of (by first | omega | kernel_rfl) ?_) | (refine AW.fin ?_; try simp -implicitDefEqProofs [e', hbn, hbn']))
    refine AW.cond rfl (fun h => ?_) (fun h => ?_)
    · simp [hbn, hbn'] at h
    · repeat (first | refine AW.seq ?_ | refine AW.block ?_ | (refine AW.reg mix ?_; simp -implicitDefEqProofs; try simp (disch := omega) only [w64, wu64]) | (refine need.of (by first | omega | kernel_rfl) ?_) | (refine AW.fin ?_; try simp -implicitDefEqProofs))
      refine CallS.pu (hlong) ?_
      (try (simp -implicitDefEqProofs; try simp (disch := omega) only [w64, wu64]))
      repeat (first | refine AW.seq ?_ | refine AW.block ?_ | (refine AW.reg mix ?_; simp -implicitDefEqProofs; try simp (disch := omega) only [w64, wu64]) | (refine need.of (by first | omega | kernel_rfl) ?_) | (refine AW.fin ?_; try simp -implicitDefEqProofs))

theorem gcd_any (a b : Nat) (ha : size a ≤ 900000) (hb : size b ≤ 900000) : Eqn Tryz.prog n_nat_Gcd [.d (.agg [natW a]), .d (.agg [natW b])] [] (.d (.agg [natW (Nat.gcd a b)])) [] := by
  refine Eqn.pure r_nat_Gcd (plain_d _) ?_
  simp only [c_nat_Gcd]
  repeat (first | refine AW.seq ?_ | refine AW.block ?_ | (refine AW.reg mix ?_; simp -implicitDefEqProofs; try simp (disch := omega) only [w64, wu64]) | (refine need.of (by first | omega | kernel_rfl) ?_) | (refine AW.fin ?_; try simp -implicitDefEqProofs))
  refine AW.loopT (α := Nat × Nat) 3 (fun _ => []) (fun p => [(0, ⟨91, [.d (natW p.1)]⟩), (1, ⟨91, [.d (natW p.2)]⟩)]) (fun p => size p.1 ≤ 900000 ∧ size p.2 ≤ 900000 ∧ Nat.gcd p.1 p.2 = Nat.gcd a b) (fun p => p.2) (a, b) ?_ ?_ ⟨ha, hb, rfl⟩ ?_ ?_ ?_
  · simp
  · simp
  · simp
  · simp
  rintro ⟨x, y⟩ ⟨hx, hy, hg⟩
  simp only at hx hy hg
  simp
  repeat (first | refine AW.seq ?_ | refine AW.block ?_ | (refine AW.reg mix ?_; simp -implicitDefEqProofs; try simp (disch := omega) only [w64, wu64]) | (refine need.of (by first | omega | kernel_rfl) ?_) | (refine AW.fin ?_; try simp -implicitDefEqProofs))
  refine CallS.pu (zero_ok y) ?_
  (try (simp -implicitDefEqProofs; try simp (disch := omega) only [w64, wu64]))
  repeat (first | refine AW.seq ?_ | refine AW.block ?_ | (refine AW.reg mix ?_; simp -implicitDefEqProofs; try simp (disch := omega) only [w64, wu64]) | (refine need.of (by first | omega | kernel_rfl) ?_) | (refine AW.fin ?_; try simp -implicitDefEqProofs))
  by_cases h0 : y = 0
  · subst h0
    rw [Nat.gcd_zero_right] at hg
    subst hg
    refine AW.cond rfl (fun h => ?_) (fun h => ?_)
    · simp at h
    refine AW.exit ?_
    (try (simp -implicitDefEqProofs; try simp (disch := omega) only [w64, wu64]))
    repeat (first | refine AW.seq ?_ | refine AW.block ?_ | (refine AW.reg mix ?_; simp -implicitDefEqProofs; try simp (disch := omega) only [w64, wu64]) | (refine need.of (by first | omega | kernel_rfl) ?_) | (refine AW.fin ?_; try simp -implicitDefEqProofs))
    refine CallS.pu (of_ok (words (Nat.gcd a b)) (words_small _) (by unfold size at hx; omega)) ?_
    (try (simp -implicitDefEqProofs; try simp (disch := omega) only [w64, wu64]))
    repeat (first | refine AW.seq ?_ | refine AW.block ?_ | (refine AW.reg mix ?_; simp -implicitDefEqProofs; try simp (disch := omega) only [w64, wu64]) | (refine need.of (by first | omega | kernel_rfl) ?_) | (refine AW.fin ?_; try simp -implicitDefEqProofs))
    refine Sub1.of ?_
    rw [words_val]
  · have hy0 : 0 < y := by omega
    refine AW.cond rfl (fun h => ?_) (fun h => ?_)
    · repeat (first | refine AW.seq ?_ | refine AW.block ?_ | (refine AW.reg mix ?_; simp -implicitDefEqProofs; try simp (disch := omega) only [w64, wu64]) | (refine need.of (by first | omega | kernel_rfl) ?_) | (refine AW.fin ?_; try simp -implicitDefEqProofs))
      refine CallS.pu (divmod_any x y hx hy0 hy) ?_
      (try (simp -implicitDefEqProofs; try simp (disch := omega) only [w64, wu64]))
      repeat (first | refine AW.seq ?_ | refine AW.block ?_ | (refine AW.reg mix ?_; simp -implicitDefEqProofs; try simp (disch := omega) only [w64, wu64]) | (refine need.of (by first | omega | kernel_rfl) ?_) | (refine AW.fin ?_; try simp -implicitDefEqProofs))
      refine ⟨y, x % y, ⟨hy, Nat.le_trans (size_le (Nat.mod_le x y)) hx, ?_⟩, Nat.mod_lt _ hy0, Subs.refl _, ?_⟩
      · rw [← hg, Nat.gcd_comm x y, Nat.gcd_rec y x, Nat.gcd_comm]
      · exact Subs.refl _
    · simp at h
      exact absurd h h0
end
end Go.Proofs.YtdbfenhaljmbfaaGreat.Am
namespace Go.Proofs.YtdbfenhaljmbfaaGreat.Am
section
set_option linter.unusedVariables false
set_option linter.unusedSimpArgs false
theorem mkRat_parts (z : Int) (d : Nat) (hd : 0 < d) : (mkRat z d).num.natAbs = z.natAbs / Nat.gcd z.natAbs d ∧ (mkRat z d).den = d / Nat.gcd z.natAbs d ∧ ((mkRat z d).num < 0 ↔ z < 0) := by
  have hg : 0 < Nat.gcd z.natAbs d := Nat.gcd_pos_of_pos_right _ hd
  rw [Rat.mkRat_def, dif_neg (by omega), Rat.normalize_eq]
  have hdv : ((Nat.gcd z.natAbs d : Nat) : Int) ∣ z := Int.ofNat_dvd_left.2 (Nat.gcd_dvd_left _ _)
  refine ⟨?_, rfl, ?_⟩
  · show (z / ((Nat.gcd z.natAbs d : Nat) : Int)).natAbs = _
    rw [Int.natAbs_ediv_of_dvd hdv, Int.natAbs_natCast]
  · show z / ((Nat.gcd z.natAbs d : Nat) : Int) < 0 ↔ z < 0
    obtain ⟨k, hk⟩ := hdv
    have hg' : 0 < ((Nat.gcd z.natAbs d : Nat) : Int) := by omega
    generalize ((Nat.gcd z.natAbs d : Nat) : Int) = g at *
    rw [hk, Int.mul_ediv_cancel_left _ (by omega)]
    constructor
    · intro h; exact Int.mul_neg_of_pos_of_neg hg' h
    · intro h
      rcases Int.lt_or_le k 0 with h1 | h1
      · exact h1
      · have := Int.mul_nonneg (Int.le_of_lt hg') h1; omega
theorem rat_add (x y : Rat) : x + y = mkRat (x.num * y.den + y.num * x.den) (x.den * y.den) := Rat.add_def' x y
theorem rat_mul (x y : Rat) : x * y = mkRat (x.num * y.num) (x.den * y.den) := Rat.mul_def' x y
theorem rat_lt (x y : Rat) : x < y ↔ x.num * y.den < y.num * x.den := Rat.lt_iff x y
end
end Go.Proofs.YtdbfenhaljmbfaaGreat.Am
namespace Go.Proofs.YtdbfenhaljmbfaaGreat.Am
section
set_option linter.unusedVariables false
set_option linter.unusedSimpArgs false
open Go.RowKit
set_option maxRecDepth 100000
set_option linter.unusedSimpArgs false
set_option linter.unusedVariables false

/-- whole numbers, fractions -/
def wD (z : Int) : D := .agg [natW z.natAbs, .bool (decide (z < 0))]
def rD (q : Rat) : D := .agg [natW q.num.natAbs, .bool (decide (q.num < 0)), natW (q.den - 1)]

theorem size_mulR (a b : Nat) : size (a * b) ≤ size a + size b := by
  refine words_le (words_top _) ?_
  rw [words_val, Nat.pow_add]
  have ha := wval_lt (words_small a)
  have hb := wval_lt (words_small b)
  rw [words_val] at ha hb
  unfold size
  exact Nat.mul_lt_mul'' ha hb
theorem size_addR (a b : Nat) : size (a + b) ≤ max (size a) (size b) + 1 := by
  refine words_le (words_top _) ?_
  rw [words_val, Nat.pow_succ]
  have ha := wval_lt (words_small a)
  have hb := wval_lt (words_small b)
  rw [words_val] at ha hb
  have h1 : 18446744073709551616 ^ (words a).length ≤ 18446744073709551616 ^ max (size a) (size b) := Nat.pow_le_pow_right (by decide) (Nat.le_max_left _ _)
  have h2 : 18446744073709551616 ^ (words b).length ≤ 18446744073709551616 ^ max (size a) (size b) := Nat.pow_le_pow_right (by decide) (Nat.le_max_right _ _)
  omega

/-- a difference that isn't: less by more -/
theorem sub_more (m n : Nat) (hm : size m ≤ 1000000) (hn : size n ≤ 1000000) (hlt : m < n) : Eqn Tryz.prog n_nat_Sub [.d (.agg [natW m]), .d (.agg [natW n])] [] (.tup [.d (.agg [.nilsl]), .d (.int .i64 2)]) [] := by
  refine Eqn.pure r_nat_Sub Plain.ok ?_
  have hc := cmp_ok m n hm hn
  have hlt' : cmpZ m n < 0 := cmpZ_lt.2 hlt
  simp only [c_nat_Sub]
  repeat (first | refine AW.seq ?_ | refine AW.block ?_ | (refine AW.reg mix ?_; simp -implicitDefEqProofs; try simp (disch := omega) only [w64, wu64]) | (refine need.of (by first | omega | kernel_rfl) ?_) | (refine AW.fin ?_; try simp -implicitDefEqProofs))
  refine CallS.pu (hc) ?_
  (try (simp -implicitDefEqProofs [hlt']; try simp (disch := omega) only [w64, wu64]))
  repeat (first | refine AW.seq ?_ | refine AW.block ?_ | (refine AW.reg mix ?_; simp -implicitDefEqProofs [hlt']; try simp (disch := omega) only [w64, wu64]) | (refine need.of (by first | omega | kernel_rfl) ?_) | (refine AW.fin ?_; try simp -implicitDefEqProofs [hlt']))
  refine AW.cond rfl (fun h => ?_) (fun h => ?_)
  · repeat (first | refine AW.seq ?_ | refine AW.block ?_ | (refine AW.reg mix ?_; simp -implicitDefEqProofs; try simp (disch := omega) only [w64, wu64]) | (refine need.of (by first | omega | kernel_rfl) ?_) | (refine AW.fin ?_; try simp -implicitDefEqProofs))
  · simp [hlt'] at h

theorem wmakeB_ok (s : Bool) (a : Nat) : Eqn Tryz.prog n_whole_Make [.d (.bool s), .d (.agg [natW a])] [] (.d (.agg [natW a, .bool (s && decide (a ≠ 0))])) [] := by
  refine Eqn.pure r_whole_Make Plain.ok ?_
  have hz := zero_ok a
  simp only [c_whole_Make]
  cases s with
  | true =>
    repeat (first | refine AW.seq ?_ | refine AW.block ?_ | (refine AW.reg mix ?_; simp -implicitDefEqProofs; try simp (disch := omega) only [w64, wu64]) | (refine need.of (by first | omega | kernel_rfl) ?_) | (refine AW.fin ?_; try simp -implicitDefEqProofs))
    refine CallS.pu (hz) ?_
    (try (simp -implicitDefEqProofs; try simp (disch := omega) only [w64, wu64]))
    repeat (first | refine AW.seq ?_ | refine AW.block ?_ | (refine AW.reg mix ?_; simp -implicitDefEqProofs; try simp (disch := omega) only [w64, wu64]) | (refine need.of (by first | omega | kernel_rfl) ?_) | (refine AW.fin ?_; try simp -implicitDefEqProofs))
    refine Sub1.of ?_
    simp
    cases a <;> rfl
  | false =>
    repeat (first | refine AW.seq ?_ | refine AW.block ?_ | (refine AW.reg mix ?_; simp -implicitDefEqProofs; try simp (disch := omega) only [w64, wu64]) | (refine need.of (by first | omega | kernel_rfl) ?_) | (refine AW.fin ?_; try simp -implicitDefEqProofs))
theorem wmake_int (s : Bool) (a : Nat) (z : Int) (hz : z = if s then -(a : Int) else a) : Eqn Tryz.prog n_whole_Make [.d (.bool s), .d (.agg [natW a])] [] (.d (wD z)) [] := by
  have h := wmakeB_ok s a
  have e : D.agg [natW a, .bool (s && decide (a ≠ 0))] = wD z := by
    subst hz
    unfold wD
    cases s with
    | true =>
      simp only [if_true, Int.natAbs_neg, Int.natAbs_natCast, Bool.true_and]
      congr 4
      rw [decide_eq_decide]; omega
    | false =>
      simp only [Bool.false_and, Int.natAbs_natCast, Bool.false_eq_true, if_false]
      congr 4
  rw [e] at h
  exact h
theorem wabs_ok (z : Int) : Eqn Tryz.prog n_whole_Whole_Abs [.d (wD z)] [] (.d (.agg [natW z.natAbs])) [] := abs_ok _ _
theorem wneg_ok (z : Int) : Eqn Tryz.prog n_whole_Whole_Neg [.d (wD z)] [] (.d (.bool (decide (z < 0)))) [] := neg_ok _ _

theorem wmul_int (x y : Int) (hx : size x.natAbs ≤ 400000) (hy : size y.natAbs ≤ 400000) : Eqn Tryz.prog n_whole_Mul [.d (wD x), .d (wD y)] [] (.d (wD (x * y))) [] := by
  refine Eqn.pure r_whole_Mul (plain_d _) ?_
  have hm := mul_ok x.natAbs y.natAbs (by omega) (by omega)
  have hk := fun s h => wmake_int s (x.natAbs * y.natAbs) (x * y) h
  simp only [c_whole_Mul, wD] at hk ⊢
  repeat (first | refine AW.seq ?_ | refine AW.block ?_ | (refine AW.reg mix ?_; simp -implicitDefEqProofs; try simp (disch := omega) only [w64, wu64]) | (refine need.of (by first | omega | kernel_rfl) ?_) | (refine AW.fin ?_; try simp -implicitDefEqProofs))
  refine CallS.pu (hm) ?_
  (try (simp -implicitDefEqProofs; try simp (disch := omega) only [w64, wu64]))
  repeat (first | refine AW.seq ?_ | refine AW.block ?_ | (refine AW.reg mix ?_; simp -implicitDefEqProofs; try simp (disch := omega) only [w64, wu64]) | (refine need.of (by first | omega | kernel_rfl) ?_) | (refine AW.fin ?_; try simp -implicitDefEqProofs))
  have e : x * y = if (decide (x < 0) != decide (y < 0)) = true then -((x.natAbs * y.natAbs : Nat) : Int) else ((x.natAbs * y.natAbs : Nat) : Int) := by
    rw [Int.natCast_mul]
    by_cases h1 : x < 0 <;> by_cases h2 : y < 0 <;> simp only [h1, h2, decide_true, decide_false]
    · rw [if_neg (by decide), Int.ofNat_natAbs_of_nonpos (by omega), Int.ofNat_natAbs_of_nonpos (by omega), Int.neg_mul_neg]
    · rw [if_pos (by decide), Int.ofNat_natAbs_of_nonpos (by omega), Int.natAbs_of_nonneg (by omega), Int.neg_mul, Int.neg_neg]
    · rw [if_pos (by decide), Int.ofNat_natAbs_of_nonpos (a := y) (by omega), Int.natAbs_of_nonneg (by omega), Int.mul_neg, Int.neg_neg]
    · rw [if_neg (by decide), Int.natAbs_of_nonneg (by omega), Int.natAbs_of_nonneg (by omega)]
  replace hk := hk _ e
  refine CallS.pu (hk) ?_
  (try (simp -implicitDefEqProofs; try simp (disch := omega) only [w64, wu64]))
  repeat (first | refine AW.seq ?_ | refine AW.block ?_ | (refine AW.reg mix ?_; simp -implicitDefEqProofs; try simp (disch := omega) only [w64, wu64]) | (refine need.of (by first | omega | kernel_rfl) ?_) | (refine AW.fin ?_; try simp -implicitDefEqProofs))

theorem wminus_int (x : Int) : Eqn Tryz.prog n_whole_Minus [.d (wD x)] [] (.d (wD (-x))) [] := by
  refine Eqn.pure r_whole_Minus (plain_d _) ?_
  have hk := wmake_int (!decide (x < 0)) x.natAbs (-x) (by
    by_cases h : x < 0
    · simp only [h, decide_true, Bool.not_true, Bool.false_eq_true, if_false]; omega
    · simp only [h, decide_false, Bool.not_false, if_true]; omega)
  simp only [c_whole_Minus, wD] at hk ⊢
  repeat (first | refine AW.seq ?_ | refine AW.block ?_ | (refine AW.reg mix ?_; simp -implicitDefEqProofs; try simp (disch := omega) only [w64, wu64]) | (refine need.of (by first | omega | kernel_rfl) ?_) | (refine AW.fin ?_; try simp -implicitDefEqProofs))
  refine CallS.pu (hk) ?_
  (try (simp -implicitDefEqProofs; try simp (disch := omega) only [w64, wu64]))
  repeat (first | refine AW.seq ?_ | refine AW.block ?_ | (refine AW.reg mix ?_; simp -implicitDefEqProofs; try simp (disch := omega) only [w64, wu64]) | (refine need.of (by first | omega | kernel_rfl) ?_) | (refine AW.fin ?_; try simp -implicitDefEqProofs))

theorem wadd_int (x y : Int) (hx : size x.natAbs ≤ 400000) (hy : size y.natAbs ≤ 400000) : Eqn Tryz.prog n_whole_Add [.d (wD x), .d (wD y)] [] (.d (wD (x + y))) [] := by
  refine Eqn.pure r_whole_Add (plain_d _) ?_
  by_cases hs : decide (x < 0) = decide (y < 0)
  · have ha := add_ok x.natAbs y.natAbs (by omega) (by omega)
    have hk := wmake_int (decide (x < 0)) (x.natAbs + y.natAbs) (x + y) (by
      rw [decide_eq_decide] at hs
      by_cases h : x < 0
      · rw [if_pos (by simpa using h)]; omega
      · rw [if_neg (by simpa using h)]; omega)
    simp only [c_whole_Add, wD] at hk ⊢
    generalize decide (x < 0) = sx at *
    generalize decide (y < 0) = sy at *
    subst hs
    repeat (first | refine AW.seq ?_ | refine AW.block ?_ | (refine AW.reg mix ?_; simp -implicitDefEqProofs; try simp (disch := omega) only [w64, wu64]) | (refine need.of (by first | omega | kernel_rfl) ?_) | (refine AW.fin ?_; try simp -implicitDefEqProofs))
    refine AW.cond rfl (fun h => ?_) (fun h => ?_)
    · repeat (first | refine AW.seq ?_ | refine AW.block ?_ | (refine AW.reg mix ?_; simp -implicitDefEqProofs; try simp (disch := omega) only [w64, wu64]) | (refine need.of (by first | omega | kernel_rfl) ?_) | (refine AW.fin ?_; try simp -implicitDefEqProofs))
      refine CallS.pu (ha) ?_
      (try (simp -implicitDefEqProofs; try simp (disch := omega) only [w64, wu64]))
      repeat (first | refine AW.seq ?_ | refine AW.block ?_ | (refine AW.reg mix ?_; simp -implicitDefEqProofs; try simp (disch := omega) only [w64, wu64]) | (refine need.of (by first | omega | kernel_rfl) ?_) | (refine AW.fin ?_; try simp -implicitDefEqProofs))
      refine CallS.pu (hk) ?_
      (try (simp -implicitDefEqProofs; try simp (disch := omega) only [w64, wu64]))
      repeat (first | refine AW.seq ?_ | refine AW.block ?_ | (refine AW.reg mix ?_; simp -implicitDefEqProofs; try simp (disch := omega) only [w64, wu64]) | (refine need.of (by first | omega | kernel_rfl) ?_) | (refine AW.fin ?_; try simp -implicitDefEqProofs))
    · simp at h
  · have hs' : ¬ (x < 0 ↔ y < 0) := fun h => hs (decide_eq_decide.2 h)
    by_cases hle : y.natAbs ≤ x.natAbs
    · have ha := sub_ok x.natAbs y.natAbs (by omega) hle
      have hk := wmake_int (decide (x < 0)) (x.natAbs - y.natAbs) (x + y) (by
        by_cases h : x < 0
        · rw [if_pos (by simpa using h)]; omega
        · rw [if_neg (by simpa using h)]; omega)
      simp only [c_whole_Add, wD] at hk ⊢
      generalize decide (x < 0) = sx at *
      generalize decide (y < 0) = sy at *
      have hs2 : (sx == sy) = false := by simpa using hs
      repeat (first | refine AW.seq ?_ | refine AW.block ?_ | (refine AW.reg mix ?_; simp -implicitDefEqProofs [hs2, hs]; try simp (disch := omega) only [w64, wu64]) | (refine need.of (by first | omega | kernel_rfl) ?_) | (refine AW.fin ?_; try simp -implicitDefEqProofs [hs2, hs]))
      refine AW.cond rfl (fun h => ?_) (fun h => ?_)
      · simp [hs2, hs] at h
      · repeat (first | refine AW.seq ?_ | refine AW.block ?_ | (refine AW.reg mix ?_; simp -implicitDefEqProofs; try simp (disch := omega) only [w64, wu64]) | (refine need.of (by first | omega | kernel_rfl) ?_) | (refine AW.fin ?_; try simp -implicitDefEqProofs))
        refine CallS.pu (ha) ?_
        (try (simp -implicitDefEqProofs; try simp (disch := omega) only [w64, wu64]))
        repeat (first | refine AW.seq ?_ | refine AW.block ?_ | (refine AW.reg mix ?_; simp -implicitDefEqProofs; try simp (disch := omega) only [w64, wu64]) | (refine need.of (by first | omega | kernel_rfl) ?_) | (refine AW.fin ?_; try simp -implicitDefEqProofs))
        refine AW.cond rfl (fun h => ?_) (fun h => ?_)
        · repeat (first | refine AW.seq ?_ | refine AW.block ?_ | (refine AW.reg mix ?_; simp -implicitDefEqProofs; try simp (disch := omega) only [w64, wu64]) | (refine need.of (by first | omega | kernel_rfl) ?_) | (refine AW.fin ?_; try simp -implicitDefEqProofs))
          refine CallS.pu (hk) ?_
          (try (simp -implicitDefEqProofs; try simp (disch := omega) only [w64, wu64]))
          repeat (first | refine AW.seq ?_ | refine AW.block ?_ | (refine AW.reg mix ?_; simp -implicitDefEqProofs; try simp (disch := omega) only [w64, wu64]) | (refine need.of (by first | omega | kernel_rfl) ?_) | (refine AW.fin ?_; try simp -implicitDefEqProofs))
        · simp at h
    · have hb := sub_more x.natAbs y.natAbs (by omega) (by omega) (by omega)
      have ha := sub_ok y.natAbs x.natAbs (by omega) (by omega)
      have hk := wmake_int (decide (y < 0)) (y.natAbs - x.natAbs) (x + y) (by
        by_cases h : y < 0
        · rw [if_pos (by simpa using h)]; omega
        · rw [if_neg (by simpa using h)]; omega)
      simp only [c_whole_Add, wD] at hk ⊢
      generalize decide (x < 0) = sx at *
      generalize decide (y < 0) = sy at *
      have hs2 : (sx == sy) = false := by simpa using hs
      repeat (first | refine AW.seq ?_ | refine AW.block ?_ | (refine AW.reg mix ?_; simp -implicitDefEqProofs [hs2, hs]; try simp (disch := omega) only [w64, wu64]) | (refine need.of (by first | omega | kernel_rfl) ?_) | (refine AW.fin ?_; try simp -implicitDefEqProofs [hs2, hs]))
      refine AW.cond rfl (fun h => ?_) (fun h => ?_)
      · simp [hs2, hs] at h
      · repeat (first | refine AW.seq ?_ | refine AW.block ?_ | (refine AW.reg mix ?_; simp -implicitDefEqProofs; try simp (disch := omega) only [w64, wu64]) | (refine need.of (by first | omega | kernel_rfl) ?_) | (refine AW.fin ?_; try simp -implicitDefEqProofs))
        refine CallS.pu (hb) ?_
        (try (simp -implicitDefEqProofs; try simp (disch := omega) only [w64, wu64]))
        repeat (first | refine AW.seq ?_ | refine AW.block ?_ | (refine AW.reg mix ?_; simp -implicitDefEqProofs; try simp (disch := omega) only [w64, wu64]) | (refine need.of (by first | omega | kernel_rfl) ?_) | (refine AW.fin ?_; try simp -implicitDefEqProofs))
        refine AW.cond rfl (fun h => ?_) (fun h => ?_)
        · simp at h
        · repeat (first | refine AW.seq ?_ | refine AW.block ?_ | (refine AW.reg mix ?_; simp -implicitDefEqProofs; try simp (disch := omega) only [w64, wu64]) | (refine need.of (by first | omega | kernel_rfl) ?_) | (refine AW.fin ?_; try simp -implicitDefEqProofs))
          refine CallS.pu (ha) ?_
          (try (simp -implicitDefEqProofs; try simp (disch := omega) only [w64, wu64]))
          repeat (first | refine AW.seq ?_ | refine AW.block ?_ | (refine AW.reg mix ?_; simp -implicitDefEqProofs; try simp (disch := omega) only [w64, wu64]) | (refine need.of (by first | omega | kernel_rfl) ?_) | (refine AW.fin ?_; try simp -implicitDefEqProofs))
          refine CallS.pu (hk) ?_
          (try (simp -implicitDefEqProofs; try simp (disch := omega) only [w64, wu64]))
          repeat (first | refine AW.seq ?_ | refine AW.block ?_ | (refine AW.reg mix ?_; simp -implicitDefEqProofs; try simp (disch := omega) only [w64, wu64]) | (refine need.of (by first | omega | kernel_rfl) ?_) | (refine AW.fin ?_; try simp -implicitDefEqProofs))

/-- less, the same, more -/
def cmpI (x y : Int) : Int := if x < y then -1 else if y < x then 1 else 0
theorem wcmp_int (x y : Int) (hx : size x.natAbs ≤ 900000) (hy : size y.natAbs ≤ 900000) : Eqn Tryz.prog n_whole_Cmp [.d (wD x), .d (wD y)] [] (.d (.int .i64 (cmpI x y))) [] := by
  refine Eqn.pure r_whole_Cmp (plain_d _) ?_
  have h1 := cmp_ok y.natAbs x.natAbs (by omega) (by omega)
  have h2 := cmp_ok x.natAbs y.natAbs (by omega) (by omega)
  simp only [c_whole_Cmp, wD]
  by_cases hx0 : x < 0 <;> by_cases hy0 : y < 0
  · have e : cmpI x y = cmpZ y.natAbs x.natAbs := by
      unfold cmpI cmpZ
      split <;> split <;> first | omega | (split <;> omega)
    rw [← e] at h1
    simp only [hx0, hy0, decide_true, decide_false]
    repeat (first | refine AW.seq ?_ | refine AW.block ?_ | (refine AW.reg mix ?_; simp -implicitDefEqProofs; try simp (disch := omega) only [w64, wu64]) | (refine need.of (by first | omega | kernel_rfl) ?_) | (refine AW.fin ?_; try simp -implicitDefEqProofs))
    refine AW.cond rfl (fun h => ?_) (fun h => ?_)
    · repeat (first | refine AW.seq ?_ | refine AW.block ?_ | (refine AW.reg mix ?_; simp -implicitDefEqProofs; try simp (disch := omega) only [w64, wu64]) | (refine need.of (by first | omega | kernel_rfl) ?_) | (refine AW.fin ?_; try simp -implicitDefEqProofs))
      refine CallS.pu (h1) ?_
      (try (simp -implicitDefEqProofs; try simp (disch := omega) only [w64, wu64]))
      repeat (first | refine AW.seq ?_ | refine AW.block ?_ | (refine AW.reg mix ?_; simp -implicitDefEqProofs; try simp (disch := omega) only [w64, wu64]) | (refine need.of (by first | omega | kernel_rfl) ?_) | (refine AW.fin ?_; try simp -implicitDefEqProofs))
    · simp at h
  · have e : cmpI x y = -1 := by unfold cmpI; rw [if_pos (by omega)]
    rw [e]
    simp only [hx0, hy0, decide_true, decide_false]
    repeat (first | refine AW.seq ?_ | refine AW.block ?_ | (refine AW.reg mix ?_; simp -implicitDefEqProofs; try simp (disch := omega) only [w64, wu64]) | (refine need.of (by first | omega | kernel_rfl) ?_) | (refine AW.fin ?_; try simp -implicitDefEqProofs))
    refine AW.cond rfl (fun h => ?_) (fun h => ?_)
    · simp at h
    repeat (first | refine AW.seq ?_ | refine AW.block ?_ | (refine AW.reg mix ?_; simp -implicitDefEqProofs; try simp (disch := omega) only [w64, wu64]) | (refine need.of (by first | omega | kernel_rfl) ?_) | (refine AW.fin ?_; try simp -implicitDefEqProofs))
    refine AW.cond rfl (fun h => ?_) (fun h => ?_)
    · repeat (first | refine AW.seq ?_ | refine AW.block ?_ | (refine AW.reg mix ?_; simp -implicitDefEqProofs; try simp (disch := omega) only [w64, wu64]) | (refine need.of (by first | omega | kernel_rfl) ?_) | (refine AW.fin ?_; try simp -implicitDefEqProofs))
    · simp at h
  · have e : cmpI x y = 1 := by unfold cmpI; rw [if_neg (by omega), if_pos (by omega)]
    rw [e]
    simp only [hx0, hy0, decide_true, decide_false]
    repeat (first | refine AW.seq ?_ | refine AW.block ?_ | (refine AW.reg mix ?_; simp -implicitDefEqProofs; try simp (disch := omega) only [w64, wu64]) | (refine need.of (by first | omega | kernel_rfl) ?_) | (refine AW.fin ?_; try simp -implicitDefEqProofs))
    refine AW.cond rfl (fun h => ?_) (fun h => ?_)
    · simp at h
    repeat (first | refine AW.seq ?_ | refine AW.block ?_ | (refine AW.reg mix ?_; simp -implicitDefEqProofs; try simp (disch := omega) only [w64, wu64]) | (refine need.of (by first | omega | kernel_rfl) ?_) | (refine AW.fin ?_; try simp -implicitDefEqProofs))
    refine AW.cond rfl (fun h => ?_) (fun h => ?_)
    · simp at h
    repeat (first | refine AW.seq ?_ | refine AW.block ?_ | (refine AW.reg mix ?_; simp -implicitDefEqProofs; try simp (disch := omega) only [w64, wu64]) | (refine need.of (by first | omega | kernel_rfl) ?_) | (refine AW.fin ?_; try simp -implicitDefEqProofs))
    refine AW.cond rfl (fun h => ?_) (fun h => ?_)
    · repeat (first | refine AW.seq ?_ | refine AW.block ?_ | (refine AW.reg mix ?_; simp -implicitDefEqProofs; try simp (disch := omega) only [w64, wu64]) | (refine need.of (by first | omega | kernel_rfl) ?_) | (refine AW.fin ?_; try simp -implicitDefEqProofs))
    · simp at h
  · have e : cmpI x y = cmpZ x.natAbs y.natAbs := by
      unfold cmpI cmpZ
      split <;> split <;> first | omega | (split <;> omega)
    rw [← e] at h2
    simp only [hx0, hy0, decide_true, decide_false]
    repeat (first | refine AW.seq ?_ | refine AW.block ?_ | (refine AW.reg mix ?_; simp -implicitDefEqProofs; try simp (disch := omega) only [w64, wu64]) | (refine need.of (by first | omega | kernel_rfl) ?_) | (refine AW.fin ?_; try simp -implicitDefEqProofs))
    refine AW.cond rfl (fun h => ?_) (fun h => ?_)
    · simp at h
    repeat (first | refine AW.seq ?_ | refine AW.block ?_ | (refine AW.reg mix ?_; simp -implicitDefEqProofs; try simp (disch := omega) only [w64, wu64]) | (refine need.of (by first | omega | kernel_rfl) ?_) | (refine AW.fin ?_; try simp -implicitDefEqProofs))
    refine AW.cond rfl (fun h => ?_) (fun h => ?_)
    · simp at h
    repeat (first | refine AW.seq ?_ | refine AW.block ?_ | (refine AW.reg mix ?_; simp -implicitDefEqProofs; try simp (disch := omega) only [w64, wu64]) | (refine need.of (by first | omega | kernel_rfl) ?_) | (refine AW.fin ?_; try simp -implicitDefEqProofs))
    refine AW.cond rfl (fun h => ?_) (fun h => ?_)
    · simp at h
    repeat (first | refine AW.seq ?_ | refine AW.block ?_ | (refine AW.reg mix ?_; simp -implicitDefEqProofs; try simp (disch := omega) only [w64, wu64]) | (refine need.of (by first | omega | kernel_rfl) ?_) | (refine AW.fin ?_; try simp -implicitDefEqProofs))
    refine CallS.pu (h2) ?_
    (try (simp -implicitDefEqProofs; try simp (disch := omega) only [w64, wu64]))
    repeat (first | refine AW.seq ?_ | refine AW.block ?_ | (refine AW.reg mix ?_; simp -implicitDefEqProofs; try simp (disch := omega) only [w64, wu64]) | (refine need.of (by first | omega | kernel_rfl) ?_) | (refine AW.fin ?_; try simp -implicitDefEqProofs))
end
end Go.Proofs.YtdbfenhaljmbfaaGreat.Am
namespace Go.Proofs.YtdbfenhaljmbfaaGreat.Am
section
set_option linter.unusedVariables false
set_option linter.unusedSimpArgs false
open Go.RowKit
set_option maxRecDepth 100000
set_option linter.unusedSimpArgs false
set_option linter.unusedVariables false

theorem made_int (z : Int) (d : Nat) (hd : 0 < d) (hz : size z.natAbs ≤ 900000) (hds : size d ≤ 900000) : Eqn Tryz.prog n_rat_made [.d (wD z), .d (.agg [natW d])] [] (.d (rD (mkRat z d))) [] := by
  refine Eqn.pure r_rat_made (plain_d _) ?_
  obtain ⟨p1, p2, p3⟩ := mkRat_parts z d hd
  have hg0 : 0 < Nat.gcd z.natAbs d := Nat.gcd_pos_of_pos_right _ hd
  have hgs : size (Nat.gcd z.natAbs d) ≤ 900000 := Nat.le_trans (size_le (Nat.gcd_le_right _ hd)) hds
  have h1 := gcd_any z.natAbs d hz hds
  have h2 := divmod_any z.natAbs (Nat.gcd z.natAbs d) hz hg0 hgs
  have h3 := divmod_any d (Nat.gcd z.natAbs d) hds hg0 hgs
  have hdp : 0 < d / Nat.gcd z.natAbs d := Nat.div_pos (Nat.gcd_le_right _ hd) hg0
  have hdq : size (d / Nat.gcd z.natAbs d) ≤ 900000 := Nat.le_trans (size_le (Nat.div_le_self _ _)) hds
  have h4 := sub_ok (d / Nat.gcd z.natAbs d) 1 (by omega) hdp
  have hab := wabs_ok z
  have hng := wneg_ok z
  have hk := wmakeB_ok (decide (z < 0)) (z.natAbs / Nat.gcd z.natAbs d)
  have hsg : (decide (z < 0) && decide (z.natAbs / Nat.gcd z.natAbs d ≠ 0)) = decide ((mkRat z d).num < 0) := by
    rw [Bool.eq_iff_iff]
    simp only [Bool.and_eq_true, decide_eq_true_eq, p3]
    rw [← p1]
    constructor
    · intro h; exact h.1
    · intro h
      have := p3.2 h
      exact ⟨h, by omega⟩
  rw [hsg, ← p1] at hk
  rw [← p1] at h2
  rw [← p2] at h3 h4
  simp only [c_rat_made, rD, wD] at hab hng ⊢
  repeat (first | refine AW.seq ?_ | refine AW.block ?_ | (refine AW.reg mix ?_; simp -implicitDefEqProofs; try simp (disch := omega) only [w64, wu64]) | (refine need.of (by first | omega | kernel_rfl) ?_) | (refine AW.fin ?_; try simp -implicitDefEqProofs))
  refine CallS.pu (hab) ?_
  (try (simp -implicitDefEqProofs; try simp (disch := omega) only [w64, wu64]))
  repeat (first | refine AW.seq ?_ | refine AW.block ?_ | (refine AW.reg mix ?_; simp -implicitDefEqProofs; try simp (disch := omega) only [w64, wu64]) | (refine need.of (by first | omega | kernel_rfl) ?_) | (refine AW.fin ?_; try simp -implicitDefEqProofs))
  refine CallS.pu (h1) ?_
  (try (simp -implicitDefEqProofs; try simp (disch := omega) only [w64, wu64]))
  repeat (first | refine AW.seq ?_ | refine AW.block ?_ | (refine AW.reg mix ?_; simp -implicitDefEqProofs; try simp (disch := omega) only [w64, wu64]) | (refine need.of (by first | omega | kernel_rfl) ?_) | (refine AW.fin ?_; try simp -implicitDefEqProofs))
  refine CallS.pu (hab) ?_
  (try (simp -implicitDefEqProofs; try simp (disch := omega) only [w64, wu64]))
  repeat (first | refine AW.seq ?_ | refine AW.block ?_ | (refine AW.reg mix ?_; simp -implicitDefEqProofs; try simp (disch := omega) only [w64, wu64]) | (refine need.of (by first | omega | kernel_rfl) ?_) | (refine AW.fin ?_; try simp -implicitDefEqProofs))
  refine CallS.pu (h2) ?_
  (try (simp -implicitDefEqProofs; try simp (disch := omega) only [w64, wu64]))
  repeat (first | refine AW.seq ?_ | refine AW.block ?_ | (refine AW.reg mix ?_; simp -implicitDefEqProofs; try simp (disch := omega) only [w64, wu64]) | (refine need.of (by first | omega | kernel_rfl) ?_) | (refine AW.fin ?_; try simp -implicitDefEqProofs))
  refine CallS.pu (h3) ?_
  (try (simp -implicitDefEqProofs; try simp (disch := omega) only [w64, wu64]))
  repeat (first | refine AW.seq ?_ | refine AW.block ?_ | (refine AW.reg mix ?_; simp -implicitDefEqProofs; try simp (disch := omega) only [w64, wu64]) | (refine need.of (by first | omega | kernel_rfl) ?_) | (refine AW.fin ?_; try simp -implicitDefEqProofs))
  refine CallS.pf 8 1 ⟨80, _⟩ [.int .u64 (1 : Nat)] (of_ok [1] (small_one (by omega)) (by simp)) (by first | rfl | (simp; done)) ?_
  (try (simp -implicitDefEqProofs; try simp (disch := omega) only [w64, wu64]))
  repeat (first | refine AW.seq ?_ | refine AW.block ?_ | (refine AW.reg mix ?_; simp -implicitDefEqProofs; try simp (disch := omega) only [w64, wu64]) | (refine need.of (by first | omega | kernel_rfl) ?_) | (refine AW.fin ?_; try simp -implicitDefEqProofs))
  refine CallS.pu (h4) ?_
  (try (simp -implicitDefEqProofs; try simp (disch := omega) only [w64, wu64]))
  repeat (first | refine AW.seq ?_ | refine AW.block ?_ | (refine AW.reg mix ?_; simp -implicitDefEqProofs; try simp (disch := omega) only [w64, wu64]) | (refine need.of (by first | omega | kernel_rfl) ?_) | (refine AW.fin ?_; try simp -implicitDefEqProofs))
  refine CallS.pu (hng) ?_
  (try (simp -implicitDefEqProofs; try simp (disch := omega) only [w64, wu64]))
  repeat (first | refine AW.seq ?_ | refine AW.block ?_ | (refine AW.reg mix ?_; simp -implicitDefEqProofs; try simp (disch := omega) only [w64, wu64]) | (refine need.of (by first | omega | kernel_rfl) ?_) | (refine AW.fin ?_; try simp -implicitDefEqProofs))
  refine CallS.pu (hk) ?_
  (try (simp -implicitDefEqProofs; try simp (disch := omega) only [w64, wu64]))
  repeat (first | refine AW.seq ?_ | refine AW.block ?_ | (refine AW.reg mix ?_; simp -implicitDefEqProofs; try simp (disch := omega) only [w64, wu64]) | (refine need.of (by first | omega | kernel_rfl) ?_) | (refine AW.fin ?_; try simp -implicitDefEqProofs))

theorem rden_int (q : Rat) (h : size q.den ≤ 900000) : Eqn Tryz.prog n_rat_Rat_Den [.d (rD q)] [] (.d (.agg [natW q.den])) [] := by
  have hp := q.den_pos
  have := rden_ok q.num.natAbs (q.den - 1) (decide (q.num < 0)) (Nat.le_trans (size_le (Nat.sub_le _ _)) (by omega))
  rw [show q.den - 1 + 1 = q.den by omega] at this
  exact this
theorem rdenw_int (q : Rat) (h : size q.den ≤ 900000) : Eqn Tryz.prog n_rat_Rat_den [.d (rD q)] [] (.d (wD q.den)) [] := by
  refine Eqn.pure r_rat_Rat_den (plain_d _) ?_
  have h1 := rden_int q h
  have h2 := wmake_int false q.den (q.den : Int) rfl
  simp only [c_rat_Rat_den, rD, wD] at h1 h2 ⊢
  repeat (first | refine AW.seq ?_ | refine AW.block ?_ | (refine AW.reg mix ?_; simp -implicitDefEqProofs; try simp (disch := omega) only [w64, wu64]) | (refine need.of (by first | omega | kernel_rfl) ?_) | (refine AW.fin ?_; try simp -implicitDefEqProofs))
  refine CallS.pu (h1) ?_
  (try (simp -implicitDefEqProofs; try simp (disch := omega) only [w64, wu64]))
  repeat (first | refine AW.seq ?_ | refine AW.block ?_ | (refine AW.reg mix ?_; simp -implicitDefEqProofs; try simp (disch := omega) only [w64, wu64]) | (refine need.of (by first | omega | kernel_rfl) ?_) | (refine AW.fin ?_; try simp -implicitDefEqProofs))
  refine CallS.pu (h2) ?_
  (try (simp -implicitDefEqProofs; try simp (disch := omega) only [w64, wu64]))
  repeat (first | refine AW.seq ?_ | refine AW.block ?_ | (refine AW.reg mix ?_; simp -implicitDefEqProofs; try simp (disch := omega) only [w64, wu64]) | (refine need.of (by first | omega | kernel_rfl) ?_) | (refine AW.fin ?_; try simp -implicitDefEqProofs))

/-- a fraction of so many words at most -/
def RS (q : Rat) (N : Nat) : Prop := size q.num.natAbs ≤ N ∧ size q.den ≤ N
theorem RS.le {q : Rat} {N M : Nat} (h : RS q N) (hm : N ≤ M) : RS q M := ⟨Nat.le_trans h.1 hm, Nat.le_trans h.2 hm⟩
theorem RS.mk' {z : Int} {d N : Nat} (hd : 0 < d) (h1 : size z.natAbs ≤ N) (h2 : size d ≤ N) : RS (mkRat z d) N := by
  obtain ⟨p1, p2, -⟩ := mkRat_parts z d hd
  refine ⟨?_, ?_⟩
  · rw [p1]; exact Nat.le_trans (size_le (Nat.div_le_self _ _)) h1
  · rw [p2]; exact Nat.le_trans (size_le (Nat.div_le_self _ _)) h2
theorem RS.mul {x y : Rat} {N M : Nat} (hx : RS x N) (hy : RS y M) : RS (x * y) (N + M) := by
  rw [rat_mul]
  refine RS.mk' (Nat.mul_pos x.den_pos y.den_pos) ?_ ?_
  · rw [Int.natAbs_mul]; have := size_mulR x.num.natAbs y.num.natAbs; have := hx.1; have := hy.1; omega
  · have := size_mulR x.den y.den; have := hx.2; have := hy.2; omega
theorem RS.add {x y : Rat} {N M : Nat} (hx : RS x N) (hy : RS y M) : RS (x + y) (N + M + 1) := by
  rw [rat_add]
  refine RS.mk' (Nat.mul_pos x.den_pos y.den_pos) ?_ ?_
  · have h1 := size_le (Int.natAbs_add_le (x.num * y.den) (y.num * x.den))
    have h2 := size_addR (x.num * y.den).natAbs (y.num * x.den).natAbs
    rw [Int.natAbs_mul, Int.natAbs_mul, Int.natAbs_natCast, Int.natAbs_natCast] at *
    have h3 := size_mulR x.num.natAbs y.den
    have h4 := size_mulR y.num.natAbs x.den
    have := hx.1; have := hy.1; have := hx.2; have := hy.2
    omega
  · have := size_mulR x.den y.den; have := hx.2; have := hy.2; omega
theorem RS.neg {x : Rat} {N : Nat} (hx : RS x N) : RS (-x) N := by
  refine ⟨?_, ?_⟩
  · rw [Rat.neg_num, Int.natAbs_neg]; exact hx.1
  · rw [Rat.neg_den]; exact hx.2
theorem RS.sub {x y : Rat} {N M : Nat} (hx : RS x N) (hy : RS y M) : RS (x - y) (N + M + 1) := by
  rw [Rat.sub_eq_add_neg]; exact hx.add hy.neg

theorem rmul_int (x y : Rat) (hx : RS x 100000) (hy : RS y 100000) : Eqn Tryz.prog n_rat_Mul [.d (rD x), .d (rD y)] [] (.d (rD (x * y))) [] := by
  refine Eqn.pure r_rat_Mul (plain_d _) ?_
  have h1 := wmul_int x.num y.num (by have := hx.1; omega) (by have := hy.1; omega)
  have h2 := rden_int x (by have := hx.2; omega)
  have h3 := rden_int y (by have := hy.2; omega)
  have h4 := mul_ok x.den y.den (by have := hx.2; omega) (by have := hy.2; omega)
  have h5 := made_int (x.num * y.num) (x.den * y.den) (Nat.mul_pos x.den_pos y.den_pos) (by rw [Int.natAbs_mul]; have := size_mulR x.num.natAbs y.num.natAbs; have := hx.1; have := hy.1; omega) (by have := size_mulR x.den y.den; have := hx.2; have := hy.2; omega)
  rw [← rat_mul] at h5
  simp only [c_rat_Mul, rD, wD] at h1 h2 h3 h5 ⊢
  repeat (first | refine AW.seq ?_ | refine AW.block ?_ | (refine AW.reg mix ?_; simp -implicitDefEqProofs; try simp (disch := omega) only [w64, wu64]) | (refine need.of (by first | omega | kernel_rfl) ?_) | (refine AW.fin ?_; try simp -implicitDefEqProofs))
  refine CallS.pu (h1) ?_
  (try (simp -implicitDefEqProofs; try simp (disch := omega) only [w64, wu64]))
  repeat (first | refine AW.seq ?_ | refine AW.block ?_ | (refine AW.reg mix ?_; simp -implicitDefEqProofs; try simp (disch := omega) only [w64, wu64]) | (refine need.of (by first | omega | kernel_rfl) ?_) | (refine AW.fin ?_; try simp -implicitDefEqProofs))
  refine CallS.pu (h2) ?_
  (try (simp -implicitDefEqProofs; try simp (disch := omega) only [w64, wu64]))
  repeat (first | refine AW.seq ?_ | refine AW.block ?_ | (refine AW.reg mix ?_; simp -implicitDefEqProofs; try simp (disch := omega) only [w64, wu64]) | (refine need.of (by first | omega | kernel_rfl) ?_) | (refine AW.fin ?_; try simp -implicitDefEqProofs))
  refine CallS.pu (h3) ?_
  (try (simp -implicitDefEqProofs; try simp (disch := omega) only [w64, wu64]))
  repeat (first | refine AW.seq ?_ | refine AW.block ?_ | (refine AW.reg mix ?_; simp -implicitDefEqProofs; try simp (disch := omega) only [w64, wu64]) | (refine need.of (by first | omega | kernel_rfl) ?_) | (refine AW.fin ?_; try simp -implicitDefEqProofs))
  refine CallS.pu (h4) ?_
  (try (simp -implicitDefEqProofs; try simp (disch := omega) only [w64, wu64]))
  repeat (first | refine AW.seq ?_ | refine AW.block ?_ | (refine AW.reg mix ?_; simp -implicitDefEqProofs; try simp (disch := omega) only [w64, wu64]) | (refine need.of (by first | omega | kernel_rfl) ?_) | (refine AW.fin ?_; try simp -implicitDefEqProofs))
  refine CallS.pu (h5) ?_
  (try (simp -implicitDefEqProofs; try simp (disch := omega) only [w64, wu64]))
  repeat (first | refine AW.seq ?_ | refine AW.block ?_ | (refine AW.reg mix ?_; simp -implicitDefEqProofs; try simp (disch := omega) only [w64, wu64]) | (refine need.of (by first | omega | kernel_rfl) ?_) | (refine AW.fin ?_; try simp -implicitDefEqProofs))

theorem radd_rat (x y : Rat) (hx : RS x 100000) (hy : RS y 100000) : Eqn Tryz.prog n_rat_Add [.d (rD x), .d (rD y)] [] (.d (rD (x + y))) [] := by
  refine Eqn.pure r_rat_Add (plain_d _) ?_
  have x1 := hx.1; have x2 := hx.2; have y1 := hy.1; have y2 := hy.2
  have s1 := size_mulR x.num.natAbs y.den
  have s2 := size_mulR y.num.natAbs x.den
  have e1 : (x.num * (y.den : Int)).natAbs = x.num.natAbs * y.den := by rw [Int.natAbs_mul, Int.natAbs_natCast]
  have e2 : (y.num * (x.den : Int)).natAbs = y.num.natAbs * x.den := by rw [Int.natAbs_mul, Int.natAbs_natCast]
  have h1 := wmul_int x.num y.den (by omega) (by rw [Int.natAbs_natCast]; omega)
  have h1' := wmul_int y.num x.den (by omega) (by rw [Int.natAbs_natCast]; omega)
  have h2 := rden_int x (by omega)
  have h3 := rden_int y (by omega)
  have h2' := rdenw_int x (by omega)
  have h3' := rdenw_int y (by omega)
  have h4 := mul_ok x.den y.den (by omega) (by omega)
  have h6 := wadd_int (x.num * y.den) (y.num * x.den) (by rw [e1]; omega) (by rw [e2]; omega)
  have h5 := made_int (x.num * y.den + y.num * x.den) (x.den * y.den) (Nat.mul_pos x.den_pos y.den_pos) (by
    have h1 := size_le (Int.natAbs_add_le (x.num * y.den) (y.num * x.den))
    have h2 := size_addR (x.num * y.den).natAbs (y.num * x.den).natAbs
    rw [e1, e2] at *
    omega) (by have := size_mulR x.den y.den; omega)
  rw [← rat_add] at h5
  simp only [c_rat_Add, rD] at h2 h3 h2' h3' h5 ⊢
  generalize hz1 : x.num * (y.den : Int) = z1 at *
  generalize hz2 : y.num * (x.den : Int) = z2 at *
  simp only [wD] at h1 h1' h2' h3' h5 h6
  repeat (first | refine AW.seq ?_ | refine AW.block ?_ | (refine AW.reg mix ?_; simp -implicitDefEqProofs; try simp (disch := omega) only [w64, wu64]) | (refine need.of (by first | omega | kernel_rfl) ?_) | (refine AW.fin ?_; try simp -implicitDefEqProofs))
  refine CallS.pu (h3') ?_
  (try (simp -implicitDefEqProofs; try simp (disch := omega) only [w64, wu64]))
  repeat (first | refine AW.seq ?_ | refine AW.block ?_ | (refine AW.reg mix ?_; simp -implicitDefEqProofs; try simp (disch := omega) only [w64, wu64]) | (refine need.of (by first | omega | kernel_rfl) ?_) | (refine AW.fin ?_; try simp -implicitDefEqProofs))
  refine CallS.pu (h1) ?_
  (try (simp -implicitDefEqProofs; try simp (disch := omega) only [w64, wu64]))
  repeat (first | refine AW.seq ?_ | refine AW.block ?_ | (refine AW.reg mix ?_; simp -implicitDefEqProofs; try simp (disch := omega) only [w64, wu64]) | (refine need.of (by first | omega | kernel_rfl) ?_) | (refine AW.fin ?_; try simp -implicitDefEqProofs))
  refine CallS.pu (h2') ?_
  (try (simp -implicitDefEqProofs; try simp (disch := omega) only [w64, wu64]))
  repeat (first | refine AW.seq ?_ | refine AW.block ?_ | (refine AW.reg mix ?_; simp -implicitDefEqProofs; try simp (disch := omega) only [w64, wu64]) | (refine need.of (by first | omega | kernel_rfl) ?_) | (refine AW.fin ?_; try simp -implicitDefEqProofs))
  refine CallS.pu (h1') ?_
  (try (simp -implicitDefEqProofs; try simp (disch := omega) only [w64, wu64]))
  repeat (first | refine AW.seq ?_ | refine AW.block ?_ | (refine AW.reg mix ?_; simp -implicitDefEqProofs; try simp (disch := omega) only [w64, wu64]) | (refine need.of (by first | omega | kernel_rfl) ?_) | (refine AW.fin ?_; try simp -implicitDefEqProofs))
  refine CallS.pu (h6) ?_
  (try (simp -implicitDefEqProofs; try simp (disch := omega) only [w64, wu64]))
  repeat (first | refine AW.seq ?_ | refine AW.block ?_ | (refine AW.reg mix ?_; simp -implicitDefEqProofs; try simp (disch := omega) only [w64, wu64]) | (refine need.of (by first | omega | kernel_rfl) ?_) | (refine AW.fin ?_; try simp -implicitDefEqProofs))
  refine CallS.pu (h2) ?_
  (try (simp -implicitDefEqProofs; try simp (disch := omega) only [w64, wu64]))
  repeat (first | refine AW.seq ?_ | refine AW.block ?_ | (refine AW.reg mix ?_; simp -implicitDefEqProofs; try simp (disch := omega) only [w64, wu64]) | (refine need.of (by first | omega | kernel_rfl) ?_) | (refine AW.fin ?_; try simp -implicitDefEqProofs))
  refine CallS.pu (h3) ?_
  (try (simp -implicitDefEqProofs; try simp (disch := omega) only [w64, wu64]))
  repeat (first | refine AW.seq ?_ | refine AW.block ?_ | (refine AW.reg mix ?_; simp -implicitDefEqProofs; try simp (disch := omega) only [w64, wu64]) | (refine need.of (by first | omega | kernel_rfl) ?_) | (refine AW.fin ?_; try simp -implicitDefEqProofs))
  refine CallS.pu (h4) ?_
  (try (simp -implicitDefEqProofs; try simp (disch := omega) only [w64, wu64]))
  repeat (first | refine AW.seq ?_ | refine AW.block ?_ | (refine AW.reg mix ?_; simp -implicitDefEqProofs; try simp (disch := omega) only [w64, wu64]) | (refine need.of (by first | omega | kernel_rfl) ?_) | (refine AW.fin ?_; try simp -implicitDefEqProofs))
  refine CallS.pu (h5) ?_
  (try (simp -implicitDefEqProofs; try simp (disch := omega) only [w64, wu64]))
  repeat (first | refine AW.seq ?_ | refine AW.block ?_ | (refine AW.reg mix ?_; simp -implicitDefEqProofs; try simp (disch := omega) only [w64, wu64]) | (refine need.of (by first | omega | kernel_rfl) ?_) | (refine AW.fin ?_; try simp -implicitDefEqProofs))

theorem rsub_rat (x y : Rat) (hx : RS x 100000) (hy : RS y 100000) : Eqn Tryz.prog n_rat_Sub [.d (rD x), .d (rD y)] [] (.d (rD (x - y))) [] := by
  refine Eqn.pure r_rat_Sub (plain_d _) ?_
  have h1 := wminus_int y.num
  have h2 := radd_rat x (-y) hx hy.neg
  rw [← Rat.sub_eq_add_neg] at h2
  simp only [c_rat_Sub, rD, wD, Rat.neg_num, Rat.neg_den] at h1 h2 ⊢
  obtain ⟨w, hw⟩ : ∃ w, D.bool (decide (-y.num < 0)) = w := ⟨_, rfl⟩
  obtain ⟨u, hu⟩ : ∃ u, natW (-y.num).natAbs = u := ⟨_, rfl⟩
  rw [hu, hw] at h1 h2
  clear hu hw
  repeat (first | refine AW.seq ?_ | refine AW.block ?_ | (refine AW.reg mix ?_; simp -implicitDefEqProofs; try simp (disch := omega) only [w64, wu64]) | (refine need.of (by first | omega | kernel_rfl) ?_) | (refine AW.fin ?_; try simp -implicitDefEqProofs))
  refine CallS.pu (h1) ?_
  (try (simp -implicitDefEqProofs; try simp (disch := omega) only [w64, wu64]))
  repeat (first | refine AW.seq ?_ | refine AW.block ?_ | (refine AW.reg mix ?_; simp -implicitDefEqProofs; try simp (disch := omega) only [w64, wu64]) | (refine need.of (by first | omega | kernel_rfl) ?_) | (refine AW.fin ?_; try simp -implicitDefEqProofs))
  refine CallS.pu (h2) ?_
  (try (simp -implicitDefEqProofs; try simp (disch := omega) only [w64, wu64]))
  repeat (first | refine AW.seq ?_ | refine AW.block ?_ | (refine AW.reg mix ?_; simp -implicitDefEqProofs; try simp (disch := omega) only [w64, wu64]) | (refine need.of (by first | omega | kernel_rfl) ?_) | (refine AW.fin ?_; try simp -implicitDefEqProofs))

/-- less, the same, more -/
def cmpQ (x y : Rat) : Int := if x < y then -1 else if y < x then 1 else 0
theorem rcmp_rat (x y : Rat) (hx : RS x 100000) (hy : RS y 100000) : Eqn Tryz.prog n_rat_Cmp [.d (rD x), .d (rD y)] [] (.d (.int .i64 (cmpQ x y))) [] := by
  refine Eqn.pure r_rat_Cmp (plain_d _) ?_
  have x1 := hx.1; have x2 := hx.2; have y1 := hy.1; have y2 := hy.2
  have s1 := size_mulR x.num.natAbs y.den
  have s2 := size_mulR y.num.natAbs x.den
  have e1 : (x.num * (y.den : Int)).natAbs = x.num.natAbs * y.den := by rw [Int.natAbs_mul, Int.natAbs_natCast]
  have e2 : (y.num * (x.den : Int)).natAbs = y.num.natAbs * x.den := by rw [Int.natAbs_mul, Int.natAbs_natCast]
  have h1 := wmul_int x.num y.den (by omega) (by rw [Int.natAbs_natCast]; omega)
  have h1' := wmul_int y.num x.den (by omega) (by rw [Int.natAbs_natCast]; omega)
  have h2' := rdenw_int x (by omega)
  have h3' := rdenw_int y (by omega)
  have h6 := wcmp_int (x.num * y.den) (y.num * x.den) (by rw [e1]; omega) (by rw [e2]; omega)
  have e : cmpI (x.num * y.den) (y.num * x.den) = cmpQ x y := by
    have a := rat_lt x y
    have b := rat_lt y x
    unfold cmpI cmpQ
    by_cases h : x < y
    · rw [if_pos h, if_pos (a.1 h)]
    · rw [if_neg h, if_neg (fun q => h (a.2 q))]
      by_cases h2 : y < x
      · rw [if_pos h2, if_pos (b.1 h2)]
      · rw [if_neg h2, if_neg (fun q => h2 (b.2 q))]
  rw [e] at h6
  simp only [c_rat_Cmp, rD] at h2' h3' ⊢
  generalize hz1 : x.num * (y.den : Int) = z1 at *
  generalize hz2 : y.num * (x.den : Int) = z2 at *
  simp only [wD] at h1 h1' h2' h3' h6
  repeat (first | refine AW.seq ?_ | refine AW.block ?_ | (refine AW.reg mix ?_; simp -implicitDefEqProofs; try simp (disch := omega) only [w64, wu64]) | (refine need.of (by first | omega | kernel_rfl) ?_) | (refine AW.fin ?_; try simp -implicitDefEqProofs))
  refine CallS.pu (h3') ?_
  (try (simp -implicitDefEqProofs; try simp (disch := omega) only [w64, wu64]))
  repeat (first | refine AW.seq ?_ | refine AW.block ?_ | (refine AW.reg mix ?_; simp -implicitDefEqProofs; try simp (disch := omega) only [w64, wu64]) | (refine need.of (by first | omega | kernel_rfl) ?_) | (refine AW.fin ?_; try simp -implicitDefEqProofs))
  refine CallS.pu (h1) ?_
  (try (simp -implicitDefEqProofs; try simp (disch := omega) only [w64, wu64]))
  repeat (first | refine AW.seq ?_ | refine AW.block ?_ | (refine AW.reg mix ?_; simp -implicitDefEqProofs; try simp (disch := omega) only [w64, wu64]) | (refine need.of (by first | omega | kernel_rfl) ?_) | (refine AW.fin ?_; try simp -implicitDefEqProofs))
  refine CallS.pu (h2') ?_
  (try (simp -implicitDefEqProofs; try simp (disch := omega) only [w64, wu64]))
  repeat (first | refine AW.seq ?_ | refine AW.block ?_ | (refine AW.reg mix ?_; simp -implicitDefEqProofs; try simp (disch := omega) only [w64, wu64]) | (refine need.of (by first | omega | kernel_rfl) ?_) | (refine AW.fin ?_; try simp -implicitDefEqProofs))
  refine CallS.pu (h1') ?_
  (try (simp -implicitDefEqProofs; try simp (disch := omega) only [w64, wu64]))
  repeat (first | refine AW.seq ?_ | refine AW.block ?_ | (refine AW.reg mix ?_; simp -implicitDefEqProofs; try simp (disch := omega) only [w64, wu64]) | (refine need.of (by first | omega | kernel_rfl) ?_) | (refine AW.fin ?_; try simp -implicitDefEqProofs))
  refine CallS.pu (h6) ?_
  (try (simp -implicitDefEqProofs; try simp (disch := omega) only [w64, wu64]))
  repeat (first | refine AW.seq ?_ | refine AW.block ?_ | (refine AW.reg mix ?_; simp -implicitDefEqProofs; try simp (disch := omega) only [w64, wu64]) | (refine need.of (by first | omega | kernel_rfl) ?_) | (refine AW.fin ?_; try simp -implicitDefEqProofs))

theorem nil_sub {I : Nat → Prop} {w : World} {v : Value} (h : D.rep I w .nilsl v) : D.rep I w (natW 0) v := by
  have := Sub1.nil (⟨fun _ => none, I, w⟩ : Mem) v (by rw [V.rep_d]; exact h)
  rw [V.rep_d] at this
  exact this
theorem Sub1.rat0 {x y : D} : Sub1 (.d (.agg [x, y, .nilsl])) (.d (.agg [x, y, natW 0])) := fun m v k => by
  rw [V.rep_d] at k ⊢
  unfold D.rep at k ⊢
  obtain ⟨vs, h1, h0, h2⟩ := k
  refine ⟨vs, h1, h0, ?_⟩
  obtain ⟨a, r, rfl, ha, h2⟩ := D.reps_cons'.1 h2
  obtain ⟨b, r, rfl, hb, h2⟩ := D.reps_cons'.1 h2
  obtain ⟨c, r, rfl, hc, h2⟩ := D.reps_cons'.1 h2
  exact D.reps_cons.2 ⟨ha, D.reps_cons.2 ⟨hb, D.reps_cons.2 ⟨nil_sub hc, h2⟩⟩⟩
theorem rnat_rat (n : Nat) : Eqn Tryz.prog n_rat_Nat [.d (.agg [natW n])] [] (.d (rD (n : Rat))) [] := by
  refine Eqn.pure r_rat_Nat (plain_d _) ?_
  have h1 := wmake_int false n (n : Int) rfl
  have e : rD (n : Rat) = .agg [natW n, .bool false, natW 0] := by
    unfold rD
    rw [Rat.num_natCast, Rat.den_natCast, Int.natAbs_natCast]
    congr 4
  rw [e]
  have e2 : wD (n : Int) = .agg [natW n, .bool false] := by
    unfold wD
    rw [Int.natAbs_natCast]
    congr 4
  rw [e2] at h1
  simp only [c_rat_Nat]
  repeat (first | refine AW.seq ?_ | refine AW.block ?_ | (refine AW.reg mix ?_; simp -implicitDefEqProofs; try simp (disch := omega) only [w64, wu64]) | (refine need.of (by first | omega | kernel_rfl) ?_) | (refine AW.fin ?_; try simp -implicitDefEqProofs))
  refine CallS.pu (h1) ?_
  (try (simp -implicitDefEqProofs; try simp (disch := omega) only [w64, wu64]))
  repeat (first | refine AW.seq ?_ | refine AW.block ?_ | (refine AW.reg mix ?_; simp -implicitDefEqProofs; try simp (disch := omega) only [w64, wu64]) | (refine need.of (by first | omega | kernel_rfl) ?_) | (refine AW.fin ?_; try simp -implicitDefEqProofs))
  exact Sub1.rat0
end
end Go.Proofs.YtdbfenhaljmbfaaGreat.Am
namespace Go.Proofs.YtdbfenhaljmbfaaGreat.Am
section
set_option linter.unusedVariables false
set_option linter.unusedSimpArgs false
open Go.RowKit
set_option maxRecDepth 100000
set_option linter.unusedSimpArgs false
set_option linter.unusedVariables false

theorem and1_i64 (m : Nat) (hm : m ≤ 4611686018427387904) : bits BinOp.and IntKind.i64 (m : Int) 1 = ((m % 2 : Nat) : Int) := by
  show IntKind.i64.wrap (((BitVec.ofInt 64 (m : Int)) &&& (BitVec.ofInt 64 (1 : Int))).toNat : Int) = _
  have h1 : (BitVec.ofInt 64 (1 : Int)).toNat = 1 := by decide
  rw [BitVec.toNat_and, h1, BitVec.ofInt_natCast, BitVec.toNat_ofNat, Nat.mod_eq_of_lt (by omega), Nat.and_one_is_mod]
  exact w64 (by omega) (by omega)

theorem pow_round {r x m T : Nat} (h : r * x ^ m = T) : (if m % 2 = 1 then r * x else r) * (x * x) ^ (m / 2) = T := by
  have e : x ^ m = (x * x) ^ (m / 2) * x ^ (m % 2) := by
    rw [← Nat.pow_two, ← Nat.pow_mul, ← Nat.pow_add, Nat.div_add_mod]
  rw [← h, e]
  rcases Nat.mod_two_eq_zero_or_one m with h2 | h2
  · rw [h2, if_neg (by omega)]; simp
  · rw [h2, if_pos rfl, Nat.pow_one, Nat.mul_assoc, Nat.mul_comm x]
theorem pow_le_of {r x m T : Nat} (h : r * x ^ m = T) (hm : 0 < m) (hx : 1 ≤ x) (hr : 1 ≤ r) : x ≤ T ∧ r ≤ T := by
  have h1 : 1 ≤ x ^ m := Nat.pow_pos hx
  have h2 : x ≤ x ^ m := by
    calc x = x ^ 1 := (Nat.pow_one x).symm
      _ ≤ x ^ m := Nat.pow_le_pow_right hx hm
  constructor
  · rw [← h]; exact Nat.le_trans h2 (Nat.le_mul_of_pos_left _ hr)
  · rw [← h]; exact Nat.le_mul_of_pos_right _ h1

set_option maxHeartbeats 2000000 in
theorem npow_ok (a n : Nat) (hn : n ≤ 8192) (hb : bitsN a ≤ 1 ∨ n ≤ 8192 / bitsN a) (has : size a ≤ 129) : Eqn Tryz.prog n_nat_Pow [.d (.agg [natW a]), .d (.int .i64 n)] [] (.tup [.d (.agg [natW (a ^ n)]), .d (.int .i64 0)]) [] := by
  refine Eqn.pure r_nat_Pow Plain.ok ?_
  have hbits := bits_ok a (by omega)
  have hof : Eqn Tryz.prog n_nat_Of [.d (.sl 1 [.int .u64 (1 : Nat)])] [] (.d (.agg [natW 1])) [] := by
    have := of_ok [1] (small_one (by omega)) (by simp)
    simpa [W, wval] using this
  obtain ⟨q, hq⟩ : ∃ q, bitsN a = q := ⟨_, rfl⟩
  simp only [c_nat_Pow]
  have hn0 : ¬ (n : Int) < 0 := by omega
  rw [hq] at hbits hb
  obtain ⟨T, hT⟩ : ∃ T, a ^ n = T := ⟨_, rfl⟩
  have hTs : size T ≤ 129 := by
    rw [← hT]
    by_cases h1 : q ≤ 1
    · have : a ≤ 1 := by have := lt_bitsN a; rw [hq] at this; have := Nat.pow_le_pow_right (n := 2) (by omega) h1; omega
      have h2 : a ^ n ≤ 1 := by have := Nat.pow_le_pow_left this n; rwa [Nat.one_pow] at this
      have := size_le h2
      have := size_one (x := 1) (by omega)
      omega
    · refine size_pow' (n := q * n + 1) ?_ ?_
      · rw [Nat.pow_succ]
        have h2 := lt_bitsN a
        rw [hq] at h2
        have h3 : a ^ n ≤ (2 ^ q) ^ n := Nat.pow_le_pow_left (Nat.le_of_lt h2) n
        rw [← Nat.pow_mul] at h3
        have := Nat.two_pow_pos (q * n)
        omega
      · have h2 : n ≤ 8192 / q := hb.resolve_left h1
        rw [Nat.le_div_iff_mul_le (by omega)] at h2
        rw [Nat.mul_comm] at h2
        omega
  obtain ⟨n', hn', hn2⟩ : ∃ n' : Nat, n' = (if q ≤ 1 then min n 1 else n) ∧ a ^ n' = T := by
    refine ⟨_, rfl, ?_⟩
    by_cases h1 : q ≤ 1
    · have ha1 : a ≤ 1 := by have := lt_bitsN a; rw [hq] at this; have := Nat.pow_le_pow_right (n := 2) (by omega) h1; omega
      rw [if_pos h1, ← hT]
      rcases (by omega : a = 0 ∨ a = 1) with rfl | rfl
      · rcases Nat.eq_zero_or_pos n with rfl | hp
        · rfl
        · rw [Nat.min_eq_right hp, Nat.zero_pow hp]
      · rw [Nat.one_pow, Nat.one_pow]
    · rw [if_neg h1, hT]
  rw [hT]
  by_cases h1 : q ≤ 1
  · rw [if_pos h1] at hn'
    have hq1 : ¬ (1 : Int) < q := by omega
    have hq1n : ¬ 1 < q := by omega
    have hq2 : (q : Int) ≤ 1 := by omega
    have hmin : min (n : Int) 1 = (n' : Int) := by omega
    have hn8 : n' ≤ 8192 := by omega
    have hn1 : 1 < n' → 1 ≤ a ∧ 1 ≤ 1 := fun h => by omega
    repeat (first | refine AW.seq ?_ | refine AW.block ?_ | (refine AW.reg mix ?_; simp -implicitDefEqProofs [hn0]; try simp (disch := omega) only [w64, wu64]) | (refine need.of (by first | omega | kernel_rfl) ?_) | (refine AW.fin ?_; try simp -implicitDefEqProofs [hn0]))
    refine AW.cond rfl (fun h => ?_) (fun h => ?_)
    · simp [hn0] at h
    repeat (first | refine AW.seq ?_ | refine AW.block ?_ | (refine AW.reg mix ?_; simp -implicitDefEqProofs; try simp (disch := omega) only [w64, wu64]) | (refine need.of (by first | omega | kernel_rfl) ?_) | (refine AW.fin ?_; try simp -implicitDefEqProofs))
    refine CallS.pu (hbits) ?_
    (try (simp -implicitDefEqProofs [hq1, hq1n, h1]; try simp (disch := omega) only [w64, wu64]))
    repeat (first | refine AW.seq ?_ | refine AW.block ?_ | (refine AW.reg mix ?_; simp -implicitDefEqProofs [hq1, hq1n, h1]; try simp (disch := omega) only [w64, wu64]) | (refine need.of (by first | omega | kernel_rfl) ?_) | (refine AW.fin ?_; try simp -implicitDefEqProofs [hq1, hq1n, h1]))
    refine AW.cond rfl (fun h => ?_) (fun h => ?_)
    · simp at h
    refine AW.skip ?_
    simp
    repeat (first | refine AW.seq ?_ | refine AW.block ?_ | (refine AW.reg mix ?_; simp -implicitDefEqProofs; try simp (disch := omega) only [w64, wu64]) | (refine need.of (by first | omega | kernel_rfl) ?_) | (refine AW.fin ?_; try simp -implicitDefEqProofs))
    refine CallS.pf 2 1 ⟨80, _⟩ [.int .u64 (1 : Nat)] (hof) (by first | rfl | (simp; done)) ?_
    (try (simp -implicitDefEqProofs; try simp (disch := omega) only [w64, wu64]))
    repeat (first | refine AW.seq ?_ | refine AW.block ?_ | (refine AW.reg mix ?_; simp -implicitDefEqProofs; try simp (disch := omega) only [w64, wu64]) | (refine need.of (by first | omega | kernel_rfl) ?_) | (refine AW.fin ?_; try simp -implicitDefEqProofs))
    refine CallS.pu (hbits) ?_
    (try (simp -implicitDefEqProofs [hq2, h1]; try simp (disch := omega) only [w64, wu64]))
    repeat (first | refine AW.seq ?_ | refine AW.block ?_ | (refine AW.reg mix ?_; simp -implicitDefEqProofs [hq2, h1]; try simp (disch := omega) only [w64, wu64]) | (refine need.of (by first | omega | kernel_rfl) ?_) | (refine AW.fin ?_; try simp -implicitDefEqProofs [hq2, h1]))
    refine AW.cond rfl (fun h => ?_) (fun h => ?_)
    rotate_left
    · simp [hq2, h1] at h
    repeat (first | refine AW.seq ?_ | refine AW.block ?_ | (refine AW.reg mix ?_; simp -implicitDefEqProofs [hmin]; try simp (disch := omega) only [w64, wu64]) | (refine need.of (by first | omega | kernel_rfl) ?_) | (refine AW.fin ?_; try simp -implicitDefEqProofs [hmin]))
    refine AW.loopT (α := Nat × Nat × Nat) 4 (fun s => [(1, .d (.int .i64 (s.1 : Nat)))]) (fun s => [(0, ⟨91, [.d (natW s.2.1)]⟩), (3, ⟨91, [.d (natW s.2.2)]⟩)]) (fun s => s.1 ≤ 8192 ∧ s.2.2 * s.2.1 ^ s.1 = T ∧ (0 < s.1 → size s.2.1 ≤ 200 ∧ size s.2.2 ≤ 200) ∧ (1 < s.1 → 1 ≤ s.2.1 ∧ 1 ≤ s.2.2)) (fun s => s.1) (n', a, 1) ?_ ?_ ⟨hn8, by rw [Nat.one_mul]; exact hn2, fun _ => ⟨Nat.le_trans has (by omega), Nat.le_trans (size_one (x := 1) (by omega)) (by omega)⟩, hn1⟩ ?_ ?_ ?_
    · simp
    · simp
    · simp
    · simp
    clear hn8 hn1 hn2 hn'
    rintro ⟨m, x, r⟩ ⟨hm8, hT2, hsz, hpos⟩
    simp only at hm8 hT2 hsz hpos
    simp
    by_cases hm0 : m = 0
    · subst hm0
      rw [Nat.pow_zero, Nat.mul_one] at hT2
      subst hT2
      repeat (first | refine AW.seq ?_ | refine AW.block ?_ | (refine AW.reg mix ?_; simp -implicitDefEqProofs; try simp (disch := omega) only [w64, wu64]) | (refine need.of (by first | omega | kernel_rfl) ?_) | (refine AW.fin ?_; try simp -implicitDefEqProofs))
      refine AW.cond rfl (fun h => ?_) (fun h => ?_)
      · simp at h
      refine AW.exit ?_
      (try (simp -implicitDefEqProofs; try simp (disch := omega) only [w64, wu64]))
      repeat (first | refine AW.seq ?_ | refine AW.block ?_ | (refine AW.reg mix ?_; simp -implicitDefEqProofs; try simp (disch := omega) only [w64, wu64]) | (refine need.of (by first | omega | kernel_rfl) ?_) | (refine AW.fin ?_; try simp -implicitDefEqProofs))
    · have hm1 : (0 : Int) < m := by omega
      have hm2 : 0 < m := by omega
      obtain ⟨sx, sr⟩ := hsz hm2
      have hand := and1_i64 m (by omega)
      have hm1' := mul_ok r x (by omega) (by omega)
      have hm2' := mul_ok x x (by omega) (by omega)
      have hdv : (m : Int) / 2 = ((m / 2 : Nat) : Int) := rfl
      have hr := pow_round hT2
      have hnext : (1 < m / 2 → 1 ≤ x * x ∧ 1 ≤ (if m % 2 = 1 then r * x else r)) := fun h => by
        obtain ⟨p1, p2⟩ := hpos (by omega)
        refine ⟨Nat.mul_pos p1 p1, ?_⟩
        split
        · exact Nat.mul_pos p2 p1
        · exact p2
      have hnext2 : (0 < m / 2 → size (x * x) ≤ 200 ∧ size (if m % 2 = 1 then r * x else r) ≤ 200) := fun h => by
        obtain ⟨p1, p2⟩ := hpos (by omega)
        have q1 : 1 ≤ x * x := Nat.mul_pos p1 p1
        have q2 : 1 ≤ (if m % 2 = 1 then r * x else r) := by
          split
          · exact Nat.mul_pos p2 p1
          · exact p2
        obtain ⟨k1, k2⟩ := pow_le_of hr h q1 q2
        exact ⟨Nat.le_trans (size_le k1) (by omega), Nat.le_trans (size_le k2) (by omega)⟩
      have hlt2 : m / 2 < m := by omega
      generalize m / 2 = hm at *
      rcases Nat.mod_two_eq_zero_or_one m with h2 | h2
      · rw [h2] at hand hr hnext hnext2
        rw [if_neg (by omega)] at hr hnext hnext2
        repeat (first | refine AW.seq ?_ | refine AW.block ?_ | (refine AW.reg mix ?_; simp -implicitDefEqProofs [hm1, hm2]; try simp (disch := omega) only [w64, wu64]) | (refine need.of (by first | omega | kernel_rfl) ?_) | (refine AW.fin ?_; try simp -implicitDefEqProofs [hm1, hm2]))
        refine AW.cond rfl (fun h => ?_) (fun h => ?_)
        rotate_left
        · simp [hm1, hm2] at h
        repeat (first | refine AW.seq ?_ | refine AW.block ?_ | (refine AW.reg mix ?_; simp -implicitDefEqProofs [hand]; try simp (disch := omega) only [w64, wu64]) | (refine need.of (by first | omega | kernel_rfl) ?_) | (refine AW.fin ?_; try simp -implicitDefEqProofs [hand]))
        refine AW.cond rfl (fun h => ?_) (fun h => ?_)
        · simp at h
        repeat (first | refine AW.seq ?_ | refine AW.block ?_ | (refine AW.reg mix ?_; simp -implicitDefEqProofs; try simp (disch := omega) only [w64, wu64]) | (refine need.of (by first | omega | kernel_rfl) ?_) | (refine AW.fin ?_; try simp -implicitDefEqProofs))
        refine CallS.pu (hm2') ?_
        (try (simp -implicitDefEqProofs [hdv]; try simp (disch := omega) only [w64, wu64]))
        repeat (first | refine AW.seq ?_ | refine AW.block ?_ | (refine AW.reg mix ?_; simp -implicitDefEqProofs [hdv]; try simp (disch := omega) only [w64, wu64]) | (refine need.of (by first | omega | kernel_rfl) ?_) | (refine AW.fin ?_; try simp -implicitDefEqProofs [hdv]))
        repeat (first | refine AW.seq ?_ | refine AW.block ?_ | (refine AW.reg mix ?_; simp -implicitDefEqProofs [hdv]; try simp (disch := omega) only [w64, wu64]) | (refine need.of (by first | omega | kernel_rfl) ?_) | (refine AW.fin ?_; try simp -implicitDefEqProofs [hdv]))
        (try (simp -implicitDefEqProofs [hdv]; try simp (disch := omega) only [w64, wu64]))
        repeat (first | refine AW.seq ?_ | refine AW.block ?_ | (refine AW.reg mix ?_; simp -implicitDefEqProofs [hdv]; try simp (disch := omega) only [w64, wu64]) | (refine need.of (by first | omega | kernel_rfl) ?_) | (refine AW.fin ?_; try simp -implicitDefEqProofs [hdv]))
        exact ⟨hm, _, _, ⟨by omega, hr, hnext2, hnext⟩, hlt2, by simp, Subs.refl _, Subs.refl _⟩
      · rw [h2] at hand hr hnext hnext2
        rw [if_pos rfl] at hr hnext hnext2
        repeat (first | refine AW.seq ?_ | refine AW.block ?_ | (refine AW.reg mix ?_; simp -implicitDefEqProofs [hm1, hm2]; try simp (disch := omega) only [w64, wu64]) | (refine need.of (by first | omega | kernel_rfl) ?_) | (refine AW.fin ?_; try simp -implicitDefEqProofs [hm1, hm2]))
        refine AW.cond rfl (fun h => ?_) (fun h => ?_)
        rotate_left
        · simp [hm1, hm2] at h
        repeat (first | refine AW.seq ?_ | refine AW.block ?_ | (refine AW.reg mix ?_; simp -implicitDefEqProofs [hand]; try simp (disch := omega) only [w64, wu64]) | (refine need.of (by first | omega | kernel_rfl) ?_) | (refine AW.fin ?_; try simp -implicitDefEqProofs [hand]))
        refine AW.cond rfl (fun h => ?_) (fun h => ?_)
        rotate_left
        · simp at h
        repeat (first | refine AW.seq ?_ | refine AW.block ?_ | (refine AW.reg mix ?_; simp -implicitDefEqProofs; try simp (disch := omega) only [w64, wu64]) | (refine need.of (by first | omega | kernel_rfl) ?_) | (refine AW.fin ?_; try simp -implicitDefEqProofs))
        refine CallS.pu (hm1') ?_
        (try (simp -implicitDefEqProofs; try simp (disch := omega) only [w64, wu64]))
        repeat (first | refine AW.seq ?_ | refine AW.block ?_ | (refine AW.reg mix ?_; simp -implicitDefEqProofs; try simp (disch := omega) only [w64, wu64]) | (refine need.of (by first | omega | kernel_rfl) ?_) | (refine AW.fin ?_; try simp -implicitDefEqProofs))
        refine CallS.pu (hm2') ?_
        (try (simp -implicitDefEqProofs [hdv]; try simp (disch := omega) only [w64, wu64]))
        repeat (first | refine AW.seq ?_ | refine AW.block ?_ | (refine AW.reg mix ?_; simp -implicitDefEqProofs [hdv]; try simp (disch := omega) only [w64, wu64]) | (refine need.of (by first | omega | kernel_rfl) ?_) | (refine AW.fin ?_; try simp -implicitDefEqProofs [hdv]))
        repeat (first | refine AW.seq ?_ | refine AW.block ?_ | (refine AW.reg mix ?_; simp -implicitDefEqProofs [hdv]; try simp (disch := omega) only [w64, wu64]) | (refine need.of (by first | omega | kernel_rfl) ?_) | (refine AW.fin ?_; try simp -implicitDefEqProofs [hdv]))
        (try (simp -implicitDefEqProofs [hdv]; try simp (disch := omega) only [w64, wu64]))
        repeat (first | refine AW.seq ?_ | refine AW.block ?_ | (refine AW.reg mix ?_; simp -implicitDefEqProofs [hdv]; try simp (disch := omega) only [w64, wu64]) | (refine need.of (by first | omega | kernel_rfl) ?_) | (refine AW.fin ?_; try simp -implicitDefEqProofs [hdv]))
        exact ⟨hm, _, _, ⟨by omega, hr, hnext2, hnext⟩, hlt2, by simp, Subs.refl _, Subs.refl _⟩
  · rw [if_neg h1] at hn'
    rw [hn'] at hn2
    clear hn' n'
    have hq1 : (1 : Int) < q := by omega
    have hq1n : 1 < q := by omega
    have hq2 : ¬ (q : Int) ≤ 1 := by omega
    have hq0 : (q : Int) ≠ 0 := by omega
    have hle : n ≤ 8192 / q := hb.resolve_left h1
    have hdq : IntKind.i64.wrap ((8192 : Int).tdiv q) = ((8192 / q : Nat) : Int) := by
      rw [show (8192 : Int).tdiv q = ((8192 / q : Nat) : Int) from rfl, w64 (by omega) (by have := Nat.div_le_self 8192 q; omega)]
    have ha1 : 1 ≤ a := by
      rcases Nat.eq_zero_or_pos a with rfl | h
      · exfalso
        have : bitsN 0 ≤ 0 := bitsN_le (by decide)
        omega
      · exact h
    have hn8 : n ≤ 8192 := hn
    have hn1 : 1 < n → 1 ≤ a ∧ 1 ≤ 1 := fun _ => ⟨ha1, by omega⟩
    generalize 8192 / q = dq at *
    have hle2 : ¬ (dq : Int) < n := by omega
    have hle3 : ¬ dq < n := by omega
    have hn' : True := trivial
    repeat (first | refine AW.seq ?_ | refine AW.block ?_ | (refine AW.reg mix ?_; simp -implicitDefEqProofs [hn0]; try simp (disch := omega) only [w64, wu64]) | (refine need.of (by first | omega | kernel_rfl) ?_) | (refine AW.fin ?_; try simp -implicitDefEqProofs [hn0]))
    refine AW.cond rfl (fun h => ?_) (fun h => ?_)
    · simp [hn0] at h
    repeat (first | refine AW.seq ?_ | refine AW.block ?_ | (refine AW.reg mix ?_; simp -implicitDefEqProofs; try simp (disch := omega) only [w64, wu64]) | (refine need.of (by first | omega | kernel_rfl) ?_) | (refine AW.fin ?_; try simp -implicitDefEqProofs))
    refine CallS.pu (hbits) ?_
    (try (simp -implicitDefEqProofs [hq1, hq1n]; try simp (disch := omega) only [w64, wu64]))
    repeat (first | refine AW.seq ?_ | refine AW.block ?_ | (refine AW.reg mix ?_; simp -implicitDefEqProofs [hq1, hq1n]; try simp (disch := omega) only [w64, wu64]) | (refine need.of (by first | omega | kernel_rfl) ?_) | (refine AW.fin ?_; try simp -implicitDefEqProofs [hq1, hq1n]))
    refine CallS.pu (hbits) ?_
    (try (simp -implicitDefEqProofs [hq0, hdq, hle2, hle3, hq1, hq1n]; try simp (disch := omega) only [w64, wu64]))
    repeat (first | refine AW.seq ?_ | refine AW.block ?_ | (refine AW.reg mix ?_; simp -implicitDefEqProofs [hq0, hdq, hle2, hle3, hq1, hq1n]; try simp (disch := omega) only [w64, wu64]) | (refine need.of (by first | omega | kernel_rfl) ?_) | (refine AW.fin ?_; try simp -implicitDefEqProofs [hq0, hdq, hle2, hle3, hq1, hq1n]))
    refine AW.cond rfl (fun h => ?_) (fun h => ?_)
    · simp [hle2, hle3] at h
    refine AW.skip ?_
    simp
    repeat (first | refine AW.seq ?_ | refine AW.block ?_ | (refine AW.reg mix ?_; simp -implicitDefEqProofs; try simp (disch := omega) only [w64, wu64]) | (refine need.of (by first | omega | kernel_rfl) ?_) | (refine AW.fin ?_; try simp -implicitDefEqProofs))
    refine CallS.pf 2 1 ⟨80, _⟩ [.int .u64 (1 : Nat)] (hof) (by first | rfl | (simp; done)) ?_
    (try (simp -implicitDefEqProofs; try simp (disch := omega) only [w64, wu64]))
    repeat (first | refine AW.seq ?_ | refine AW.block ?_ | (refine AW.reg mix ?_; simp -implicitDefEqProofs; try simp (disch := omega) only [w64, wu64]) | (refine need.of (by first | omega | kernel_rfl) ?_) | (refine AW.fin ?_; try simp -implicitDefEqProofs))
    refine CallS.pu (hbits) ?_
    (try (simp -implicitDefEqProofs [hq2, h1]; try simp (disch := omega) only [w64, wu64]))
    repeat (first | refine AW.seq ?_ | refine AW.block ?_ | (refine AW.reg mix ?_; simp -implicitDefEqProofs [hq2, h1]; try simp (disch := omega) only [w64, wu64]) | (refine need.of (by first | omega | kernel_rfl) ?_) | (refine AW.fin ?_; try simp -implicitDefEqProofs [hq2, h1]))
    refine AW.cond rfl (fun h => ?_) (fun h => ?_)
    · simp [hq2, h1] at h
    refine AW.skip ?_
    simp
    repeat (first | refine AW.seq ?_ | refine AW.block ?_ | (refine AW.reg mix ?_; simp -implicitDefEqProofs; try simp (disch := omega) only [w64, wu64]) | (refine need.of (by first | omega | kernel_rfl) ?_) | (refine AW.fin ?_; try simp -implicitDefEqProofs))
    refine AW.loopT (α := Nat × Nat × Nat) 4 (fun s => [(1, .d (.int .i64 (s.1 : Nat)))]) (fun s => [(0, ⟨91, [.d (natW s.2.1)]⟩), (3, ⟨91, [.d (natW s.2.2)]⟩)]) (fun s => s.1 ≤ 8192 ∧ s.2.2 * s.2.1 ^ s.1 = T ∧ (0 < s.1 → size s.2.1 ≤ 200 ∧ size s.2.2 ≤ 200) ∧ (1 < s.1 → 1 ≤ s.2.1 ∧ 1 ≤ s.2.2)) (fun s => s.1) (n, a, 1) ?_ ?_ ⟨hn8, by rw [Nat.one_mul]; exact hn2, fun _ => ⟨Nat.le_trans has (by omega), Nat.le_trans (size_one (x := 1) (by omega)) (by omega)⟩, hn1⟩ ?_ ?_ ?_
    · simp
    · simp
    · simp
    · simp
    clear hn8 hn1 hn2 hn'
    rintro ⟨m, x, r⟩ ⟨hm8, hT2, hsz, hpos⟩
    simp only at hm8 hT2 hsz hpos
    simp
    by_cases hm0 : m = 0
    · subst hm0
      rw [Nat.pow_zero, Nat.mul_one] at hT2
      subst hT2
      repeat (first | refine AW.seq ?_ | refine AW.block ?_ | (refine AW.reg mix ?_; simp -implicitDefEqProofs; try simp (disch := omega) only [w64, wu64]) | (refine need.of (by first | omega | kernel_rfl) ?_) | (refine AW.fin ?_; try simp -implicitDefEqProofs))
      refine AW.cond rfl (fun h => ?_) (fun h => ?_)
      · simp at h
      refine AW.exit ?_
      (try (simp -implicitDefEqProofs; try simp (disch := omega) only [w64, wu64]))
      repeat (first | refine AW.seq ?_ | refine AW.block ?_ | (refine AW.reg mix ?_; simp -implicitDefEqProofs; try simp (disch := omega) only [w64, wu64]) | (refine need.of (by first | omega | kernel_rfl) ?_) | (refine AW.fin ?_; try simp -implicitDefEqProofs))
    · have hm1 : (0 : Int) < m := by omega
      have hm2 : 0 < m := by omega
      obtain ⟨sx, sr⟩ := hsz hm2
      have hand := and1_i64 m (by omega)
      have hm1' := mul_ok r x (by omega) (by omega)
      have hm2' := mul_ok x x (by omega) (by omega)
      have hdv : (m : Int) / 2 = ((m / 2 : Nat) : Int) := rfl
      have hr := pow_round hT2
      have hnext : (1 < m / 2 → 1 ≤ x * x ∧ 1 ≤ (if m % 2 = 1 then r * x else r)) := fun h => by
        obtain ⟨p1, p2⟩ := hpos (by omega)
        refine ⟨Nat.mul_pos p1 p1, ?_⟩
        split
        · exact Nat.mul_pos p2 p1
        · exact p2
      have hnext2 : (0 < m / 2 → size (x * x) ≤ 200 ∧ size (if m % 2 = 1 then r * x else r) ≤ 200) := fun h => by
        obtain ⟨p1, p2⟩ := hpos (by omega)
        have q1 : 1 ≤ x * x := Nat.mul_pos p1 p1
        have q2 : 1 ≤ (if m % 2 = 1 then r * x else r) := by
          split
          · exact Nat.mul_pos p2 p1
          · exact p2
        obtain ⟨k1, k2⟩ := pow_le_of hr h q1 q2
        exact ⟨Nat.le_trans (size_le k1) (by omega), Nat.le_trans (size_le k2) (by omega)⟩
      have hlt2 : m / 2 < m := by omega
      generalize m / 2 = hm at *
      rcases Nat.mod_two_eq_zero_or_one m with h2 | h2
      · rw [h2] at hand hr hnext hnext2
        rw [if_neg (by omega)] at hr hnext hnext2
        repeat (first | refine AW.seq ?_ | refine AW.block ?_ | (refine AW.reg mix ?_; simp -implicitDefEqProofs [hm1, hm2]; try simp (disch := omega) only [w64, wu64]) | (refine need.of (by first | omega | kernel_rfl) ?_) | (refine AW.fin ?_; try simp -implicitDefEqProofs [hm1, hm2]))
        refine AW.cond rfl (fun h => ?_) (fun h => ?_)
        rotate_left
        · simp [hm1, hm2] at h
        repeat (first | refine AW.seq ?_ | refine AW.block ?_ | (refine AW.reg mix ?_; simp -implicitDefEqProofs [hand]; try simp (disch := omega) only [w64, wu64]) | (refine need.of (by first | omega | kernel_rfl) ?_) | (refine AW.fin ?_; try simp -implicitDefEqProofs [hand]))
        refine AW.cond rfl (fun h => ?_) (fun h => ?_)
        · simp at h
        repeat (first | refine AW.seq ?_ | refine AW.block ?_ | (refine AW.reg mix ?_; simp -implicitDefEqProofs; try simp (disch := omega) only [w64, wu64]) | (refine need.of (by first | omega | kernel_rfl) ?_) | (refine AW.fin ?_; try simp -implicitDefEqProofs))
        refine CallS.pu (hm2') ?_
        (try (simp -implicitDefEqProofs [hdv]; try simp (disch := omega) only [w64, wu64]))
        repeat (first | refine AW.seq ?_ | refine AW.block ?_ | (refine AW.reg mix ?_; simp -implicitDefEqProofs [hdv]; try simp (disch := omega) only [w64, wu64]) | (refine need.of (by first | omega | kernel_rfl) ?_) | (refine AW.fin ?_; try simp -implicitDefEqProofs [hdv]))
        repeat (first | refine AW.seq ?_ | refine AW.block ?_ | (refine AW.reg mix ?_; simp -implicitDefEqProofs [hdv]; try simp (disch := omega) only [w64, wu64]) | (refine need.of (by first | omega | kernel_rfl) ?_) | (refine AW.fin ?_; try simp -implicitDefEqProofs [hdv]))
        (try (simp -implicitDefEqProofs [hdv]; try simp (disch := omega) only [w64, wu64]))
        repeat (first | refine AW.seq ?_ | refine AW.block ?_ | (refine AW.reg mix ?_; simp -implicitDefEqProofs [hdv]; try simp (disch := omega) only [w64, wu64]) | (refine need.of (by first | omega | kernel_rfl) ?_) | (refine AW.fin ?_; try simp -implicitDefEqProofs [hdv]))
        exact ⟨hm, _, _, ⟨by omega, hr, hnext2, hnext⟩, hlt2, by simp, Subs.refl _, Subs.refl _⟩
      · rw [h2] at hand hr hnext hnext2
        rw [if_pos rfl] at hr hnext hnext2
        repeat (first | refine AW.seq ?_ | refine AW.block ?_ | (refine AW.reg mix ?_; simp -implicitDefEqProofs [hm1, hm2]; try simp (disch := omega) only [w64, wu64]) | (refine need.of (by first | omega | kernel_rfl) ?_) | (refine AW.fin ?_; try simp -implicitDefEqProofs [hm1, hm2]))
        refine AW.cond rfl (fun h => ?_) (fun h => ?_)
        rotate_left
        · simp [hm1, hm2] at h
        repeat (first | refine AW.seq ?_ | refine AW.block ?_ | (refine AW.reg mix ?_; simp -implicitDefEqProofs [hand]; try simp (disch := omega) only [w64, wu64]) | (refine need.of (by first | omega | kernel_rfl) ?_) | (refine AW.fin ?_; try simp -implicitDefEqProofs [hand]))
        refine AW.cond rfl (fun h => ?_) (fun h => ?_)
        rotate_left
        · simp at h
        repeat (first | refine AW.seq ?_ | refine AW.block ?_ | (refine AW.reg mix ?_; simp -implicitDefEqProofs; try simp (disch := omega) only [w64, wu64]) | (refine need.of (by first | omega | kernel_rfl) ?_) | (refine AW.fin ?_; try simp -implicitDefEqProofs))
        refine CallS.pu (hm1') ?_
        (try (simp -implicitDefEqProofs; try simp (disch := omega) only [w64, wu64]))
        repeat (first | refine AW.seq ?_ | refine AW.block ?_ | (refine AW.reg mix ?_; simp -implicitDefEqProofs; try simp (disch := omega) only [w64, wu64]) | (refine need.of (by first | omega | kernel_rfl) ?_) | (refine AW.fin ?_; try simp -implicitDefEqProofs))
        refine CallS.pu (hm2') ?_
        (try (simp -implicitDefEqProofs [hdv]; try simp (disch := omega) only [w64, wu64]))
        repeat (first | refine AW.seq ?_ | refine AW.block ?_ | (refine AW.reg mix ?_; simp -implicitDefEqProofs [hdv]; try simp (disch := omega) only [w64, wu64]) | (refine need.of (by first | omega | kernel_rfl) ?_) | (refine AW.fin ?_; try simp -implicitDefEqProofs [hdv]))
        repeat (first | refine AW.seq ?_ | refine AW.block ?_ | (refine AW.reg mix ?_; simp -implicitDefEqProofs [hdv]; try simp (disch := omega) only [w64, wu64]) | (refine need.of (by first | omega | kernel_rfl) ?_) | (refine AW.fin ?_; try simp -implicitDefEqProofs [hdv]))
        (try (simp -implicitDefEqProofs [hdv]; try simp (disch := omega) only [w64, wu64]))
        repeat (first | refine AW.seq ?_ | refine AW.block ?_ | (refine AW.reg mix ?_; simp -implicitDefEqProofs [hdv]; try simp (disch := omega) only [w64, wu64]) | (refine need.of (by first | omega | kernel_rfl) ?_) | (refine AW.fin ?_; try simp -implicitDefEqProofs [hdv]))
        exact ⟨hm, _, _, ⟨by omega, hr, hnext2, hnext⟩, hlt2, by simp, Subs.refl _, Subs.refl _⟩
end
end Go.Proofs.YtdbfenhaljmbfaaGreat.Am
namespace Go.Proofs.YtdbfenhaljmbfaaGreat.Am
section
set_option linter.unusedVariables false
set_option linter.unusedSimpArgs false
open Go.RowKit
set_option maxRecDepth 100000
set_option linter.unusedSimpArgs false
set_option linter.unusedVariables false

def lit1 : ByteArray := ⟨#[48, 49, 50, 51, 52, 53, 54, 55, 56, 57, 97, 98, 99, 100, 101, 102, 103, 104, 105, 106, 107, 108, 109, 110, 111, 112, 113, 114, 115, 116, 117, 118, 119, 120, 121, 122]⟩
def lit2 : ByteArray := ⟨#[48, 48, 48, 49, 48, 50, 48, 51, 48, 52, 48, 53, 48, 54, 48, 55, 48, 56, 48, 57, 49, 48, 49, 49, 49, 50, 49, 51, 49, 52, 49, 53, 49, 54, 49, 55, 49, 56, 49, 57, 50, 48, 50, 49, 50, 50, 50, 51, 50, 52, 50, 53, 50, 54, 50, 55, 50, 56, 50, 57, 51, 48, 51, 49, 51, 50, 51, 51, 51, 52, 51, 53, 51, 54, 51, 55, 51, 56, 51, 57, 52, 48, 52, 49, 52, 50, 52, 51, 52, 52, 52, 53, 52, 54, 52, 55, 52, 56, 52, 57, 53, 48, 53, 49, 53, 50, 53, 51, 53, 52, 53, 53, 53, 54, 53, 55, 53, 56, 53, 57, 54, 48, 54, 49, 54, 50, 54, 51, 54, 52, 54, 53, 54, 54, 54, 55, 54, 56, 54, 57, 55, 48, 55, 49, 55, 50, 55, 51, 55, 52, 55, 53, 55, 54, 55, 55, 55, 56, 55, 57, 56, 48, 56, 49, 56, 50, 56, 51, 56, 52, 56, 53, 56, 54, 56, 55, 56, 56, 56, 57, 57, 48, 57, 49, 57, 50, 57, 51, 57, 52, 57, 53, 57, 54, 57, 55, 57, 56, 57, 57]⟩
/-- the text of a number below 100 -/
def smallS (n : Nat) : ByteArray := if n < 10 then lit1.extract n (n + 1) else lit2.extract (n * 2) (n * 2 + 2)

@[simp] theorem size_nil : ByteArray.size ⟨#[]⟩ = 0 := rfl
@[simp] theorem size_47 : ByteArray.size ⟨#[47]⟩ = 1 := rfl
theorem app_nil (s : ByteArray) : s ++ (⟨#[]⟩ : ByteArray) = s := by
  exact ByteArray.append_empty
end
end Go.Proofs.YtdbfenhaljmbfaaGreat.Am
namespace Go.Proofs.YtdbfenhaljmbfaaGreat.Am
section
set_option linter.unusedVariables false
set_option linter.unusedSimpArgs false
open Go.RowKit
set_option maxRecDepth 100000
set_option linter.unusedSimpArgs false
set_option linter.unusedVariables false

/-- coins, as data -/
def BL (cs : List Bool) : D := .sl cs.length (cs.map .bool)
/-- a tape: where it is, is it dead, its coins -/
abbrev tapeO (cs : List Bool) (p : Nat) (dead : Bool) : Ob := ⟨t_tape_Tape, [.d (.int .i64 p), .d (.bool dead), .d (BL cs)]⟩

/-- a coin: is there one, which, and what the tape is then -/
def flipB (cs : List Bool) (p : Nat) (dead : Bool) : Bool := if dead ∨ p = cs.length then false else cs.getD p false
def flipE (cs : List Bool) (p : Nat) (dead : Bool) : Int := if dead ∨ p = cs.length then 8 else 0
def flipP (cs : List Bool) (p : Nat) (dead : Bool) : Nat := if dead ∨ p = cs.length then p else p + 1
def flipD (cs : List Bool) (p : Nat) (dead : Bool) : Bool := if dead ∨ p = cs.length then true else dead

theorem cloneB_ok (n : Nat) (l : List D) (hl : l.length = n) (hn : n ≤ 4000000) : Eqn Tryz.prog n_slices_Clone_bool_bool [.d (.sl n l)] [] (.d (.sl n l)) [] := by
  refine Eqn.pure r_slices_Clone_bool_bool (plain_d _) ?_
  simp only [c_slices_Clone_bool_bool]
  rcases Nat.eq_zero_or_pos n with rfl | h0
  · have : l = [] := List.eq_nil_of_length_eq_zero hl
    subst this
    refine AW.empty 0 rfl ?_ ?_
    · simp
      repeat (first | refine AW.seq ?_ | refine AW.block ?_ | (refine AW.reg mix ?_; simp -implicitDefEqProofs; try simp (disch := omega) only [w64, wu64]) | (refine need.of (by first | omega | kernel_rfl) ?_) | (refine AW.fin ?_; try simp -implicitDefEqProofs))
      refine AW.cond rfl (fun h => ?_) (fun h => ?_)
      · repeat (first | refine AW.seq ?_ | refine AW.block ?_ | (refine AW.reg mix ?_; simp -implicitDefEqProofs; try simp (disch := omega) only [w64, wu64]) | (refine need.of (by first | omega | kernel_rfl) ?_) | (refine AW.fin ?_; try simp -implicitDefEqProofs))
        exact Sub1.nil
      · simp at h
    · simp
      repeat (first | refine AW.seq ?_ | refine AW.block ?_ | (refine AW.reg mix ?_; simp -implicitDefEqProofs; try simp (disch := omega) only [w64, wu64]) | (refine need.of (by first | omega | kernel_rfl) ?_) | (refine AW.fin ?_; try simp -implicitDefEqProofs))
      refine AW.cond rfl (fun h => ?_) (fun h => ?_)
      · simp at h
      · repeat (first | refine AW.seq ?_ | refine AW.block ?_ | (refine AW.reg mix ?_; simp -implicitDefEqProofs; try simp (disch := omega) only [w64, wu64]) | (refine need.of (by first | omega | kernel_rfl) ?_) | (refine AW.fin ?_; try simp -implicitDefEqProofs))
        exact Sub1.sl0
  · repeat (first | refine AW.seq ?_ | refine AW.block ?_ | (refine AW.reg mix ?_; simp -implicitDefEqProofs [h0]; try simp (disch := omega) only [w64, wu64]) | (refine need.of (by first | omega | kernel_rfl) ?_) | (refine AW.fin ?_; try simp -implicitDefEqProofs [h0]))
    refine AW.cond rfl (fun h => ?_) (fun h => ?_)
    · simp at h
    · repeat (first | refine AW.seq ?_ | refine AW.block ?_ | (refine AW.reg mix ?_; simp -implicitDefEqProofs; try simp (disch := omega) only [w64, wu64]) | (refine need.of (by first | omega | kernel_rfl) ?_) | (refine AW.fin ?_; try simp -implicitDefEqProofs))
      have h1 : ¬ n = 0 := by omega
      simp [h1, hl]
      refine need.of (by omega) ?_
      refine AW.freeze 0 1 ⟨4, l.map .d⟩ l (by simp) rfl ?_
      simp
      repeat (first | refine AW.seq ?_ | refine AW.block ?_ | (refine AW.reg mix ?_; simp -implicitDefEqProofs; try simp (disch := omega) only [w64, wu64]) | (refine need.of (by first | omega | kernel_rfl) ?_) | (refine AW.fin ?_; try simp -implicitDefEqProofs))
      have : l.take n = l := List.take_of_length_le (by omega)
      simp [this]

theorem flip_ok (cs : List Bool) (p : Nat) (dd : Bool) (hp : p ≤ cs.length) (hn : cs.length ≤ 4000000) : Eqn Tryz.prog n_tape_Tape_Flip [.p 0 0] [tapeO cs p dd] (.tup [.d (.bool (flipB cs p dd)), .d (.int .i64 (flipE cs p dd))]) [tapeO cs (flipP cs p dd) (flipD cs p dd)] := by
  refine Eqn.obj1 r_tape_Tape_Flip (plain_tup2 _ _) ⟨rfl, fun _ => rfl⟩ ?_
  simp only [c_tape_Tape_Flip, tapeO, BL]
  cases dd with
  | true =>
    repeat (first | refine AW.seq ?_ | refine AW.block ?_ | (refine AW.reg mix ?_; simp -implicitDefEqProofs; try simp (disch := omega) only [w64, wu64]) | (refine need.of (by first | omega | kernel_rfl) ?_) | (refine AW.fin ?_; try simp -implicitDefEqProofs))
    refine AW.cond rfl (fun h => ?_) (fun h => ?_)
    · repeat (first | refine AW.seq ?_ | refine AW.block ?_ | (refine AW.reg mix ?_; simp -implicitDefEqProofs; try simp (disch := omega) only [w64, wu64]) | (refine need.of (by first | omega | kernel_rfl) ?_) | (refine AW.fin ?_; try simp -implicitDefEqProofs))
      simp [flipB, flipE, flipP, flipD]
    · simp at h
  | false =>
    by_cases h : p = cs.length
    · subst h
      repeat (first | refine AW.seq ?_ | refine AW.block ?_ | (refine AW.reg mix ?_; simp -implicitDefEqProofs; try simp (disch := omega) only [w64, wu64]) | (refine need.of (by first | omega | kernel_rfl) ?_) | (refine AW.fin ?_; try simp -implicitDefEqProofs))
      refine AW.cond rfl (fun h => ?_) (fun h => ?_)
      · repeat (first | refine AW.seq ?_ | refine AW.block ?_ | (refine AW.reg mix ?_; simp -implicitDefEqProofs; try simp (disch := omega) only [w64, wu64]) | (refine need.of (by first | omega | kernel_rfl) ?_) | (refine AW.fin ?_; try simp -implicitDefEqProofs))
        simp [flipB, flipE, flipP, flipD]
      · simp at h
    · have h1 : ¬ (p : Int) = cs.length := by omega
      have h2 : p < cs.length := by omega
      repeat (first | refine AW.seq ?_ | refine AW.block ?_ | (refine AW.reg mix ?_; simp -implicitDefEqProofs [h1, h]; try simp (disch := omega) only [w64, wu64]) | (refine need.of (by first | omega | kernel_rfl) ?_) | (refine AW.fin ?_; try simp -implicitDefEqProofs [h1, h]))
      refine AW.cond rfl (fun h => ?_) (fun h => ?_)
      · simp [h1] at h
      · have e1 : IntKind.i64.wrap ((p : Int) + 1) = (p : Int) + 1 := w64 (by omega) (by omega)
        have e2 : IntKind.i64.wrap ((p : Int) + 1 - 1) = (p : Int) := by rw [Int.add_sub_cancel]; exact w64 (by omega) (by omega)
        repeat (first | refine AW.seq ?_ | refine AW.block ?_ | (refine AW.reg mix ?_; simp -implicitDefEqProofs [h1, h2, e1, e2]; try simp (disch := omega) only [w64, wu64]) | (refine need.of (by first | omega | kernel_rfl) ?_) | (refine AW.fin ?_; try simp -implicitDefEqProofs [h1, h2, e1, e2]))
        have h4 : ¬ p = cs.length := by omega
        have h3 : cs[p]?.getD false = cs[p] := by simp [h2]
        simp [flipB, flipE, flipP, flipD, h4, h3]

/-- so many coins that are true -/
def halfR (cs : List Bool) : Nat → Nat → Bool → Bool × Int × Nat × Bool
  | 0, p, dd => (true, 0, p, dd)
  | k + 1, p, dd => if flipB cs p dd then halfR cs k (flipP cs p dd) (flipD cs p dd) else (false, flipE cs p dd, flipP cs p dd, flipD cs p dd)

theorem flipP_le {cs : List Bool} {p : Nat} {dd : Bool} (h : p ≤ cs.length) : flipP cs p dd ≤ cs.length := by
  unfold flipP; split
  · exact h
  · rename_i h'; rw [not_or] at h'; omega

theorem half_ok (cs : List Bool) (p : Nat) (dd : Bool) (k : Int) (hk : k ≤ 4000000) (hp : p ≤ cs.length) (hn : cs.length ≤ 4000000) :
    Eqn Tryz.prog n_flip_Half [.p 0 0, .d (.int .i64 k)] [tapeO cs p dd] (.tup [.d (.bool (halfR cs k.toNat p dd).1), .d (.int .i64 (halfR cs k.toNat p dd).2.1)]) [tapeO cs (halfR cs k.toNat p dd).2.2.1 (halfR cs k.toNat p dd).2.2.2] := by
  refine Eqn.obj1 r_flip_Half (plain_tup2 _ _) ⟨rfl, fun _ => rfl⟩ ?_
  simp only [c_flip_Half]
  obtain ⟨K, hK, hK2⟩ : ∃ K : Nat, K = k.toNat ∧ max 0 k = (K : Int) := ⟨k.toNat, rfl, by omega⟩
  rw [← hK]
  repeat (first | refine AW.seq ?_ | refine AW.block ?_ | (refine AW.reg mix ?_; simp -implicitDefEqProofs [hK2]; try simp (disch := omega) only [w64, wu64]) | (refine need.of (by first | omega | kernel_rfl) ?_) | (refine AW.fin ?_; try simp -implicitDefEqProofs [hK2]))
  refine AW.loopT (α := Nat × Nat × Bool) 1 (fun s => [(10, .d (.int .i64 (s.1 : Int)))]) (fun s => [(0, tapeO cs s.2.1 s.2.2)]) (fun s => s.1 ≤ K ∧ s.2.1 ≤ cs.length ∧ halfR cs (K - s.1) s.2.1 s.2.2 = halfR cs K p dd) (fun s => K - s.1) (0, p, dd) ?_ ?_ ⟨Nat.zero_le _, hp, rfl⟩ ?_ ?_ ?_
  · simp
  · simp
  · simp
  · simp
  rintro ⟨i, q, d⟩ ⟨hi, hq, hR⟩
  simp only at hi hq hR
  rw [← hR]
  simp [-Bool.exists_bool]
  by_cases h : i = K
  · subst h
    repeat (first | refine AW.seq ?_ | refine AW.block ?_ | (refine AW.reg mix ?_; simp -implicitDefEqProofs; try simp (disch := omega) only [w64, wu64]) | (refine need.of (by first | omega | kernel_rfl) ?_) | (refine AW.fin ?_; try simp -implicitDefEqProofs))
    refine AW.cond rfl (fun h => ?_) (fun h => ?_)
    · simp at h
    repeat (first | refine AW.seq ?_ | refine AW.block ?_ | (refine AW.reg mix ?_; simp -implicitDefEqProofs; try simp (disch := omega) only [w64, wu64]) | (refine need.of (by first | omega | kernel_rfl) ?_) | (refine AW.fin ?_; try simp -implicitDefEqProofs))
    simp [halfR]
  · have hlt : (i : Int) < K := by omega
    have hlt' : i < K := by omega
    obtain ⟨r, hr⟩ : ∃ r, K - i = r + 1 := ⟨K - i - 1, by omega⟩
    repeat (first | refine AW.seq ?_ | refine AW.block ?_ | (refine AW.reg mix ?_; simp -implicitDefEqProofs [hlt, hlt', -Bool.exists_bool]; try simp (disch := omega) only [w64, wu64]) | (refine need.of (by first | omega | kernel_rfl) ?_) | (refine AW.fin ?_; try simp -implicitDefEqProofs [hlt, hlt', -Bool.exists_bool]))
    refine AW.cond rfl (fun h => ?_) (fun h => ?_)
    · repeat (first | refine AW.seq ?_ | refine AW.block ?_ | (refine AW.reg mix ?_; simp -implicitDefEqProofs [-Bool.exists_bool]; try simp (disch := omega) only [w64, wu64]) | (refine need.of (by first | omega | kernel_rfl) ?_) | (refine AW.fin ?_; try simp -implicitDefEqProofs [-Bool.exists_bool]))
      refine CallS.o1 0 (flip_ok cs q d hq hn) ?_
      (try (simp -implicitDefEqProofs [-Bool.exists_bool]; try simp (disch := omega) only [w64, wu64]))
      repeat (first | refine AW.seq ?_ | refine AW.block ?_ | (refine AW.reg mix ?_; simp -implicitDefEqProofs [-Bool.exists_bool]; try simp (disch := omega) only [w64, wu64]) | (refine need.of (by first | omega | kernel_rfl) ?_) | (refine AW.fin ?_; try simp -implicitDefEqProofs [-Bool.exists_bool]))
      refine AW.cond rfl (fun h => ?_) (fun h => ?_)
      · have hb : flipB cs q d = false := by simpa using h
        repeat (first | refine AW.seq ?_ | refine AW.block ?_ | (refine AW.reg mix ?_; simp -implicitDefEqProofs; try simp (disch := omega) only [w64, wu64]) | (refine need.of (by first | omega | kernel_rfl) ?_) | (refine AW.fin ?_; try simp -implicitDefEqProofs))
        simp [hr, halfR, hb]
      · have hb : flipB cs q d = true := by simpa using h
        have ew : IntKind.i64.wrap ((i : Int) + 1) = (i : Int) + 1 := w64 (by omega) (by omega)
        repeat (first | refine AW.seq ?_ | refine AW.block ?_ | (refine AW.reg mix ?_; simp -implicitDefEqProofs [ew, -Bool.exists_bool]; try simp (disch := omega) only [w64, wu64]) | (refine need.of (by first | omega | kernel_rfl) ?_) | (refine AW.fin ?_; try simp -implicitDefEqProofs [ew, -Bool.exists_bool]))
        refine ⟨i + 1, flipP cs q d, flipD cs q d, ⟨hlt', flipP_le hq, ?_⟩, by omega, by simp, by simp⟩
        rw [hr, halfR, if_pos hb, show K - (i + 1) = r by omega]
    · simp [hlt'] at h
end
end Go.Proofs.YtdbfenhaljmbfaaGreat.Am
namespace Go.Proofs.YtdbfenhaljmbfaaGreat.Am
section
set_option linter.unusedVariables false
set_option linter.unusedSimpArgs false
open Go.RowKit
set_option maxRecDepth 100000
set_option linter.unusedSimpArgs false
set_option linter.unusedVariables false

theorem good_ok (d : Int) : Eqn Tryz.prog n_float_Good [.d (.int .i64 d)] [] (.d (.bool (decide (0 ≤ d ∧ d ≤ 8)))) [] := by
  refine Eqn.pure r_float_Good (plain_d _) ?_
  simp only [c_float_Good]
  by_cases h : 0 ≤ d
  · repeat (first | refine AW.seq ?_ | refine AW.block ?_ | (refine AW.reg mix ?_; simp -implicitDefEqProofs [h]; try simp (disch := omega) only [w64, wu64]) | (refine need.of (by first | omega | kernel_rfl) ?_) | (refine AW.fin ?_; try simp -implicitDefEqProofs [h]))
  · repeat (first | refine AW.seq ?_ | refine AW.block ?_ | (refine AW.reg mix ?_; simp -implicitDefEqProofs [h]; try simp (disch := omega) only [w64, wu64]) | (refine need.of (by first | omega | kernel_rfl) ?_) | (refine AW.fin ?_; try simp -implicitDefEqProofs [h]))

def okK (k : Int) : Bool := decide (0 ≤ k ∧ k ≤ 1023)
/-- what is wrong -/
def wrongZ (d : Int) (ks : List Int) : Int := if 0 ≤ d ∧ d ≤ 8 then (if ks.all okK then 0 else 2) else 10

theorem wrong_ok (d : Int) (ks : List Int) (hn : ks.length ≤ 1000000) : Eqn Tryz.prog n_float_wrong [.d (.int .i64 d), .d (.sl ks.length (ks.map fun k : Int => .int .i64 k))] [] (.d (.int .i64 (wrongZ d ks))) [] := by
  refine Eqn.pure r_float_wrong (plain_d _) ?_
  simp only [c_float_wrong]
  repeat (first | refine AW.seq ?_ | refine AW.block ?_ | (refine AW.reg mix ?_; simp -implicitDefEqProofs; try simp (disch := omega) only [w64, wu64]) | (refine need.of (by first | omega | kernel_rfl) ?_) | (refine AW.fin ?_; try simp -implicitDefEqProofs))
  refine CallS.pu (good_ok d) ?_
  (try (simp -implicitDefEqProofs; try simp (disch := omega) only [w64, wu64]))
  repeat (first | refine AW.seq ?_ | refine AW.block ?_ | (refine AW.reg mix ?_; simp -implicitDefEqProofs; try simp (disch := omega) only [w64, wu64]) | (refine need.of (by first | omega | kernel_rfl) ?_) | (refine AW.fin ?_; try simp -implicitDefEqProofs))
  by_cases hd : 0 ≤ d ∧ d ≤ 8
  · refine AW.cond rfl (fun h => ?_) (fun h => ?_)
    · simp [hd] at h
    repeat (first | refine AW.seq ?_ | refine AW.block ?_ | (refine AW.reg mix ?_; simp -implicitDefEqProofs; try simp (disch := omega) only [w64, wu64]) | (refine need.of (by first | omega | kernel_rfl) ?_) | (refine AW.fin ?_; try simp -implicitDefEqProofs))
    refine AW.loopT (α := Nat) 0 (fun i => [(12, .d (.int .i64 (i : Int)))]) (fun i => []) (fun i => i ≤ ks.length ∧ (ks.take i).all okK = true) (fun i => ks.length - i) 0 ?_ ?_ ⟨Nat.zero_le _, by simp⟩ ?_ ?_ ?_
    · simp
    · simp
    · simp
    · simp
    rintro i ⟨hi, hall⟩
    simp
    by_cases h : i = ks.length
    · subst h
      rw [List.take_length] at hall
      repeat (first | refine AW.seq ?_ | refine AW.block ?_ | (refine AW.reg mix ?_; simp -implicitDefEqProofs; try simp (disch := omega) only [w64, wu64]) | (refine need.of (by first | omega | kernel_rfl) ?_) | (refine AW.fin ?_; try simp -implicitDefEqProofs))
      refine AW.cond rfl (fun h => ?_) (fun h => ?_)
      · simp at h
      repeat (first | refine AW.seq ?_ | refine AW.block ?_ | (refine AW.reg mix ?_; simp -implicitDefEqProofs; try simp (disch := omega) only [w64, wu64]) | (refine need.of (by first | omega | kernel_rfl) ?_) | (refine AW.fin ?_; try simp -implicitDefEqProofs))
      refine Sub1.int ?_
      rw [wrongZ, if_pos hd, if_pos hall]
    · have hi' : i < ks.length := by omega
      have hp : (i : Int) < ks.length := by omega
      repeat (first | refine AW.seq ?_ | refine AW.block ?_ | (refine AW.reg mix ?_; simp -implicitDefEqProofs [hi', hp]; try simp (disch := omega) only [w64, wu64]) | (refine need.of (by first | omega | kernel_rfl) ?_) | (refine AW.fin ?_; try simp -implicitDefEqProofs [hi', hp]))
      refine AW.cond rfl (fun h => ?_) (fun h => ?_)
      · have hbad : okK ks[i] = false → wrongZ d ks = 2 := by
          intro hb
          rw [wrongZ, if_pos hd, if_neg]
          intro ha
          rw [List.all_eq_true] at ha
          have := ha ks[i] (List.getElem_mem _)
          rw [hb] at this; cases this
        by_cases h0 : ks[i] < 0
        · repeat (first | refine AW.seq ?_ | refine AW.block ?_ | (refine AW.reg mix ?_; simp -implicitDefEqProofs [hi', hp, h0]; try simp (disch := omega) only [w64, wu64]) | (refine need.of (by first | omega | kernel_rfl) ?_) | (refine AW.fin ?_; try simp -implicitDefEqProofs [hi', hp, h0]))
          refine AW.cond rfl (fun h => ?_) (fun h => ?_)
          · repeat (first | refine AW.seq ?_ | refine AW.block ?_ | (refine AW.reg mix ?_; simp -implicitDefEqProofs; try simp (disch := omega) only [w64, wu64]) | (refine need.of (by first | omega | kernel_rfl) ?_) | (refine AW.fin ?_; try simp -implicitDefEqProofs))
            refine Sub1.int ?_
            rw [hbad (by simp [okK]; omega)]
          · simp [h0] at h
        · by_cases h1 : 1023 < ks[i]
          · repeat (first | refine AW.seq ?_ | refine AW.block ?_ | (refine AW.reg mix ?_; simp -implicitDefEqProofs [hi', hp, h0, h1]; try simp (disch := omega) only [w64, wu64]) | (refine need.of (by first | omega | kernel_rfl) ?_) | (refine AW.fin ?_; try simp -implicitDefEqProofs [hi', hp, h0, h1]))
            refine AW.cond rfl (fun h => ?_) (fun h => ?_)
            · repeat (first | refine AW.seq ?_ | refine AW.block ?_ | (refine AW.reg mix ?_; simp -implicitDefEqProofs; try simp (disch := omega) only [w64, wu64]) | (refine need.of (by first | omega | kernel_rfl) ?_) | (refine AW.fin ?_; try simp -implicitDefEqProofs))
              refine Sub1.int ?_
              rw [hbad (by simp [okK]; omega)]
            · simp [h0, h1] at h
          · repeat (first | refine AW.seq ?_ | refine AW.block ?_ | (refine AW.reg mix ?_; simp -implicitDefEqProofs [hi', hp, h0, h1]; try simp (disch := omega) only [w64, wu64]) | (refine need.of (by first | omega | kernel_rfl) ?_) | (refine AW.fin ?_; try simp -implicitDefEqProofs [hi', hp, h0, h1]))
            refine AW.cond rfl (fun h => ?_) (fun h => ?_)
            · simp [h0, h1] at h
            have ew : IntKind.i64.wrap ((i : Int) + 1) = (i : Int) + 1 := w64 (by omega) (by omega)
            repeat (first | refine AW.seq ?_ | refine AW.block ?_ | (refine AW.reg mix ?_; simp -implicitDefEqProofs [ew]; try simp (disch := omega) only [w64, wu64]) | (refine need.of (by first | omega | kernel_rfl) ?_) | (refine AW.fin ?_; try simp -implicitDefEqProofs [ew]))
            refine ⟨i + 1, ⟨by omega, ?_⟩, by omega, by simp⟩
            rw [List.take_add_one, List.getElem?_eq_getElem hi']
            intro x hx
            rcases List.mem_append.1 hx with hx | hx
            · exact List.all_eq_true.1 hall x hx
            · simp at hx
              subst hx
              simp [okK]; omega
      · simp [hi'] at h
  · refine AW.cond rfl (fun h => ?_) (fun h => ?_)
    · repeat (first | refine AW.seq ?_ | refine AW.block ?_ | (refine AW.reg mix ?_; simp -implicitDefEqProofs; try simp (disch := omega) only [w64, wu64]) | (refine need.of (by first | omega | kernel_rfl) ?_) | (refine AW.fin ?_; try simp -implicitDefEqProofs))
      refine Sub1.int ?_
      rw [wrongZ, if_neg hd]
    · simp at h
      exact absurd h hd

/-- the second part of a place -/
def partV (d k : Nat) : Int := bits .and .i64 k (IntKind.i64.wrap (IntKind.i64.wrap (2 ^ d) - 1))
theorem parts_ok (d k : Nat) (hd : d ≤ 8) (hk : k ≤ 1023) : Eqn Tryz.prog n_float_parts [.d (.int .i64 d), .d (.int .i64 k)] [] (.tup [.d (.int .i64 (k / 2 ^ d : Nat)), .d (.int .i64 (partV d k))]) [] := by
  refine Eqn.pure r_float_parts (plain_tup2 _ _) ?_
  simp only [c_float_parts]
  repeat (first | refine AW.seq ?_ | refine AW.block ?_ | (refine AW.reg mix ?_; simp -implicitDefEqProofs; try simp (disch := omega) only [w64, wu64]) | (refine need.of (by first | omega | kernel_rfl) ?_) | (refine AW.fin ?_; try simp -implicitDefEqProofs))
  exact Sub1.of rfl

theorem wrong1_ok (d k : Int) : Eqn Tryz.prog n_float_wrong [.d (.int .i64 d), .d (.sl 1 [.int .i64 k])] [] (.d (.int .i64 (wrongZ d [k]))) [] := wrong_ok d [k] (by simp)
theorem wrong_zero {d k : Int} {ks : List Int} (h : wrongZ d (k :: ks) = 0) : 0 ≤ d ∧ d ≤ 8 ∧ 0 ≤ k ∧ k ≤ 1023 := by
  unfold wrongZ at h
  split at h
  · split at h
    · rename_i h1 h2
      simp [okK] at h2
      omega
    · omega
  · omega

/-- what a step at another place is here -/
def againR (cs : List Bool) (d k j : Int) : Bool × Int × Nat × Bool := if wrongZ d [k, j] = 0 then halfR cs (k.toNat / 2 ^ d.toNat - j.toNat / 2 ^ d.toNat) 0 false else (false, wrongZ d [k, j], 0, false)

/-- a step at a place -/
def stepR (cs : List Bool) (d k : Int) : Bool × Int × Nat × Bool := if wrongZ d [k] = 0 then halfR cs (k.toNat / 2 ^ d.toNat) 0 false else (false, wrongZ d [k], 0, false)
end
end Go.Proofs.YtdbfenhaljmbfaaGreat.Am
namespace Go.Proofs.YtdbfenhaljmbfaaGreat.Am
section
set_option linter.unusedVariables false
set_option linter.unusedSimpArgs false
open Go.RowKit
set_option maxRecDepth 100000
set_option linter.unusedSimpArgs false
set_option linter.unusedVariables false

theorem sub_less (m n : Nat) (hm : size m ≤ 1000000) (hn : size n ≤ 1000000) (h : m < n) : Eqn Tryz.prog n_nat_Sub [.d (.agg [natW m]), .d (.agg [natW n])] [] (.tup [.d (.agg [.nilsl]), .d (.int .i64 2)]) [] := by
  refine Eqn.pure r_nat_Sub (plain_tup2 _ _) ?_
  simp only [c_nat_Sub]
  repeat (first | refine AW.seq ?_ | refine AW.block ?_ | (refine AW.reg mix ?_; simp -implicitDefEqProofs; try simp (disch := omega) only [w64, wu64]) | (refine need.of (by first | omega | kernel_rfl) ?_) | (refine AW.fin ?_; try simp -implicitDefEqProofs))
  refine CallS.pu (cmp_ok m n hm hn) ?_
  (try (simp -implicitDefEqProofs; try simp (disch := omega) only [w64, wu64]))
  repeat (first | refine AW.seq ?_ | refine AW.block ?_ | (refine AW.reg mix ?_; simp -implicitDefEqProofs; try simp (disch := omega) only [w64, wu64]) | (refine need.of (by first | omega | kernel_rfl) ?_) | (refine AW.fin ?_; try simp -implicitDefEqProofs))
  have hc : cmpZ m n = -1 := by unfold cmpZ; rw [if_pos h]
  refine AW.cond rfl (fun h => ?_) (fun h => ?_)
  · repeat (first | refine AW.seq ?_ | refine AW.block ?_ | (refine AW.reg mix ?_; simp -implicitDefEqProofs; try simp (disch := omega) only [w64, wu64]) | (refine need.of (by first | omega | kernel_rfl) ?_) | (refine AW.fin ?_; try simp -implicitDefEqProofs))
  · simp [hc] at h

theorem fgood_ok (p q : Nat) (hp : size p ≤ 1000000) (hq : size q ≤ 1000000) : Eqn Tryz.prog n_flip_good [.d (.agg [natW p]), .d (.agg [natW q])] [] (.d (.bool (decide (0 < q ∧ p ≤ q)))) [] := by
  refine Eqn.pure r_flip_good (plain_d _) ?_
  simp only [c_flip_good]
  by_cases h : q = 0
  · subst h
    repeat (first | refine AW.seq ?_ | refine AW.block ?_ | (refine AW.reg mix ?_; simp -implicitDefEqProofs; try simp (disch := omega) only [w64, wu64]) | (refine need.of (by first | omega | kernel_rfl) ?_) | (refine AW.fin ?_; try simp -implicitDefEqProofs))
    refine CallS.pu (zero_ok 0) ?_
    (try (simp -implicitDefEqProofs; try simp (disch := omega) only [w64, wu64]))
    repeat (first | refine AW.seq ?_ | refine AW.block ?_ | (refine AW.reg mix ?_; simp -implicitDefEqProofs; try simp (disch := omega) only [w64, wu64]) | (refine need.of (by first | omega | kernel_rfl) ?_) | (refine AW.fin ?_; try simp -implicitDefEqProofs))
  · have h0 : (q == 0) = false := by simpa using h
    have hc : decide (cmpZ p q ≤ 0) = decide (0 < q ∧ p ≤ q) := by
      unfold cmpZ
      split
      · simp; omega
      · split
        · simp; omega
        · simp; omega
    repeat (first | refine AW.seq ?_ | refine AW.block ?_ | (refine AW.reg mix ?_; simp -implicitDefEqProofs; try simp (disch := omega) only [w64, wu64]) | (refine need.of (by first | omega | kernel_rfl) ?_) | (refine AW.fin ?_; try simp -implicitDefEqProofs))
    refine CallS.pu (zero_ok q) ?_
    (try (simp -implicitDefEqProofs [h0, h]; try simp (disch := omega) only [w64, wu64]))
    repeat (first | refine AW.seq ?_ | refine AW.block ?_ | (refine AW.reg mix ?_; simp -implicitDefEqProofs [h0, h]; try simp (disch := omega) only [w64, wu64]) | (refine need.of (by first | omega | kernel_rfl) ?_) | (refine AW.fin ?_; try simp -implicitDefEqProofs [h0, h]))
    refine CallS.pu (cmp_ok p q hp hq) ?_
    (try (simp -implicitDefEqProofs [h0, h]; try simp (disch := omega) only [w64, wu64]))
    repeat (first | refine AW.seq ?_ | refine AW.block ?_ | (refine AW.reg mix ?_; simp -implicitDefEqProofs [h0, h]; try simp (disch := omega) only [w64, wu64]) | (refine need.of (by first | omega | kernel_rfl) ?_) | (refine AW.fin ?_; try simp -implicitDefEqProofs [h0, h]))
    try simp [hc]

/-- so many coins as it takes: p by q -/
def ratioR (cs : List Bool) (q : Nat) : Nat → Nat → Nat → Bool → Bool × Int × Nat × Bool
  | 0, _, p, dd => (true, 0, p, dd)
  | f + 1, r, p, dd =>
    if r < q then
      if flipE cs p dd = 0 then
        if flipB cs p dd ≠ decide (q ≤ r + r) ∨ (if q ≤ r + r then r + r - q else r + r) = 0 then (decide (q ≤ r + r) && !flipB cs p dd, 0, flipP cs p dd, flipD cs p dd)
        else ratioR cs q f (if q ≤ r + r then r + r - q else r + r) (flipP cs p dd) (flipD cs p dd)
      else (false, flipE cs p dd, flipP cs p dd, flipD cs p dd)
    else (true, 0, p, dd)
/-- of p by q -/
def ratioA (cs : List Bool) (a q : Nat) (p : Nat) (dd : Bool) : Bool × Int × Nat × Bool := if a = 0 then (false, 0, p, dd) else ratioR cs q (cs.length + 1 - p) a p dd

theorem ratio_ok (cs : List Bool) (a q p : Nat) (dd : Bool) (ha : a ≤ q) (h0 : 0 < q) (hq : q < 9223372036854775808) (hp : p ≤ cs.length) (hn : cs.length ≤ 4000000) :
    Eqn Tryz.prog n_flip_Ratio [.p 0 0, .d (.agg [natW a]), .d (.agg [natW q])] [tapeO cs p dd] (.tup [.d (.bool (ratioA cs a q p dd).1), .d (.int .i64 (ratioA cs a q p dd).2.1)]) [tapeO cs (ratioA cs a q p dd).2.2.1 (ratioA cs a q p dd).2.2.2] := by
  refine Eqn.obj1 r_flip_Ratio (plain_tup2 _ _) ⟨rfl, fun _ => rfl⟩ ?_
  simp only [c_flip_Ratio]
  have sz : ∀ {x : Nat}, x < 18446744073709551616 → size x ≤ 1000000 := fun hx => Nat.le_trans (size_one hx) (by omega)
  have hg := fgood_ok a q (sz (by omega)) (sz (by omega))
  rw [show decide (0 < q ∧ a ≤ q) = true by simp; omega] at hg
  repeat (first | refine AW.seq ?_ | refine AW.block ?_ | (refine AW.reg mix ?_; simp -implicitDefEqProofs [-Bool.exists_bool]; try simp (disch := omega) only [w64, wu64]) | (refine need.of (by first | omega | kernel_rfl) ?_) | (refine AW.fin ?_; try simp -implicitDefEqProofs [-Bool.exists_bool]))
  refine CallS.pu (hg) ?_
  (try (simp -implicitDefEqProofs [-Bool.exists_bool]; try simp (disch := omega) only [w64, wu64]))
  repeat (first | refine AW.seq ?_ | refine AW.block ?_ | (refine AW.reg mix ?_; simp -implicitDefEqProofs [-Bool.exists_bool]; try simp (disch := omega) only [w64, wu64]) | (refine need.of (by first | omega | kernel_rfl) ?_) | (refine AW.fin ?_; try simp -implicitDefEqProofs [-Bool.exists_bool]))
  refine AW.cond rfl (fun h => ?_) (fun h => ?_)
  · simp at h
  clear h
  repeat (first | refine AW.seq ?_ | refine AW.block ?_ | (refine AW.reg mix ?_; simp -implicitDefEqProofs [-Bool.exists_bool]; try simp (disch := omega) only [w64, wu64]) | (refine need.of (by first | omega | kernel_rfl) ?_) | (refine AW.fin ?_; try simp -implicitDefEqProofs [-Bool.exists_bool]))
  refine CallS.pu (zero_ok a) ?_
  (try (simp -implicitDefEqProofs [-Bool.exists_bool]; try simp (disch := omega) only [w64, wu64]))
  repeat (first | refine AW.seq ?_ | refine AW.block ?_ | (refine AW.reg mix ?_; simp -implicitDefEqProofs [-Bool.exists_bool]; try simp (disch := omega) only [w64, wu64]) | (refine need.of (by first | omega | kernel_rfl) ?_) | (refine AW.fin ?_; try simp -implicitDefEqProofs [-Bool.exists_bool]))
  refine AW.cond rfl (fun h => ?_) (fun h => ?_)
  · have ha0 : a = 0 := by simpa using h
    subst ha0
    repeat (first | refine AW.seq ?_ | refine AW.block ?_ | (refine AW.reg mix ?_; simp -implicitDefEqProofs [-Bool.exists_bool]; try simp (disch := omega) only [w64, wu64]) | (refine need.of (by first | omega | kernel_rfl) ?_) | (refine AW.fin ?_; try simp -implicitDefEqProofs [-Bool.exists_bool]))
    simp [ratioA]
  have ha0 : ¬ a = 0 := by simpa using h
  clear h
  rw [ratioA, if_neg ha0]
  obtain ⟨R, hR⟩ : ∃ R, R = ratioR cs q (cs.length + 1 - p) a p dd := ⟨_, rfl⟩
  rw [← hR]
  repeat (first | refine AW.seq ?_ | refine AW.block ?_ | (refine AW.reg mix ?_; simp -implicitDefEqProofs [-Bool.exists_bool]; try simp (disch := omega) only [w64, wu64]) | (refine need.of (by first | omega | kernel_rfl) ?_) | (refine AW.fin ?_; try simp -implicitDefEqProofs [-Bool.exists_bool]))
  refine AW.loopS (α := Nat × Nat × Bool) 4 3 (fun s => [(8, .p 3 0)]) (fun s => [(0, tapeO cs s.2.1 s.2.2), (3, ⟨91, [.d (natW s.1)]⟩)]) (fun s => s.1 ≤ q ∧ s.2.1 ≤ cs.length ∧ R = ratioR cs q (cs.length + 1 - s.2.1) s.1 s.2.1 s.2.2) (fun s => cs.length + 1 - s.2.1) (a, p, dd) ?_ ?_ ?_ ?_ ⟨ha, hp, hR⟩ ?_ ?_ ?_
  · simp
  · simp
  · simp
  · simp
  · simp
  · simp
  rintro ⟨r, z, d⟩ ⟨hr, hz, hR⟩
  simp only at hr hz hR
  simp [-Bool.exists_bool]
  obtain ⟨f, hf⟩ : ∃ f, cs.length + 1 - z = f + 1 := ⟨cs.length - z, by omega⟩
  rw [hf, ratioR] at hR
  repeat (first | refine AW.seq ?_ | refine AW.block ?_ | (refine AW.reg mix ?_; simp -implicitDefEqProofs [-Bool.exists_bool]; try simp (disch := omega) only [w64, wu64]) | (refine need.of (by first | omega | kernel_rfl) ?_) | (refine AW.fin ?_; try simp -implicitDefEqProofs [-Bool.exists_bool]))
  refine CallS.pu (cmp_ok r q (sz (by omega)) (sz (by omega))) ?_
  (try (simp -implicitDefEqProofs [-Bool.exists_bool]; try simp (disch := omega) only [w64, wu64]))
  repeat (first | refine AW.seq ?_ | refine AW.block ?_ | (refine AW.reg mix ?_; simp -implicitDefEqProofs [-Bool.exists_bool]; try simp (disch := omega) only [w64, wu64]) | (refine need.of (by first | omega | kernel_rfl) ?_) | (refine AW.fin ?_; try simp -implicitDefEqProofs [-Bool.exists_bool]))
  refine AW.cond rfl (fun h => ?_) (fun h => ?_)
  · have hlt : r < q := by simpa [cmpZ_lt] using h
    clear h
    rw [if_pos hlt] at hR
    repeat (first | refine AW.seq ?_ | refine AW.block ?_ | (refine AW.reg mix ?_; simp -implicitDefEqProofs [-Bool.exists_bool]; try simp (disch := omega) only [w64, wu64]) | (refine need.of (by first | omega | kernel_rfl) ?_) | (refine AW.fin ?_; try simp -implicitDefEqProofs [-Bool.exists_bool]))
    refine CallS.o1 0 (flip_ok cs z d hz hn) ?_
    (try (simp -implicitDefEqProofs [-Bool.exists_bool]; try simp (disch := omega) only [w64, wu64]))
    repeat (first | refine AW.seq ?_ | refine AW.block ?_ | (refine AW.reg mix ?_; simp -implicitDefEqProofs [-Bool.exists_bool]; try simp (disch := omega) only [w64, wu64]) | (refine need.of (by first | omega | kernel_rfl) ?_) | (refine AW.fin ?_; try simp -implicitDefEqProofs [-Bool.exists_bool]))
    by_cases hE : flipE cs z d = 0
    · have hE2 : flipP cs z d = z + 1 ∧ z < cs.length := by
        unfold flipE at hE
        unfold flipP
        split at hE
        · omega
        · rename_i h'
          rw [if_neg h']
          rw [not_or] at h'
          omega
      rw [if_pos hE] at hR
      have ha2 := add_ok r r (sz (by omega)) (sz (by omega))
      generalize flipB cs z d = b at *
      generalize flipD cs z d = d' at *
      rw [hE2.1] at hR ⊢
      have hz' := hE2.2
      clear hE2
      refine AW.cond rfl (fun h => ?_) (fun h => ?_)
      · simp [hE] at h
      clear h
      repeat (first | refine AW.seq ?_ | refine AW.block ?_ | (refine AW.reg mix ?_; simp -implicitDefEqProofs [-Bool.exists_bool]; try simp (disch := omega) only [w64, wu64]) | (refine need.of (by first | omega | kernel_rfl) ?_) | (refine AW.fin ?_; try simp -implicitDefEqProofs [-Bool.exists_bool]))
      refine CallS.pu (ha2) ?_
      (try (simp -implicitDefEqProofs [-Bool.exists_bool]; try simp (disch := omega) only [w64, wu64]))
      repeat (first | refine AW.seq ?_ | refine AW.block ?_ | (refine AW.reg mix ?_; simp -implicitDefEqProofs [-Bool.exists_bool]; try simp (disch := omega) only [w64, wu64]) | (refine need.of (by first | omega | kernel_rfl) ?_) | (refine AW.fin ?_; try simp -implicitDefEqProofs [-Bool.exists_bool]))
      by_cases hd : q ≤ r + r
      · rw [if_pos hd, show decide (q ≤ r + r) = true by simp [hd]] at hR
        refine CallS.pu (sub_ok (r + r) q (sz (by omega)) hd) ?_
        (try (simp -implicitDefEqProofs [-Bool.exists_bool]; try simp (disch := omega) only [w64, wu64]))
        repeat (first | refine AW.seq ?_ | refine AW.block ?_ | (refine AW.reg mix ?_; simp -implicitDefEqProofs [-Bool.exists_bool]; try simp (disch := omega) only [w64, wu64]) | (refine need.of (by first | omega | kernel_rfl) ?_) | (refine AW.fin ?_; try simp -implicitDefEqProofs [-Bool.exists_bool]))
        refine AW.cond rfl (fun h => ?_) (fun h => ?_)
        · clear h
          cases b with
          | true =>
            simp only [ne_eq, not_true_eq_false, not_false_eq_true, Bool.true_eq_false, Bool.false_eq_true, reduceCtorEq, false_or, true_or, if_true] at hR
            repeat (first | refine AW.seq ?_ | refine AW.block ?_ | (refine AW.reg mix ?_; simp -implicitDefEqProofs [-Bool.exists_bool]; try simp (disch := omega) only [w64, wu64]) | (refine need.of (by first | omega | kernel_rfl) ?_) | (refine AW.fin ?_; try simp -implicitDefEqProofs [-Bool.exists_bool]))
            refine CallS.pu (zero_ok (r + r - q)) ?_
            (try (simp -implicitDefEqProofs [-Bool.exists_bool]; try simp (disch := omega) only [w64, wu64]))
            repeat (first | refine AW.seq ?_ | refine AW.block ?_ | (refine AW.reg mix ?_; simp -implicitDefEqProofs [-Bool.exists_bool]; try simp (disch := omega) only [w64, wu64]) | (refine need.of (by first | omega | kernel_rfl) ?_) | (refine AW.fin ?_; try simp -implicitDefEqProofs [-Bool.exists_bool]))
            by_cases hz0 : r + r - q = 0
            · rw [if_pos hz0] at hR
              refine AW.cond rfl (fun h => ?_) (fun h => ?_)
              · repeat (first | refine AW.seq ?_ | refine AW.block ?_ | (refine AW.reg mix ?_; simp -implicitDefEqProofs [-Bool.exists_bool]; try simp (disch := omega) only [w64, wu64]) | (refine need.of (by first | omega | kernel_rfl) ?_) | (refine AW.fin ?_; try simp -implicitDefEqProofs [-Bool.exists_bool]))
                simp [hR]
              · first | (simp [hz0] at h; done) | (exfalso; simp at h; omega)
            · rw [if_neg hz0] at hR
              refine AW.cond rfl (fun h => ?_) (fun h => ?_)
              · first | (simp [hz0] at h; done) | (exfalso; simp at h; omega)
              · clear h
                repeat (first | refine AW.seq ?_ | refine AW.block ?_ | (refine AW.reg mix ?_; simp -implicitDefEqProofs [-Bool.exists_bool]; try simp (disch := omega) only [w64, wu64]) | (refine need.of (by first | omega | kernel_rfl) ?_) | (refine AW.fin ?_; try simp -implicitDefEqProofs [-Bool.exists_bool]))
                refine ⟨r + r - q, z + 1, d', 5, by omega, by omega, ⟨by omega, by omega, by rw [show cs.length + 1 - (z + 1) = f by omega]; exact hR⟩, by omega, ?_⟩
                simp [swT, swH, sw, Ob.sw, V.ren, V.rens, tapeO]
          | false =>
            simp only [ne_eq, not_true_eq_false, not_false_eq_true, Bool.true_eq_false, Bool.false_eq_true, reduceCtorEq, false_or, true_or, if_true] at hR
            repeat (first | refine AW.seq ?_ | refine AW.block ?_ | (refine AW.reg mix ?_; simp -implicitDefEqProofs [-Bool.exists_bool]; try simp (disch := omega) only [w64, wu64]) | (refine need.of (by first | omega | kernel_rfl) ?_) | (refine AW.fin ?_; try simp -implicitDefEqProofs [-Bool.exists_bool]))
            refine AW.cond rfl (fun h => ?_) (fun h => ?_)
            · repeat (first | refine AW.seq ?_ | refine AW.block ?_ | (refine AW.reg mix ?_; simp -implicitDefEqProofs [-Bool.exists_bool]; try simp (disch := omega) only [w64, wu64]) | (refine need.of (by first | omega | kernel_rfl) ?_) | (refine AW.fin ?_; try simp -implicitDefEqProofs [-Bool.exists_bool]))
              simp [hR]
            · simp at h
        · simp at h
      · rw [if_neg hd, show decide (q ≤ r + r) = false by simp [hd]] at hR
        refine CallS.pu (sub_less (r + r) q (sz (by omega)) (sz (by omega)) (by omega)) ?_
        (try (simp -implicitDefEqProofs [-Bool.exists_bool]; try simp (disch := omega) only [w64, wu64]))
        repeat (first | refine AW.seq ?_ | refine AW.block ?_ | (refine AW.reg mix ?_; simp -implicitDefEqProofs [-Bool.exists_bool]; try simp (disch := omega) only [w64, wu64]) | (refine need.of (by first | omega | kernel_rfl) ?_) | (refine AW.fin ?_; try simp -implicitDefEqProofs [-Bool.exists_bool]))
        refine AW.cond rfl (fun h => ?_) (fun h => ?_)
        · simp at h
        · clear h
          cases b with
          | false =>
            simp only [ne_eq, not_true_eq_false, not_false_eq_true, Bool.true_eq_false, Bool.false_eq_true, reduceCtorEq, false_or, true_or, if_true] at hR
            repeat (first | refine AW.seq ?_ | refine AW.block ?_ | (refine AW.reg mix ?_; simp -implicitDefEqProofs [-Bool.exists_bool]; try simp (disch := omega) only [w64, wu64]) | (refine need.of (by first | omega | kernel_rfl) ?_) | (refine AW.fin ?_; try simp -implicitDefEqProofs [-Bool.exists_bool]))
            refine CallS.pu (zero_ok (r + r)) ?_
            (try (simp -implicitDefEqProofs [-Bool.exists_bool]; try simp (disch := omega) only [w64, wu64]))
            repeat (first | refine AW.seq ?_ | refine AW.block ?_ | (refine AW.reg mix ?_; simp -implicitDefEqProofs [-Bool.exists_bool]; try simp (disch := omega) only [w64, wu64]) | (refine need.of (by first | omega | kernel_rfl) ?_) | (refine AW.fin ?_; try simp -implicitDefEqProofs [-Bool.exists_bool]))
            by_cases hz0 : r + r = 0
            · rw [if_pos hz0] at hR
              refine AW.cond rfl (fun h => ?_) (fun h => ?_)
              · repeat (first | refine AW.seq ?_ | refine AW.block ?_ | (refine AW.reg mix ?_; simp -implicitDefEqProofs [-Bool.exists_bool]; try simp (disch := omega) only [w64, wu64]) | (refine need.of (by first | omega | kernel_rfl) ?_) | (refine AW.fin ?_; try simp -implicitDefEqProofs [-Bool.exists_bool]))
                simp [hR]
              · first | (simp [hz0] at h; done) | (exfalso; simp at h; omega)
            · rw [if_neg hz0] at hR
              refine AW.cond rfl (fun h => ?_) (fun h => ?_)
              · first | (simp [hz0] at h; done) | (exfalso; simp at h; omega)
              · clear h
                repeat (first | refine AW.seq ?_ | refine AW.block ?_ | (refine AW.reg mix ?_; simp -implicitDefEqProofs [-Bool.exists_bool]; try simp (disch := omega) only [w64, wu64]) | (refine need.of (by first | omega | kernel_rfl) ?_) | (refine AW.fin ?_; try simp -implicitDefEqProofs [-Bool.exists_bool]))
                refine ⟨r + r, z + 1, d', 5, by omega, by omega, ⟨by omega, by omega, by rw [show cs.length + 1 - (z + 1) = f by omega]; exact hR⟩, by omega, ?_⟩
                simp [swT, swH, sw, Ob.sw, V.ren, V.rens, tapeO]
          | true =>
            simp only [ne_eq, not_true_eq_false, not_false_eq_true, Bool.true_eq_false, Bool.false_eq_true, reduceCtorEq, false_or, true_or, if_true] at hR
            repeat (first | refine AW.seq ?_ | refine AW.block ?_ | (refine AW.reg mix ?_; simp -implicitDefEqProofs [-Bool.exists_bool]; try simp (disch := omega) only [w64, wu64]) | (refine need.of (by first | omega | kernel_rfl) ?_) | (refine AW.fin ?_; try simp -implicitDefEqProofs [-Bool.exists_bool]))
            refine AW.cond rfl (fun h => ?_) (fun h => ?_)
            · repeat (first | refine AW.seq ?_ | refine AW.block ?_ | (refine AW.reg mix ?_; simp -implicitDefEqProofs [-Bool.exists_bool]; try simp (disch := omega) only [w64, wu64]) | (refine need.of (by first | omega | kernel_rfl) ?_) | (refine AW.fin ?_; try simp -implicitDefEqProofs [-Bool.exists_bool]))
              simp [hR]
            · simp at h
    · rw [if_neg hE] at hR
      refine AW.cond rfl (fun h => ?_) (fun h => ?_)
      · repeat (first | refine AW.seq ?_ | refine AW.block ?_ | (refine AW.reg mix ?_; simp -implicitDefEqProofs [-Bool.exists_bool]; try simp (disch := omega) only [w64, wu64]) | (refine need.of (by first | omega | kernel_rfl) ?_) | (refine AW.fin ?_; try simp -implicitDefEqProofs [-Bool.exists_bool]))
        simp [hR]
      · simp [hE] at h
  · have hlt : ¬ r < q := by simpa [cmpZ_lt] using h
    rw [if_neg hlt] at hR
    refine AW.exit ?_
    (try (simp -implicitDefEqProofs [-Bool.exists_bool]; try simp (disch := omega) only [w64, wu64]))
    repeat (first | refine AW.seq ?_ | refine AW.block ?_ | (refine AW.reg mix ?_; simp -implicitDefEqProofs [-Bool.exists_bool]; try simp (disch := omega) only [w64, wu64]) | (refine need.of (by first | omega | kernel_rfl) ?_) | (refine AW.fin ?_; try simp -implicitDefEqProofs [-Bool.exists_bool]))
    simp [hR]
end
end Go.Proofs.YtdbfenhaljmbfaaGreat.Am
namespace Go.Proofs.YtdbfenhaljmbfaaGreat.Am
section
set_option linter.unusedVariables false
set_option linter.unusedSimpArgs false
open Go.RowKit
set_option maxRecDepth 100000
set_option linter.unusedSimpArgs false
set_option linter.unusedVariables false

theorem ratioR_le {cs : List Bool} {q : Nat} : ∀ (f r p : Nat) (dd : Bool), p ≤ cs.length → (ratioR cs q f r p dd).2.2.1 ≤ cs.length
  | 0, _, _, _, h => h
  | f + 1, r, p, dd, h => by
    rw [ratioR]
    generalize (if q ≤ r + r then r + r - q else r + r) = r3
    split
    · split
      · split
        · exact flipP_le h
        · exact ratioR_le f _ _ _ (flipP_le h)
      · exact flipP_le h
    · exact h
theorem ratioA_le {cs : List Bool} {a q p : Nat} {dd : Bool} (h : p ≤ cs.length) : (ratioA cs a q p dd).2.2.1 ≤ cs.length := by
  rw [ratioA]
  split
  · exact h
  · exact ratioR_le _ _ _ _ h

/-- so many of these -/
def powerR (cs : List Bool) (a q : Nat) : Nat → Nat → Bool → Bool × Int × Nat × Bool
  | 0, p, dd => (true, 0, p, dd)
  | k + 1, p, dd => if (ratioA cs a q p dd).1 then powerR cs a q k (ratioA cs a q p dd).2.2.1 (ratioA cs a q p dd).2.2.2 else ratioA cs a q p dd

theorem power_ok (cs : List Bool) (a q p : Nat) (dd : Bool) (k : Int) (ha : a ≤ q) (h0 : 0 < q) (hq : q < 9223372036854775808) (hk : k ≤ 4000000) (hp : p ≤ cs.length) (hn : cs.length ≤ 4000000) :
    Eqn Tryz.prog n_flip_Power [.p 0 0, .d (.agg [natW a]), .d (.agg [natW q]), .d (.int .i64 k)] [tapeO cs p dd] (.tup [.d (.bool (powerR cs a q k.toNat p dd).1), .d (.int .i64 (powerR cs a q k.toNat p dd).2.1)]) [tapeO cs (powerR cs a q k.toNat p dd).2.2.1 (powerR cs a q k.toNat p dd).2.2.2] := by
  refine Eqn.obj1 r_flip_Power (plain_tup2 _ _) ⟨rfl, fun _ => rfl⟩ ?_
  simp only [c_flip_Power]
  have sz : ∀ {x : Nat}, x < 18446744073709551616 → size x ≤ 1000000 := fun hx => Nat.le_trans (size_one hx) (by omega)
  have hg := fgood_ok a q (sz (by omega)) (sz (by omega))
  rw [show decide (0 < q ∧ a ≤ q) = true by simp; omega] at hg
  obtain ⟨K, hK, hK2⟩ : ∃ K : Nat, K = k.toNat ∧ max 0 k = (K : Int) := ⟨k.toNat, rfl, by omega⟩
  rw [← hK]
  obtain ⟨R, hR⟩ : ∃ R, R = powerR cs a q K p dd := ⟨_, rfl⟩
  rw [← hR]
  repeat (first | refine AW.seq ?_ | refine AW.block ?_ | (refine AW.reg mix ?_; simp -implicitDefEqProofs [-Bool.exists_bool]; try simp (disch := omega) only [w64, wu64]) | (refine need.of (by first | omega | kernel_rfl) ?_) | (refine AW.fin ?_; try simp -implicitDefEqProofs [-Bool.exists_bool]))
  refine CallS.pu (hg) ?_
  (try (simp -implicitDefEqProofs [-Bool.exists_bool]; try simp (disch := omega) only [w64, wu64]))
  repeat (first | refine AW.seq ?_ | refine AW.block ?_ | (refine AW.reg mix ?_; simp -implicitDefEqProofs [-Bool.exists_bool]; try simp (disch := omega) only [w64, wu64]) | (refine need.of (by first | omega | kernel_rfl) ?_) | (refine AW.fin ?_; try simp -implicitDefEqProofs [-Bool.exists_bool]))
  refine AW.cond rfl (fun h => ?_) (fun h => ?_)
  · simp at h
  clear h
  repeat (first | refine AW.seq ?_ | refine AW.block ?_ | (refine AW.reg mix ?_; simp -implicitDefEqProofs [hK2, -Bool.exists_bool]; try simp (disch := omega) only [w64, wu64]) | (refine need.of (by first | omega | kernel_rfl) ?_) | (refine AW.fin ?_; try simp -implicitDefEqProofs [hK2, -Bool.exists_bool]))
  refine AW.loopT (α := Nat × Nat × Bool) 3 (fun s => [(18, .d (.int .i64 (s.1 : Int)))]) (fun s => [(0, tapeO cs s.2.1 s.2.2)]) (fun s => s.1 ≤ K ∧ s.2.1 ≤ cs.length ∧ R = powerR cs a q (K - s.1) s.2.1 s.2.2) (fun s => K - s.1) (0, p, dd) ?_ ?_ ⟨Nat.zero_le _, hp, hR⟩ ?_ ?_ ?_
  · simp
  · simp
  · simp
  · simp
  rintro ⟨i, z, d⟩ ⟨hi, hz, hR⟩
  simp only at hi hz hR
  simp [-Bool.exists_bool]
  by_cases h : i = K
  · subst h
    rw [Nat.sub_self, powerR] at hR
    repeat (first | refine AW.seq ?_ | refine AW.block ?_ | (refine AW.reg mix ?_; simp -implicitDefEqProofs [-Bool.exists_bool]; try simp (disch := omega) only [w64, wu64]) | (refine need.of (by first | omega | kernel_rfl) ?_) | (refine AW.fin ?_; try simp -implicitDefEqProofs [-Bool.exists_bool]))
    refine AW.cond rfl (fun h => ?_) (fun h => ?_)
    · simp at h
    refine AW.exit ?_
    (try (simp -implicitDefEqProofs [-Bool.exists_bool]; try simp (disch := omega) only [w64, wu64]))
    repeat (first | refine AW.seq ?_ | refine AW.block ?_ | (refine AW.reg mix ?_; simp -implicitDefEqProofs [-Bool.exists_bool]; try simp (disch := omega) only [w64, wu64]) | (refine need.of (by first | omega | kernel_rfl) ?_) | (refine AW.fin ?_; try simp -implicitDefEqProofs [-Bool.exists_bool]))
    simp [hR]
  · have hlt : (i : Int) < K := by omega
    have hlt' : i < K := by omega
    obtain ⟨r, hr⟩ : ∃ r, K - i = r + 1 := ⟨K - i - 1, by omega⟩
    rw [hr, powerR] at hR
    have hra := ratio_ok cs a q z d ha h0 hq hz hn
    have hle := ratioA_le (cs := cs) (a := a) (q := q) (dd := d) hz
    generalize ratioA cs a q z d = S at *
    obtain ⟨S1, S2, S3, S4⟩ := S
    simp only at hra hR hle
    repeat (first | refine AW.seq ?_ | refine AW.block ?_ | (refine AW.reg mix ?_; simp -implicitDefEqProofs [hlt, hlt', -Bool.exists_bool]; try simp (disch := omega) only [w64, wu64]) | (refine need.of (by first | omega | kernel_rfl) ?_) | (refine AW.fin ?_; try simp -implicitDefEqProofs [hlt, hlt', -Bool.exists_bool]))
    refine AW.cond rfl (fun h => ?_) (fun h => ?_)
    · clear h
      repeat (first | refine AW.seq ?_ | refine AW.block ?_ | (refine AW.reg mix ?_; simp -implicitDefEqProofs [-Bool.exists_bool]; try simp (disch := omega) only [w64, wu64]) | (refine need.of (by first | omega | kernel_rfl) ?_) | (refine AW.fin ?_; try simp -implicitDefEqProofs [-Bool.exists_bool]))
      refine CallS.o1 0 (hra) ?_
      (try (simp -implicitDefEqProofs [-Bool.exists_bool]; try simp (disch := omega) only [w64, wu64]))
      repeat (first | refine AW.seq ?_ | refine AW.block ?_ | (refine AW.reg mix ?_; simp -implicitDefEqProofs [-Bool.exists_bool]; try simp (disch := omega) only [w64, wu64]) | (refine need.of (by first | omega | kernel_rfl) ?_) | (refine AW.fin ?_; try simp -implicitDefEqProofs [-Bool.exists_bool]))
      refine AW.cond rfl (fun h => ?_) (fun h => ?_)
      · have hb : S1 = false := by simpa using h
        subst hb
        repeat (first | refine AW.seq ?_ | refine AW.block ?_ | (refine AW.reg mix ?_; simp -implicitDefEqProofs [-Bool.exists_bool]; try simp (disch := omega) only [w64, wu64]) | (refine need.of (by first | omega | kernel_rfl) ?_) | (refine AW.fin ?_; try simp -implicitDefEqProofs [-Bool.exists_bool]))
        simp [hR]
      · have hb : S1 = true := by simpa using h
        subst hb
        rw [if_pos rfl] at hR
        have ew : IntKind.i64.wrap ((i : Int) + 1) = (i : Int) + 1 := w64 (by omega) (by omega)
        repeat (first | refine AW.seq ?_ | refine AW.block ?_ | (refine AW.reg mix ?_; simp -implicitDefEqProofs [ew, -Bool.exists_bool]; try simp (disch := omega) only [w64, wu64]) | (refine need.of (by first | omega | kernel_rfl) ?_) | (refine AW.fin ?_; try simp -implicitDefEqProofs [ew, -Bool.exists_bool]))
        refine ⟨i + 1, S3, S4, ⟨hlt', hle, by rw [show K - (i + 1) = r by omega]; exact hR⟩, by omega, by simp, by simp⟩
    · simp [hlt'] at h
end
end Go.Proofs.YtdbfenhaljmbfaaGreat.Am
namespace Go.Proofs.YtdbfenhaljmbfaaGreat.Am
section
set_option linter.unusedVariables false
set_option linter.unusedSimpArgs false
open Go.RowKit
set_option maxRecDepth 100000
set_option linter.unusedSimpArgs false
set_option linter.unusedVariables false

theorem mgood_ok (d : Int) : Eqn Tryz.prog n_morris_Good [.d (.int .i64 d)] [] (.d (.bool (decide (1 ≤ d ∧ d ≤ 4096)))) [] := by
  refine Eqn.pure r_morris_Good (plain_d _) ?_
  simp only [c_morris_Good]
  by_cases h : 1 ≤ d
  · repeat (first | refine AW.seq ?_ | refine AW.block ?_ | (refine AW.reg mix ?_; simp -implicitDefEqProofs [h]; try simp (disch := omega) only [w64, wu64]) | (refine need.of (by first | omega | kernel_rfl) ?_) | (refine AW.fin ?_; try simp -implicitDefEqProofs [h]))
  · repeat (first | refine AW.seq ?_ | refine AW.block ?_ | (refine AW.reg mix ?_; simp -implicitDefEqProofs [h]; try simp (disch := omega) only [w64, wu64]) | (refine need.of (by first | omega | kernel_rfl) ?_) | (refine AW.fin ?_; try simp -implicitDefEqProofs [h]))

/-- what is wrong -/
def wrongM (d : Int) (ks : List Int) : Int := if 1 ≤ d ∧ d ≤ 4096 then (if ks.all okK then 0 else 2) else 10

theorem mwrong_ok (d : Int) (ks : List Int) (hn : ks.length ≤ 1000000) : Eqn Tryz.prog n_morris_wrong [.d (.int .i64 d), .d (.sl ks.length (ks.map fun k : Int => .int .i64 k))] [] (.d (.int .i64 (wrongM d ks))) [] := by
  refine Eqn.pure r_morris_wrong (plain_d _) ?_
  simp only [c_morris_wrong]
  repeat (first | refine AW.seq ?_ | refine AW.block ?_ | (refine AW.reg mix ?_; simp -implicitDefEqProofs; try simp (disch := omega) only [w64, wu64]) | (refine need.of (by first | omega | kernel_rfl) ?_) | (refine AW.fin ?_; try simp -implicitDefEqProofs))
  refine CallS.pu (mgood_ok d) ?_
  (try (simp -implicitDefEqProofs; try simp (disch := omega) only [w64, wu64]))
  repeat (first | refine AW.seq ?_ | refine AW.block ?_ | (refine AW.reg mix ?_; simp -implicitDefEqProofs; try simp (disch := omega) only [w64, wu64]) | (refine need.of (by first | omega | kernel_rfl) ?_) | (refine AW.fin ?_; try simp -implicitDefEqProofs))
  by_cases hd : 1 ≤ d ∧ d ≤ 4096
  · refine AW.cond rfl (fun h => ?_) (fun h => ?_)
    · simp [hd] at h
    repeat (first | refine AW.seq ?_ | refine AW.block ?_ | (refine AW.reg mix ?_; simp -implicitDefEqProofs; try simp (disch := omega) only [w64, wu64]) | (refine need.of (by first | omega | kernel_rfl) ?_) | (refine AW.fin ?_; try simp -implicitDefEqProofs))
    refine AW.loopT (α := Nat) 0 (fun i => [(12, .d (.int .i64 (i : Int)))]) (fun i => []) (fun i => i ≤ ks.length ∧ (ks.take i).all okK = true) (fun i => ks.length - i) 0 ?_ ?_ ⟨Nat.zero_le _, by simp⟩ ?_ ?_ ?_
    · simp
    · simp
    · simp
    · simp
    rintro i ⟨hi, hall⟩
    simp
    by_cases h : i = ks.length
    · subst h
      rw [List.take_length] at hall
      repeat (first | refine AW.seq ?_ | refine AW.block ?_ | (refine AW.reg mix ?_; simp -implicitDefEqProofs; try simp (disch := omega) only [w64, wu64]) | (refine need.of (by first | omega | kernel_rfl) ?_) | (refine AW.fin ?_; try simp -implicitDefEqProofs))
      refine AW.cond rfl (fun h => ?_) (fun h => ?_)
      · simp at h
      repeat (first | refine AW.seq ?_ | refine AW.block ?_ | (refine AW.reg mix ?_; simp -implicitDefEqProofs; try simp (disch := omega) only [w64, wu64]) | (refine need.of (by first | omega | kernel_rfl) ?_) | (refine AW.fin ?_; try simp -implicitDefEqProofs))
      refine Sub1.int ?_
      rw [wrongM, if_pos hd, if_pos hall]
    · have hi' : i < ks.length := by omega
      have hp : (i : Int) < ks.length := by omega
      repeat (first | refine AW.seq ?_ | refine AW.block ?_ | (refine AW.reg mix ?_; simp -implicitDefEqProofs [hi', hp]; try simp (disch := omega) only [w64, wu64]) | (refine need.of (by first | omega | kernel_rfl) ?_) | (refine AW.fin ?_; try simp -implicitDefEqProofs [hi', hp]))
      refine AW.cond rfl (fun h => ?_) (fun h => ?_)
      · have hbad : okK ks[i] = false → wrongM d ks = 2 := by
          intro hb
          rw [wrongM, if_pos hd, if_neg]
          intro ha
          rw [List.all_eq_true] at ha
          have := ha ks[i] (List.getElem_mem _)
          rw [hb] at this; cases this
        by_cases h0 : ks[i] < 0
        · repeat (first | refine AW.seq ?_ | refine AW.block ?_ | (refine AW.reg mix ?_; simp -implicitDefEqProofs [hi', hp, h0]; try simp (disch := omega) only [w64, wu64]) | (refine need.of (by first | omega | kernel_rfl) ?_) | (refine AW.fin ?_; try simp -implicitDefEqProofs [hi', hp, h0]))
          refine AW.cond rfl (fun h => ?_) (fun h => ?_)
          · repeat (first | refine AW.seq ?_ | refine AW.block ?_ | (refine AW.reg mix ?_; simp -implicitDefEqProofs; try simp (disch := omega) only [w64, wu64]) | (refine need.of (by first | omega | kernel_rfl) ?_) | (refine AW.fin ?_; try simp -implicitDefEqProofs))
            refine Sub1.int ?_
            rw [hbad (by simp [okK]; omega)]
          · simp [h0] at h
        · by_cases h1 : 1023 < ks[i]
          · repeat (first | refine AW.seq ?_ | refine AW.block ?_ | (refine AW.reg mix ?_; simp -implicitDefEqProofs [hi', hp, h0, h1]; try simp (disch := omega) only [w64, wu64]) | (refine need.of (by first | omega | kernel_rfl) ?_) | (refine AW.fin ?_; try simp -implicitDefEqProofs [hi', hp, h0, h1]))
            refine AW.cond rfl (fun h => ?_) (fun h => ?_)
            · repeat (first | refine AW.seq ?_ | refine AW.block ?_ | (refine AW.reg mix ?_; simp -implicitDefEqProofs; try simp (disch := omega) only [w64, wu64]) | (refine need.of (by first | omega | kernel_rfl) ?_) | (refine AW.fin ?_; try simp -implicitDefEqProofs))
              refine Sub1.int ?_
              rw [hbad (by simp [okK]; omega)]
            · simp [h0, h1] at h
          · repeat (first | refine AW.seq ?_ | refine AW.block ?_ | (refine AW.reg mix ?_; simp -implicitDefEqProofs [hi', hp, h0, h1]; try simp (disch := omega) only [w64, wu64]) | (refine need.of (by first | omega | kernel_rfl) ?_) | (refine AW.fin ?_; try simp -implicitDefEqProofs [hi', hp, h0, h1]))
            refine AW.cond rfl (fun h => ?_) (fun h => ?_)
            · simp [h0, h1] at h
            have ew : IntKind.i64.wrap ((i : Int) + 1) = (i : Int) + 1 := w64 (by omega) (by omega)
            repeat (first | refine AW.seq ?_ | refine AW.block ?_ | (refine AW.reg mix ?_; simp -implicitDefEqProofs [ew]; try simp (disch := omega) only [w64, wu64]) | (refine need.of (by first | omega | kernel_rfl) ?_) | (refine AW.fin ?_; try simp -implicitDefEqProofs [ew]))
            refine ⟨i + 1, ⟨by omega, ?_⟩, by omega, by simp⟩
            rw [List.take_add_one, List.getElem?_eq_getElem hi']
            intro x hx
            rcases List.mem_append.1 hx with hx | hx
            · exact List.all_eq_true.1 hall x hx
            · simp at hx
              subst hx
              simp [okK]; omega
      · simp [hi'] at h
  · refine AW.cond rfl (fun h => ?_) (fun h => ?_)
    · repeat (first | refine AW.seq ?_ | refine AW.block ?_ | (refine AW.reg mix ?_; simp -implicitDefEqProofs; try simp (disch := omega) only [w64, wu64]) | (refine need.of (by first | omega | kernel_rfl) ?_) | (refine AW.fin ?_; try simp -implicitDefEqProofs))
      refine Sub1.int ?_
      rw [wrongM, if_neg hd]
    · simp at h
      exact absurd h hd

theorem mwrong1_ok (d k : Int) : Eqn Tryz.prog n_morris_wrong [.d (.int .i64 d), .d (.sl 1 [.int .i64 k])] [] (.d (.int .i64 (wrongM d [k]))) [] := mwrong_ok d [k] (by simp)
theorem wrongM_zero {d k : Int} {ks : List Int} (h : wrongM d (k :: ks) = 0) : 1 ≤ d ∧ d ≤ 4096 ∧ 0 ≤ k ∧ k ≤ 1023 := by
  unfold wrongM at h
  split at h
  · split at h
    · rename_i h1 h2
      simp [okK] at h2
      omega
    · omega
  · omega

theorem wval_one (x : Nat) : wval [x] = x := by simp [wval]
theorem mpower_ok (cs : List Bool) (a : Nat) (k : Int) (p : Nat) (dd : Bool) (h1 : 1 ≤ a) (h2 : a ≤ 4096) (hk : k ≤ 4000000) (hp : p ≤ cs.length) (hn : cs.length ≤ 4000000) :
    Eqn Tryz.prog n_morris_power [.p 0 0, .d (.int .i64 a), .d (.int .i64 k)] [tapeO cs p dd] (.tup [.d (.bool (powerR cs a (a + 1) k.toNat p dd).1), .d (.int .i64 (powerR cs a (a + 1) k.toNat p dd).2.1)]) [tapeO cs (powerR cs a (a + 1) k.toNat p dd).2.2.1 (powerR cs a (a + 1) k.toNat p dd).2.2.2] := by
  refine Eqn.obj1 r_morris_power (plain_tup2 _ _) ⟨rfl, fun _ => rfl⟩ ?_
  simp only [c_morris_power]
  have hh := power_ok cs a (a + 1) p dd k (by omega) (by omega) (by omega) hk hp hn
  generalize powerR cs a (a + 1) k.toNat p dd = R at *
  obtain ⟨R1, R2, R3, R4⟩ := R
  simp only at hh ⊢
  have e1 : IntKind.u64.wrap (a : Int) = a := wu64 (by omega) (by omega)
  have e2 : IntKind.i64.wrap ((a : Int) + 1) = ((a + 1 : Nat) : Int) := w64 (by omega) (by omega)
  have e3 : IntKind.u64.wrap ((a + 1 : Nat) : Int) = ((a + 1 : Nat) : Int) := wu64 (by omega) (by omega)
  obtain ⟨b, hb⟩ : ∃ b, b = a + 1 := ⟨_, rfl⟩
  rw [← hb] at hh e2 e3
  repeat (first | refine AW.seq ?_ | refine AW.block ?_ | (refine AW.reg mix ?_; simp -implicitDefEqProofs [e1, -Bool.exists_bool]; try simp (disch := omega) only [w64, wu64]) | (refine need.of (by first | omega | kernel_rfl) ?_) | (refine AW.fin ?_; try simp -implicitDefEqProofs [e1, -Bool.exists_bool]))
  refine CallS.pf 1 1 ⟨80, _⟩ [.int .u64 (a : Nat)] (of_ok [a] (small_one (by omega)) (by simp)) (by first | rfl | (simp [e2, e3, wval_one, -Bool.exists_bool]; done)) ?_
  (try (simp -implicitDefEqProofs [e2, e3, wval_one, -Bool.exists_bool]; try simp (disch := omega) only [w64, wu64]))
  repeat (first | refine AW.seq ?_ | refine AW.block ?_ | (refine AW.reg mix ?_; simp -implicitDefEqProofs [e2, e3, wval_one, -Bool.exists_bool]; try simp (disch := omega) only [w64, wu64]) | (refine need.of (by first | omega | kernel_rfl) ?_) | (refine AW.fin ?_; try simp -implicitDefEqProofs [e2, e3, wval_one, -Bool.exists_bool]))
  refine CallS.pf 2 1 ⟨80, _⟩ [.int .u64 (b : Nat)] (of_ok [b] (small_one (by omega)) (by simp)) (by first | rfl | (simp [wval_one, -Bool.exists_bool]; done)) ?_
  (try (simp -implicitDefEqProofs [wval_one, -Bool.exists_bool]; try simp (disch := omega) only [w64, wu64]))
  repeat (first | refine AW.seq ?_ | refine AW.block ?_ | (refine AW.reg mix ?_; simp -implicitDefEqProofs [wval_one, -Bool.exists_bool]; try simp (disch := omega) only [w64, wu64]) | (refine need.of (by first | omega | kernel_rfl) ?_) | (refine AW.fin ?_; try simp -implicitDefEqProofs [wval_one, -Bool.exists_bool]))
  refine CallS.o1 0 (hh) ?_
  (try (simp -implicitDefEqProofs [-Bool.exists_bool]; try simp (disch := omega) only [w64, wu64]))
  repeat (first | refine AW.seq ?_ | refine AW.block ?_ | (refine AW.reg mix ?_; simp -implicitDefEqProofs [-Bool.exists_bool]; try simp (disch := omega) only [w64, wu64]) | (refine need.of (by first | omega | kernel_rfl) ?_) | (refine AW.fin ?_; try simp -implicitDefEqProofs [-Bool.exists_bool]))

/-- a step at a place -/
def stepM (cs : List Bool) (d k : Int) (p : Nat) (dd : Bool) : Bool × Int × Nat × Bool := if wrongM d [k] = 0 then powerR cs d.toNat (d.toNat + 1) k.toNat p dd else (false, wrongM d [k], p, dd)

theorem mstep_ok (cs : List Bool) (d k : Int) (p : Nat) (dd : Bool) (hp : p ≤ cs.length) (hn : cs.length ≤ 4000000) :
    Eqn Tryz.prog n_morris_Step [.p 0 0, .d (.int .i64 d), .d (.int .i64 k)] [tapeO cs p dd] (.tup [.d (.bool (stepM cs d k p dd).1), .d (.int .i64 (stepM cs d k p dd).2.1)]) [tapeO cs (stepM cs d k p dd).2.2.1 (stepM cs d k p dd).2.2.2] := by
  refine Eqn.obj1 r_morris_Step (plain_tup2 _ _) ⟨rfl, fun _ => rfl⟩ ?_
  simp only [c_morris_Step]
  repeat (first | refine AW.seq ?_ | refine AW.block ?_ | (refine AW.reg mix ?_; simp -implicitDefEqProofs [-Bool.exists_bool]; try simp (disch := omega) only [w64, wu64]) | (refine need.of (by first | omega | kernel_rfl) ?_) | (refine AW.fin ?_; try simp -implicitDefEqProofs [-Bool.exists_bool]))
  refine CallS.pf 1 1 ⟨3, _⟩ [.int .i64 k] (mwrong1_ok d k) (by first | rfl | (simp [-Bool.exists_bool]; done)) ?_
  (try (simp -implicitDefEqProofs [-Bool.exists_bool]; try simp (disch := omega) only [w64, wu64]))
  repeat (first | refine AW.seq ?_ | refine AW.block ?_ | (refine AW.reg mix ?_; simp -implicitDefEqProofs [-Bool.exists_bool]; try simp (disch := omega) only [w64, wu64]) | (refine need.of (by first | omega | kernel_rfl) ?_) | (refine AW.fin ?_; try simp -implicitDefEqProofs [-Bool.exists_bool]))
  by_cases h : wrongM d [k] = 0
  · obtain ⟨h1, h2, h3, h4⟩ := wrongM_zero h
    obtain ⟨d, rfl⟩ : ∃ n : Nat, d = n := ⟨d.toNat, by omega⟩
    rw [stepM, if_pos h]
    have hh := mpower_ok cs d k p dd (by omega) (by omega) (by omega) hp hn
    simp only [Int.toNat_natCast]
    generalize powerR cs d (d + 1) k.toNat p dd = R at *
    obtain ⟨R1, R2, R3, R4⟩ := R
    simp only at hh ⊢
    refine AW.cond rfl (fun h => ?_) (fun h => ?_)
    · simp [*] at h
    clear h
    repeat (first | refine AW.seq ?_ | refine AW.block ?_ | (refine AW.reg mix ?_; simp -implicitDefEqProofs [-Bool.exists_bool]; try simp (disch := omega) only [w64, wu64]) | (refine need.of (by first | omega | kernel_rfl) ?_) | (refine AW.fin ?_; try simp -implicitDefEqProofs [-Bool.exists_bool]))
    refine CallS.o1 0 (hh) ?_
    (try (simp -implicitDefEqProofs [-Bool.exists_bool]; try simp (disch := omega) only [w64, wu64]))
    repeat (first | refine AW.seq ?_ | refine AW.block ?_ | (refine AW.reg mix ?_; simp -implicitDefEqProofs [-Bool.exists_bool]; try simp (disch := omega) only [w64, wu64]) | (refine need.of (by first | omega | kernel_rfl) ?_) | (refine AW.fin ?_; try simp -implicitDefEqProofs [-Bool.exists_bool]))
  · rw [stepM, if_neg h]
    refine AW.cond rfl (fun h => ?_) (fun h => ?_)
    · repeat (first | refine AW.seq ?_ | refine AW.block ?_ | (refine AW.reg mix ?_; simp -implicitDefEqProofs [-Bool.exists_bool]; try simp (disch := omega) only [w64, wu64]) | (refine need.of (by first | omega | kernel_rfl) ?_) | (refine AW.fin ?_; try simp -implicitDefEqProofs [-Bool.exists_bool]))
    · simp [*] at h
end
end Go.Proofs.YtdbfenhaljmbfaaGreat.Am
namespace Go.Proofs.YtdbfenhaljmbfaaGreat.Am
section
set_option linter.unusedVariables false
set_option linter.unusedSimpArgs false
open Go.RowKit
set_option maxRecDepth 100000
set_option linter.unusedSimpArgs false
set_option linter.unusedVariables false

theorem rat_pow_mk (x : Rat) : ∀ n : Nat, x ^ n = mkRat (x.num ^ n) (x.den ^ n)
  | 0 => by rw [Rat.pow_zero, Int.pow_zero, Nat.pow_zero]; rfl
  | n + 1 => by
    rw [Rat.pow_succ, rat_pow_mk x n]
    conv => lhs; rhs; rw [← Rat.mkRat_self x]
    rw [Rat.mkRat_mul_mkRat, Int.pow_succ, Nat.pow_succ]

theorem rpow_rat (x : Rat) (n : Nat) (hx : 0 ≤ x.num) (hn : n ≤ 8192) (hb1 : bitsN x.num.natAbs ≤ 1 ∨ n ≤ 8192 / bitsN x.num.natAbs) (hb2 : bitsN x.den ≤ 1 ∨ n ≤ 8192 / bitsN x.den) (hs : RS x 129) (hs1 : size (x.num.natAbs ^ n) ≤ 130) (hs2 : size (x.den ^ n) ≤ 130) :
    Eqn Tryz.prog n_rat_Pow [.d (rD x), .d (.int .i64 n)] [] (.tup [.d (rD (x ^ n)), .d (.int .i64 0)]) [] := by
  refine Eqn.pure r_rat_Pow Plain.ok ?_
  have h1 := npow_ok x.num.natAbs n hn hb1 hs.1
  have h2 := npow_ok x.den n hn hb2 hs.2
  have h3 := rden_int x (by have := hs.2; omega)
  have hneg : decide (x.num < 0) = false := by rw [decide_eq_false_iff_not]; omega
  have hab := abs_ok x.num.natAbs (decide (x.num < 0))
  have hng := neg_ok x.num.natAbs (decide (x.num < 0))
  have h4 := wmake_int false (x.num.natAbs ^ n) (x.num ^ n) (by rw [if_neg (by simp), Int.natCast_pow, Int.natAbs_of_nonneg hx])
  have e : (x.num ^ n).natAbs = x.num.natAbs ^ n := Int.natAbs_pow _ _
  have h5 := made_int (x.num ^ n) (x.den ^ n) (Nat.pow_pos x.den_pos) (by rw [e]; omega) (by omega)
  rw [← rat_pow_mk] at h5
  simp only [c_rat_Pow, rD, hneg] at hab hng h3 h5 ⊢
  generalize hz : x.num ^ n = z at *
  simp only [wD] at h4 h5
  repeat (first | refine AW.seq ?_ | refine AW.block ?_ | (refine AW.reg mix ?_; simp -implicitDefEqProofs; try simp (disch := omega) only [w64, wu64]) | (refine need.of (by first | omega | kernel_rfl) ?_) | (refine AW.fin ?_; try simp -implicitDefEqProofs))
  refine CallS.pu (hab) ?_
  (try (simp -implicitDefEqProofs; try simp (disch := omega) only [w64, wu64]))
  repeat (first | refine AW.seq ?_ | refine AW.block ?_ | (refine AW.reg mix ?_; simp -implicitDefEqProofs; try simp (disch := omega) only [w64, wu64]) | (refine need.of (by first | omega | kernel_rfl) ?_) | (refine AW.fin ?_; try simp -implicitDefEqProofs))
  refine CallS.pu (h1) ?_
  (try (simp -implicitDefEqProofs; try simp (disch := omega) only [w64, wu64]))
  repeat (first | refine AW.seq ?_ | refine AW.block ?_ | (refine AW.reg mix ?_; simp -implicitDefEqProofs; try simp (disch := omega) only [w64, wu64]) | (refine need.of (by first | omega | kernel_rfl) ?_) | (refine AW.fin ?_; try simp -implicitDefEqProofs))
  refine AW.cond rfl (fun h => ?_) (fun h => ?_)
  · simp at h
  repeat (first | refine AW.seq ?_ | refine AW.block ?_ | (refine AW.reg mix ?_; simp -implicitDefEqProofs; try simp (disch := omega) only [w64, wu64]) | (refine need.of (by first | omega | kernel_rfl) ?_) | (refine AW.fin ?_; try simp -implicitDefEqProofs))
  refine CallS.pu (h3) ?_
  (try (simp -implicitDefEqProofs; try simp (disch := omega) only [w64, wu64]))
  repeat (first | refine AW.seq ?_ | refine AW.block ?_ | (refine AW.reg mix ?_; simp -implicitDefEqProofs; try simp (disch := omega) only [w64, wu64]) | (refine need.of (by first | omega | kernel_rfl) ?_) | (refine AW.fin ?_; try simp -implicitDefEqProofs))
  refine CallS.pu (h2) ?_
  (try (simp -implicitDefEqProofs; try simp (disch := omega) only [w64, wu64]))
  repeat (first | refine AW.seq ?_ | refine AW.block ?_ | (refine AW.reg mix ?_; simp -implicitDefEqProofs; try simp (disch := omega) only [w64, wu64]) | (refine need.of (by first | omega | kernel_rfl) ?_) | (refine AW.fin ?_; try simp -implicitDefEqProofs))
  refine AW.cond rfl (fun h => ?_) (fun h => ?_)
  · simp at h
  repeat (first | refine AW.seq ?_ | refine AW.block ?_ | (refine AW.reg mix ?_; simp -implicitDefEqProofs; try simp (disch := omega) only [w64, wu64]) | (refine need.of (by first | omega | kernel_rfl) ?_) | (refine AW.fin ?_; try simp -implicitDefEqProofs))
  refine CallS.pu (hng) ?_
  (try (simp -implicitDefEqProofs; try simp (disch := omega) only [w64, wu64]))
  repeat (first | refine AW.seq ?_ | refine AW.block ?_ | (refine AW.reg mix ?_; simp -implicitDefEqProofs; try simp (disch := omega) only [w64, wu64]) | (refine need.of (by first | omega | kernel_rfl) ?_) | (refine AW.fin ?_; try simp -implicitDefEqProofs))
  refine CallS.pu (h4) ?_
  (try (simp -implicitDefEqProofs; try simp (disch := omega) only [w64, wu64]))
  repeat (first | refine AW.seq ?_ | refine AW.block ?_ | (refine AW.reg mix ?_; simp -implicitDefEqProofs; try simp (disch := omega) only [w64, wu64]) | (refine need.of (by first | omega | kernel_rfl) ?_) | (refine AW.fin ?_; try simp -implicitDefEqProofs))
  refine CallS.pu (h5) ?_
  (try (simp -implicitDefEqProofs; try simp (disch := omega) only [w64, wu64]))
  repeat (first | refine AW.seq ?_ | refine AW.block ?_ | (refine AW.reg mix ?_; simp -implicitDefEqProofs; try simp (disch := omega) only [w64, wu64]) | (refine need.of (by first | omega | kernel_rfl) ?_) | (refine AW.fin ?_; try simp -implicitDefEqProofs))

theorem rof_rat (n : Nat) (h : n < 9223372036854775808) : Eqn Tryz.prog n_rat_Of [.d (.int .i64 n)] [] (.d (rD (n : Rat))) [] := by
  refine Eqn.pure r_rat_Of (plain_d _) ?_
  have h1 := wholeOf_ok n h
  have e : rD (n : Rat) = .agg [natW n, .bool false, natW 0] := by
    unfold rD
    rw [Rat.num_natCast, Rat.den_natCast, Int.natAbs_natCast]
    congr 4
  rw [e]
  simp only [c_rat_Of]
  repeat (first | refine AW.seq ?_ | refine AW.block ?_ | (refine AW.reg mix ?_; simp -implicitDefEqProofs; try simp (disch := omega) only [w64, wu64]) | (refine need.of (by first | omega | kernel_rfl) ?_) | (refine AW.fin ?_; try simp -implicitDefEqProofs))
  refine CallS.pu (h1) ?_
  (try (simp -implicitDefEqProofs; try simp (disch := omega) only [w64, wu64]))
  repeat (first | refine AW.seq ?_ | refine AW.block ?_ | (refine AW.reg mix ?_; simp -implicitDefEqProofs; try simp (disch := omega) only [w64, wu64]) | (refine need.of (by first | omega | kernel_rfl) ?_) | (refine AW.fin ?_; try simp -implicitDefEqProofs))
  exact Sub1.rat0

theorem rmake_rat (p q : Nat) (hp : p < 9223372036854775808) (hq : q < 9223372036854775808) (h0 : 0 < q) : Eqn Tryz.prog n_rat_Make [.d (.int .i64 p), .d (.int .i64 q)] [] (.tup [.d (rD (mkRat p q)), .d (.int .i64 0)]) [] := by
  have hfr : Eqn Tryz.prog n_rat_Frac [.d (.agg [natW p, .bool false]), .d (.agg [natW q, .bool false])] [] (.tup [.d (rD (mkRat p q)), .d (.int .i64 0)]) [] := by
    refine Eqn.pure r_rat_Frac Plain.ok ?_
    have ha := abs_ok q false
    have hp1 := abs_ok p false
    have hn1 := neg_ok p false
    have hn2 := neg_ok q false
    have hz := zero_ok q
    have hq0 : (q == 0) = false := by simp; omega
    rw [hq0] at hz
    have h4 := wmake_int false p (p : Int) rfl
    have h5 := made_int (p : Int) q h0 (by rw [Int.natAbs_natCast]; exact Nat.le_trans (size_one (by omega)) (by omega)) (Nat.le_trans (size_one (by omega)) (by omega))
    have e2 : wD (p : Int) = .agg [natW p, .bool false] := by
      unfold wD
      rw [Int.natAbs_natCast]
      congr 4
    rw [e2] at h4 h5
    simp only [c_rat_Frac, rD] at h5 ⊢
    repeat (first | refine AW.seq ?_ | refine AW.block ?_ | (refine AW.reg mix ?_; simp -implicitDefEqProofs; try simp (disch := omega) only [w64, wu64]) | (refine need.of (by first | omega | kernel_rfl) ?_) | (refine AW.fin ?_; try simp -implicitDefEqProofs))
    refine CallS.pu (ha) ?_
    (try (simp -implicitDefEqProofs; try simp (disch := omega) only [w64, wu64]))
    repeat (first | refine AW.seq ?_ | refine AW.block ?_ | (refine AW.reg mix ?_; simp -implicitDefEqProofs; try simp (disch := omega) only [w64, wu64]) | (refine need.of (by first | omega | kernel_rfl) ?_) | (refine AW.fin ?_; try simp -implicitDefEqProofs))
    refine CallS.pu (hz) ?_
    (try (simp -implicitDefEqProofs; try simp (disch := omega) only [w64, wu64]))
    repeat (first | refine AW.seq ?_ | refine AW.block ?_ | (refine AW.reg mix ?_; simp -implicitDefEqProofs; try simp (disch := omega) only [w64, wu64]) | (refine need.of (by first | omega | kernel_rfl) ?_) | (refine AW.fin ?_; try simp -implicitDefEqProofs))
    refine AW.cond rfl (fun h => ?_) (fun h => ?_)
    · simp at h
    repeat (first | refine AW.seq ?_ | refine AW.block ?_ | (refine AW.reg mix ?_; simp -implicitDefEqProofs; try simp (disch := omega) only [w64, wu64]) | (refine need.of (by first | omega | kernel_rfl) ?_) | (refine AW.fin ?_; try simp -implicitDefEqProofs))
    refine CallS.pu (hn1) ?_
    (try (simp -implicitDefEqProofs; try simp (disch := omega) only [w64, wu64]))
    repeat (first | refine AW.seq ?_ | refine AW.block ?_ | (refine AW.reg mix ?_; simp -implicitDefEqProofs; try simp (disch := omega) only [w64, wu64]) | (refine need.of (by first | omega | kernel_rfl) ?_) | (refine AW.fin ?_; try simp -implicitDefEqProofs))
    refine CallS.pu (hn2) ?_
    (try (simp -implicitDefEqProofs; try simp (disch := omega) only [w64, wu64]))
    repeat (first | refine AW.seq ?_ | refine AW.block ?_ | (refine AW.reg mix ?_; simp -implicitDefEqProofs; try simp (disch := omega) only [w64, wu64]) | (refine need.of (by first | omega | kernel_rfl) ?_) | (refine AW.fin ?_; try simp -implicitDefEqProofs))
    refine CallS.pu (hp1) ?_
    (try (simp -implicitDefEqProofs; try simp (disch := omega) only [w64, wu64]))
    repeat (first | refine AW.seq ?_ | refine AW.block ?_ | (refine AW.reg mix ?_; simp -implicitDefEqProofs; try simp (disch := omega) only [w64, wu64]) | (refine need.of (by first | omega | kernel_rfl) ?_) | (refine AW.fin ?_; try simp -implicitDefEqProofs))
    refine CallS.pu (h4) ?_
    (try (simp -implicitDefEqProofs; try simp (disch := omega) only [w64, wu64]))
    repeat (first | refine AW.seq ?_ | refine AW.block ?_ | (refine AW.reg mix ?_; simp -implicitDefEqProofs; try simp (disch := omega) only [w64, wu64]) | (refine need.of (by first | omega | kernel_rfl) ?_) | (refine AW.fin ?_; try simp -implicitDefEqProofs))
    refine CallS.pu (ha) ?_
    (try (simp -implicitDefEqProofs; try simp (disch := omega) only [w64, wu64]))
    repeat (first | refine AW.seq ?_ | refine AW.block ?_ | (refine AW.reg mix ?_; simp -implicitDefEqProofs; try simp (disch := omega) only [w64, wu64]) | (refine need.of (by first | omega | kernel_rfl) ?_) | (refine AW.fin ?_; try simp -implicitDefEqProofs))
    refine CallS.pu (h5) ?_
    (try (simp -implicitDefEqProofs; try simp (disch := omega) only [w64, wu64]))
    repeat (first | refine AW.seq ?_ | refine AW.block ?_ | (refine AW.reg mix ?_; simp -implicitDefEqProofs; try simp (disch := omega) only [w64, wu64]) | (refine need.of (by first | omega | kernel_rfl) ?_) | (refine AW.fin ?_; try simp -implicitDefEqProofs))
  refine Eqn.pure r_rat_Make Plain.ok ?_
  have h1 := wholeOf_ok p hp
  have h2 := wholeOf_ok q hq
  simp only [c_rat_Make, rD] at hfr ⊢
  repeat (first | refine AW.seq ?_ | refine AW.block ?_ | (refine AW.reg mix ?_; simp -implicitDefEqProofs; try simp (disch := omega) only [w64, wu64]) | (refine need.of (by first | omega | kernel_rfl) ?_) | (refine AW.fin ?_; try simp -implicitDefEqProofs))
  refine CallS.pu (h1) ?_
  (try (simp -implicitDefEqProofs; try simp (disch := omega) only [w64, wu64]))
  repeat (first | refine AW.seq ?_ | refine AW.block ?_ | (refine AW.reg mix ?_; simp -implicitDefEqProofs; try simp (disch := omega) only [w64, wu64]) | (refine need.of (by first | omega | kernel_rfl) ?_) | (refine AW.fin ?_; try simp -implicitDefEqProofs))
  refine CallS.pu (h2) ?_
  (try (simp -implicitDefEqProofs; try simp (disch := omega) only [w64, wu64]))
  repeat (first | refine AW.seq ?_ | refine AW.block ?_ | (refine AW.reg mix ?_; simp -implicitDefEqProofs; try simp (disch := omega) only [w64, wu64]) | (refine need.of (by first | omega | kernel_rfl) ?_) | (refine AW.fin ?_; try simp -implicitDefEqProofs))
  refine CallS.pu (hfr) ?_
  (try (simp -implicitDefEqProofs; try simp (disch := omega) only [w64, wu64]))
  repeat (first | refine AW.seq ?_ | refine AW.block ?_ | (refine AW.reg mix ?_; simp -implicitDefEqProofs; try simp (disch := omega) only [w64, wu64]) | (refine need.of (by first | omega | kernel_rfl) ?_) | (refine AW.fin ?_; try simp -implicitDefEqProofs))
end
end Go.Proofs.YtdbfenhaljmbfaaGreat.Am
namespace Go.Proofs.YtdbfenhaljmbfaaGreat.Am
section
set_option linter.unusedVariables false
set_option linter.unusedSimpArgs false
open Go.RowKit
set_option maxRecDepth 100000
set_option linter.unusedSimpArgs false
set_option linter.unusedVariables false

theorem size_lt_pow {x m : Nat} (h : x < 18446744073709551616 ^ m) : size x ≤ m := words_le (words_top x) (by rwa [words_val])

theorem size_shl {a n u m : Nat} (h : a < 2 ^ n) (hm : n + u ≤ 64 * m) : size (a * 2 ^ u) ≤ m := by
  apply size_lt_pow
  refine Nat.lt_of_lt_of_le (Nat.mul_lt_mul_of_pos_right h (Nat.two_pow_pos u)) ?_
  rw [← Nat.pow_add, show (18446744073709551616 : Nat) = 2 ^ 64 by rfl, ← Nat.pow_mul]
  exact Nat.pow_le_pow_right (by omega) hm

theorem wrong_good {d k : Nat} (hd : d ≤ 8) (hk : k ≤ 1023) : wrongZ d [(k : Int)] = 0 := by
  rw [wrongZ, if_pos (by omega), if_pos]
  simp [okK]; omega

theorem value_ok (d k v : Nat) (hd : d ≤ 8) (hk : k ≤ 1023) (hv : partV d k = (v : Int)) (hv2 : v ≤ 255) :
    Eqn Tryz.prog n_float_Value [.d (.int .i64 d), .d (.int .i64 k)] [] (.tup [.d (.agg [natW ((2 ^ d + v) * 2 ^ (k / 2 ^ d) - 2 ^ d)]), .d (.int .i64 0)]) [] := by
  refine Eqn.pure r_float_Value (plain_tup2 _ _) ?_
  simp only [c_float_Value]
  repeat (first | refine AW.seq ?_ | refine AW.block ?_ | (refine AW.reg mix ?_; simp -implicitDefEqProofs; try simp (disch := omega) only [w64, wu64]) | (refine need.of (by first | omega | kernel_rfl) ?_) | (refine AW.fin ?_; try simp -implicitDefEqProofs))
  refine CallS.pf 1 1 ⟨3, _⟩ [.int .i64 k] (wrong1_ok d k) (by first | rfl | (simp; done)) ?_
  (try (simp -implicitDefEqProofs; try simp (disch := omega) only [w64, wu64]))
  repeat (first | refine AW.seq ?_ | refine AW.block ?_ | (refine AW.reg mix ?_; simp -implicitDefEqProofs; try simp (disch := omega) only [w64, wu64]) | (refine need.of (by first | omega | kernel_rfl) ?_) | (refine AW.fin ?_; try simp -implicitDefEqProofs))
  have hw := wrong_good hd hk
  refine AW.cond rfl (fun h => ?_) (fun h => ?_)
  · simp [hw] at h
  have hp := parts_ok d k (by omega) (by omega)
  rw [hv] at hp
  have hu : k / 2 ^ d ≤ k := Nat.div_le_self _ _
  generalize k / 2 ^ d = u at hp hu ⊢
  have h2 : 2 ^ d ≤ 256 := Nat.pow_le_pow_right (n := 2) (by omega) hd
  have h2' : 0 < 2 ^ d := Nat.two_pow_pos d
  have e0 : (2 : Int) ^ d = (2 ^ d : Nat) := by rw [Int.natCast_pow]; rfl
  have hx : (2 : Nat) ^ d ≤ (2 ^ d + v) * 2 ^ u := Nat.le_trans (Nat.le_add_right _ v) (Nat.le_mul_of_pos_right _ (Nat.two_pow_pos u))
  have hsz : size ((2 ^ d + v) * 2 ^ u) ≤ 17 := size_shl (n := 10) (show 2 ^ d + v < 2 ^ 10 by omega) (by omega)
  generalize 2 ^ d = s at *
  have e1 : IntKind.i64.wrap (s : Int) = s := w64 (by omega) (by omega)
  have e2 : IntKind.i64.wrap ((s : Int) + v) = ((s + v : Nat) : Int) := w64 (by omega) (by omega)
  have e3 : IntKind.u64.wrap ((s + v : Nat) : Int) = ((s + v : Nat) : Int) := wu64 (by omega) (by omega)
  have e4 : IntKind.u64.wrap (s : Int) = s := wu64 (by omega) (by omega)
  have ht : s + v ≤ 511 := by omega
  generalize s + v = t at *
  repeat (first | refine AW.seq ?_ | refine AW.block ?_ | (refine AW.reg mix ?_; simp -implicitDefEqProofs [e0]; try simp (disch := omega) only [w64, wu64]) | (refine need.of (by first | omega | kernel_rfl) ?_) | (refine AW.fin ?_; try simp -implicitDefEqProofs [e0]))
  refine CallS.pu (hp) ?_
  (try (simp -implicitDefEqProofs [e0, e1, e2, e3]; try simp (disch := omega) only [w64, wu64]))
  repeat (first | refine AW.seq ?_ | refine AW.block ?_ | (refine AW.reg mix ?_; simp -implicitDefEqProofs [e0, e1, e2, e3]; try simp (disch := omega) only [w64, wu64]) | (refine need.of (by first | omega | kernel_rfl) ?_) | (refine AW.fin ?_; try simp -implicitDefEqProofs [e0, e1, e2, e3]))
  refine CallS.pf 2 1 ⟨80, _⟩ [.int .u64 (t : Nat)] (of_ok [t] (small_one (by omega)) (by simp)) (by first | rfl | (simp; done)) ?_
  (try (simp -implicitDefEqProofs; try simp (disch := omega) only [w64, wu64]))
  repeat (first | refine AW.seq ?_ | refine AW.block ?_ | (refine AW.reg mix ?_; simp -implicitDefEqProofs; try simp (disch := omega) only [w64, wu64]) | (refine need.of (by first | omega | kernel_rfl) ?_) | (refine AW.fin ?_; try simp -implicitDefEqProofs))
  refine CallS.pu (shl_ok t u (by have := size_one (x := t) (by omega); omega) (by omega)) ?_
  (try (simp -implicitDefEqProofs [e0, e4]; try simp (disch := omega) only [w64, wu64]))
  repeat (first | refine AW.seq ?_ | refine AW.block ?_ | (refine AW.reg mix ?_; simp -implicitDefEqProofs [e0, e4]; try simp (disch := omega) only [w64, wu64]) | (refine need.of (by first | omega | kernel_rfl) ?_) | (refine AW.fin ?_; try simp -implicitDefEqProofs [e0, e4]))
  refine CallS.pf 4 1 ⟨80, _⟩ [.int .u64 (s : Nat)] (of_ok [s] (small_one (by omega)) (by simp)) (by first | rfl | (simp; done)) ?_
  (try (simp -implicitDefEqProofs; try simp (disch := omega) only [w64, wu64]))
  repeat (first | refine AW.seq ?_ | refine AW.block ?_ | (refine AW.reg mix ?_; simp -implicitDefEqProofs; try simp (disch := omega) only [w64, wu64]) | (refine need.of (by first | omega | kernel_rfl) ?_) | (refine AW.fin ?_; try simp -implicitDefEqProofs))
  refine CallS.pu (sub_ok (t * 2 ^ u) s (by omega) hx) ?_
  (try (simp -implicitDefEqProofs; try simp (disch := omega) only [w64, wu64]))
  repeat (first | refine AW.seq ?_ | refine AW.block ?_ | (refine AW.reg mix ?_; simp -implicitDefEqProofs; try simp (disch := omega) only [w64, wu64]) | (refine need.of (by first | omega | kernel_rfl) ?_) | (refine AW.fin ?_; try simp -implicitDefEqProofs))

theorem new_ok (cs : List Bool) (h : cs.length ≤ 1048576) : Eqn Tryz.prog n_tape_New [.d (BL cs)] [] (.p 0 0) [tapeO cs 0 false] := by
  refine Eqn.new1 r_tape_New ⟨rfl, fun _ => rfl⟩ ?_
  simp only [c_tape_New, BL]
  have e : min (cs.length : Int) 1048576 = cs.length := by omega
  have e2 : List.take cs.length (cs.map D.bool) = cs.map D.bool := List.take_of_length_le (by simp)
  repeat (first | refine AW.seq ?_ | refine AW.block ?_ | (refine AW.reg mix ?_; simp -implicitDefEqProofs [e, e2]; try simp (disch := omega) only [w64, wu64]) | (refine need.of (by first | omega | kernel_rfl) ?_) | (refine AW.fin ?_; try simp -implicitDefEqProofs [e, e2]))
  refine CallS.pu (cloneB_ok cs.length (cs.map .bool) (by simp) (by omega)) ?_
  (try (simp -implicitDefEqProofs; try simp (disch := omega) only [w64, wu64]))
  repeat (first | refine AW.seq ?_ | refine AW.block ?_ | (refine AW.reg mix ?_; simp -implicitDefEqProofs; try simp (disch := omega) only [w64, wu64]) | (refine need.of (by first | omega | kernel_rfl) ?_) | (refine AW.fin ?_; try simp -implicitDefEqProofs))
  exact Subs.refl _

theorem read_ok (cs : List Bool) (p : Nat) (dd : Bool) : Eqn Tryz.prog n_tape_Tape_Read [.p 0 0] [tapeO cs p dd] (.d (.int .i64 p)) [tapeO cs p dd] := by
  refine Eqn.obj1 r_tape_Tape_Read (plain_d _) ⟨rfl, fun _ => rfl⟩ ?_
  simp only [c_tape_Tape_Read, tapeO, BL]
  repeat (first | refine AW.seq ?_ | refine AW.block ?_ | (refine AW.reg mix ?_; simp -implicitDefEqProofs [-Bool.exists_bool]; try simp (disch := omega) only [w64, wu64]) | (refine need.of (by first | omega | kernel_rfl) ?_) | (refine AW.fin ?_; try simp -implicitDefEqProofs [-Bool.exists_bool]))

theorem few_ok (cs : List Bool) (n : Nat) (h : cs.length ≤ 9223372036854775807) (hn : n ≤ 1000000) : Eqn Tryz.prog n_Tlaw09_Few [.d (BL cs), .d (.int .i64 n)] [] (.d (BL (cs.take n))) [] := by
  refine Eqn.pure r_Tlaw09_Few (plain_d _) ?_
  simp only [c_Tlaw09_Few, BL]
  repeat (first | refine AW.seq ?_ | refine AW.block ?_ | (refine AW.reg mix ?_; simp -implicitDefEqProofs; try simp (disch := omega) only [w64, wu64]) | (refine need.of (by first | omega | kernel_rfl) ?_) | (refine AW.fin ?_; try simp -implicitDefEqProofs))
  refine AW.cond rfl (fun h => ?_) (fun h => ?_)
  · have h' : (n : Int) ≤ cs.length := by simp at h; omega
    have h2 : n ≤ cs.length := by omega
    repeat (first | refine AW.seq ?_ | refine AW.block ?_ | (refine AW.reg mix ?_; simp -implicitDefEqProofs [h', h2]; try simp (disch := omega) only [w64, wu64]) | (refine need.of (by first | omega | kernel_rfl) ?_) | (refine AW.fin ?_; try simp -implicitDefEqProofs [h', h2]))
  · have h2 : cs.length ≤ n := by simp at h; omega
    repeat (first | refine AW.seq ?_ | refine AW.block ?_ | (refine AW.reg mix ?_; simp -implicitDefEqProofs; try simp (disch := omega) only [w64, wu64]) | (refine need.of (by first | omega | kernel_rfl) ?_) | (refine AW.fin ?_; try simp -implicitDefEqProofs))
    refine Sub1.of ?_
    rw [Nat.min_eq_right h2, List.take_of_length_le (by simp; omega)]

def p2 (n : Nat) : Nat := 2 ^ n
/-- so many coins that are true, as the document tells it: is it, how many were taken, what is wrong -/
def halfO (cs : List Bool) : Nat → Nat → Bool × Nat × Int
  | 0, i => (true, i, 0)
  | r + 1, i => if i < cs.length then (if cs.getD i false then halfO cs r (i + 1) else (false, i + 1, 0)) else (false, i, 8)
end
end Go.Proofs.YtdbfenhaljmbfaaGreat.Am
namespace Go.Proofs.YtdbfenhaljmbfaaGreat.Am
section
set_option linter.unusedVariables false
set_option linter.unusedSimpArgs false
open Go.RowKit
set_option maxRecDepth 100000
set_option linter.unusedSimpArgs false
set_option linter.unusedVariables false
end
end Go.Proofs.YtdbfenhaljmbfaaGreat.Am
namespace Go.Proofs.YtdbfenhaljmbfaaGreat.Am
section
set_option linter.unusedVariables false
set_option linter.unusedSimpArgs false
open Go.RowKit
set_option maxRecDepth 100000
set_option linter.unusedSimpArgs false
set_option linter.unusedVariables false

theorem partV_mod (d k : Nat) (hd : d ≤ 8) (hk : k ≤ 1023) : partV d k = ((k % 2 ^ d : Nat) : Int) := by
  have h2 : 2 ^ d ≤ 256 := Nat.pow_le_pow_right (n := 2) (by omega) hd
  have h2' : 0 < 2 ^ d := Nat.two_pow_pos d
  have hm := Nat.mod_lt k h2'
  have e0 : (2 : Int) ^ d = (2 ^ d : Nat) := by rw [Int.natCast_pow]; rfl
  have e1 : IntKind.i64.wrap (2 ^ d : Nat) = (2 ^ d : Nat) := by rw [w64 (by omega) (by omega)]
  have e2 : IntKind.i64.wrap (((2 ^ d : Nat) : Int) - 1) = ((2 ^ d - 1 : Nat) : Int) := by rw [w64 (by omega) (by omega)]; omega
  rw [partV, e0, e1, e2]
  show IntKind.i64.wrap (((BitVec.ofInt 64 (k : Int)) &&& (BitVec.ofInt 64 ((2 ^ d - 1 : Nat) : Int))).toNat : Int) = _
  rw [BitVec.toNat_and, BitVec.ofInt_natCast, BitVec.ofInt_natCast, BitVec.toNat_ofNat, BitVec.toNat_ofNat, Nat.mod_eq_of_lt (show k < 2 ^ 64 by omega), Nat.mod_eq_of_lt (show 2 ^ d - 1 < 2 ^ 64 by omega), Nat.and_two_pow_sub_one_eq_mod]
  exact w64 (by omega) (by omega)

theorem value_big (d k : Nat) (hd : d ≤ 8) (hk : k ≤ 1023) :
    Eqn Tryz.prog n_float_Value [.d (.int .i64 d), .d (.int .i64 k)] [] (.tup [.d (.agg [natW ((2 ^ d + k % 2 ^ d) * 2 ^ (k / 2 ^ d) - 2 ^ d)]), .d (.int .i64 0)]) [] := by
  have h2 : 2 ^ d ≤ 256 := Nat.pow_le_pow_right (n := 2) (by omega) hd
  have hm := Nat.mod_lt k (Nat.two_pow_pos d)
  exact value_ok d k (k % 2 ^ d) hd hk (partV_mod d k hd hk) (by omega)
end
end Go.Proofs.YtdbfenhaljmbfaaGreat.Am
namespace Go.Proofs.YtdbfenhaljmbfaaGreat.Am
section
set_option linter.unusedVariables false
set_option linter.unusedSimpArgs false
open Go.RowKit
set_option maxRecDepth 100000
set_option linter.unusedSimpArgs false
set_option linter.unusedVariables false

theorem meth_mgood : MethOK Tryz.prog 206 "tallymark/chain.good" n_chain_aMorris_good := fun v w => by kernel_rfl
theorem meth_fgood : MethOK Tryz.prog 207 "tallymark/chain.good" n_chain_aFloat_good := fun v w => by kernel_rfl
theorem meth_ygood : MethOK Tryz.prog 208 "tallymark/chain.good" n_chain_aYu_good := fun v w => by kernel_rfl
theorem meth_mstep : MethOK Tryz.prog 206 "tallymark/chain.step" n_chain_aMorris_step := fun v w => by kernel_rfl
theorem meth_fstep : MethOK Tryz.prog 207 "tallymark/chain.step" n_chain_aFloat_step := fun v w => by kernel_rfl
theorem meth_ystep : MethOK Tryz.prog 208 "tallymark/chain.step" n_chain_aYu_step := fun v w => by kernel_rfl

theorem cmgood_ok (a : Int) : Eqn Tryz.prog n_chain_aMorris_good [.d (.int .i64 a)] [] (.d (.bool (decide (1 ≤ a ∧ a ≤ 4096)))) [] := by
  refine Eqn.pure r_chain_aMorris_good (plain_d _) ?_
  simp only [c_chain_aMorris_good]
  repeat (first | refine AW.seq ?_ | refine AW.block ?_ | (refine AW.reg mix ?_; simp -implicitDefEqProofs; try simp (disch := omega) only [w64, wu64]) | (refine need.of (by first | omega | kernel_rfl) ?_) | (refine AW.fin ?_; try simp -implicitDefEqProofs))
  refine CallS.pu (mgood_ok a) ?_
  (try (simp -implicitDefEqProofs; try simp (disch := omega) only [w64, wu64]))
  repeat (first | refine AW.seq ?_ | refine AW.block ?_ | (refine AW.reg mix ?_; simp -implicitDefEqProofs; try simp (disch := omega) only [w64, wu64]) | (refine need.of (by first | omega | kernel_rfl) ?_) | (refine AW.fin ?_; try simp -implicitDefEqProofs))
theorem cfgood_ok (a : Int) : Eqn Tryz.prog n_chain_aFloat_good [.d (.int .i64 a)] [] (.d (.bool (decide (0 ≤ a ∧ a ≤ 8)))) [] := by
  refine Eqn.pure r_chain_aFloat_good (plain_d _) ?_
  simp only [c_chain_aFloat_good]
  repeat (first | refine AW.seq ?_ | refine AW.block ?_ | (refine AW.reg mix ?_; simp -implicitDefEqProofs; try simp (disch := omega) only [w64, wu64]) | (refine need.of (by first | omega | kernel_rfl) ?_) | (refine AW.fin ?_; try simp -implicitDefEqProofs))
  refine CallS.pu (good_ok a) ?_
  (try (simp -implicitDefEqProofs; try simp (disch := omega) only [w64, wu64]))
  repeat (first | refine AW.seq ?_ | refine AW.block ?_ | (refine AW.reg mix ?_; simp -implicitDefEqProofs; try simp (disch := omega) only [w64, wu64]) | (refine need.of (by first | omega | kernel_rfl) ?_) | (refine AW.fin ?_; try simp -implicitDefEqProofs))

/-- what a kind does -/
def kindD (k a : Int) : D := if k = 1 then .ifc 206 (.int .i64 a) else if k = 2 then .ifc 207 (.int .i64 a) else if k = 3 then .ifc 208 (.int .i64 a) else .nilifc
theorem kind_ok (k a w : Int) : Eqn Tryz.prog n_chain_Param_kind [.d (.agg [.int .i64 k, .int .i64 a, .int .i64 w])] [] (.d (kindD k a)) [] := by
  refine Eqn.pure r_chain_Param_kind (plain_d _) ?_
  simp only [c_chain_Param_kind, kindD]
  repeat (first | refine AW.seq ?_ | refine AW.block ?_ | (refine AW.reg mix ?_; simp -implicitDefEqProofs; try simp (disch := omega) only [w64, wu64]) | (refine need.of (by first | omega | kernel_rfl) ?_) | (refine AW.fin ?_; try simp -implicitDefEqProofs))
  refine AW.cond rfl (fun h => ?_) (fun h => ?_)
  · have hk : k = 1 := by simpa using h
    subst hk
    repeat (first | refine AW.seq ?_ | refine AW.block ?_ | (refine AW.reg mix ?_; simp -implicitDefEqProofs; try simp (disch := omega) only [w64, wu64]) | (refine need.of (by first | omega | kernel_rfl) ?_) | (refine AW.fin ?_; try simp -implicitDefEqProofs))
  have h1 : ¬ k = 1 := by simpa using h
  clear h
  repeat (first | refine AW.seq ?_ | refine AW.block ?_ | (refine AW.reg mix ?_; simp -implicitDefEqProofs [h1]; try simp (disch := omega) only [w64, wu64]) | (refine need.of (by first | omega | kernel_rfl) ?_) | (refine AW.fin ?_; try simp -implicitDefEqProofs [h1]))
  refine AW.cond rfl (fun h => ?_) (fun h => ?_)
  · have hk : k = 2 := by simpa using h
    subst hk
    repeat (first | refine AW.seq ?_ | refine AW.block ?_ | (refine AW.reg mix ?_; simp -implicitDefEqProofs; try simp (disch := omega) only [w64, wu64]) | (refine need.of (by first | omega | kernel_rfl) ?_) | (refine AW.fin ?_; try simp -implicitDefEqProofs))
  have h2 : ¬ k = 2 := by simpa using h
  clear h
  repeat (first | refine AW.seq ?_ | refine AW.block ?_ | (refine AW.reg mix ?_; simp -implicitDefEqProofs [h1, h2]; try simp (disch := omega) only [w64, wu64]) | (refine need.of (by first | omega | kernel_rfl) ?_) | (refine AW.fin ?_; try simp -implicitDefEqProofs [h1, h2]))
  refine AW.cond rfl (fun h => ?_) (fun h => ?_)
  · have hk : k = 3 := by simpa using h
    subst hk
    repeat (first | refine AW.seq ?_ | refine AW.block ?_ | (refine AW.reg mix ?_; simp -implicitDefEqProofs; try simp (disch := omega) only [w64, wu64]) | (refine need.of (by first | omega | kernel_rfl) ?_) | (refine AW.fin ?_; try simp -implicitDefEqProofs))
  have h3 : ¬ k = 3 := by simpa using h
  clear h
  repeat (first | refine AW.seq ?_ | refine AW.block ?_ | (refine AW.reg mix ?_; simp -implicitDefEqProofs [h1, h2, h3]; try simp (disch := omega) only [w64, wu64]) | (refine need.of (by first | omega | kernel_rfl) ?_) | (refine AW.fin ?_; try simp -implicitDefEqProofs [h1, h2, h3]))
end
end Go.Proofs.YtdbfenhaljmbfaaGreat.Am
