/- statements of thin: what they build on, walked. -/
import Derived.Test.YtfcamaiehepinaaThinV
import Derived.Test.YtfcamaiehepinaaTapeB
import Derived.Test.YtfcamaiehepinaaAwake9
import Derived.Deep.RegionHeld3
namespace Go.Proofs.Ytfcamaiehepinaa
open Go.RowKit
set_option linter.unusedSimpArgs false
set_option linter.unusedVariables false

theorem own_ok (w : World) (a b : Int) :
    Calls Try.prog 26 #[.agg #[.int .i64 a, .int .i64 b]] w fun e w' => e = .returned (.agg #[.int .i64 a, .int .i64 b]) ∧ Same w w' := by
  go_enter Try.func26, Try.ntmps26
  go_wp2
  exact bodyPost_ret (v := .agg #[.int .i64 a, .int .i64 b]) (by simp [results, Try.results26, go_sem]) rfl ⟨rfl, by simp [ext_s]⟩

theorem state_ok (w : World) (s : St) :
    Calls Try.prog 28 #[encSt s] w fun e w' => e = .returned (encSt s) ∧ Same w w' := by
  unfold encSt
  go_enter Try.func28, Try.ntmps28
  go_wp2
  exact bodyPost_ret (v := encSt s) (by simp [results, Try.results28, go_sem, encSt]) rfl ⟨rfl, by simp [ext_s]⟩

def mostOf (a : Int) : Nat := (1 + bits BinOp.and IntKind.i64 a 7).toNat
def timesOf (b : Int) : Nat := (bits BinOp.and IntKind.i64 b 3).toNat

theorem and7 (x : Int) : ∃ A : Nat, bits BinOp.and IntKind.i64 x 7 = A ∧ A ≤ 7 := ⟨(x % 8).toNat, by rw [show (7 : Int) = 2 ^ 3 - 1 by decide, and_mask 3 (by decide)]; omega, by omega⟩
theorem and3 (x : Int) : ∃ A : Nat, bits BinOp.and IntKind.i64 x 3 = A ∧ A ≤ 3 := ⟨(x % 4).toNat, by rw [show (3 : Int) = 2 ^ 2 - 1 by decide, and_mask 2 (by decide)]; omega, by omega⟩

theorem little_ok (w : World) (a b y t : Int) (f : Bool) :
    Calls Try.prog 25 #[.agg #[.int .i64 a, .int .i64 b], .agg #[.int .i64 y, .int .i64 t, .bool f]] w fun e w' => ∃ s : St, e = .returned (.tuple #[.agg #[.int .i64 (mostOf a), .int .i64 (timesOf b)], encSt s]) ∧ 1 ≤ mostOf a ∧ mostOf a ≤ 8 ∧ timesOf b ≤ 3 ∧ s.ok (mostOf a) (timesOf b) ∧ Same w w' := by
  obtain ⟨A, hA, hA7⟩ := and7 a
  obtain ⟨B, hB, hB3⟩ := and3 b
  obtain ⟨Y, hY, hY7⟩ := and7 y
  obtain ⟨T, hT, hT3⟩ := and3 t
  have eA : mostOf a = A + 1 := by unfold mostOf; rw [hA]; omega
  have eB : timesOf b = B := by unfold timesOf; rw [hB]; omega
  rw [eA, eB]
  clear eA eB
  go_enter Try.func25, Try.ntmps25
  go_wp2_with fail
  refine over_wp (w0 := w) (fun _ => False) [(w.heap.size, 2), (w.heap.size + 1, 3), (w.heap.size + 1 + 1, 2), (w.heap.size + 1 + 1 + 1, 3)] (by simp [ext_s]) (by simp; omega) ?_
  intro w1 hs m _
  simp [Reads, SameN, go_sem] at m
  obtain ⟨Y', hY', hYY⟩ : ∃ Y' : Nat, (Y : Int).tmod (1 + A + 1) = Y' ∧ Y' ≤ A + 1 := ⟨Y % (A + 2), by rw [show (1 + (A : Int) + 1) = ((A + 2 : Nat) : Int) by omega]; rfl, by have := Nat.mod_lt Y (show 0 < A + 2 by omega); omega⟩
  obtain ⟨T', hT', hTT⟩ : ∃ T' : Nat, (T : Int).tmod (B + 1) = T' ∧ T' ≤ B := ⟨T % (B + 1), by rw [show ((B : Int) + 1) = ((B + 1 : Nat) : Int) by omega]; rfl, by have := Nat.mod_lt T (show 0 < B + 1 by omega); omega⟩
  have hz := hs.size
  go_region
  go_wp2_with fail
  all_goals
    refine over_wp (w0 := w) (fun _ => False) [(w.heap.size, 2), (w.heap.size + 1, 3), (w.heap.size + 1 + 1, 2), (w.heap.size + 1 + 1 + 1, 3)] (by simp [ext_s, Ext.drew, hs, hz]) (by simp [m]) ?_
    intro w2 hs2 m2 _
    simp [Reads, SameN, go_sem, m] at m2
    have hz2 := hs2.size
    go_region
    go_wp2
  · exact bodyPost_ret (v := .tuple #[.agg #[.int .i64 (1 + (A : Int)), .int .i64 B], encSt ⟨Y', T', ((T' : Int) == (B : Int))⟩]) (by simp [results, Try.results25, go_sem, encSt, m2]) rfl ⟨⟨Y', T', ((T' : Int) == (B : Int))⟩, by rw [show ((A + 1 : Nat) : Int) = 1 + (A : Int) by omega], by omega, by omega, hB3, ⟨hYY, hTT, by simp; omega⟩, by simp [ext_s, Ext.drew, hs2, hz2]⟩
  · exact bodyPost_ret (v := .tuple #[.agg #[.int .i64 (1 + (A : Int)), .int .i64 B], encSt ⟨Y', T', false⟩]) (by simp [results, Try.results25, go_sem, encSt, m2]) rfl ⟨⟨Y', T', false⟩, by rw [show ((A + 1 : Nat) : Int) = 1 + (A : Int) by omega], by omega, by omega, hB3, ⟨hYY, hTT, by simp⟩, by simp [ext_s, Ext.drew, hs2, hz2]⟩

theorem inc_awake (w : World) (b : Nat) (v : Value) (ht : TapeAt w b v [true, false, true, true] 0 false) :
    Calls Try.prog 37 #[.agg #[.int .i64 3, .int .i64 2], .pointer (some ⟨b, 0, none⟩), .agg #[.int .i64 3, .int .i64 0, .bool false]] w fun e w' => e = .returned (.tuple #[.agg #[.int .i64 3, .int .i64 1, .bool false], .int .i64 0]) ∧ Ext (· = b) w w' := by
  refine (inc_any w b v [true, false, true, true] 0 3 2 ⟨3, 0, false⟩ ht ⟨by decide, by decide, by decide⟩ ⟨by decide, by decide, by decide⟩).mono ?_
  rintro e w3 ⟨rfl, _, hs3⟩
  exact ⟨rfl, hs3⟩

theorem lt_two : ∀ n : Nat, n < n + 1 + 1 ∧ n < n + 1 + 1 + 1 ∧ n + 1 < n + 1 + 1 + 1 ∧ ¬ n = n + 1 + 1 ∧ ¬ n + 1 + 1 = n := fun n => by omega

theorem cells4 {w : World} {B : Nat} {u0 u1 u2 u3 : Value} (h : B < w.heap.size) (h0 : w.cell? ⟨B, 0, none⟩ = some u0) (h1 : w.cell? ⟨B, 1, none⟩ = some u1) (h2 : w.cell? ⟨B, 2, none⟩ = some u2) (h3 : w.cell? ⟨B, 3, none⟩ = some u3) : Cells w (.slice (some ⟨B, 0, none⟩) 4 4) 1 4 [u0, u1, u2, u3] := by
  refine ⟨rfl, _, 4, rfl, Nat.le_refl _, by unfold maxLen; omega, .inr ⟨_, _, rfl, h, fun i u hi => ?_⟩⟩
  rw [Nat.zero_add]
  match i, hi with
  | 0, hi => simp at hi; subst hi; exact h0
  | 1, hi => simp at hi; subst hi; exact h1
  | 2, hi => simp at hi; subst hi; exact h2
  | 3, hi => simp at hi; subst hi; exact h3

set_option maxHeartbeats 8000000 in
theorem awake16_any (w : World) : Calls Try.prog 24 #[] w fun e w' => e = .returned (.bool true) ∧ Same w w' := by
  go_enter Try.func24, Try.ntmps24
  go_upto_region 2 with fail
  refine over_wp (w0 := w) (fun _ => False) [(w.heap.size, 2)] (by simp [ext_s]) (by simp) ?_
  intro w1 hs1 m1 _
  simp [Reads, SameN, go_sem] at m1
  obtain ⟨⟨⟨m0, m1⟩, m2⟩, m3⟩ := m1
  go_cut [2, 3] (fun s t wx => ∃ B : Nat, s = .pointer (some ⟨B, 0, none⟩) ∧ t = .int .i64 0 ∧ B < wx.heap.size ∧ wx.cell? ⟨B, 0, none⟩ = some (.int .i64 3) ∧ wx.cell? ⟨B, 1, none⟩ = some (.int .i64 1) ∧ wx.cell? ⟨B, 2, none⟩ = some (.bool false) ∧ wx.cell? ⟨w.heap.size, 0, none⟩ = some (.int .i64 3) ∧ wx.cell? ⟨w.heap.size, 1, none⟩ = some (.int .i64 2) ∧ Same w wx)
  case first =>
    have m4 := lt_on m0
    have l2 := lt_two
    have m7 := Nat.le_succ_of_le hs1.size
    go_region_held3 (fun w' => w'.cell? ⟨w.heap.size, 0, none⟩ = some (.int .i64 3) ∧ w'.cell? ⟨w.heap.size, 1, none⟩ = some (.int .i64 2))
      (first | exact ⟨m2, m3⟩ | exact ⟨r2, r3⟩ | exact ⟨q2, q3⟩ | (constructor <;> (simp [go_sem, m2, m3, m4]; done)) | (constructor <;> (simp [go_sem, r2, r3, m4, m5]; done)) | (constructor <;> (simp [go_sem, q2, q3, m4, m5, m6]; done)))
      (first
        | (go_at_call 13; refine (new_few _ _ [true, false, true, true] (cells4 (by simp [m4, l2]) (by simp [go_sem, m4, l2]) (by simp [go_sem, m4, l2]) (by simp [go_sem, m4, l2]) (by simp [go_sem, m4, l2])) (by decide)).mono ?_; rintro e w2 ⟨b, v, rfl, hb, hv, ht, hs2⟩; have e2 := hs2.walk; have fb := fresh hb ht.lt; have m5 := lt_on (show w.heap.size < w2.heap.size by have h2 := ht.lt; simp at hb; omega); have r2 : w2.cell? ⟨w.heap.size, 0, none⟩ = some (.int .i64 3) := (by simp [go_sem, e2, m2, m4]); have r3 : w2.cell? ⟨w.heap.size, 1, none⟩ = some (.int .i64 2) := (by simp [go_sem, e2, m3, m4]); have hs : Same w w2 := hs2.to (by simp [ext_s, ext_drew, hs1, hs1.size, Nat.le_succ_of_le hs1.size]))
        | (go_at_call 37; go_loud (refine (inc_awake _ b v (ht.same (by simp [ext_s, ext_drew]))).mono ?_; rintro e w3 ⟨rfl, hs3⟩; have e3 := hs3.walk; have q2 : w3.cell? ⟨w.heap.size, 0, none⟩ = some (.int .i64 3) := (by simp [go_sem, e3, r2, m4, m5, fb]; done); have q3 : w3.cell? ⟨w.heap.size, 1, none⟩ = some (.int .i64 2) := (by simp [go_sem, e3, r3, m4, m5, fb]; done); have m6 := lt_on (show w.heap.size < w3.heap.size by simp [e3, m5]); have hs' : Same w w3 := Ext.trans (by simp [ext_s, ext_drew, hs, hs.size]) hs3 (by intro k hk e; simp at hb; omega))))
    all_goals go_wp2
    all_goals
      go_meet
      refine ⟨_, rfl, rfl, ?_, ?_, ?_, ?_, ?_, ?_, ?_⟩
      all_goals first
        | (simp (maxDischargeDepth := 9) [go_sem, e3, e2, fb, m2, m3, m4, m5, m6, l2, q2, q3]; done)
        | (simp [ext_s, ext_drew, hs', hs'.size, hs1.size, m5, m7]; done)
  case rest =>
    obtain ⟨B, rfl, rfl, hB, b0, b1, b2, p0, p1, hs⟩ := hcut
    clear hs1 m0 m1 m2 m3
    go_wp2_with fail
    refine (tcheck_ok _ 3 2 ⟨by decide, by decide, by decide⟩).mono ?_
    rintro e w3 ⟨rfl, hs3⟩
    have b0 := hs3.keepS b0
    have b1 := hs3.keepS b1
    have b2 := hs3.keepS b2
    have hs := hs.same hs3
    clear hs3 p0 p1 hB
    go_wp2
    go_ret
    exact ⟨rfl, hs⟩

end Go.Proofs.Ytfcamaiehepinaa
