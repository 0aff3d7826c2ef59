import Derived.Test.YtakjegcjeffmgaaDoorRat1
namespace Go.Proofs.YtakjegcjeffmgaaDoor.Am
open Go.RowKit
set_option maxRecDepth 100000
set_option linter.unusedSimpArgs false
set_option linter.unusedVariables false

def lit1 : ByteArray := ⟨#[48, 49, 50, 51, 52, 53, 54, 55, 56, 57, 97, 98, 99, 100, 101, 102, 103, 104, 105, 106, 107, 108, 109, 110, 111, 112, 113, 114, 115, 116, 117, 118, 119, 120, 121, 122]⟩
def lit2 : ByteArray := ⟨#[48, 48, 48, 49, 48, 50, 48, 51, 48, 52, 48, 53, 48, 54, 48, 55, 48, 56, 48, 57, 49, 48, 49, 49, 49, 50, 49, 51, 49, 52, 49, 53, 49, 54, 49, 55, 49, 56, 49, 57, 50, 48, 50, 49, 50, 50, 50, 51, 50, 52, 50, 53, 50, 54, 50, 55, 50, 56, 50, 57, 51, 48, 51, 49, 51, 50, 51, 51, 51, 52, 51, 53, 51, 54, 51, 55, 51, 56, 51, 57, 52, 48, 52, 49, 52, 50, 52, 51, 52, 52, 52, 53, 52, 54, 52, 55, 52, 56, 52, 57, 53, 48, 53, 49, 53, 50, 53, 51, 53, 52, 53, 53, 53, 54, 53, 55, 53, 56, 53, 57, 54, 48, 54, 49, 54, 50, 54, 51, 54, 52, 54, 53, 54, 54, 54, 55, 54, 56, 54, 57, 55, 48, 55, 49, 55, 50, 55, 51, 55, 52, 55, 53, 55, 54, 55, 55, 55, 56, 55, 57, 56, 48, 56, 49, 56, 50, 56, 51, 56, 52, 56, 53, 56, 54, 56, 55, 56, 56, 56, 57, 57, 48, 57, 49, 57, 50, 57, 51, 57, 52, 57, 53, 57, 54, 57, 55, 57, 56, 57, 57]⟩
theorem lit1_size : lit1.size = 36 := by kernel_rfl
theorem lit2_size : lit2.size = 200 := by kernel_rfl
/-- the text of a number below 100 -/
def smallS (n : Nat) : ByteArray := if n < 10 then lit1.extract n (n + 1) else lit2.extract (n * 2) (n * 2 + 2)

theorem small_ok (n : Nat) (h : n < 100) : Eqn Tryd.prog n_internal_strconv_small [.d (.int .i64 n)] [] (.d (.str (smallS n))) [] := by
  refine Eqn.pure r_internal_strconv_small (plain_d _) ?_
  simp only [c_internal_strconv_small]
  rw [show (⟨#[48, 49, 50, 51, 52, 53, 54, 55, 56, 57, 97, 98, 99, 100, 101, 102, 103, 104, 105, 106, 107, 108, 109, 110, 111, 112, 113, 114, 115, 116, 117, 118, 119, 120, 121, 122]⟩ : ByteArray) = lit1 from rfl, show (⟨#[48, 48, 48, 49, 48, 50, 48, 51, 48, 52, 48, 53, 48, 54, 48, 55, 48, 56, 48, 57, 49, 48, 49, 49, 49, 50, 49, 51, 49, 52, 49, 53, 49, 54, 49, 55, 49, 56, 49, 57, 50, 48, 50, 49, 50, 50, 50, 51, 50, 52, 50, 53, 50, 54, 50, 55, 50, 56, 50, 57, 51, 48, 51, 49, 51, 50, 51, 51, 51, 52, 51, 53, 51, 54, 51, 55, 51, 56, 51, 57, 52, 48, 52, 49, 52, 50, 52, 51, 52, 52, 52, 53, 52, 54, 52, 55, 52, 56, 52, 57, 53, 48, 53, 49, 53, 50, 53, 51, 53, 52, 53, 53, 53, 54, 53, 55, 53, 56, 53, 57, 54, 48, 54, 49, 54, 50, 54, 51, 54, 52, 54, 53, 54, 54, 54, 55, 54, 56, 54, 57, 55, 48, 55, 49, 55, 50, 55, 51, 55, 52, 55, 53, 55, 54, 55, 55, 55, 56, 55, 57, 56, 48, 56, 49, 56, 50, 56, 51, 56, 52, 56, 53, 56, 54, 56, 55, 56, 56, 56, 57, 57, 48, 57, 49, 57, 50, 57, 51, 57, 52, 57, 53, 57, 54, 57, 55, 57, 56, 57, 57]⟩ : ByteArray) = lit2 from rfl]
  have e1 := lit1_size
  have e2 := lit2_size
  generalize hl1 : lit1 = l1 at *
  generalize hl2 : lit2 = l2 at *
  by_cases hs : n < 10
  · have hs' : (n : Int) < 10 := by omega
    repeat (first | refine AW.seq ?_ | refine AW.block ?_ | (refine AW.reg mix ?_; (simp [hs']; try simp (disch := omega) only [w64, wu64])) | (refine need.of (by first | omega | kernel_rfl) ?_) | (refine AW.skip ?_; (try simp [hs'])) | (refine AW.ret ?_; (try simp [hs'])) | (refine AW.exit ?_; (try simp [hs'])))
    refine AW.cond rfl (fun h => ?_) (fun h => ?_)
    · have ew : IntKind.i64.wrap ((n : Int) + 1) = (n : Int) + 1 := w64 (by omega) (by omega)
      repeat (first | refine AW.seq ?_ | refine AW.block ?_ | (refine AW.reg mix ?_; (simp [ew, e1]; try simp (disch := omega) only [w64, wu64])) | (refine need.of (by first | omega | kernel_rfl) ?_) | (refine AW.skip ?_; (try simp [ew, e1])) | (refine AW.ret ?_; (try simp [ew, e1])) | (refine AW.exit ?_; (try simp [ew, e1])))
      refine Sub1.of ?_
      rw [smallS, if_pos hs, hl1]
    · simp [hs] at h
  · have hs' : ¬ (n : Int) < 10 := by omega
    repeat (first | refine AW.seq ?_ | refine AW.block ?_ | (refine AW.reg mix ?_; (simp [hs']; try simp (disch := omega) only [w64, wu64])) | (refine need.of (by first | omega | kernel_rfl) ?_) | (refine AW.skip ?_; (try simp [hs'])) | (refine AW.ret ?_; (try simp [hs'])) | (refine AW.exit ?_; (try simp [hs'])))
    refine AW.cond rfl (fun h => ?_) (fun h => ?_)
    · simp [hs] at h
    · have ew : IntKind.i64.wrap ((n : Int) * 2) = (n : Int) * 2 := w64 (by omega) (by omega)
      have ew2 : IntKind.i64.wrap ((n : Int) * 2 + 2) = (n : Int) * 2 + 2 := w64 (by omega) (by omega)
      repeat (first | refine AW.seq ?_ | refine AW.block ?_ | (refine AW.reg mix ?_; (simp [ew, ew2, e2]; try simp (disch := omega) only [w64, wu64])) | (refine need.of (by first | omega | kernel_rfl) ?_) | (refine AW.skip ?_; (try simp [ew, ew2, e2])) | (refine AW.ret ?_; (try simp [ew, ew2, e2])) | (refine AW.exit ?_; (try simp [ew, ew2, e2])))
      refine Sub1.of ?_
      rw [smallS, if_neg hs, hl2, show ((n : Int) * 2).toNat = n * 2 by omega, show ((n : Int) * 2 + 2).toNat = n * 2 + 2 by omega]

theorem smallS_size (n : Nat) : (smallS n).size ≤ 2 := by
  unfold smallS
  split <;> rw [ByteArray.size_extract] <;> omega
@[simp] theorem size_nil : ByteArray.size ⟨#[]⟩ = 0 := rfl
@[simp] theorem size_47 : ByteArray.size ⟨#[47]⟩ = 1 := rfl
theorem app_nil (s : ByteArray) : s ++ (⟨#[]⟩ : ByteArray) = s := by
  exact ByteArray.append_empty
theorem ifmt_ok (n : Nat) (h : n < 100) : Eqn Tryd.prog n_internal_strconv_FormatUint [.d (.int .u64 n), .d (.int .i64 10)] [] (.d (.str (smallS n))) [] := by
  refine Eqn.pure r_internal_strconv_FormatUint (plain_d _) ?_
  simp only [c_internal_strconv_FormatUint]
  have h1 : (n : Int) < 100 := by omega
  repeat (first | refine AW.seq ?_ | refine AW.block ?_ | (refine AW.reg mix ?_; (simp [h1]; try simp (disch := omega) only [w64, wu64])) | (refine need.of (by first | omega | kernel_rfl) ?_) | (refine AW.skip ?_; (try simp [h1])) | (refine AW.ret ?_; (try simp [h1])) | (refine AW.exit ?_; (try simp [h1])))
  refine AW.cond rfl (fun h => ?_) (fun h => ?_)
  · repeat (first | refine AW.seq ?_ | refine AW.block ?_ | (refine AW.reg mix ?_; (simp [h1]; try simp (disch := omega) only [w64, wu64])) | (refine need.of (by first | omega | kernel_rfl) ?_) | (refine AW.skip ?_; (try simp [h1])) | (refine AW.ret ?_; (try simp [h1])) | (refine AW.exit ?_; (try simp [h1])))
    refine AW.cond rfl (fun h => ?_) (fun h => ?_)
    · have e : IntKind.i64.wrap (n : Int) = n := w64 (by omega) (by omega)
      repeat (first | refine AW.seq ?_ | refine AW.block ?_ | (refine AW.reg mix ?_; (simp [e]; try simp (disch := omega) only [w64, wu64])) | (refine need.of (by first | omega | kernel_rfl) ?_) | (refine AW.skip ?_; (try simp [e])) | (refine AW.ret ?_; (try simp [e])) | (refine AW.exit ?_; (try simp [e])))
      refine CallS.pure (small_ok n (by omega)) (by first | exact plain_d _ | exact plain_tup2 _ _ | exact plain_tup3 _ _ _) rfl (fun _ => rfl) (Subs.refl _) ?_
      (try simp; try simp (disch := omega) only [w64, wu64])
      repeat (first | refine AW.seq ?_ | refine AW.block ?_ | (refine AW.reg mix ?_; (simp; try simp (disch := omega) only [w64, wu64])) | (refine need.of (by first | omega | kernel_rfl) ?_) | (refine AW.skip ?_; (try simp)) | (refine AW.ret ?_; (try simp)) | (refine AW.exit ?_; (try simp)))
    · simp [h1] at h
  · simp at h

theorem fmt_ok (n : Nat) (h : n < 100) : Eqn Tryd.prog n_strconv_FormatUint [.d (.int .u64 n), .d (.int .i64 10)] [] (.d (.str (smallS n))) [] := by
  refine Eqn.pure r_strconv_FormatUint (plain_d _) ?_
  simp only [c_strconv_FormatUint]
  repeat (first | refine AW.seq ?_ | refine AW.block ?_ | (refine AW.reg mix ?_; (simp; try simp (disch := omega) only [w64, wu64])) | (refine need.of (by first | omega | kernel_rfl) ?_) | (refine AW.skip ?_; (try simp)) | (refine AW.ret ?_; (try simp)) | (refine AW.exit ?_; (try simp)))
  refine CallS.pure (ifmt_ok n h) (by first | exact plain_d _ | exact plain_tup2 _ _ | exact plain_tup3 _ _ _) rfl (fun _ => rfl) (Subs.refl _) ?_
  (try simp; try simp (disch := omega) only [w64, wu64])
  repeat (first | refine AW.seq ?_ | refine AW.block ?_ | (refine AW.reg mix ?_; (simp; try simp (disch := omega) only [w64, wu64])) | (refine need.of (by first | omega | kernel_rfl) ?_) | (refine AW.skip ?_; (try simp)) | (refine AW.ret ?_; (try simp)) | (refine AW.exit ?_; (try simp)))

theorem text_ok (n : Nat) (h : n < 100) : Eqn Tryd.prog n_nat_Nat_Text [.d (.agg [natW n])] [] (.d (.str (smallS n))) [] := by
  refine Eqn.pure r_nat_Nat_Text (plain_d _) ?_
  simp only [c_nat_Nat_Text]
  repeat (first | refine AW.seq ?_ | refine AW.block ?_ | (refine AW.reg mix ?_; (simp; try simp (disch := omega) only [w64, wu64])) | (refine need.of (by first | omega | kernel_rfl) ?_) | (refine AW.skip ?_; (try simp)) | (refine AW.ret ?_; (try simp)) | (refine AW.exit ?_; (try simp)))
  refine CallS.pure (zero_ok n) (by first | exact plain_d _ | exact plain_tup2 _ _ | exact plain_tup3 _ _ _) rfl (fun _ => rfl) (Subs.refl _) ?_
  (try simp; try simp (disch := omega) only [w64, wu64])
  repeat (first | refine AW.seq ?_ | refine AW.block ?_ | (refine AW.reg mix ?_; (simp; try simp (disch := omega) only [w64, wu64])) | (refine need.of (by first | omega | kernel_rfl) ?_) | (refine AW.skip ?_; (try simp)) | (refine AW.ret ?_; (try simp)) | (refine AW.exit ?_; (try simp)))
  rcases Nat.eq_zero_or_pos n with rfl | h0
  · refine AW.cond rfl (fun h => ?_) (fun h => ?_)
    · repeat (first | refine AW.seq ?_ | refine AW.block ?_ | (refine AW.reg mix ?_; (simp; try simp (disch := omega) only [w64, wu64])) | (refine need.of (by first | omega | kernel_rfl) ?_) | (refine AW.skip ?_; (try simp)) | (refine AW.ret ?_; (try simp)) | (refine AW.exit ?_; (try simp)))
      exact Sub1.of (by kernel_rfl)
    · simp at h
  have e : natW n = .sl 1 [.int .u64 n] := by rw [natW, words_one h0 (by omega)]; rfl
  have hz : ¬ n = 0 := by omega
  refine AW.cond rfl (fun h => ?_) (fun h => ?_)
  · simp [hz] at h
  repeat (first | refine AW.seq ?_ | refine AW.block ?_ | (refine AW.reg mix ?_; (simp [e]; try simp (disch := omega) only [w64, wu64])) | (refine need.of (by first | omega | kernel_rfl) ?_) | (refine AW.skip ?_; (try simp [e])) | (refine AW.ret ?_; (try simp [e])) | (refine AW.exit ?_; (try simp [e])))
  refine AW.loopT (α := Nat) 1 (fun i => [(4, .d (if i = 0 then .sl 0 [] else .sl 1 [.int .u64 n])), (3, .d (if i = 0 then .str (smallS n) else .str ⟨#[]⟩))]) (fun i => []) (fun i => i ≤ 1) (fun i => i) 1 ?_ ?_ (Nat.le_refl _) ?_ ?_ ?_
  · simp
  · simp
  · simp
  · simp
  rintro i hi
  simp
  cases i with
  | zero =>
    repeat (first | refine AW.seq ?_ | refine AW.block ?_ | (refine AW.reg mix ?_; (simp; try simp (disch := omega) only [w64, wu64])) | (refine need.of (by first | omega | kernel_rfl) ?_) | (refine AW.skip ?_; (try simp)) | (refine AW.ret ?_; (try simp)) | (refine AW.exit ?_; (try simp)))
    refine AW.cond rfl (fun h => ?_) (fun h => ?_)
    · simp at h
    repeat (first | refine AW.seq ?_ | refine AW.block ?_ | (refine AW.reg mix ?_; (simp; try simp (disch := omega) only [w64, wu64])) | (refine need.of (by first | omega | kernel_rfl) ?_) | (refine AW.skip ?_; (try simp)) | (refine AW.ret ?_; (try simp)) | (refine AW.exit ?_; (try simp)))
  | succ i =>
    obtain rfl : i = 0 := by omega
    repeat (first | refine AW.seq ?_ | refine AW.block ?_ | (refine AW.reg mix ?_; (simp; try simp (disch := omega) only [w64, wu64])) | (refine need.of (by first | omega | kernel_rfl) ?_) | (refine AW.skip ?_; (try simp)) | (refine AW.ret ?_; (try simp)) | (refine AW.exit ?_; (try simp)))
    refine AW.cond rfl (fun h => ?_) (fun h => ?_)
    · repeat (first | refine AW.seq ?_ | refine AW.block ?_ | (refine AW.reg mix ?_; (simp; try simp (disch := omega) only [w64, wu64])) | (refine need.of (by first | omega | kernel_rfl) ?_) | (refine AW.skip ?_; (try simp)) | (refine AW.ret ?_; (try simp)) | (refine AW.exit ?_; (try simp)))
      have hs := split_one n 1000000000000000000 (by omega) (by omega) (by omega)
      rw [show n / 1000000000000000000 = 0 by omega, show n % 1000000000000000000 = n by omega] at hs
      refine CallS.pure (hs) (by first | exact plain_d _ | exact plain_tup2 _ _ | exact plain_tup3 _ _ _) rfl (fun _ => rfl) (Subs.refl _) ?_
      (try simp; try simp (disch := omega) only [w64, wu64])
      repeat (first | refine AW.seq ?_ | refine AW.block ?_ | (refine AW.reg mix ?_; (simp; try simp (disch := omega) only [w64, wu64])) | (refine need.of (by first | omega | kernel_rfl) ?_) | (refine AW.skip ?_; (try simp)) | (refine AW.ret ?_; (try simp)) | (refine AW.exit ?_; (try simp)))
      have ht := trimmed_ok [0] (small_one (by omega)) (by simp)
      rw [show wval [0] = 0 by rfl] at ht
      refine CallS.pure (ht) (by first | exact plain_d _ | exact plain_tup2 _ _ | exact plain_tup3 _ _ _) rfl (fun _ => rfl) (Subs.refl _) ?_
      (try simp; try simp (disch := omega) only [w64, wu64])
      repeat (first | refine AW.seq ?_ | refine AW.block ?_ | (refine AW.reg mix ?_; (simp; try simp (disch := omega) only [w64, wu64])) | (refine need.of (by first | omega | kernel_rfl) ?_) | (refine AW.skip ?_; (try simp)) | (refine AW.ret ?_; (try simp)) | (refine AW.exit ?_; (try simp)))
      refine CallS.pure (fmt_ok n (by omega)) (by first | exact plain_d _ | exact plain_tup2 _ _ | exact plain_tup3 _ _ _) rfl (fun _ => rfl) (Subs.refl _) ?_
      (try simp [natW_zero]; try simp (disch := omega) only [w64, wu64])
      repeat (first | refine AW.seq ?_ | refine AW.block ?_ | (refine AW.reg mix ?_; (simp [natW_zero]; try simp (disch := omega) only [w64, wu64])) | (refine need.of (by first | omega | kernel_rfl) ?_) | (refine AW.skip ?_; (try simp [natW_zero])) | (refine AW.ret ?_; (try simp [natW_zero])) | (refine AW.exit ?_; (try simp [natW_zero])))
      refine AW.cond rfl (fun h => ?_) (fun h => ?_)
      · simp at h
      have s1 := smallS_size n
      have sn := app_nil (smallS n)
      repeat (first | refine AW.seq ?_ | refine AW.block ?_ | (refine AW.reg mix ?_; (simp [natW_zero, sn]; try simp (disch := omega) only [w64, wu64])) | (refine need.of (by first | omega | kernel_rfl) ?_) | (refine AW.skip ?_; (try simp [natW_zero, sn])) | (refine AW.ret ?_; (try simp [natW_zero, sn])) | (refine AW.exit ?_; (try simp [natW_zero, sn])))
      exact ⟨0, by omega, rfl, by simp [sn], by simp⟩
    · simp at h

theorem wtext_ok (n : Nat) (h : n < 100) : Eqn Tryd.prog n_whole_Whole_Text [.d (.agg [natW n, .bool false])] [] (.d (.str (smallS n))) [] := by
  refine Eqn.pure r_whole_Whole_Text (plain_d _) ?_
  simp only [c_whole_Whole_Text]
  repeat (first | refine AW.seq ?_ | refine AW.block ?_ | (refine AW.reg mix ?_; (simp; try simp (disch := omega) only [w64, wu64])) | (refine need.of (by first | omega | kernel_rfl) ?_) | (refine AW.skip ?_; (try simp)) | (refine AW.ret ?_; (try simp)) | (refine AW.exit ?_; (try simp)))
  refine AW.cond rfl (fun h => ?_) (fun h => ?_)
  · simp at h
  repeat (first | refine AW.seq ?_ | refine AW.block ?_ | (refine AW.reg mix ?_; (simp; try simp (disch := omega) only [w64, wu64])) | (refine need.of (by first | omega | kernel_rfl) ?_) | (refine AW.skip ?_; (try simp)) | (refine AW.ret ?_; (try simp)) | (refine AW.exit ?_; (try simp)))
  refine CallS.pure (text_ok n (by omega)) (by first | exact plain_d _ | exact plain_tup2 _ _ | exact plain_tup3 _ _ _) rfl (fun _ => rfl) (Subs.refl _) ?_
  (try simp; try simp (disch := omega) only [w64, wu64])
  repeat (first | refine AW.seq ?_ | refine AW.block ?_ | (refine AW.reg mix ?_; (simp; try simp (disch := omega) only [w64, wu64])) | (refine need.of (by first | omega | kernel_rfl) ?_) | (refine AW.skip ?_; (try simp)) | (refine AW.ret ?_; (try simp)) | (refine AW.exit ?_; (try simp)))

theorem rtext_ok (n d : Nat) (h : n < 100) (hd : d + 1 < 100) (h0 : d ≠ 0) : Eqn Tryd.prog n_rat_Rat_Text [.d (.agg [natW n, .bool false, natW d])] [] (.d (.str (smallS n ++ ⟨#[47]⟩ ++ smallS (d + 1)))) [] := by
  refine Eqn.pure r_rat_Rat_Text (plain_d _) ?_
  simp only [c_rat_Rat_Text]
  have s1 := smallS_size n
  have s2 := smallS_size (d + 1)
  repeat (first | refine AW.seq ?_ | refine AW.block ?_ | (refine AW.reg mix ?_; (simp; try simp (disch := omega) only [w64, wu64])) | (refine need.of (by first | omega | kernel_rfl) ?_) | (refine AW.skip ?_; (try simp)) | (refine AW.ret ?_; (try simp)) | (refine AW.exit ?_; (try simp)))
  refine CallS.pure (rwhole_ok n d false) (by first | exact plain_d _ | exact plain_tup2 _ _ | exact plain_tup3 _ _ _) rfl (fun _ => rfl) (Subs.refl _) ?_
  (try simp; try simp (disch := omega) only [w64, wu64])
  repeat (first | refine AW.seq ?_ | refine AW.block ?_ | (refine AW.reg mix ?_; (simp; try simp (disch := omega) only [w64, wu64])) | (refine need.of (by first | omega | kernel_rfl) ?_) | (refine AW.skip ?_; (try simp)) | (refine AW.ret ?_; (try simp)) | (refine AW.exit ?_; (try simp)))
  refine AW.cond rfl (fun h => ?_) (fun h => ?_)
  · simp [h0] at h
  repeat (first | refine AW.seq ?_ | refine AW.block ?_ | (refine AW.reg mix ?_; (simp; try simp (disch := omega) only [w64, wu64])) | (refine need.of (by first | omega | kernel_rfl) ?_) | (refine AW.skip ?_; (try simp)) | (refine AW.ret ?_; (try simp)) | (refine AW.exit ?_; (try simp)))
  refine CallS.pure (wtext_ok n (by omega)) (by first | exact plain_d _ | exact plain_tup2 _ _ | exact plain_tup3 _ _ _) rfl (fun _ => rfl) (Subs.refl _) ?_
  (try simp; try simp (disch := omega) only [w64, wu64])
  repeat (first | refine AW.seq ?_ | refine AW.block ?_ | (refine AW.reg mix ?_; (simp; try simp (disch := omega) only [w64, wu64])) | (refine need.of (by first | omega | kernel_rfl) ?_) | (refine AW.skip ?_; (try simp)) | (refine AW.ret ?_; (try simp)) | (refine AW.exit ?_; (try simp)))
  refine CallS.pure (rden_ok n d false (by have := size_one (x := d) (by omega); omega)) (by first | exact plain_d _ | exact plain_tup2 _ _ | exact plain_tup3 _ _ _) rfl (fun _ => rfl) (Subs.refl _) ?_
  (try simp; try simp (disch := omega) only [w64, wu64])
  repeat (first | refine AW.seq ?_ | refine AW.block ?_ | (refine AW.reg mix ?_; (simp; try simp (disch := omega) only [w64, wu64])) | (refine need.of (by first | omega | kernel_rfl) ?_) | (refine AW.skip ?_; (try simp)) | (refine AW.ret ?_; (try simp)) | (refine AW.exit ?_; (try simp)))
  refine CallS.pure (text_ok (d + 1) hd) (by first | exact plain_d _ | exact plain_tup2 _ _ | exact plain_tup3 _ _ _) rfl (fun _ => rfl) (Subs.refl _) ?_
  (try simp; try simp (disch := omega) only [w64, wu64])
  repeat (first | refine AW.seq ?_ | refine AW.block ?_ | (refine AW.reg mix ?_; (simp; try simp (disch := omega) only [w64, wu64])) | (refine need.of (by first | omega | kernel_rfl) ?_) | (refine AW.skip ?_; (try simp)) | (refine AW.ret ?_; (try simp)) | (refine AW.exit ?_; (try simp)))
end Go.Proofs.YtakjegcjeffmgaaDoor.Am
