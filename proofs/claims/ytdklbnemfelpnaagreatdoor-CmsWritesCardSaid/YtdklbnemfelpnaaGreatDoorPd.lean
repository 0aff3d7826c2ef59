/- Parts of the proof: Nat4, Nat5, Nat6, Rat1, Text1, Tape1, Float1, Flip1, Flip2, Morris1, Chain1, YuM, DivM, Nat7, Yu1, YuX, YuW, YuAt, YuAt2, Yu2, Float2, Yu3, Chain2, Chain3, Chain4, Chain5, Chain6, ChainP, Chain7, Chain8, ChainA, ChainM, ChainB, ChainC, ChainD, ChainE, Chain9, ChainF, ThinM, Thin1, Thin2, Thin3, Reg1, BitsM. -/
import Derived.Test.YtdklbnemfelpnaaGreatDoorPc
set_option linter.unusedVariables false
set_option linter.unusedSimpArgs false
set_option maxRecDepth 100000
namespace Go.Proofs.YtdklbnemfelpnaaGreatDoor.Am
section
open Go.RowKit
def rowM (k : Nat) (A : List Nat) (i : Nat) : List Nat := movedL k 0 (A.take i) ++ List.replicate (A.length - i) 0
theorem o_jk (k : Nat) (A : List Nat) (i : Nat) (h : i ≤ A.length) : (rowM k A i).length = A.length + 1 := by
 rw [rowM, List.length_append, o_hz, List.length_take, List.length_replicate]; omega
theorem o_jl (k : Nat) (A : List Nat) : rowM k A 0 = List.replicate (A.length + 1) 0 := by simp [rowM, movedL, List.replicate_succ]
theorem o_jm (k : Nat) (A : List Nat) : rowM k A A.length = movedL k 0 A := by simp [rowM]
theorem o_jn (k : Nat) (A : List Nat) (i : Nat) (h : i < A.length) : (rowM k A i).getD i 0 = movedC k 0 (A.take i) := by
 have e : i = (movedB k 0 (A.take i)).length := by rw [o_i3, List.length_take]; omega
 rw [rowM, o_i2, List.append_assoc, List.getD, List.getElem?_append_right (by omega), show i - (movedB k 0 (A.take i)).length = 0 by omega]
 rfl
theorem o_jo (k : Nat) (A : List Nat) (i : Nat) (h : i < A.length) : ((rowM k A i).set i (A.getD i 0 * 2 ^ k % 18446744073709551616 + movedC k 0 (A.take i))).set (i + 1) (A.getD i 0 * 2 ^ k / 18446744073709551616) = rowM k A (i + 1) := by
 have e : (movedB k 0 (A.take i)).length = i := by rw [o_i3, List.length_take]; omega
 obtain ⟨r, hr⟩ : ∃ r, A.length = i + r + 1 := ⟨A.length - i - 1, by omega⟩
 rw [rowM, rowM, o_i2, o_i2, o_hu _ _ h, o_i4, o_i5, hr, show i + r + 1 - i = r + 1 by omega, show i + r + 1 - (i + 1) = r by omega, List.replicate_succ]
 simp only [List.append_assoc, List.cons_append, List.nil_append]
 rw [List.set_append_right _ _ (by omega), List.set_append_right _ _ (by omega), e]
 simp

def cellM (k : Nat) (A : List Nat) (i : Nat) : List V := U (rowM k A i)
@[simp] theorem o_jp (n : Nat) (l : List Nat) : V.lowl n (U l) = true := by induction l <;> simp_all [U, V.lowl, V.low]

set_option maxHeartbeats 1000000 in
theorem o_jq (A : List Nat) (k : Nat) (hk : k < 64) (hs : small A) (hn : A.length ≤ 1000000) : Eqn Tryz.prog o_e9 [.d (W A), .d (.int .i64 k)] [] (.d (W (movedL k 0 A))) [] := by
 refine Eqn.pure o_eb (o_42 _) ?_
 simp only [o_ea, W]
 refine G0 ?_; try with_reducible exact tt
 rw [show List.replicate (A.length + 1) (V.d (.int .u64 0)) = cellM k A 0 by rw [cellM, o_jl]; simp [U]]
 have hlow : ∀ i, V.lowl 1 (cellM k A i) = true := fun i => o_jp 1 _
 refine AW.loopT (α := Nat) 1 (fun i => [(14, .d (.int .i64 (i : Int)))]) (fun i => [(0, ⟨129, cellM k A i⟩)]) (fun i => i ≤ A.length) (fun i => A.length - i) 0 ?_ ?_ (Nat.zero_le _) ?_ ?_ ?_
 ·simp
 ·simp
 ·simp
 ·simp [hlow]
 rintro i hi
 simp
 by_cases h : i = A.length
 ·subst h
  refine G0 ?_; try with_reducible exact tt
  refine AW.cond rfl (fun h => ?_) (fun h => ?_)
  ·simp at h
  refine AW.exit ?_
  (try (simp -implicitDefEqProofs; try simp (disch := omega) only [w64, wu64]))
  have hl : (movedL k 0 A).length = A.length + 1 := o_hz _ _ _
  rw [cellM, o_jm]
  generalize movedL k 0 A = ws at hl
  refine AW.freeze 0 1 ⟨129, _⟩ (ws.map fun x : Nat => .int .u64 x) (by rfl) (by simp) ?_
  simp [← hl, List.take_of_length_le]
  refine G0 ?_; try with_reducible exact tt
 ·have hi' : i < A.length := by omega
  have hp : (i : Int) < A.length := by omega
  obtain ⟨c, y, u, hl, hq, hor, hw, hd, hset⟩ : ∃ c z u : Nat, (cellM k A i).length = A.length + 1 ∧ (cellM k A i)[i]? = some (.d (.int .u64 c)) ∧ bits BinOp.or IntKind.u64 (c : Int) (IntKind.u64.wrap ((A[i] : Int) * 2 ^ k)) = (z : Int) ∧
    True ∧ (A[i] : Int) / 2 ^ (64 - k) = (u : Int) ∧ ((cellM k A i).set i (.d (.int .u64 z))).set (i + 1) (.d (.int .u64 u)) = cellM k A (i + 1) := by
   have hl := o_jk k A i hi
   have hc := o_i7 (k := k) (l := A.take i) (c := 0) (hs.take i) (Nat.two_pow_pos k)
   have hset := o_jo k A i hi'
   rw [← o_iw hi'] at hset
   refine ⟨movedC k 0 (A.take i), A[i] * 2 ^ k % 18446744073709551616 + movedC k 0 (A.take i), A[i] * 2 ^ k / 18446744073709551616, by simp [cellM, U, hl], ?_, ?_, trivial, ?_, ?_⟩
   ·have := o_jn k A i hi'
    rw [List.getD, List.getElem?_eq_getElem (by omega)] at this
    rw [cellM, U, List.getElem?_map, List.getElem?_eq_getElem (by omega)]
    simp at this
    simp [this]
   ·rw [show IntKind.u64.wrap ((A[i] : Int) * 2 ^ k) = ((A[i] * 2 ^ k % 18446744073709551616 : Nat) : Int) by rw [IntKind.wrap_u64, Int.natCast_emod, Int.natCast_mul, Int.natCast_pow]; rfl]
    rw [bits_or_u64_nat _ _ (Nat.lt_of_lt_of_le hc (by rw [show (18446744073709551616 : Nat) = 2 ^ 64 by rfl]; exact Nat.pow_le_pow_right (by decide) (by omega))) (Nat.mod_lt _ (by decide)), o_i8 hk hc]
   ·rw [o_i9 (by omega), Int.natCast_ediv, Int.natCast_pow]; rfl
   ·rw [cellM, cellM, ← hset, U, U, List.map_set, List.map_set]
  have hn : ((64 : Int) - k).toNat = 64 - k := by omega
  have e1 : IntKind.i64.wrap ((i : Int) + 1) = (i : Int) + 1 := w64 (by omega) (by omega)
  have e2 : IntKind.i64.wrap ((64 : Int) - k) = (64 : Int) - k := w64 (by omega) (by omega)
  generalize cellM k A i = cm at hl hq hset
  refine G1 (fs hi' hp) ?_; try with_reducible exact tt
  refine AW.cond rfl (fun h => ?_) (fun h => ?_)
  ·clear h
   refine G1 (fs hi' (fs hp (fs hl (fs hq (fs hor (fs e1 (fs e2 (fs hn (fs hd hset))))))))) ?_; try with_reducible exact tt
   exact ⟨i + 1, by omega, by omega, by simp [wk], by simp [wkH, hlow]⟩
  ·simp at h
end
end Go.Proofs.YtdklbnemfelpnaaGreatDoor.Am
namespace Go.Proofs.YtdklbnemfelpnaaGreatDoor.Am
section
open Go.RowKit
set_option maxHeartbeats 1000000 in
theorem o_jr (a n : Nat) (ha : size a ≤ 1000000) (hn : n ≤ 8192) : Eqn Tryz.prog o_f0 [.d (.agg [natW a]), .d (.int .i64 n)] [] (.tup [.d (.agg [natW (a * 2 ^ n)]), .d (.int .i64 0)]) [] := by
 refine Eqn.pure o_f2 (o_jd _ _) ?_
 simp only [o_f1, natW, W]
 have h1 : ¬ (n : Int) < 0 := by omega
 have h2 : ¬ (8192 : Int) < n := by omega
 refine G1 (fs h1 h2) ?_; try with_reducible exact tt
 refine AW.cond rfl (fun h => ?_) (fun h => ?_)
 ·simp [h1, h2] at h
 have hq : (n : Int) / 64 = (n / 64 : Nat) := rfl
 have hr : (n : Int).tmod 64 = (n % 64 : Nat) := by rw [Int.tmod_eq_emod_of_nonneg (by omega)]; rfl
 have hd : n / 64 ≤ 128 := by omega
 have hm : n % 64 < 64 := by omega
 have hv : ∀ l : List Nat, wval l = a → wval (List.replicate (n / 64) 0 ++ movedL (n % 64) 0 l) = a * 2 ^ n := by
  intro l hl
  rw [o_hr, o_hs, o_i0, List.length_replicate, hl, Nat.zero_add, Nat.add_zero]
  rw [show (18446744073709551616 : Nat) = 2 ^ 64 by rfl, ← Nat.pow_mul, Nat.mul_left_comm, ← Nat.pow_add, Nat.div_add_mod]
 replace hv := hv (words a) (o_io a)
 have hsm : small (List.replicate (n / 64) 0 ++ movedL (n % 64) 0 (words a)) := by
  intro x hx
  rcases List.mem_append.1 hx with hx | hx
  ·rw [List.eq_of_mem_replicate hx]; omega
  ·exact o_i1 hm (o_ip a) (Nat.two_pow_pos _) x hx
 have hl := o_hz (n % 64) (words a) 0
 generalize n / 64 = q at *
 generalize n % 64 = r at *
 unfold size at ha
 refine G1 (fs hq hr) ?_; try with_reducible exact tt
 refine CallS.pu (o_jq (words a) r hm (o_ip a) (by omega)) ?_
 (try (simp -implicitDefEqProofs [W, hl]; try simp (disch := omega) only [w64, wu64]))
 repeat (first | refine AW.seq ?_ | refine AW.block ?_ | (refine AW.reg mix ?_; simp -implicitDefEqProofs [W, hl]; try simp (disch := omega) only [w64, wu64]) | (refine need.of (by first | omega | kernel_rfl) ?_) | (refine AW.fin ?_; try simp -implicitDefEqProofs [W, hl]))
 have hlen : (List.replicate q 0 ++ movedL r 0 (words a)).length = q + ((words a).length + 1) := by simp [hl]
 have hcell : List.replicate q (V.d (.int .u64 0)) ++ List.map (V.d ∘ fun x : Nat => D.int .u64 x) (movedL r 0 (words a)) = ((List.replicate q 0 ++ movedL r 0 (words a)).map fun x : Nat => D.int .u64 x).map V.d := by simp
 rw [hcell]
 generalize List.replicate q 0 ++ movedL r 0 (words a) = ws at *
 have hlen2 : q + ((words a).length + 1) = ws.length := hlen.symm
 refine CallS.pf 3 1 ⟨129, _⟩ (ws.map fun x : Nat => .int .u64 x) (o_ix ws hsm (by omega)) (by first | rfl | (simp [natW, W, hlen2, List.take_of_length_le]; done)) ?_
 (try (simp -implicitDefEqProofs [natW, W, hlen2, List.take_of_length_le]; try simp (disch := omega) only [w64, wu64]))
 repeat (first | refine AW.seq ?_ | refine AW.block ?_ | (refine AW.reg mix ?_; simp -implicitDefEqProofs [natW, W, hlen2, List.take_of_length_le]; try simp (disch := omega) only [w64, wu64]) | (refine need.of (by first | omega | kernel_rfl) ?_) | (refine AW.fin ?_; try simp -implicitDefEqProofs [natW, W, hlen2, List.take_of_length_le]))
 refine Sub1.of ?_
 rw [hv]
end
end Go.Proofs.YtdklbnemfelpnaaGreatDoor.Am
namespace Go.Proofs.YtdklbnemfelpnaaGreatDoor.Am
section
open Go.RowKit
theorem o_js {x : Nat} (h0 : 0 < x) (h : x < 18446744073709551616) : words x = [x] := by
 have := o_ir (ws := [x]) (by intro y hy; simp at hy; omega) (by intro k hk; simp at hk; subst hk; simp; omega)
 simpa [wval] using this
theorem o_jt {x : Nat} (h : x < 18446744073709551616) : small [x] := by intro y hy; simp at hy; omega

theorem Sub1.tup {l r : List V} (h : Subs l r) : Sub1 (.tup l) (.tup r) := fun m v k => by
 unfold V.rep at k ⊢
 obtain ⟨vs, h1, h2⟩ := k
 exact ⟨vs, h1, h m vs h2⟩
theorem Subs.cons {x y : V} {l r : List V} (h : Sub1 x y) (h' : Subs l r) : Subs (x :: l) (y :: r) := fun m vs k => by
 obtain ⟨v, r, rfl, h1, h2⟩ := V.reps_cons'.1 k
 exact V.reps_cons.2 ⟨h m v h1, h' m r h2⟩
theorem Sub1.nat0 : Sub1 (.d (.agg [.nilsl])) (.d (.agg [natW 0])) := fun m v k => by
 rw [V.rep_d] at k ⊢
 unfold D.rep at k ⊢
 obtain ⟨vs, h1, h2, h3⟩ := k
 refine ⟨vs, h1, h2, ?_⟩
 obtain ⟨u, r, rfl, h4, h5⟩ := D.reps_cons'.1 h3
 have := (V.rep_d (m := m)).1 (Sub1.nil m u (V.rep_d.2 h4))
 exact D.reps_cons.2 ⟨this, h5⟩

theorem o_ju {m n : Nat} : cmpZ m n < 0 ↔ m < n := by unfold cmpZ; split <;> (try split) <;> omega
theorem o_jv (x y : Nat) (hx : x < 18446744073709551616) (h0 : 0 < y) : Eqn Tryz.prog o_c3 [.d (.int .u64 0), .d (.int .u64 x), .d (.int .u64 y)] [] (.tup [.d (.int .u64 (x / y : Nat)), .d (.int .u64 (x % y : Nat))]) [] := by
 refine Eqn.pure o_c5 (o_jd _ _) ?_
 simp only [o_c4]
 have h1 : ¬ (y : Int) = 0 := by omega
 have h1' : ¬ y = 0 := by omega
 have h2 : ¬ (y : Int) ≤ 0 := by omega
 refine G1 (fs h1 (fs h2 h1')) ?_; try with_reducible exact tt
 refine AW.cond rfl (fun h => ?_) (fun h => ?_)
 ·simp [h1'] at h
 refine G1 (fs h1 (fs h2 h1')) ?_; try with_reducible exact tt
 refine AW.cond rfl (fun h => ?_) (fun h => ?_)
 ·simp [h1', h2] at h
 refine G1 (fs h1 (fs h2 h1')) ?_; try with_reducible exact tt
 refine AW.cond rfl (fun h => ?_) (fun h => ?_)
 ·have hle := Nat.div_le_self x y
  have e1 : IntKind.u64.wrap ((x : Int) / y) = (x : Int) / y := by
   rw [← Int.natCast_ediv]
   generalize x / y = q at *
   exact wu64 (by omega) (by omega)
  have e2 : (x : Int).tmod y = ((x % y : Nat) : Int) := by rw [Int.tmod_eq_emod_of_nonneg (by omega)]; rfl
  refine G1 (fs h1 (fs h2 (fs h1' (fs e1 e2)))) ?_; try with_reducible exact tt
 ·simp at h

theorem o_jw (x y : Nat) (hx : x < 18446744073709551616) (h0 : 0 < y) (hy : y < 18446744073709551616) : Eqn Tryz.prog o_9o [.d (.sl 1 [.int .u64 x]), .d (.int .u64 y)] [] (.tup [.d (.sl 1 [.int .u64 (x / y : Nat)]), .d (.int .u64 (x % y : Nat))]) [] := by
 refine Eqn.pure o_9q (o_jd _ _) ?_
 simp only [o_9p]
 refine G0 ?_; try with_reducible exact tt
 refine AW.loopT (α := Nat) 1 (fun i => [(8, .d (.int .i64 ((i : Int) - 1))), (7, .d (.int .u64 (if i = 0 then (x % y : Nat) else 0)))]) (fun i => [(0, ⟨129, [.d (.int .u64 (if i = 0 then (x / y : Nat) else 0))]⟩)]) (fun i => i ≤ 1) (fun i => i) 1 ?_ ?_ (Nat.le_refl _) ?_ ?_ ?_
 ·simp
 ·simp
 ·simp
 ·simp
 rintro i hi
 simp
 cases i with
 | zero =>
  refine G0 ?_; try with_reducible exact tt
  refine AW.cond rfl (fun h => ?_) (fun h => ?_)
  ·simp at h
  refine AW.exit ?_
  (try (simp -implicitDefEqProofs; try simp (disch := omega) only [w64, wu64]))
  refine AW.freeze 0 1 ⟨129, _⟩ [.int .u64 (x / y : Nat)] (by rfl) (by simp) ?_
  simp
  refine G0 ?_; try with_reducible exact tt
 | succ i =>
  obtain rfl : i = 0 := by omega
  refine G0 ?_; try with_reducible exact tt
  refine AW.cond rfl (fun h => ?_) (fun h => ?_)
  ·refine G0 ?_; try with_reducible exact tt
   refine CallS.pu (o_jv x y hx h0) (R0 ?_); try with_reducible exact tt
   exact ⟨0, by omega, rfl, by simp, by simp⟩
  ·simp at h
end
end Go.Proofs.YtdklbnemfelpnaaGreatDoor.Am
namespace Go.Proofs.YtdklbnemfelpnaaGreatDoor.Am
section
open Go.RowKit
theorem o_jx {x : Nat} (h : x < 18446744073709551616) : size x ≤ 1 := by
 rw [size]
 rcases Nat.eq_zero_or_pos x with rfl | h0
 ·simp [words, wordsF]
 ·rw [o_js h0 h]; simp
end
end Go.Proofs.YtdklbnemfelpnaaGreatDoor.Am
namespace Go.Proofs.YtdklbnemfelpnaaGreatDoor.Am
section
open Go.RowKit
def lit1 : ByteArray := ⟨#[48, 49, 50, 51, 52, 53, 54, 55, 56, 57, 97, 98, 99, 100, 101, 102, 103, 104, 105, 106, 107, 108, 109, 110, 111, 112, 113, 114, 115, 116, 117, 118, 119, 120, 121, 122]⟩
def lit2 : ByteArray := ⟨#[48, 48, 48, 49, 48, 50, 48, 51, 48, 52, 48, 53, 48, 54, 48, 55, 48, 56, 48, 57, 49, 48, 49, 49, 49, 50, 49, 51, 49, 52, 49, 53, 49, 54, 49, 55, 49, 56, 49, 57, 50, 48, 50, 49, 50, 50, 50, 51, 50, 52, 50, 53, 50, 54, 50, 55, 50, 56, 50, 57, 51, 48, 51, 49, 51, 50, 51, 51, 51, 52, 51, 53, 51, 54, 51, 55, 51, 56, 51, 57, 52, 48, 52, 49, 52, 50, 52, 51, 52, 52, 52, 53, 52, 54, 52, 55, 52, 56, 52, 57, 53, 48, 53, 49, 53, 50, 53, 51, 53, 52, 53, 53, 53, 54, 53, 55, 53, 56, 53, 57, 54, 48, 54, 49, 54, 50, 54, 51, 54, 52, 54, 53, 54, 54, 54, 55, 54, 56, 54, 57, 55, 48, 55, 49, 55, 50, 55, 51, 55, 52, 55, 53, 55, 54, 55, 55, 55, 56, 55, 57, 56, 48, 56, 49, 56, 50, 56, 51, 56, 52, 56, 53, 56, 54, 56, 55, 56, 56, 56, 57, 57, 48, 57, 49, 57, 50, 57, 51, 57, 52, 57, 53, 57, 54, 57, 55, 57, 56, 57, 57]⟩
theorem o_jy : lit1.size = 36 := by kernel_rfl
theorem o_jz : lit2.size = 200 := by kernel_rfl
def smallS (n : Nat) : ByteArray := if n < 10 then lit1.extract n (n + 1) else lit2.extract (n * 2) (n * 2 + 2)

theorem o_k0 (n : Nat) (h : n < 100) : Eqn Tryz.prog o_e6 [.d (.int .i64 n)] [] (.d (.str (smallS n))) [] := by
 refine Eqn.pure o_e8 (o_42 _) ?_
 simp only [o_e7]
 rw [show (⟨#[48, 49, 50, 51, 52, 53, 54, 55, 56, 57, 97, 98, 99, 100, 101, 102, 103, 104, 105, 106, 107, 108, 109, 110, 111, 112, 113, 114, 115, 116, 117, 118, 119, 120, 121, 122]⟩ : ByteArray) = lit1 from rfl, show (⟨#[48, 48, 48, 49, 48, 50, 48, 51, 48, 52, 48, 53, 48, 54, 48, 55, 48, 56, 48, 57, 49, 48, 49, 49, 49, 50, 49, 51, 49, 52, 49, 53, 49, 54, 49, 55, 49, 56, 49, 57, 50, 48, 50, 49, 50, 50, 50, 51, 50, 52, 50, 53, 50, 54, 50, 55, 50, 56, 50, 57, 51, 48, 51, 49, 51, 50, 51, 51, 51, 52, 51, 53, 51, 54, 51, 55, 51, 56, 51, 57, 52, 48, 52, 49, 52, 50, 52, 51, 52, 52, 52, 53, 52, 54, 52, 55, 52, 56, 52, 57, 53, 48, 53, 49, 53, 50, 53, 51, 53, 52, 53, 53, 53, 54, 53, 55, 53, 56, 53, 57, 54, 48, 54, 49, 54, 50, 54, 51, 54, 52, 54, 53, 54, 54, 54, 55, 54, 56, 54, 57, 55, 48, 55, 49, 55, 50, 55, 51, 55, 52, 55, 53, 55, 54, 55, 55, 55, 56, 55, 57, 56, 48, 56, 49, 56, 50, 56, 51, 56, 52, 56, 53, 56, 54, 56, 55, 56, 56, 56, 57, 57, 48, 57, 49, 57, 50, 57, 51, 57, 52, 57, 53, 57, 54, 57, 55, 57, 56, 57, 57]⟩ : ByteArray) = lit2 from rfl]
 have e1 := o_jy
 have e2 := o_jz
 generalize hl1 : lit1 = l1 at *
 generalize hl2 : lit2 = l2 at *
 by_cases hs : n < 10
 ·have hs' : (n : Int) < 10 := by omega
  refine G1 hs' ?_; try with_reducible exact tt
  refine AW.cond rfl (fun h => ?_) (fun h => ?_)
  ·have ew : IntKind.i64.wrap ((n : Int) + 1) = (n : Int) + 1 := w64 (by omega) (by omega)
   refine G1 (fs ew e1) ?_; try with_reducible exact tt
   refine Sub1.of ?_
   rw [smallS, if_pos hs, hl1]
  ·simp [hs] at h
 ·have hs' : ¬ (n : Int) < 10 := by omega
  refine G1 hs' ?_; try with_reducible exact tt
  refine AW.cond rfl (fun h => ?_) (fun h => ?_)
  ·simp [hs] at h
  ·have ew : IntKind.i64.wrap ((n : Int) * 2) = (n : Int) * 2 := w64 (by omega) (by omega)
   have ew2 : IntKind.i64.wrap ((n : Int) * 2 + 2) = (n : Int) * 2 + 2 := w64 (by omega) (by omega)
   refine G1 (fs ew (fs ew2 e2)) ?_; try with_reducible exact tt
   refine Sub1.of ?_
   rw [smallS, if_neg hs, hl2, show ((n : Int) * 2).toNat = n * 2 by omega, show ((n : Int) * 2 + 2).toNat = n * 2 + 2 by omega]

theorem o_k1 (n : Nat) : (smallS n).size ≤ 2 := by
 unfold smallS
 split <;> rw [ByteArray.size_extract] <;> omega
@[simp] theorem o_k2 : ByteArray.size ⟨#[]⟩ = 0 := rfl
@[simp] theorem o_k3 : ByteArray.size ⟨#[47]⟩ = 1 := rfl
theorem o_k4 (s : ByteArray) : s ++ (⟨#[]⟩ : ByteArray) = s := by
 exact ByteArray.append_empty
theorem o_k5 (n : Nat) (h : n < 100) : Eqn Tryz.prog o_c6 [.d (.int .u64 n), .d (.int .i64 10)] [] (.d (.str (smallS n))) [] := by
 refine Eqn.pure o_c8 (o_42 _) ?_
 simp only [o_c7]
 have h1 : (n : Int) < 100 := by omega
 refine G1 h1 ?_; try with_reducible exact tt
 refine AW.cond rfl (fun h => ?_) (fun h => ?_)
 ·refine G1 h1 ?_; try with_reducible exact tt
  refine AW.cond rfl (fun h => ?_) (fun h => ?_)
  ·have e : IntKind.i64.wrap (n : Int) = n := w64 (by omega) (by omega)
   refine G1 e ?_; try with_reducible exact tt
   refine CallS.pu (o_k0 n (by omega)) (R0 ?_); try with_reducible exact tt
  ·simp [h1] at h
 ·simp at h

theorem o_k6 (n : Nat) (h : n < 100) : Eqn Tryz.prog o_9u [.d (.int .u64 n), .d (.int .i64 10)] [] (.d (.str (smallS n))) [] := by
 refine Eqn.pure o_9w (o_42 _) ?_
 simp only [o_9v]
 refine G0 ?_; try with_reducible exact tt
 refine CallS.pu (o_k5 n h) (R0 ?_); try with_reducible exact tt

theorem o_k7 (n : Nat) (h : n < 100) : Eqn Tryz.prog o_70 [.d (.agg [natW n])] [] (.d (.str (smallS n))) [] := by
 refine Eqn.pure o_72 (o_42 _) ?_
 simp only [o_71]
 refine G0 ?_; try with_reducible exact tt
 refine CallS.pu (o_iz n) (R0 ?_); try with_reducible exact tt
 rcases Nat.eq_zero_or_pos n with rfl | h0
 ·refine AW.cond rfl (fun h => ?_) (fun h => ?_)
  ·refine G0 ?_; try with_reducible exact tt
   exact Sub1.of (by kernel_rfl)
  ·simp at h
 have e : natW n = .sl 1 [.int .u64 n] := by rw [natW, o_js h0 (by omega)]; rfl
 have hz : ¬ n = 0 := by omega
 refine AW.cond rfl (fun h => ?_) (fun h => ?_)
 ·simp [hz] at h
 refine G1 e ?_; try with_reducible exact tt
 refine AW.loopT (α := Nat) 1 (fun i => [(4, .d (if i = 0 then .sl 0 [] else .sl 1 [.int .u64 n])), (3, .d (if i = 0 then .str (smallS n) else .str ⟨#[]⟩))]) (fun i => []) (fun i => i ≤ 1) (fun i => i) 1 ?_ ?_ (Nat.le_refl _) ?_ ?_ ?_
 ·simp
 ·simp
 ·simp
 ·simp
 rintro i hi
 simp
 cases i with
 | zero =>
  refine G0 ?_; try with_reducible exact tt
  refine AW.cond rfl (fun h => ?_) (fun h => ?_)
  ·simp at h
  refine G0 ?_; try with_reducible exact tt
 | succ i =>
  obtain rfl : i = 0 := by omega
  refine G0 ?_; try with_reducible exact tt
  refine AW.cond rfl (fun h => ?_) (fun h => ?_)
  ·refine G0 ?_; try with_reducible exact tt
   have hs := o_jw n 1000000000000000000 (by omega) (by omega) (by omega)
   rw [show n / 1000000000000000000 = 0 by omega, show n % 1000000000000000000 = n by omega] at hs
   refine CallS.pu (hs) (R0 ?_); try with_reducible exact tt
   have ht := o_ix [0] (o_jt (by omega)) (by simp)
   rw [show wval [0] = 0 by rfl] at ht
   refine CallS.pu (ht) (R0 ?_); try with_reducible exact tt
   refine CallS.pu (o_k6 n (by omega)) ?_
   (try (simp -implicitDefEqProofs [o_iu]; try simp (disch := omega) only [w64, wu64]))
   repeat (first | refine AW.seq ?_ | refine AW.block ?_ | (refine AW.reg mix ?_; simp -implicitDefEqProofs [o_iu]; try simp (disch := omega) only [w64, wu64]) | (refine need.of (by first | omega | kernel_rfl) ?_) | (refine AW.fin ?_; try simp -implicitDefEqProofs [o_iu]))
   refine AW.cond rfl (fun h => ?_) (fun h => ?_)
   ·simp at h
   have s1 := o_k1 n
   have sn := o_k4 (smallS n)
   repeat (first | refine AW.seq ?_ | refine AW.block ?_ | (refine AW.reg mix ?_; simp -implicitDefEqProofs [o_iu, sn]; try simp (disch := omega) only [w64, wu64]) | (refine need.of (by first | omega | kernel_rfl) ?_) | (refine AW.fin ?_; try simp -implicitDefEqProofs [o_iu, sn]))
   exact ⟨0, by omega, rfl, by simp [sn], by simp⟩
  ·simp at h

theorem o_k8 (n : Nat) (h : n < 100) : Eqn Tryz.prog o_6x [.d (.agg [natW n, .bool false])] [] (.d (.str (smallS n))) [] := by
 refine Eqn.pure o_6z (o_42 _) ?_
 simp only [o_6y]
 refine G0 ?_; try with_reducible exact tt
 refine AW.cond rfl (fun h => ?_) (fun h => ?_)
 ·simp at h
 refine G0 ?_; try with_reducible exact tt
 refine CallS.pu (o_k7 n (by omega)) (R0 ?_); try with_reducible exact tt
end
end Go.Proofs.YtdklbnemfelpnaaGreatDoor.Am
namespace Go.Proofs.YtdklbnemfelpnaaGreatDoor.Am
section
open Go.RowKit
def BL (cs : List Bool) : D := .sl cs.length (cs.map .bool)
abbrev tapeO (cs : List Bool) (p : Nat) (dead : Bool) : Ob := ⟨t_tape_Tape, [.d (.int .i64 p), .d (.bool dead), .d (BL cs)]⟩

def flipB (cs : List Bool) (p : Nat) (dead : Bool) : Bool := if dead ∨ p = cs.length then false else cs.getD p false
def flipE (cs : List Bool) (p : Nat) (dead : Bool) : Int := if dead ∨ p = cs.length then 8 else 0
def flipP (cs : List Bool) (p : Nat) (dead : Bool) : Nat := if dead ∨ p = cs.length then p else p + 1
def flipD (cs : List Bool) (p : Nat) (dead : Bool) : Bool := if dead ∨ p = cs.length then true else dead

theorem o_k9 (n : Nat) (l : List D) (hl : l.length = n) (hn : n ≤ 4000000) : Eqn Tryz.prog o_83 [.d (.sl n l)] [] (.d (.sl n l)) [] := by
 refine Eqn.pure o_85 (o_42 _) ?_
 simp only [o_84]
 rcases Nat.eq_zero_or_pos n with rfl | h0
 ·have : l = [] := List.eq_nil_of_length_eq_zero hl
  subst this
  refine AW.empty 0 rfl ?_ ?_
  ·simp
   refine G0 ?_; try with_reducible exact tt
   refine AW.cond rfl (fun h => ?_) (fun h => ?_)
   ·refine G0 ?_; try with_reducible exact tt
    exact Sub1.nil
   ·simp at h
  ·simp
   refine G0 ?_; try with_reducible exact tt
   refine AW.cond rfl (fun h => ?_) (fun h => ?_)
   ·simp at h
   ·refine G0 ?_; try with_reducible exact tt
    exact Sub1.sl0
 ·refine G1 h0 ?_; try with_reducible exact tt
  refine AW.cond rfl (fun h => ?_) (fun h => ?_)
  ·simp at h
  ·refine G0 ?_; try with_reducible exact tt
   have h1 : ¬ n = 0 := by omega
   simp [h1, hl]
   refine need.of (by omega) ?_
   refine AW.freeze 0 1 ⟨4, l.map .d⟩ l (by simp) rfl ?_
   simp
   refine G0 ?_; try with_reducible exact tt
   have : l.take n = l := List.take_of_length_le (by omega)
   simp [this]

theorem o_ka (cs : List Bool) (p : Nat) (dd : Bool) (hp : p ≤ cs.length) (hn : cs.length ≤ 4000000) : Eqn Tryz.prog o_ff [.p 0 0] [tapeO cs p dd] (.tup [.d (.bool (flipB cs p dd)), .d (.int .i64 (flipE cs p dd))]) [tapeO cs (flipP cs p dd) (flipD cs p dd)] := by
 refine Eqn.obj1 o_fh (o_jd _ _) ⟨rfl, fun _ => rfl⟩ ?_
 simp only [o_fg, tapeO, BL]
 cases dd with
 | true =>
  refine G0 ?_; try with_reducible exact tt
  refine AW.cond rfl (fun h => ?_) (fun h => ?_)
  ·refine G0 ?_; try with_reducible exact tt
   simp [flipB, flipE, flipP, flipD]
  ·simp at h
 | false =>
  by_cases h : p = cs.length
  ·subst h
   refine G0 ?_; try with_reducible exact tt
   refine AW.cond rfl (fun h => ?_) (fun h => ?_)
   ·refine G0 ?_; try with_reducible exact tt
    simp [flipB, flipE, flipP, flipD]
   ·simp at h
  ·have h1 : ¬ (p : Int) = cs.length := by omega
   have h2 : p < cs.length := by omega
   refine G1 (fs h1 h) ?_; try with_reducible exact tt
   refine AW.cond rfl (fun h => ?_) (fun h => ?_)
   ·simp [h1] at h
   ·have e1 : IntKind.i64.wrap ((p : Int) + 1) = (p : Int) + 1 := w64 (by omega) (by omega)
    have e2 : IntKind.i64.wrap ((p : Int) + 1 - 1) = (p : Int) := by rw [Int.add_sub_cancel]; exact w64 (by omega) (by omega)
    refine G1 (fs h1 (fs h2 (fs e1 e2))) ?_; try with_reducible exact tt
    have h4 : ¬ p = cs.length := by omega
    have h3 : cs[p]?.getD false = cs[p] := by simp [h2]
    simp [flipB, flipE, flipP, flipD, h4, h3]

def halfR (cs : List Bool) : Nat → Nat → Bool → Bool × Int × Nat × Bool
 | 0, p, dd => (true, 0, p, dd)
 | k + 1, p, dd => if flipB cs p dd then halfR cs k (flipP cs p dd) (flipD cs p dd) else (false, flipE cs p dd, flipP cs p dd, flipD cs p dd)

theorem o_kb {cs : List Bool} {p : Nat} {dd : Bool} (h : p ≤ cs.length) : flipP cs p dd ≤ cs.length := by
 unfold flipP; split
 ·exact h
 ·rename_i h'; rw [not_or] at h'; omega

theorem o_kc (cs : List Bool) (p : Nat) (dd : Bool) (k : Int) (hk : k ≤ 4000000) (hp : p ≤ cs.length) (hn : cs.length ≤ 4000000) :
  Eqn Tryz.prog o_f9 [.p 0 0, .d (.int .i64 k)] [tapeO cs p dd] (.tup [.d (.bool (halfR cs k.toNat p dd).1), .d (.int .i64 (halfR cs k.toNat p dd).2.1)]) [tapeO cs (halfR cs k.toNat p dd).2.2.1 (halfR cs k.toNat p dd).2.2.2] := by
 refine Eqn.obj1 o_fb (o_jd _ _) ⟨rfl, fun _ => rfl⟩ ?_
 simp only [o_fa]
 obtain ⟨K, hK, hK2⟩ : ∃ K : Nat, K = k.toNat ∧ max 0 k = (K : Int) := ⟨k.toNat, rfl, by omega⟩
 rw [← hK]
 refine G1 hK2 ?_; try with_reducible exact tt
 refine AW.loopT (α := Nat × Nat × Bool) 1 (fun s => [(10, .d (.int .i64 (s.1 : Int)))]) (fun s => [(0, tapeO cs s.2.1 s.2.2)]) (fun s => s.1 ≤ K ∧ s.2.1 ≤ cs.length ∧ halfR cs (K - s.1) s.2.1 s.2.2 = halfR cs K p dd) (fun s => K - s.1) (0, p, dd) ?_ ?_ ⟨Nat.zero_le _, hp, rfl⟩ ?_ ?_ ?_
 ·simp
 ·simp
 ·simp
 ·simp
 rintro ⟨i, q, d⟩ ⟨hi, hq, hR⟩
 simp only at hi hq hR
 rw [← hR]
 simp [-Bool.exists_bool]
 by_cases h : i = K
 ·subst h
  refine G0 ?_; try with_reducible exact tt
  refine AW.cond rfl (fun h => ?_) (fun h => ?_)
  ·simp at h
  refine G0 ?_; try with_reducible exact tt
  simp [halfR]
 ·have hlt : (i : Int) < K := by omega
  have hlt' : i < K := by omega
  obtain ⟨r, hr⟩ : ∃ r, K - i = r + 1 := ⟨K - i - 1, by omega⟩
  refine G1B (fs hlt hlt') ?_; try with_reducible exact tt
  refine AW.cond rfl (fun h => ?_) (fun h => ?_)
  ·refine G0B ?_; try with_reducible exact tt
   refine CallS.o1 0 (o_ka cs q d hq hn) (R0B ?_); try with_reducible exact tt
   refine AW.cond rfl (fun h => ?_) (fun h => ?_)
   ·have hb : flipB cs q d = false := by simpa using h
    refine G0 ?_; try with_reducible exact tt
    simp [hr, halfR, hb]
   ·have hb : flipB cs q d = true := by simpa using h
    have ew : IntKind.i64.wrap ((i : Int) + 1) = (i : Int) + 1 := w64 (by omega) (by omega)
    refine G1B ew ?_; try with_reducible exact tt
    refine ⟨i + 1, flipP cs q d, flipD cs q d, ⟨hlt', o_kb hq, ?_⟩, by omega, by simp, by simp⟩
    rw [hr, halfR, if_pos hb, show K - (i + 1) = r by omega]
  ·simp [hlt'] at h
end
end Go.Proofs.YtdklbnemfelpnaaGreatDoor.Am
namespace Go.Proofs.YtdklbnemfelpnaaGreatDoor.Am
section
open Go.RowKit
theorem o_kd (d : Int) : Eqn Tryz.prog o_gi [.d (.int .i64 d)] [] (.d (.bool (decide (0 ≤ d ∧ d ≤ 8)))) [] := by
 refine Eqn.pure o_gk (o_42 _) ?_
 simp only [o_gj]
 by_cases h : 0 ≤ d
 ·refine G1 h ?_; try with_reducible exact tt
 ·refine G1 h ?_; try with_reducible exact tt

def okK (k : Int) : Bool := decide (0 ≤ k ∧ k ≤ 1023)
def wrongZ (d : Int) (ks : List Int) : Int := if 0 ≤ d ∧ d ≤ 8 then (if ks.all okK then 0 else 2) else 10

theorem o_ke (d : Int) (ks : List Int) (hn : ks.length ≤ 1000000) : Eqn Tryz.prog o_gr [.d (.int .i64 d), .d (.sl ks.length (ks.map fun k : Int => .int .i64 k))] [] (.d (.int .i64 (wrongZ d ks))) [] := by
 refine Eqn.pure o_gt (o_42 _) ?_
 simp only [o_gs]
 refine G0 ?_; try with_reducible exact tt
 refine CallS.pu (o_kd d) (R0 ?_); try with_reducible exact tt
 by_cases hd : 0 ≤ d ∧ d ≤ 8
 ·refine AW.cond rfl (fun h => ?_) (fun h => ?_)
  ·simp [hd] at h
  refine G0 ?_; try with_reducible exact tt
  refine AW.loopT (α := Nat) 0 (fun i => [(12, .d (.int .i64 (i : Int)))]) (fun i => []) (fun i => i ≤ ks.length ∧ (ks.take i).all okK = true) (fun i => ks.length - i) 0 ?_ ?_ ⟨Nat.zero_le _, by simp⟩ ?_ ?_ ?_
  ·simp
  ·simp
  ·simp
  ·simp
  rintro i ⟨hi, hall⟩
  simp
  by_cases h : i = ks.length
  ·subst h
   rw [List.take_length] at hall
   refine G0 ?_; try with_reducible exact tt
   refine AW.cond rfl (fun h => ?_) (fun h => ?_)
   ·simp at h
   refine G0 ?_; try with_reducible exact tt
   refine Sub1.int ?_
   rw [wrongZ, if_pos hd, if_pos hall]
  ·have hi' : i < ks.length := by omega
   have hp : (i : Int) < ks.length := by omega
   refine G1 (fs hi' hp) ?_; try with_reducible exact tt
   refine AW.cond rfl (fun h => ?_) (fun h => ?_)
   ·have hbad : okK ks[i] = false → wrongZ d ks = 2 := by
     intro hb
     rw [wrongZ, if_pos hd, if_neg]
     intro ha
     rw [List.all_eq_true] at ha
     have := ha ks[i] (List.getElem_mem _)
     rw [hb] at this; cases this
    by_cases h0 : ks[i] < 0
    ·refine G1 (fs hi' (fs hp h0)) ?_; try with_reducible exact tt
     refine AW.cond rfl (fun h => ?_) (fun h => ?_)
     ·refine G0 ?_; try with_reducible exact tt
      refine Sub1.int ?_
      rw [hbad (by simp [okK]; omega)]
     ·simp [h0] at h
    ·by_cases h1 : 1023 < ks[i]
     ·refine G1 (fs hi' (fs hp (fs h0 h1))) ?_; try with_reducible exact tt
      refine AW.cond rfl (fun h => ?_) (fun h => ?_)
      ·refine G0 ?_; try with_reducible exact tt
       refine Sub1.int ?_
       rw [hbad (by simp [okK]; omega)]
      ·simp [h0, h1] at h
     ·refine G1 (fs hi' (fs hp (fs h0 h1))) ?_; try with_reducible exact tt
      refine AW.cond rfl (fun h => ?_) (fun h => ?_)
      ·simp [h0, h1] at h
      have ew : IntKind.i64.wrap ((i : Int) + 1) = (i : Int) + 1 := w64 (by omega) (by omega)
      refine G1 ew ?_; try with_reducible exact tt
      refine ⟨i + 1, ⟨by omega, ?_⟩, by omega, by simp⟩
      rw [List.take_add_one, List.getElem?_eq_getElem hi']
      intro x hx
      rcases List.mem_append.1 hx with hx | hx
      ·exact List.all_eq_true.1 hall x hx
      ·simp at hx
       subst hx
       simp [okK]; omega
   ·simp [hi'] at h
 ·refine AW.cond rfl (fun h => ?_) (fun h => ?_)
  ·refine G0 ?_; try with_reducible exact tt
   refine Sub1.int ?_
   rw [wrongZ, if_neg hd]
  ·simp at h
   exact absurd h hd

def partV (d k : Nat) : Int := bits .and .i64 k (IntKind.i64.wrap (IntKind.i64.wrap (2 ^ d) - 1))
theorem o_kf (d k : Nat) (hd : d ≤ 8) (hk : k ≤ 1023) : Eqn Tryz.prog o_gu [.d (.int .i64 d), .d (.int .i64 k)] [] (.tup [.d (.int .i64 (k / 2 ^ d : Nat)), .d (.int .i64 (partV d k))]) [] := by
 refine Eqn.pure o_gw (o_jd _ _) ?_
 simp only [o_gv]
 refine G0 ?_; try with_reducible exact tt
 exact Sub1.of rfl

theorem o_kg (d k : Int) : Eqn Tryz.prog o_gr [.d (.int .i64 d), .d (.sl 1 [.int .i64 k])] [] (.d (.int .i64 (wrongZ d [k]))) [] := o_ke d [k] (by simp)
theorem o_kh {d k : Int} {ks : List Int} (h : wrongZ d (k :: ks) = 0) : 0 ≤ d ∧ d ≤ 8 ∧ 0 ≤ k ∧ k ≤ 1023 := by
 unfold wrongZ at h
 split at h
 ·split at h
  ·rename_i h1 h2
   simp [okK] at h2
   omega
  ·omega
 ·omega

def againR (cs : List Bool) (d k j : Int) : Bool × Int × Nat × Bool := if wrongZ d [k, j] = 0 then halfR cs (k.toNat / 2 ^ d.toNat - j.toNat / 2 ^ d.toNat) 0 false else (false, wrongZ d [k, j], 0, false)

def stepR (cs : List Bool) (d k : Int) : Bool × Int × Nat × Bool := if wrongZ d [k] = 0 then halfR cs (k.toNat / 2 ^ d.toNat) 0 false else (false, wrongZ d [k], 0, false)
end
end Go.Proofs.YtdklbnemfelpnaaGreatDoor.Am
namespace Go.Proofs.YtdklbnemfelpnaaGreatDoor.Am
section
open Go.RowKit
theorem o_ki (m n : Nat) (hm : size m ≤ 1000000) (hn : size n ≤ 1000000) (h : m < n) : Eqn Tryz.prog o_a0 [.d (.agg [natW m]), .d (.agg [natW n])] [] (.tup [.d (.agg [.nilsl]), .d (.int .i64 2)]) [] := by
 refine Eqn.pure o_a2 (o_jd _ _) ?_
 simp only [o_a1]
 refine G0 ?_; try with_reducible exact tt
 refine CallS.pu (o_j1 m n hm hn) (R0 ?_); try with_reducible exact tt
 have hc : cmpZ m n = -1 := by unfold cmpZ; rw [if_pos h]
 refine AW.cond rfl (fun h => ?_) (fun h => ?_)
 ·refine G0 ?_; try with_reducible exact tt
 ·simp [hc] at h

theorem o_kj (p q : Nat) (hp : size p ≤ 1000000) (hq : size q ≤ 1000000) : Eqn Tryz.prog o_g3 [.d (.agg [natW p]), .d (.agg [natW q])] [] (.d (.bool (decide (0 < q ∧ p ≤ q)))) [] := by
 refine Eqn.pure o_g5 (o_42 _) ?_
 simp only [o_g4]
 by_cases h : q = 0
 ·subst h
  refine G0 ?_; try with_reducible exact tt
  refine CallS.pu (o_iz 0) (R0 ?_); try with_reducible exact tt
 ·have h0 : (q == 0) = false := by simpa using h
  have hc : decide (cmpZ p q ≤ 0) = decide (0 < q ∧ p ≤ q) := by
   unfold cmpZ
   split
   ·simp; omega
   ·split
    ·simp; omega
    ·simp; omega
  refine G0 ?_; try with_reducible exact tt
  refine CallS.pu (o_iz q) (R1 (fs h0 h) ?_); try with_reducible exact tt
  refine CallS.pu (o_j1 p q hp hq) (R1 (fs h0 h) ?_); try with_reducible exact tt
  try simp [hc]

def ratioR (cs : List Bool) (q : Nat) : Nat → Nat → Nat → Bool → Bool × Int × Nat × Bool
 | 0, _, p, dd => (true, 0, p, dd)
 | f + 1, r, p, dd =>
  if r < q then
   if flipE cs p dd = 0 then
    if flipB cs p dd ≠ decide (q ≤ r + r) ∨ (if q ≤ r + r then r + r - q else r + r) = 0 then (decide (q ≤ r + r) && !flipB cs p dd, 0, flipP cs p dd, flipD cs p dd)
    else ratioR cs q f (if q ≤ r + r then r + r - q else r + r) (flipP cs p dd) (flipD cs p dd)
   else (false, flipE cs p dd, flipP cs p dd, flipD cs p dd)
  else (true, 0, p, dd)
def ratioA (cs : List Bool) (a q : Nat) (p : Nat) (dd : Bool) : Bool × Int × Nat × Bool := if a = 0 then (false, 0, p, dd) else ratioR cs q (cs.length + 1 - p) a p dd

theorem o_kk (cs : List Bool) (a q p : Nat) (dd : Bool) (ha : a ≤ q) (h0 : 0 < q) (hq : q < 9223372036854775808) (hp : p ≤ cs.length) (hn : cs.length ≤ 4000000) :
  Eqn Tryz.prog o_g6 [.p 0 0, .d (.agg [natW a]), .d (.agg [natW q])] [tapeO cs p dd] (.tup [.d (.bool (ratioA cs a q p dd).1), .d (.int .i64 (ratioA cs a q p dd).2.1)]) [tapeO cs (ratioA cs a q p dd).2.2.1 (ratioA cs a q p dd).2.2.2] := by
 refine Eqn.obj1 o_g8 (o_jd _ _) ⟨rfl, fun _ => rfl⟩ ?_
 simp only [o_g7]
 have sz : ∀ {x : Nat}, x < 18446744073709551616 → size x ≤ 1000000 := fun hx => Nat.le_trans (o_jx hx) (by omega)
 have hg := o_kj a q (sz (by omega)) (sz (by omega))
 rw [show decide (0 < q ∧ a ≤ q) = true by simp; omega] at hg
 refine G0B ?_; try with_reducible exact tt
 refine CallS.pu (hg) (R0B ?_); try with_reducible exact tt
 refine AW.cond rfl (fun h => ?_) (fun h => ?_)
 ·simp at h
 clear h
 refine G0B ?_; try with_reducible exact tt
 refine CallS.pu (o_iz a) (R0B ?_); try with_reducible exact tt
 refine AW.cond rfl (fun h => ?_) (fun h => ?_)
 ·have ha0 : a = 0 := by simpa using h
  subst ha0
  refine G0B ?_; try with_reducible exact tt
  simp [ratioA]
 have ha0 : ¬ a = 0 := by simpa using h
 clear h
 rw [ratioA, if_neg ha0]
 obtain ⟨R, hR⟩ : ∃ R, R = ratioR cs q (cs.length + 1 - p) a p dd := ⟨_, rfl⟩
 rw [← hR]
 refine G0B ?_; try with_reducible exact tt
 refine AW.loopS (α := Nat × Nat × Bool) 4 3 (fun s => [(8, .p 3 0)]) (fun s => [(0, tapeO cs s.2.1 s.2.2), (3, ⟨25, [.d (natW s.1)]⟩)]) (fun s => s.1 ≤ q ∧ s.2.1 ≤ cs.length ∧ R = ratioR cs q (cs.length + 1 - s.2.1) s.1 s.2.1 s.2.2) (fun s => cs.length + 1 - s.2.1) (a, p, dd) ?_ ?_ ?_ ?_ ⟨ha, hp, hR⟩ ?_ ?_ ?_
 ·simp
 ·simp
 ·simp
 ·simp
 ·simp
 ·simp
 rintro ⟨r, z, d⟩ ⟨hr, hz, hR⟩
 simp only at hr hz hR
 simp [-Bool.exists_bool]
 obtain ⟨f, hf⟩ : ∃ f, cs.length + 1 - z = f + 1 := ⟨cs.length - z, by omega⟩
 rw [hf, ratioR] at hR
 refine G0B ?_; try with_reducible exact tt
 refine CallS.pu (o_j1 r q (sz (by omega)) (sz (by omega))) (R0B ?_); try with_reducible exact tt
 refine AW.cond rfl (fun h => ?_) (fun h => ?_)
 ·have hlt : r < q := by simpa [o_ju] using h
  clear h
  rw [if_pos hlt] at hR
  refine G0B ?_; try with_reducible exact tt
  refine CallS.o1 0 (o_ka cs z d hz hn) (R0B ?_); try with_reducible exact tt
  by_cases hE : flipE cs z d = 0
  ·have hE2 : flipP cs z d = z + 1 ∧ z < cs.length := by
    unfold flipE at hE
    unfold flipP
    split at hE
    ·omega
    ·rename_i h'
     rw [if_neg h']
     rw [not_or] at h'
     omega
   rw [if_pos hE] at hR
   have ha2 := o_jf r r (sz (by omega)) (sz (by omega))
   generalize flipB cs z d = b at *
   generalize flipD cs z d = d' at *
   rw [hE2.1] at hR ⊢
   have hz' := hE2.2
   clear hE2
   refine AW.cond rfl (fun h => ?_) (fun h => ?_)
   ·simp [hE] at h
   clear h
   refine G0B ?_; try with_reducible exact tt
   refine CallS.pu (ha2) (R0B ?_); try with_reducible exact tt
   by_cases hd : q ≤ r + r
   ·rw [if_pos hd, show decide (q ≤ r + r) = true by simp [hd]] at hR
    refine CallS.pu (o_jj (r + r) q (sz (by omega)) hd) (R0B ?_); try with_reducible exact tt
    refine AW.cond rfl (fun h => ?_) (fun h => ?_)
    ·clear h
     cases b with
     | true =>
      simp only [ne_eq, not_true_eq_false, not_false_eq_true, Bool.true_eq_false, Bool.false_eq_true, reduceCtorEq, false_or, true_or, if_true] at hR
      refine G0B ?_; try with_reducible exact tt
      refine CallS.pu (o_iz (r + r - q)) (R0B ?_); try with_reducible exact tt
      by_cases hz0 : r + r - q = 0
      ·rw [if_pos hz0] at hR
       refine AW.cond rfl (fun h => ?_) (fun h => ?_)
       ·refine G0B ?_; try with_reducible exact tt
        simp [hR]
       ·first | (simp [hz0] at h; done) | (exfalso; simp at h; omega)
      ·rw [if_neg hz0] at hR
       refine AW.cond rfl (fun h => ?_) (fun h => ?_)
       ·first | (simp [hz0] at h; done) | (exfalso; simp at h; omega)
       ·clear h
        refine G0B ?_; try with_reducible exact tt
        refine ⟨r + r - q, z + 1, d', 5, by omega, by omega, ⟨by omega, by omega, by rw [show cs.length + 1 - (z + 1) = f by omega]; exact hR⟩, by omega, ?_⟩
        simp [swT, swH, sw, Ob.sw, V.ren, V.rens, tapeO]
     | false =>
      simp only [ne_eq, not_true_eq_false, not_false_eq_true, Bool.true_eq_false, Bool.false_eq_true, reduceCtorEq, false_or, true_or, if_true] at hR
      refine G0B ?_; try with_reducible exact tt
      refine AW.cond rfl (fun h => ?_) (fun h => ?_)
      ·refine G0B ?_; try with_reducible exact tt
       simp [hR]
      ·simp at h
    ·simp at h
   ·rw [if_neg hd, show decide (q ≤ r + r) = false by simp [hd]] at hR
    refine CallS.pu (o_ki (r + r) q (sz (by omega)) (sz (by omega)) (by omega)) (R0B ?_); try with_reducible exact tt
    refine AW.cond rfl (fun h => ?_) (fun h => ?_)
    ·simp at h
    ·clear h
     cases b with
     | false =>
      simp only [ne_eq, not_true_eq_false, not_false_eq_true, Bool.true_eq_false, Bool.false_eq_true, reduceCtorEq, false_or, true_or, if_true] at hR
      refine G0B ?_; try with_reducible exact tt
      refine CallS.pu (o_iz (r + r)) (R0B ?_); try with_reducible exact tt
      by_cases hz0 : r + r = 0
      ·rw [if_pos hz0] at hR
       refine AW.cond rfl (fun h => ?_) (fun h => ?_)
       ·refine G0B ?_; try with_reducible exact tt
        simp [hR]
       ·first | (simp [hz0] at h; done) | (exfalso; simp at h; omega)
      ·rw [if_neg hz0] at hR
       refine AW.cond rfl (fun h => ?_) (fun h => ?_)
       ·first | (simp [hz0] at h; done) | (exfalso; simp at h; omega)
       ·clear h
        refine G0B ?_; try with_reducible exact tt
        refine ⟨r + r, z + 1, d', 5, by omega, by omega, ⟨by omega, by omega, by rw [show cs.length + 1 - (z + 1) = f by omega]; exact hR⟩, by omega, ?_⟩
        simp [swT, swH, sw, Ob.sw, V.ren, V.rens, tapeO]
     | true =>
      simp only [ne_eq, not_true_eq_false, not_false_eq_true, Bool.true_eq_false, Bool.false_eq_true, reduceCtorEq, false_or, true_or, if_true] at hR
      refine G0B ?_; try with_reducible exact tt
      refine AW.cond rfl (fun h => ?_) (fun h => ?_)
      ·refine G0B ?_; try with_reducible exact tt
       simp [hR]
      ·simp at h
  ·rw [if_neg hE] at hR
   refine AW.cond rfl (fun h => ?_) (fun h => ?_)
   ·refine G0B ?_; try with_reducible exact tt
    simp [hR]
   ·simp [hE] at h
 ·have hlt : ¬ r < q := by simpa [o_ju] using h
  rw [if_neg hlt] at hR
  refine AW.exit ?_
  (try (simp -implicitDefEqProofs [-Bool.exists_bool]; try simp (disch := omega) only [w64, wu64]))
  refine G0B ?_; try with_reducible exact tt
  simp [hR]
end
end Go.Proofs.YtdklbnemfelpnaaGreatDoor.Am
namespace Go.Proofs.YtdklbnemfelpnaaGreatDoor.Am
section
open Go.RowKit
theorem o_kl {cs : List Bool} {q : Nat} : ∀ (f r p : Nat) (dd : Bool), p ≤ cs.length → (ratioR cs q f r p dd).2.2.1 ≤ cs.length
 | 0, _, _, _, h => h
 | f + 1, r, p, dd, h => by
  rw [ratioR]
  generalize (if q ≤ r + r then r + r - q else r + r) = r3
  split
  ·split
   ·split
    ·exact o_kb h
    ·exact o_kl f _ _ _ (o_kb h)
   ·exact o_kb h
  ·exact h
theorem o_km {cs : List Bool} {a q p : Nat} {dd : Bool} (h : p ≤ cs.length) : (ratioA cs a q p dd).2.2.1 ≤ cs.length := by
 rw [ratioA]
 split
 ·exact h
 ·exact o_kl _ _ _ _ h

def powerR (cs : List Bool) (a q : Nat) : Nat → Nat → Bool → Bool × Int × Nat × Bool
 | 0, p, dd => (true, 0, p, dd)
 | k + 1, p, dd => if (ratioA cs a q p dd).1 then powerR cs a q k (ratioA cs a q p dd).2.2.1 (ratioA cs a q p dd).2.2.2 else ratioA cs a q p dd

theorem o_kn (cs : List Bool) (a q p : Nat) (dd : Bool) (k : Int) (ha : a ≤ q) (h0 : 0 < q) (hq : q < 9223372036854775808) (hk : k ≤ 4000000) (hp : p ≤ cs.length) (hn : cs.length ≤ 4000000) :
  Eqn Tryz.prog o_g0 [.p 0 0, .d (.agg [natW a]), .d (.agg [natW q]), .d (.int .i64 k)] [tapeO cs p dd] (.tup [.d (.bool (powerR cs a q k.toNat p dd).1), .d (.int .i64 (powerR cs a q k.toNat p dd).2.1)]) [tapeO cs (powerR cs a q k.toNat p dd).2.2.1 (powerR cs a q k.toNat p dd).2.2.2] := by
 refine Eqn.obj1 o_g2 (o_jd _ _) ⟨rfl, fun _ => rfl⟩ ?_
 simp only [o_g1]
 have sz : ∀ {x : Nat}, x < 18446744073709551616 → size x ≤ 1000000 := fun hx => Nat.le_trans (o_jx hx) (by omega)
 have hg := o_kj a q (sz (by omega)) (sz (by omega))
 rw [show decide (0 < q ∧ a ≤ q) = true by simp; omega] at hg
 obtain ⟨K, hK, hK2⟩ : ∃ K : Nat, K = k.toNat ∧ max 0 k = (K : Int) := ⟨k.toNat, rfl, by omega⟩
 rw [← hK]
 obtain ⟨R, hR⟩ : ∃ R, R = powerR cs a q K p dd := ⟨_, rfl⟩
 rw [← hR]
 refine G0B ?_; try with_reducible exact tt
 refine CallS.pu (hg) (R0B ?_); try with_reducible exact tt
 refine AW.cond rfl (fun h => ?_) (fun h => ?_)
 ·simp at h
 clear h
 refine G1B hK2 ?_; try with_reducible exact tt
 refine AW.loopT (α := Nat × Nat × Bool) 3 (fun s => [(18, .d (.int .i64 (s.1 : Int)))]) (fun s => [(0, tapeO cs s.2.1 s.2.2)]) (fun s => s.1 ≤ K ∧ s.2.1 ≤ cs.length ∧ R = powerR cs a q (K - s.1) s.2.1 s.2.2) (fun s => K - s.1) (0, p, dd) ?_ ?_ ⟨Nat.zero_le _, hp, hR⟩ ?_ ?_ ?_
 ·simp
 ·simp
 ·simp
 ·simp
 rintro ⟨i, z, d⟩ ⟨hi, hz, hR⟩
 simp only at hi hz hR
 simp [-Bool.exists_bool]
 by_cases h : i = K
 ·subst h
  rw [Nat.sub_self, powerR] at hR
  refine G0B ?_; try with_reducible exact tt
  refine AW.cond rfl (fun h => ?_) (fun h => ?_)
  ·simp at h
  refine AW.exit ?_
  (try (simp -implicitDefEqProofs [-Bool.exists_bool]; try simp (disch := omega) only [w64, wu64]))
  refine G0B ?_; try with_reducible exact tt
  simp [hR]
 ·have hlt : (i : Int) < K := by omega
  have hlt' : i < K := by omega
  obtain ⟨r, hr⟩ : ∃ r, K - i = r + 1 := ⟨K - i - 1, by omega⟩
  rw [hr, powerR] at hR
  have hra := o_kk cs a q z d ha h0 hq hz hn
  have hle := o_km (cs := cs) (a := a) (q := q) (dd := d) hz
  generalize ratioA cs a q z d = S at *
  obtain ⟨S1, S2, S3, S4⟩ := S
  simp only at hra hR hle
  refine G1B (fs hlt hlt') ?_; try with_reducible exact tt
  refine AW.cond rfl (fun h => ?_) (fun h => ?_)
  ·clear h
   refine G0B ?_; try with_reducible exact tt
   refine CallS.o1 0 (hra) (R0B ?_); try with_reducible exact tt
   refine AW.cond rfl (fun h => ?_) (fun h => ?_)
   ·have hb : S1 = false := by simpa using h
    subst hb
    refine G0B ?_; try with_reducible exact tt
    simp [hR]
   ·have hb : S1 = true := by simpa using h
    subst hb
    rw [if_pos rfl] at hR
    have ew : IntKind.i64.wrap ((i : Int) + 1) = (i : Int) + 1 := w64 (by omega) (by omega)
    refine G1B ew ?_; try with_reducible exact tt
    refine ⟨i + 1, S3, S4, ⟨hlt', hle, by rw [show K - (i + 1) = r by omega]; exact hR⟩, by omega, by simp, by simp⟩
  ·simp [hlt'] at h
end
end Go.Proofs.YtdklbnemfelpnaaGreatDoor.Am
namespace Go.Proofs.YtdklbnemfelpnaaGreatDoor.Am
section
open Go.RowKit
theorem o_ko (d : Int) : Eqn Tryz.prog o_5f [.d (.int .i64 d)] [] (.d (.bool (decide (1 ≤ d ∧ d ≤ 4096)))) [] := by
 refine Eqn.pure o_5h (o_42 _) ?_
 simp only [o_5g]
 by_cases h : 1 ≤ d
 ·refine G1 h ?_; try with_reducible exact tt
 ·refine G1 h ?_; try with_reducible exact tt

def wrongM (d : Int) (ks : List Int) : Int := if 1 ≤ d ∧ d ≤ 4096 then (if ks.all okK then 0 else 2) else 10

theorem o_kp (d : Int) (ks : List Int) (hn : ks.length ≤ 1000000) : Eqn Tryz.prog o_6r [.d (.int .i64 d), .d (.sl ks.length (ks.map fun k : Int => .int .i64 k))] [] (.d (.int .i64 (wrongM d ks))) [] := by
 refine Eqn.pure o_6t (o_42 _) ?_
 simp only [o_6s]
 refine G0 ?_; try with_reducible exact tt
 refine CallS.pu (o_ko d) (R0 ?_); try with_reducible exact tt
 by_cases hd : 1 ≤ d ∧ d ≤ 4096
 ·refine AW.cond rfl (fun h => ?_) (fun h => ?_)
  ·simp [hd] at h
  refine G0 ?_; try with_reducible exact tt
  refine AW.loopT (α := Nat) 0 (fun i => [(12, .d (.int .i64 (i : Int)))]) (fun i => []) (fun i => i ≤ ks.length ∧ (ks.take i).all okK = true) (fun i => ks.length - i) 0 ?_ ?_ ⟨Nat.zero_le _, by simp⟩ ?_ ?_ ?_
  ·simp
  ·simp
  ·simp
  ·simp
  rintro i ⟨hi, hall⟩
  simp
  by_cases h : i = ks.length
  ·subst h
   rw [List.take_length] at hall
   refine G0 ?_; try with_reducible exact tt
   refine AW.cond rfl (fun h => ?_) (fun h => ?_)
   ·simp at h
   refine G0 ?_; try with_reducible exact tt
   refine Sub1.int ?_
   rw [wrongM, if_pos hd, if_pos hall]
  ·have hi' : i < ks.length := by omega
   have hp : (i : Int) < ks.length := by omega
   refine G1 (fs hi' hp) ?_; try with_reducible exact tt
   refine AW.cond rfl (fun h => ?_) (fun h => ?_)
   ·have hbad : okK ks[i] = false → wrongM d ks = 2 := by
     intro hb
     rw [wrongM, if_pos hd, if_neg]
     intro ha
     rw [List.all_eq_true] at ha
     have := ha ks[i] (List.getElem_mem _)
     rw [hb] at this; cases this
    by_cases h0 : ks[i] < 0
    ·refine G1 (fs hi' (fs hp h0)) ?_; try with_reducible exact tt
     refine AW.cond rfl (fun h => ?_) (fun h => ?_)
     ·refine G0 ?_; try with_reducible exact tt
      refine Sub1.int ?_
      rw [hbad (by simp [okK]; omega)]
     ·simp [h0] at h
    ·by_cases h1 : 1023 < ks[i]
     ·refine G1 (fs hi' (fs hp (fs h0 h1))) ?_; try with_reducible exact tt
      refine AW.cond rfl (fun h => ?_) (fun h => ?_)
      ·refine G0 ?_; try with_reducible exact tt
       refine Sub1.int ?_
       rw [hbad (by simp [okK]; omega)]
      ·simp [h0, h1] at h
     ·refine G1 (fs hi' (fs hp (fs h0 h1))) ?_; try with_reducible exact tt
      refine AW.cond rfl (fun h => ?_) (fun h => ?_)
      ·simp [h0, h1] at h
      have ew : IntKind.i64.wrap ((i : Int) + 1) = (i : Int) + 1 := w64 (by omega) (by omega)
      refine G1 ew ?_; try with_reducible exact tt
      refine ⟨i + 1, ⟨by omega, ?_⟩, by omega, by simp⟩
      rw [List.take_add_one, List.getElem?_eq_getElem hi']
      intro x hx
      rcases List.mem_append.1 hx with hx | hx
      ·exact List.all_eq_true.1 hall x hx
      ·simp at hx
       subst hx
       simp [okK]; omega
   ·simp [hi'] at h
 ·refine AW.cond rfl (fun h => ?_) (fun h => ?_)
  ·refine G0 ?_; try with_reducible exact tt
   refine Sub1.int ?_
   rw [wrongM, if_neg hd]
  ·simp at h
   exact absurd h hd

theorem o_kq (d k : Int) : Eqn Tryz.prog o_6r [.d (.int .i64 d), .d (.sl 1 [.int .i64 k])] [] (.d (.int .i64 (wrongM d [k]))) [] := o_kp d [k] (by simp)
theorem o_kr {d k : Int} {ks : List Int} (h : wrongM d (k :: ks) = 0) : 1 ≤ d ∧ d ≤ 4096 ∧ 0 ≤ k ∧ k ≤ 1023 := by
 unfold wrongM at h
 split at h
 ·split at h
  ·rename_i h1 h2
   simp [okK] at h2
   omega
  ·omega
 ·omega

theorem o_ks (x : Nat) : wval [x] = x := by simp [wval]
theorem o_kt (cs : List Bool) (a : Nat) (k : Int) (p : Nat) (dd : Bool) (h1 : 1 ≤ a) (h2 : a ≤ 4096) (hk : k ≤ 4000000) (hp : p ≤ cs.length) (hn : cs.length ≤ 4000000) :
  Eqn Tryz.prog o_fx [.p 0 0, .d (.int .i64 a), .d (.int .i64 k)] [tapeO cs p dd] (.tup [.d (.bool (powerR cs a (a + 1) k.toNat p dd).1), .d (.int .i64 (powerR cs a (a + 1) k.toNat p dd).2.1)]) [tapeO cs (powerR cs a (a + 1) k.toNat p dd).2.2.1 (powerR cs a (a + 1) k.toNat p dd).2.2.2] := by
 refine Eqn.obj1 o_fz (o_jd _ _) ⟨rfl, fun _ => rfl⟩ ?_
 simp only [o_fy]
 have hh := o_kn cs a (a + 1) p dd k (by omega) (by omega) (by omega) hk hp hn
 generalize powerR cs a (a + 1) k.toNat p dd = R at *
 obtain ⟨R1, R2, R3, R4⟩ := R
 simp only at hh ⊢
 have e1 : IntKind.u64.wrap (a : Int) = a := wu64 (by omega) (by omega)
 have e2 : IntKind.i64.wrap ((a : Int) + 1) = ((a + 1 : Nat) : Int) := w64 (by omega) (by omega)
 have e3 : IntKind.u64.wrap ((a + 1 : Nat) : Int) = ((a + 1 : Nat) : Int) := wu64 (by omega) (by omega)
 obtain ⟨b, hb⟩ : ∃ b, b = a + 1 := ⟨_, rfl⟩
 rw [← hb] at hh e2 e3
 refine G1B e1 ?_; try with_reducible exact tt
 refine CallS.pf 1 1 ⟨129, _⟩ [.int .u64 (a : Nat)] (o_iy [a] (o_jt (by omega)) (by simp)) (by first | rfl | (simp [e2, e3, o_ks, -Bool.exists_bool]; done)) ?_
 (try (simp -implicitDefEqProofs [e2, e3, o_ks, -Bool.exists_bool]; try simp (disch := omega) only [w64, wu64]))
 repeat (first | refine AW.seq ?_ | refine AW.block ?_ | (refine AW.reg mix ?_; simp -implicitDefEqProofs [e2, e3, o_ks, -Bool.exists_bool]; try simp (disch := omega) only [w64, wu64]) | (refine need.of (by first | omega | kernel_rfl) ?_) | (refine AW.fin ?_; try simp -implicitDefEqProofs [e2, e3, o_ks, -Bool.exists_bool]))
 refine CallS.pf 2 1 ⟨129, _⟩ [.int .u64 (b : Nat)] (o_iy [b] (o_jt (by omega)) (by simp)) (by first | rfl | (simp [o_ks, -Bool.exists_bool]; done)) ?_
 (try (simp -implicitDefEqProofs [o_ks, -Bool.exists_bool]; try simp (disch := omega) only [w64, wu64]))
 repeat (first | refine AW.seq ?_ | refine AW.block ?_ | (refine AW.reg mix ?_; simp -implicitDefEqProofs [o_ks, -Bool.exists_bool]; try simp (disch := omega) only [w64, wu64]) | (refine need.of (by first | omega | kernel_rfl) ?_) | (refine AW.fin ?_; try simp -implicitDefEqProofs [o_ks, -Bool.exists_bool]))
 refine CallS.o1 0 (hh) (R0B ?_); try with_reducible exact tt

def stepM (cs : List Bool) (d k : Int) (p : Nat) (dd : Bool) : Bool × Int × Nat × Bool := if wrongM d [k] = 0 then powerR cs d.toNat (d.toNat + 1) k.toNat p dd else (false, wrongM d [k], p, dd)

theorem o_ku (cs : List Bool) (d k : Int) (p : Nat) (dd : Bool) (hp : p ≤ cs.length) (hn : cs.length ≤ 4000000) :
  Eqn Tryz.prog o_fu [.p 0 0, .d (.int .i64 d), .d (.int .i64 k)] [tapeO cs p dd] (.tup [.d (.bool (stepM cs d k p dd).1), .d (.int .i64 (stepM cs d k p dd).2.1)]) [tapeO cs (stepM cs d k p dd).2.2.1 (stepM cs d k p dd).2.2.2] := by
 refine Eqn.obj1 o_fw (o_jd _ _) ⟨rfl, fun _ => rfl⟩ ?_
 simp only [o_fv]
 refine G0B ?_; try with_reducible exact tt
 refine CallS.pf 1 1 ⟨3, _⟩ [.int .i64 k] (o_kq d k) (by first | rfl | (simp [-Bool.exists_bool]; done)) (R0B ?_); try with_reducible exact tt
 by_cases h : wrongM d [k] = 0
 ·obtain ⟨h1, h2, h3, h4⟩ := o_kr h
  obtain ⟨d, rfl⟩ : ∃ n : Nat, d = n := ⟨d.toNat, by omega⟩
  rw [stepM, if_pos h]
  have hh := o_kt cs d k p dd (by omega) (by omega) (by omega) hp hn
  simp only [Int.toNat_natCast]
  generalize powerR cs d (d + 1) k.toNat p dd = R at *
  obtain ⟨R1, R2, R3, R4⟩ := R
  simp only at hh ⊢
  refine AW.cond rfl (fun h => ?_) (fun h => ?_)
  ·simp [*] at h
  clear h
  refine G0B ?_; try with_reducible exact tt
  refine CallS.o1 0 (hh) (R0B ?_); try with_reducible exact tt
 ·rw [stepM, if_neg h]
  refine AW.cond rfl (fun h => ?_) (fun h => ?_)
  ·refine G0B ?_; try with_reducible exact tt
  ·simp [*] at h
end
end Go.Proofs.YtdklbnemfelpnaaGreatDoor.Am
namespace Go.Proofs.YtdklbnemfelpnaaGreatDoor.Am
section
open Go.RowKit
theorem o_kv : MethOK Tryz.prog 196 "tallymark/chain.good" o_fo := fun v w => by kernel_rfl
theorem o_kw : MethOK Tryz.prog 197 "tallymark/chain.good" o_g9 := fun v w => by kernel_rfl
theorem o_kx : MethOK Tryz.prog 198 "tallymark/chain.good" o_gx := fun v w => by kernel_rfl
theorem o_ky : MethOK Tryz.prog 196 "tallymark/chain.step" o_fr := fun v w => by kernel_rfl
theorem o_kz : MethOK Tryz.prog 197 "tallymark/chain.step" o_gc := fun v w => by kernel_rfl
theorem o_l0 : MethOK Tryz.prog 198 "tallymark/chain.step" o_h0 := fun v w => by kernel_rfl

theorem o_l1 (a : Int) : Eqn Tryz.prog o_fo [.d (.int .i64 a)] [] (.d (.bool (decide (1 ≤ a ∧ a ≤ 4096)))) [] := by
 refine Eqn.pure o_fq (o_42 _) ?_
 simp only [o_fp]
 refine G0 ?_; try with_reducible exact tt
 refine CallS.pu (o_ko a) (R0 ?_); try with_reducible exact tt
theorem o_l2 (a : Int) : Eqn Tryz.prog o_g9 [.d (.int .i64 a)] [] (.d (.bool (decide (0 ≤ a ∧ a ≤ 8)))) [] := by
 refine Eqn.pure o_gb (o_42 _) ?_
 simp only [o_ga]
 refine G0 ?_; try with_reducible exact tt
 refine CallS.pu (o_kd a) (R0 ?_); try with_reducible exact tt

def kindD (k a : Int) : D := if k = 1 then .ifc 196 (.int .i64 a) else if k = 2 then .ifc 197 (.int .i64 a) else if k = 3 then .ifc 198 (.int .i64 a) else .nilifc
theorem o_l3 (k a w : Int) : Eqn Tryz.prog o_7c [.d (.agg [.int .i64 k, .int .i64 a, .int .i64 w])] [] (.d (kindD k a)) [] := by
 refine Eqn.pure o_7e (o_42 _) ?_
 simp only [o_7d, kindD]
 refine G0 ?_; try with_reducible exact tt
 refine AW.cond rfl (fun h => ?_) (fun h => ?_)
 ·have hk : k = 1 := by simpa using h
  subst hk
  refine G0 ?_; try with_reducible exact tt
 have h1 : ¬ k = 1 := by simpa using h
 clear h
 refine G1 h1 ?_; try with_reducible exact tt
 refine AW.cond rfl (fun h => ?_) (fun h => ?_)
 ·have hk : k = 2 := by simpa using h
  subst hk
  refine G0 ?_; try with_reducible exact tt
 have h2 : ¬ k = 2 := by simpa using h
 clear h
 refine G1 (fs h1 h2) ?_; try with_reducible exact tt
 refine AW.cond rfl (fun h => ?_) (fun h => ?_)
 ·have hk : k = 3 := by simpa using h
  subst hk
  refine G0 ?_; try with_reducible exact tt
 have h3 : ¬ k = 3 := by simpa using h
 clear h
 refine G1 (fs h1 (fs h2 h3)) ?_; try with_reducible exact tt
end
end Go.Proofs.YtdklbnemfelpnaaGreatDoor.Am
namespace Go.Proofs.YtdklbnemfelpnaaGreatDoor.Am
section
def bitsN (n : Nat) : Nat := if n = 0 then 0 else Nat.log2 n + 1
theorem o_l4 (n : Nat) : n < 2 ^ bitsN n := by
 unfold bitsN
 split
 ·omega
 ·exact Nat.lt_log2_self
theorem o_l5 {n k : Nat} (h : n < 2 ^ k) : bitsN n ≤ k := by
 unfold bitsN
 split
 ·omega
 ·rename_i h0
  have := (Nat.log2_lt h0).2 h
  omega
def moreY (s t : Nat) : Nat := t + (if t / 2 ^ s * 2 ^ s < t then t / 2 ^ s + 1 else t / 2 ^ s)
def shiftY (s t : Nat) : Nat := bitsN t - 1 - 2 * s
structure Pl where
 x : Nat
 shift : Nat
 value : Nat
 reply : Nat
def nextY (s : Nat) (p : Pl) : Pl := if p.reply ≤ p.value + 2 ^ p.shift then ⟨p.x + 1, shiftY s (moreY s p.reply), p.value + 2 ^ p.shift, moreY s p.reply⟩ else ⟨p.x, p.shift, p.value + 2 ^ p.shift, p.reply⟩
def placeY (s : Nat) : Nat → Pl
 | 0 => ⟨0, 0, 0, 2 ^ (2 * s)⟩
 | k + 1 => nextY s (placeY s k)

theorem o_l6 {n k : Nat} (h : 2 ^ k ≤ n) : bitsN n = k + bitsN (n / 2 ^ k) := by
 have hp := Nat.two_pow_pos k
 have hq : 0 < n / 2 ^ k := Nat.div_pos h hp
 have h1 := o_l4 (n / 2 ^ k)
 have h2 : 2 ^ (bitsN (n / 2 ^ k) - 1) ≤ n / 2 ^ k := by
  unfold bitsN
  rw [if_neg (by omega), Nat.add_sub_cancel]
  exact Nat.log2_self_le (by omega)
 have h3 : 0 < bitsN (n / 2 ^ k) := by unfold bitsN; rw [if_neg (by omega)]; omega
 apply Nat.le_antisymm
 ·apply o_l5
  rw [Nat.pow_add, Nat.mul_comm]
  exact (Nat.div_lt_iff_lt_mul hp).1 h1
 ·apply Nat.le_of_not_lt
  intro hlt
  have h4 := o_l4 n
  have h5 : 2 ^ bitsN n ≤ 2 ^ (k + (bitsN (n / 2 ^ k) - 1)) := Nat.pow_le_pow_right (by omega) (by omega)
  rw [Nat.pow_add] at h5
  have h6 : 2 ^ k * 2 ^ (bitsN (n / 2 ^ k) - 1) ≤ n := by
   rw [Nat.mul_comm]; exact Nat.le_trans (Nat.mul_le_mul_right _ h2) (Nat.div_mul_le_self _ _)
  omega
theorem o_l7 {s t : Nat} (hs : 1 ≤ s) (ht : 2 ≤ t) : moreY s t ≤ 2 * t := by
 unfold moreY
 have h2 : 2 ≤ 2 ^ s := by
  calc 2 = 2 ^ 1 := by decide
   _ ≤ 2 ^ s := Nat.pow_le_pow_right (by decide) hs
 have h1 : t / 2 ^ s ≤ t / 2 := Nat.div_le_div_left h2 (by decide)
 split <;> omega

theorem o_l8 {s : Nat} (hs : 1 ≤ s) : ∀ k, 4 ≤ (placeY s k).reply ∧ (placeY s k).reply ≤ 2 ^ (2 * s + k) ∧ (placeY s k).shift ≤ 2 * s + k ∧ (placeY s k).value ≤ k * 2 ^ (2 * s + k) ∧ (placeY s k).x ≤ k := by
 intro k
 induction k with
 | zero =>
  simp only [placeY]
  have : 2 ^ 2 ≤ 2 ^ (2 * s) := Nat.pow_le_pow_right (by decide) (by omega)
  rw [Nat.add_zero]
  omega
 | succ k ih =>
  obtain ⟨h1, h2, h3, h4, h5⟩ := ih
  have hp : 2 ^ (2 * s + (k + 1)) = 2 * 2 ^ (2 * s + k) := by rw [show 2 * s + (k + 1) = 2 * s + k + 1 by omega, Nat.pow_succ]; omega
  have hm := o_l7 hs (show 2 ≤ (placeY s k).reply by omega)
  have hm4 : (placeY s k).reply ≤ moreY s (placeY s k).reply := by unfold moreY; omega
  have hsh : 2 ^ (placeY s k).shift ≤ 2 ^ (2 * s + k) := Nat.pow_le_pow_right (by decide) h3
  have hv : (placeY s k).value + 2 ^ (placeY s k).shift ≤ (k + 1) * 2 ^ (2 * s + (k + 1)) := by
   rw [hp, Nat.add_mul, Nat.one_mul, Nat.mul_left_comm]
   generalize 2 ^ (2 * s + k) = P at *
   generalize k * P = Q at *
   omega
  have hb : bitsN (moreY s (placeY s k).reply) ≤ 2 * s + (k + 1) + 1 := o_l5 (by
   rw [Nat.pow_succ, hp]
   have : 0 < 2 ^ (2 * s + k) := Nat.pow_pos (by decide)
   omega)
  simp only [placeY, nextY]
  split
  ·refine ⟨by simp only; omega, by simp only; omega, ?_, hv, by simp only; omega⟩
   simp only [shiftY]
   omega
  ·refine ⟨by simp only; omega, by simp only; omega, by simp only; omega, hv, by simp only; omega⟩
end
end Go.Proofs.YtdklbnemfelpnaaGreatDoor.Am
namespace Go.Proofs.YtdklbnemfelpnaaGreatDoor.Am
section
set_option maxRecDepth 10000
def shrL (k : Nat) : List Nat → List Nat
 | [] => []
 | x :: l => (x / 2 ^ k + l.getD 0 0 * 2 ^ (64 - k) % 18446744073709551616) :: shrL k l
theorem o_l9 (k : Nat) : ∀ l, (shrL k l).length = l.length
 | [] => rfl
 | x :: l => by simp [shrL, o_l9 k l]
theorem o_la : ∀ l : List Nat, small l → wval l % 18446744073709551616 = l.getD 0 0
 | [], _ => rfl
 | x :: l, h => by
  have := h x (by simp)
  simp only [wval, List.getD_cons_zero]
  omega
theorem o_lb {k : Nat} (hk : k < 64) : ∀ l : List Nat, small l → wval (shrL k l) = wval l / 2 ^ k ∧ small (shrL k l)
 | [], _ => ⟨by simp [shrL, wval], by simp [shrL, small]⟩
 | x :: l, h => by
  have hl : small l := fun y hy => h y (by simp [hy])
  obtain ⟨h1, h2⟩ := o_lb hk l hl
  have hx := h x (by simp)
  have hhd := o_la l hl
  have hB : (18446744073709551616 : Nat) = 2 ^ k * 2 ^ (64 - k) := by rw [← Nat.pow_add, show k + (64 - k) = 64 by omega]
  have hp := Nat.two_pow_pos k
  have hp' := Nat.two_pow_pos (64 - k)
  -- the part that comes from above
  have h3 : l.getD 0 0 * 2 ^ (64 - k) % 18446744073709551616 = wval l % 2 ^ k * 2 ^ (64 - k) := by
   rw [hB, Nat.mul_mod_mul_right, ← hhd]
   congr 1
   rw [hB, Nat.mod_mul_right_mod]
  have h4 : wval (x :: l) / 2 ^ k = x / 2 ^ k + 2 ^ (64 - k) * wval l := by
   rw [wval]
   conv => lhs; rw [hB]
   rw [Nat.mul_assoc, Nat.add_mul_div_left _ _ hp]
  have h5 : 2 ^ (64 - k) * wval l = 18446744073709551616 * (wval l / 2 ^ k) + wval l % 2 ^ k * 2 ^ (64 - k) := by
   conv => lhs; rw [← Nat.div_add_mod (wval l) (2 ^ k)]
   rw [Nat.mul_add, ← Nat.mul_assoc, Nat.mul_comm (2 ^ (64 - k)) (2 ^ k), ← hB, Nat.mul_comm (2 ^ (64 - k))]
  have h6 : x / 2 ^ k < 2 ^ (64 - k) := by
   rw [Nat.div_lt_iff_lt_mul hp, Nat.mul_comm, ← hB]; exact hx
  have h7 : wval l % 2 ^ k * 2 ^ (64 - k) + 2 ^ (64 - k) ≤ 18446744073709551616 := by
   have := Nat.mul_le_mul_right (2 ^ (64 - k)) (Nat.succ_le_of_lt (Nat.mod_lt (wval l) hp))
   rw [Nat.succ_mul, ← hB] at this
   exact this
  refine ⟨?_, ?_⟩
  ·rw [h4, h5, shrL, wval, h1, h3]
   omega
  ·intro y hy
   rw [shrL, List.mem_cons] at hy
   rcases hy with rfl | hy
   ·rw [h3]; omega
   ·exact h2 y hy
theorem o_lc : ∀ (q : Nat) (l : List Nat), small l → wval (l.drop q) = wval l / 18446744073709551616 ^ q
 | 0, l, _ => by simp
 | q + 1, [], _ => by simp [wval]
 | q + 1, x :: l, h => by
  have hx := h x (by simp)
  rw [List.drop_succ_cons, o_lc q l (fun y hy => h y (by simp [hy])), wval, Nat.pow_succ, Nat.mul_comm (18446744073709551616 ^ q), ← Nat.div_div_eq_div_mul]
  congr 1
  omega
end
end Go.Proofs.YtdklbnemfelpnaaGreatDoor.Am
namespace Go.Proofs.YtdklbnemfelpnaaGreatDoor.Am
section
open Go.RowKit
theorem o_ld : ∀ i : Nat, i < 256 → (([0, 1, 2, 2, 3, 3, 3, 3, 4, 4, 4, 4, 4, 4, 4, 4, 5, 5, 5, 5, 5, 5, 5, 5, 5, 5, 5, 5, 5, 5, 5, 5, 6, 6, 6, 6, 6, 6, 6, 6, 6, 6, 6, 6, 6, 6, 6, 6, 6, 6, 6, 6, 6, 6, 6, 6, 6, 6, 6, 6, 6, 6, 6, 6, 7, 7, 7, 7, 7, 7, 7, 7, 7, 7, 7, 7, 7, 7, 7, 7, 7, 7, 7, 7, 7, 7, 7, 7, 7, 7, 7, 7, 7, 7, 7, 7, 7, 7, 7, 7, 7, 7, 7, 7, 7, 7, 7, 7, 7, 7, 7, 7, 7, 7, 7, 7, 7, 7, 7, 7, 7, 7, 7, 7, 7, 7, 7, 7, 8, 8, 8, 8, 8, 8, 8, 8, 8, 8, 8, 8, 8, 8, 8, 8, 8, 8, 8, 8, 8, 8, 8, 8, 8, 8, 8, 8, 8, 8, 8, 8, 8, 8, 8, 8, 8, 8, 8, 8, 8, 8, 8, 8, 8, 8, 8, 8, 8, 8, 8, 8, 8, 8, 8, 8, 8, 8, 8, 8, 8, 8, 8, 8, 8, 8, 8, 8, 8, 8, 8, 8, 8, 8, 8, 8, 8, 8, 8, 8, 8, 8, 8, 8, 8, 8, 8, 8, 8, 8, 8, 8, 8, 8, 8, 8, 8, 8, 8, 8, 8, 8, 8, 8, 8, 8, 8, 8, 8, 8, 8, 8, 8, 8, 8, 8, 8, 8, 8, 8, 8, 8, 8, 8, 8, 8, 8, 8] : List UInt8)[i]?.getD 0).toNat = bitsN i := by
 have h : ((List.range 256).all fun i => (([0, 1, 2, 2, 3, 3, 3, 3, 4, 4, 4, 4, 4, 4, 4, 4, 5, 5, 5, 5, 5, 5, 5, 5, 5, 5, 5, 5, 5, 5, 5, 5, 6, 6, 6, 6, 6, 6, 6, 6, 6, 6, 6, 6, 6, 6, 6, 6, 6, 6, 6, 6, 6, 6, 6, 6, 6, 6, 6, 6, 6, 6, 6, 6, 7, 7, 7, 7, 7, 7, 7, 7, 7, 7, 7, 7, 7, 7, 7, 7, 7, 7, 7, 7, 7, 7, 7, 7, 7, 7, 7, 7, 7, 7, 7, 7, 7, 7, 7, 7, 7, 7, 7, 7, 7, 7, 7, 7, 7, 7, 7, 7, 7, 7, 7, 7, 7, 7, 7, 7, 7, 7, 7, 7, 7, 7, 7, 7, 8, 8, 8, 8, 8, 8, 8, 8, 8, 8, 8, 8, 8, 8, 8, 8, 8, 8, 8, 8, 8, 8, 8, 8, 8, 8, 8, 8, 8, 8, 8, 8, 8, 8, 8, 8, 8, 8, 8, 8, 8, 8, 8, 8, 8, 8, 8, 8, 8, 8, 8, 8, 8, 8, 8, 8, 8, 8, 8, 8, 8, 8, 8, 8, 8, 8, 8, 8, 8, 8, 8, 8, 8, 8, 8, 8, 8, 8, 8, 8, 8, 8, 8, 8, 8, 8, 8, 8, 8, 8, 8, 8, 8, 8, 8, 8, 8, 8, 8, 8, 8, 8, 8, 8, 8, 8, 8, 8, 8, 8, 8, 8, 8, 8, 8, 8, 8, 8, 8, 8, 8, 8, 8, 8, 8, 8, 8, 8] : List UInt8)[i]?.getD 0).toNat == bitsN i) = true := by kernel_rfl
 intro i hi
 have := List.all_eq_true.1 h i (List.mem_range.2 hi)
 exact eq_of_beq this

set_option maxHeartbeats 1000000 in
theorem o_le (x : Nat) (hx : x < 18446744073709551616) : Eqn Tryz.prog o_c9 [.d (.int .u64 x)] [] (.d (.int .i64 (bitsN x))) [] := by
 refine Eqn.pure o_cb (o_42 _) ?_
 simp only [o_ca]
 obtain ⟨x1, n1, h1, hx1, hn1, e1⟩ : ∃ x1 n1 : Nat, (x1, n1) = (if 4294967296 ≤ x then (x / 4294967296, 32) else (x, 0)) ∧ x1 < 4294967296 ∧ n1 ≤ 32 ∧ bitsN x = n1 + bitsN x1 := by
  by_cases h : 4294967296 ≤ x
  ·exact ⟨x / 4294967296, 32, by rw [if_pos h], by omega, by omega, o_l6 (k := 32) h⟩
  ·exact ⟨x, 0, by rw [if_neg h], by omega, by omega, by omega⟩
 obtain ⟨x2, n2, h2, hx2, hn2, e2⟩ : ∃ x2 n2 : Nat, (x2, n2) = (if 65536 ≤ x1 then (x1 / 65536, n1 + 16) else (x1, n1)) ∧ x2 < 65536 ∧ n2 ≤ 48 ∧ bitsN x = n2 + bitsN x2 := by
  by_cases h : 65536 ≤ x1
  ·exact ⟨x1 / 65536, n1 + 16, by rw [if_pos h], by omega, by omega, by have := o_l6 (k := 16) h; rw [e1, this]; simp; omega⟩
  ·exact ⟨x1, n1, by rw [if_neg h], by omega, by omega, by omega⟩
 obtain ⟨x3, n3, h3, hx3, hn3, e3⟩ : ∃ x3 n3 : Nat, (x3, n3) = (if 256 ≤ x2 then (x2 / 256, n2 + 8) else (x2, n2)) ∧ x3 < 256 ∧ n3 ≤ 56 ∧ bitsN x = n3 + bitsN x3 := by
  by_cases h : 256 ≤ x2
  ·exact ⟨x2 / 256, n2 + 8, by rw [if_pos h], by omega, by omega, by have := o_l6 (k := 8) h; rw [e2, this]; simp; omega⟩
  ·exact ⟨x2, n2, by rw [if_neg h], by omega, by omega, by omega⟩
 rw [e3]
 clear e1 e2 e3
 refine AW.seq (AW.reg mix ?_)
 (simp -implicitDefEqProofs; try simp (disch := omega) only [w64, wu64])
 refine AW.cut 0 [(0, .d (.int .u64 x1)), (2, .d (.int .i64 n1))] [] (by simp) (by simp) ?_ ?_
 ·have hd : (x : Int) / 4294967296 = (x / 4294967296 : Nat) := rfl
  refine G0 ?_; try with_reducible exact tt
  refine AW.cond rfl (fun h => ?_) (fun h => ?_)
  ·rw [if_pos (by simp at h; omega)] at h1
   cases h1
   generalize x / 4294967296 = q at *
   refine G1 hd ?_; try with_reducible exact tt
  ·rw [if_neg (by simp at h; omega)] at h1
   cases h1
   refine G0 ?_; try with_reducible exact tt
 clear h1 hx
 simp
 refine AW.cut 0 [(0, .d (.int .u64 x2)), (2, .d (.int .i64 n2))] [] (by simp) (by simp) ?_ ?_
 ·have hd : (x1 : Int) / 65536 = (x1 / 65536 : Nat) := rfl
  have ew : IntKind.i64.wrap ((n1 : Int) + 16) = ((n1 + 16 : Nat) : Int) := w64 (by omega) (by omega)
  refine G0 ?_; try with_reducible exact tt
  refine AW.cond rfl (fun h => ?_) (fun h => ?_)
  ·rw [if_pos (by simp at h; omega)] at h2
   cases h2
   generalize x1 / 65536 = q at *
   refine G1 (fs hd ew) ?_; try with_reducible exact tt
  ·rw [if_neg (by simp at h; omega)] at h2
   cases h2
   refine G0 ?_; try with_reducible exact tt
 clear h2 hx1 hn1
 simp
 refine AW.cut 0 [(0, .d (.int .u64 x3)), (2, .d (.int .i64 n3))] [] (by simp) (by simp) ?_ ?_
 ·have hd : (x2 : Int) / 256 = (x2 / 256 : Nat) := rfl
  have ew : IntKind.i64.wrap ((n2 : Int) + 8) = ((n2 + 8 : Nat) : Int) := w64 (by omega) (by omega)
  refine G0 ?_; try with_reducible exact tt
  refine AW.cond rfl (fun h => ?_) (fun h => ?_)
  ·rw [if_pos (by simp at h; omega)] at h3
   cases h3
   generalize x2 / 256 = q at *
   refine G1 (fs hd ew) ?_; try with_reducible exact tt
  ·rw [if_neg (by simp at h; omega)] at h3
   cases h3
   refine G0 ?_; try with_reducible exact tt
 clear h3 hx2 hn2
 simp
 have ew1 : IntKind.u8.wrap (x3 : Int) = x3 := by rw [show IntKind.u8.wrap (x3 : Int) = (x3 : Int) % 256 from rfl]; omega
 have hb := o_ld x3 hx3
 have hB : bitsN x3 ≤ 8 := o_l5 (by omega)
 have ew2 : IntKind.i64.wrap (bitsN x3 : Int) = bitsN x3 := w64 (by omega) (by omega)
 have ew3 : IntKind.i64.wrap ((n3 : Int) + bitsN x3) = (n3 : Int) + bitsN x3 := w64 (by omega) (by omega)
 refine AW.seq (AW.reg mix ?_)
 simp [ew1, hb, ew2, ew3]
 refine need.of (Nat.lt_of_lt_of_le hx3 (by decide)) ?_
 refine G0 ?_; try with_reducible exact tt

theorem o_lf {l : List Nat} {x : Nat} (hs : small l) (h0 : 0 < x) : bitsN (wval (l ++ [x])) = 64 * l.length + bitsN x := by
 have hp : (18446744073709551616 : Nat) ^ l.length = 2 ^ (64 * l.length) := by rw [show (18446744073709551616 : Nat) = 2 ^ 64 by rfl, ← Nat.pow_mul]
 have hlt := o_ht hs
 have hv : wval (l ++ [x]) = wval l + 2 ^ (64 * l.length) * x := by rw [o_hr, hp]; simp [wval]
 rw [hp] at hlt
 rw [hv, o_l6 (k := 64 * l.length) (by have := Nat.le_mul_of_pos_right (2 ^ (64 * l.length)) h0; omega), Nat.add_mul_div_left _ _ (Nat.two_pow_pos _), Nat.div_eq_of_lt hlt, Nat.zero_add]

theorem o_lg (n : Nat) (hn : size n ≤ 1000000) : Eqn Tryz.prog o_bx [.d (.agg [natW n])] [] (.d (.int .i64 (bitsN n))) [] := by
 refine Eqn.pure o_bz (o_42 _) ?_
 simp only [o_by, natW, W]
 unfold size at hn
 have hs := o_ip n
 have ht := o_iq n
 have hv := o_io n
 generalize words n = ws at *
 rcases List.eq_nil_or_concat ws with rfl | ⟨l, x, rfl⟩
 ·refine G0 ?_; try with_reducible exact tt
  refine AW.cond rfl (fun h => ?_) (fun h => ?_)
  ·refine G0 ?_; try with_reducible exact tt
   rw [← hv]
   exact Sub1.refl _
  ·simp at h
 ·rw [List.concat_eq_append] at *
  have hx0 : 0 < x := by
   have := ht l.length (by simp)
   simp [List.getD] at this
   omega
  have hx : x < 18446744073709551616 := hs x (by simp)
  have hb := o_lf (l := l) (x := x) (fun y hy => hs y (by simp [hy])) hx0
  rw [hv] at hb
  have hB : bitsN x ≤ 64 := o_l5 (by omega)
  have hll : l.length ≤ 1000000 := by simp at hn; omega
  have e1 : IntKind.i64.wrap ((l.length : Int) + 1 - 1) = (l.length : Int) := by rw [Int.add_sub_cancel]; exact w64 (by omega) (by omega)
  have e2 : IntKind.i64.wrap ((64 : Int) * l.length) = ((64 * l.length : Nat) : Int) := w64 (by omega) (by omega)
  have e0 : IntKind.i64.wrap (l.length : Int) = (l.length : Int) := w64 (by omega) (by omega)
  have hne : ¬ (l.length : Int) + 1 = 0 := by omega
  refine G1 (fs hne (fs e1 (fs e2 e0))) ?_; try with_reducible exact tt
  refine AW.cond rfl (fun h => ?_) (fun h => ?_)
  ·simp at h
   omega
  rw [hb]
  have e3 : IntKind.i64.wrap (((64 * l.length : Nat) : Int) + bitsN x) = ((64 * l.length + bitsN x : Nat) : Int) := w64 (by omega) (by omega)
  generalize 64 * l.length = q at *
  refine G1 (fs hne (fs e1 (fs e2 e0))) ?_; try with_reducible exact tt
  refine CallS.pu (o_le x hx) (R1 e3 ?_); try with_reducible exact tt

theorem o_lh (n : Nat) (l : List D) (hl : l.length = n) (h0 : 0 < n) (hn : n ≤ 4000000000) : Eqn Tryz.prog o_c0 [.d (.sl n l)] [] (.own 0 1 n) [⟨129, l.map .d⟩] := by
 refine Eqn.newX o_c2 rfl (o_4a _) (fun n => rfl) ?_
 simp only [o_c1]
 refine G1 h0 ?_; try with_reducible exact tt
 refine AW.cond rfl (fun h => ?_) (fun h => ?_)
 ·simp at h
 ·refine G0 ?_; try with_reducible exact tt
  have h1 : ¬ n = 0 := by omega
  simp [h1, hl]
  refine need.of (by omega) ?_
  refine G0 ?_; try with_reducible exact tt
  exact ⟨0, Sub1.refl _, _, rfl, rfl, Subs.refl _⟩

def shrI (k : Nat) (A : List Nat) (i : Nat) : List Nat := (shrL k A).take i ++ A.drop i
theorem o_li (k : Nat) : ∀ (A : List Nat) (i : Nat), i < A.length → (shrL k A).getD i 0 = A.getD i 0 / 2 ^ k + A.getD (i + 1) 0 * 2 ^ (64 - k) % 18446744073709551616
 | [], i, h => by simp at h
 | x :: l, 0, h => by simp [shrL]
 | x :: l, i + 1, h => by
  have := o_li k l i (by simpa using h)
  simpa [shrL] using this
theorem o_lj (k : Nat) (A : List Nat) (i : Nat) (h : i ≤ A.length) : (shrI k A i).length = A.length := by
 rw [shrI, List.length_append, List.length_take, o_l9, List.length_drop]; omega
theorem o_lk (k : Nat) (A : List Nat) (i j : Nat) (h : i ≤ j) (hj : j < A.length) : (shrI k A i)[j]? = some (A.getD j 0) := by
 rw [shrI, List.getElem?_append_right (by rw [List.length_take, o_l9]; omega), List.length_take, o_l9, List.getElem?_drop, show i + (j - min i A.length) = j by omega]
 simp [List.getD, hj]
theorem o_ll (k : Nat) (A : List Nat) (i : Nat) (h : i < A.length) (y : Nat) (hy : y = (shrL k A).getD i 0) : (shrI k A i).set i y = shrI k A (i + 1) := by
 have hi : ((shrL k A).take i).length = i := by rw [List.length_take, o_l9]; omega
 rw [shrI, shrI, List.set_append_right _ _ (by omega), hi, Nat.sub_self, o_hu _ _ (by rw [o_l9]; exact h), ← hy, List.append_assoc]
 congr 1
 rw [List.drop_eq_getElem_cons h]
 rfl
theorem o_lm (k : Nat) (A : List Nat) : shrI k A A.length = shrL k A := by
 rw [shrI, List.drop_length, List.append_nil, List.take_of_length_le (by rw [o_l9]; omega)]

theorem o_ln {k x y : Nat} (hk : k < 64) (hx : x < 18446744073709551616) : x / 2 ^ k ||| (y * 2 ^ (64 - k) % 18446744073709551616) = x / 2 ^ k + y * 2 ^ (64 - k) % 18446744073709551616 := by
 have hB : (18446744073709551616 : Nat) = 2 ^ k * 2 ^ (64 - k) := by rw [← Nat.pow_add, show k + (64 - k) = 64 by omega]
 have h6 : x / 2 ^ k < 2 ^ (64 - k) := by
  rw [Nat.div_lt_iff_lt_mul (Nat.two_pow_pos k), Nat.mul_comm, ← hB]; exact hx
 have e : y * 2 ^ (64 - k) % 18446744073709551616 = 2 ^ (64 - k) * (y % 2 ^ k) := by rw [hB, Nat.mul_mod_mul_right, Nat.mul_comm]
 rw [e, Nat.or_comm, ← Nat.two_pow_add_eq_or_of_lt h6, Nat.add_comm]

set_option maxHeartbeats 2000000 in
theorem o_lo (a n : Nat) (ha : size a ≤ 1000000) (hn : n ≤ 1000000000) : Eqn Tryz.prog o_ec [.d (.agg [natW a]), .d (.int .i64 n)] [] (.d (.agg [natW (a / 2 ^ n)])) [] := by
 refine Eqn.pure o_ee (o_42 _) ?_
 simp only [o_ed]
 rw [show natW a = .sl (words a).length ((words a).map fun x : Nat => .int .u64 x) from rfl]
 unfold size at ha
 have hs := o_ip a
 have hv := o_io a
 generalize words a = ws at *
 have hm : max 0 (n : Int) = n := by omega
 have hq : (n : Int) / 64 = (n / 64 : Nat) := rfl
 have hr : (n : Int).tmod 64 = (n % 64 : Nat) := by rw [Int.tmod_eq_emod_of_nonneg (by omega)]; rfl
 have hval : wval (shrL (n % 64) (ws.drop (n / 64))) = a / 2 ^ n ∧ small (shrL (n % 64) (ws.drop (n / 64))) := by
  obtain ⟨h1, h2⟩ := o_lb (k := n % 64) (by omega) (ws.drop (n / 64)) (fun x hx => hs x (List.mem_of_mem_drop hx))
  refine ⟨?_, h2⟩
  rw [h1, o_lc _ _ hs, hv, show (18446744073709551616 : Nat) = 2 ^ 64 by rfl, ← Nat.pow_mul, Nat.div_div_eq_div_mul, ← Nat.pow_add, Nat.div_add_mod]
 have hmk : n % 64 < 64 := by omega
 have hqn : n / 64 ≤ n := Nat.div_le_self _ _
 generalize hk : n % 64 = k at *
 generalize n / 64 = q at *
 refine G1 (fs hm hq) ?_; try with_reducible exact tt
 refine AW.cond rfl (fun h => ?_) (fun h => ?_)
 ·have hlen : ws.length ≤ q := by simp at h; omega
  refine G0 ?_; try with_reducible exact tt
  rw [List.drop_of_length_le hlen] at hval
  rw [← hval.1]
  exact Sub1.nat0
 ·have hlt : q < ws.length := by simp at h; omega
  have hlt' : (q : Int) < ws.length := by omega
  have hb1 : ((ws.length : Int) - q).toNat = (ws.drop q).length := by rw [List.length_drop]; omega
  have hbp : 0 < (ws.drop q).length ∧ (ws.drop q).length ≤ 1000000 := by rw [List.length_drop]; omega
  have hsB : small (ws.drop q) := fun x hx => hs x (List.mem_of_mem_drop hx)
  have htk : (V.d (.sl ((ws.length : Int) - q).toNat (((ws.map fun x : Nat => D.int .u64 x).drop ((q : Int)).toNat).take ((ws.length : Int) - q).toNat)) : V) = .d (.sl (ws.drop q).length ((ws.drop q).map fun x : Nat => D.int .u64 x)) := by
   rw [hb1, Int.toNat_natCast, ← List.map_drop, List.take_of_length_le (by simp)]
  refine G1 (fs hm (fs hq hlt')) ?_; try with_reducible exact tt
  generalize hB : ws.drop q = B at *
  refine CallS.newX (o_lh B.length (B.map fun x : Nat => .int .u64 x) (by simp) hbp.1 (by omega)) (o_4a _) rfl (fun _ => rfl) (Subs.of (by rw [htk])) ?_
  rw [show ((B.map fun x : Nat => D.int .u64 x).map V.d) = U (shrI k B 0) by simp [U, shrI]]
  simp
  refine G1 hr ?_; try with_reducible exact tt
  clear htk hb1 hv hs ha hB hlt hlt'
  refine AW.loopT (α := Nat) 3 (fun i => [(6, .d (.int .i64 (i : Int)))]) (fun i => [(2, ⟨129, U (shrI k B i)⟩)]) (fun i => i ≤ B.length) (fun i => B.length - i) 0 ?_ ?_ (Nat.zero_le _) ?_ ?_ ?_
  ·simp
  ·simp
  ·simp
  ·simp
  rintro i hi
  simp
  by_cases h : i = B.length
  ·subst h
   refine G0 ?_; try with_reducible exact tt
   refine AW.cond rfl (fun h => ?_) (fun h => ?_)
   ·simp at h
   refine AW.exit ?_
   (try (simp -implicitDefEqProofs; try simp (disch := omega) only [w64, wu64]))
   rw [o_lm]
   have hl : (shrL k B).length = B.length := o_l9 k B
   have hvw : natW (a / 2 ^ n) = natW (wval (shrL k B)) := by rw [hval.1]
   rw [hvw]
   have hsm := hval.2
   generalize shrL k B = r at hl hsm ⊢
   have hcell : U r = (r.map fun x : Nat => D.int .u64 x).map V.d := by simp [U]
   rw [hcell]
   refine AW.freeze 2 1 ⟨129, _⟩ (r.map fun x : Nat => .int .u64 x) (by rfl) (by rfl) ?_
   simp [← hl, List.take_of_length_le]
   refine G0 ?_; try with_reducible exact tt
   refine CallS.pu (o_ix r hsm (by omega)) (R0 ?_); try with_reducible exact tt
  ·have hi' : i < B.length := by omega
   have hp : (i : Int) < B.length := by omega
   have hxB : B.getD i 0 < 18446744073709551616 := hsB.getD i
   have hset : ∀ z : Nat, z = (shrL k B).getD i 0 → (U (shrI k B i)).set i (.d (.int .u64 z)) = U (shrI k B (i + 1)) := fun z hz => by
    rw [← o_ll k B i hi' z hz, U, U, List.map_set]
   have hg := o_li k B i hi'
   have hl : (U (shrI k B i)).length = B.length := by simp [U, o_lj k B i hi]
   have hq1 : (U (shrI k B i))[i]? = some (.d (.int .u64 (B.getD i 0 : Nat))) := by
    rw [U, List.getElem?_map, o_lk k B i i (Nat.le_refl _) hi']; rfl
   have hq2 : i + 1 < B.length → (U (shrI k B i))[i + 1]? = some (.d (.int .u64 (B.getD (i + 1) 0 : Nat))) := fun h => by
    rw [U, List.getElem?_map, o_lk k B i (i + 1) (by omega) h]; rfl
   have hor := o_ln (k := k) (x := B.getD i 0) (y := B.getD (i + 1) 0) hmk hxB
   rw [← hg] at hor
   have hu : ((B.getD i 0 : Nat) : Int) / 2 ^ k = ((B.getD i 0 / 2 ^ k : Nat) : Int) := by rw [Int.natCast_ediv, Int.natCast_pow]; rfl
   have hule : B.getD i 0 / 2 ^ k ≤ B.getD i 0 := Nat.div_le_self _ _
   have hw : IntKind.u64.wrap (((B.getD (i + 1) 0 : Nat) : Int) * 2 ^ (64 - k)) = ((B.getD (i + 1) 0 * 2 ^ (64 - k) % 18446744073709551616 : Nat) : Int) := by
    rw [IntKind.wrap_u64, Int.natCast_emod, Int.natCast_mul, Int.natCast_pow]; rfl
   have hwl : B.getD (i + 1) 0 * 2 ^ (64 - k) % 18446744073709551616 < 18446744073709551616 := Nat.mod_lt _ (by decide)
   have hlast : ¬ i + 1 < B.length → B.getD i 0 / 2 ^ k = (shrL k B).getD i 0 := fun h => by
    rw [hg, o_j5 h]; simp
   have hls : (shrL k B).length = B.length := o_l9 k B
   generalize B.getD i 0 / 2 ^ k = u at *
   generalize B.getD i 0 = x at *
   generalize B.getD (i + 1) 0 * 2 ^ (64 - k) % 18446744073709551616 = t at *
   generalize B.getD (i + 1) 0 = y at *
   have hb := bits_or_u64_nat u t (by omega) hwl
   rw [hor] at hb
   have hz := hset _ rfl
   generalize (shrL k B).getD i 0 = z at *
   generalize U (shrI k B i) = cm at *
   have e1 : IntKind.i64.wrap ((i : Int) + 1) = (i : Int) + 1 := w64 (by omega) (by omega)
   have e2 : IntKind.i64.wrap ((64 : Int) - k) = (64 : Int) - k := w64 (by omega) (by omega)
   have hn : ((64 : Int) - k).toNat = 64 - k := by omega
   have e3 : (((i : Int) + 1)).toNat = i + 1 := by omega
   have hkl : (k : Int) ≤ 64 := by omega
   have hg1 : ∀ h, cm[i]'h = .d (.int .u64 x) := fun h => by
    have := List.getElem?_eq_getElem h
    rw [hq1] at this
    exact (Option.some.inj this).symm
   have hg2 : ∀ h, cm[i + 1]'h = .d (.int .u64 y) := fun h => by
    have := List.getElem?_eq_getElem h
    rw [hq2 (by omega)] at this
    exact (Option.some.inj this).symm
   refine G1 (fs hi' hp) ?_; try with_reducible exact tt
   refine AW.cond rfl (fun h => ?_) (fun h => ?_)
   ·by_cases hl1 : i + 1 < B.length
    ·have hlp : (i : Int) + 1 < B.length := by omega
     refine G1 (fs hi' (fs hp (fs hl (fs hg1 (fs hu (fs e1 hlp)))))) ?_; try with_reducible exact tt
     refine AW.cond rfl (fun h => ?_) (fun h => ?_)
     ·have hne : ¬ i = i + 1 := by omega
      have h64 : (64 - k : Int) ≤ 64 := by omega
      refine G1 (fs hi' (fs hp (fs hl (fs hg1 (fs hg2 (fs hu (fs e1 (fs hlp (fs hl1 (fs e2 (fs hn (fs e3 (fs hne (fs hw (fs hb hz))))))))))))))) ?_; try with_reducible exact tt
      exact ⟨i + 1, by omega, by omega, by simp, by simp⟩
     ·simp at h
    ·have hlp : ¬ (i : Int) + 1 < B.length := by omega
     refine G1 (fs hi' (fs hp (fs hl (fs hg1 (fs hu (fs e1 hlp)))))) ?_; try with_reducible exact tt
     refine AW.cond rfl (fun h => ?_) (fun h => ?_)
     ·simp at h
     ·have := hlast hl1
      subst this
      refine G1 e1 ?_; try with_reducible exact tt
      refine ⟨i + 1, by omega, by omega, by simp, ?_⟩
      rw [hset u rfl]
      exact Subs.refl _
   ·simp at h
end
end Go.Proofs.YtdklbnemfelpnaaGreatDoor.Am
namespace Go.Proofs.YtdklbnemfelpnaaGreatDoor.Am
section
open Go.RowKit
theorem o_lp (s : Int) : Eqn Tryz.prog o_h3 [.d (.int .i64 s)] [] (.d (.bool (decide (1 ≤ s ∧ s ≤ 5)))) [] := by
 refine Eqn.pure o_h5 (o_42 _) ?_
 simp only [o_h4]
 by_cases h : 1 ≤ s
 ·refine G1 h ?_; try with_reducible exact tt
 ·refine G1 h ?_; try with_reducible exact tt

theorem o_lq {x m : Nat} (h : x < 2 ^ (64 * m)) : size x ≤ m := by
 apply o_ia (o_iq x)
 rw [o_io, show (18446744073709551616 : Nat) = 2 ^ 64 by rfl, ← Nat.pow_mul]
 exact h

theorem o_lr {a b m : Nat} (ha : size a ≤ m) (hb : size b ≤ m) : size (a + b) ≤ m + 1 := by
 refine o_lq ?_
 have h1 := o_ht (o_ip a)
 have h2 := o_ht (o_ip b)
 rw [o_io, show (18446744073709551616 : Nat) = 2 ^ 64 by rfl, ← Nat.pow_mul] at h1 h2
 have h3 : (2 : Nat) ^ (64 * (words a).length) ≤ 2 ^ (64 * m) := Nat.pow_le_pow_right (by omega) (by unfold size at ha; omega)
 have h4 : (2 : Nat) ^ (64 * (words b).length) ≤ 2 ^ (64 * m) := Nat.pow_le_pow_right (by omega) (by unfold size at hb; omega)
 have h5 : (2 : Nat) ^ (64 * (m + 1)) = 2 ^ (64 * m) * 18446744073709551616 := by rw [show 64 * (m + 1) = 64 * m + 64 by omega, Nat.pow_add]
 rw [h5]
 generalize (2 : Nat) ^ (64 * m) = z at *
 omega

theorem o_ls {x n m : Nat} (h : x < 2 ^ n) (hm : n ≤ 64 * m) : size x ≤ m :=
 o_lq (Nat.lt_of_lt_of_le h (Nat.pow_le_pow_right (by omega) hm))
theorem o_lt (t : Nat) : bitsN t ≤ 64 * size t := by
 apply o_l5
 have h1 := o_ht (o_ip t)
 rw [o_io, show (18446744073709551616 : Nat) = 2 ^ 64 by rfl, ← Nat.pow_mul] at h1
 exact h1
theorem o_lu (s t : Nat) (hs : s ≤ 5) (ht : size t ≤ 1000) : Eqn Tryz.prog o_hk [.d (.int .i64 s), .d (.agg [natW t])] [] (.d (.int .i64 (shiftY s t))) [] := by
 refine Eqn.pure o_hm (o_42 _) ?_
 simp only [o_hl]
 have hb := o_lt t
 refine G0 ?_; try with_reducible exact tt
 refine CallS.pu (o_lg t (by omega)) (R0 ?_); try with_reducible exact tt
 have e1 : IntKind.i64.wrap ((bitsN t : Int) - 1) = (bitsN t : Int) - 1 := w64 (by omega) (by omega)
 have e2 : IntKind.i64.wrap (2 * (s : Int)) = 2 * (s : Int) := w64 (by omega) (by omega)
 have e3 : IntKind.i64.wrap ((bitsN t : Int) - 1 - 2 * (s : Int)) = (bitsN t : Int) - 1 - 2 * (s : Int) := w64 (by omega) (by omega)
 have e4 : max 0 ((bitsN t : Int) - 1 - 2 * (s : Int)) = (shiftY s t : Int) := by unfold shiftY; omega
 simp [e1, e2, e3, e4]

theorem o_lv (s t : Nat) (hs : s ≤ 5) (ht : size t ≤ 1000) : Eqn Tryz.prog o_hh [.d (.int .i64 s), .d (.agg [natW t])] [] (.d (.agg [natW (moreY s t)])) [] := by
 refine Eqn.pure o_hj (o_42 _) ?_
 simp only [o_hi]
 have hq := Nat.div_le_self t (2 ^ s)
 have hq2 := Nat.div_mul_le_self t (2 ^ s)
 have hm : moreY s t = t + (if t / 2 ^ s * 2 ^ s < t then t / 2 ^ s + 1 else t / 2 ^ s) := rfl
 rw [hm]
 have s1 := o_ji hq
 have s2 := o_ji hq2
 have s1' : size 1 ≤ 1 := o_jx (by omega)
 refine G0 ?_; try with_reducible exact tt
 refine CallS.pu (o_lo t s (by omega) (by omega)) (R0 ?_); try with_reducible exact tt
 refine CallS.pu (o_jr (t / 2 ^ s) s (by omega) (by omega)) (R0 ?_); try with_reducible exact tt
 generalize hQ : t / 2 ^ s = q at *
 generalize q * 2 ^ s = b at *
 refine CallS.pu (o_j1 b t (by omega) (by omega)) (R0 ?_); try with_reducible exact tt
 have hb : size (q + 1) ≤ 1001 := by
  have := o_lr (a := q) (b := 1) (m := 1000) (by omega) (by omega)
  omega
 by_cases hlt : b < t
 ·simp only [if_pos hlt]
  refine AW.cond rfl (fun h => ?_) (fun h => ?_)
  ·refine G0 ?_; try with_reducible exact tt
   refine CallS.pf 4 1 ⟨129, _⟩ [.int .u64 (1 : Nat)] (o_iy [1] (o_jt (by omega)) (by simp)) (by first | rfl | (simp; done)) (R0 ?_); try with_reducible exact tt
   refine CallS.pu (o_jf q 1 (by omega) (by omega)) (R0 ?_); try with_reducible exact tt
   refine CallS.pu (o_jf t (q + 1) (by omega) (by omega)) (R0 ?_); try with_reducible exact tt
  ·simp [o_ju, hlt] at h
 ·simp only [if_neg hlt]
  refine AW.cond rfl (fun h => ?_) (fun h => ?_)
  ·simp [o_ju, hlt] at h
  ·refine G0 ?_; try with_reducible exact tt
   refine CallS.pu (o_jf t q (by omega) (by omega)) (R0 ?_); try with_reducible exact tt

def plD (p : Pl) : D := .agg [.int .i64 p.x, .int .i64 p.shift, natW p.value, natW p.reply]

theorem o_lw {s t : Nat} : moreY s t ≤ 4 * t := by
 unfold moreY
 have h1 := Nat.div_le_self t (2 ^ s)
 split
 ·rename_i h
  have : 0 < t := by omega
  omega
 ·omega

theorem o_lx (s : Nat) (p : Pl) (hs : s ≤ 5) (hx : p.x ≤ 100000) (h1 : p.shift ≤ 8192) (h2 : size p.value ≤ 900) (h3 : size p.reply ≤ 900) :
  Eqn Tryz.prog o_he [.d (plD p), .d (.int .i64 s)] [] (.d (plD (nextY s p))) [] := by
 refine Eqn.pure o_hg (o_42 _) ?_
 obtain ⟨x, sh, v, r⟩ := p
 simp only at hx h1 h2 h3
 simp only [o_hf, plD, nextY]
 have s1 : size 1 ≤ 1 := o_jx (by omega)
 have hsz : size (1 * 2 ^ sh) ≤ 129 := o_ls (n := sh + 1) (by rw [Nat.one_mul]; exact Nat.pow_lt_pow_right (by omega) (Nat.lt_succ_self _)) (by omega)
 have hv := o_lr (m := 900) h2 (by omega : size (1 * 2 ^ sh) ≤ 900)
 refine G0 ?_; try with_reducible exact tt
 refine CallS.pf 2 1 ⟨129, _⟩ [.int .u64 (1 : Nat)] (o_iy [1] (o_jt (by omega)) (by simp)) (by first | rfl | (simp; done)) (R0 ?_); try with_reducible exact tt
 refine CallS.pu (o_jr 1 sh (by omega) h1) (R0 ?_); try with_reducible exact tt
 rw [Nat.one_mul] at hsz hv
 generalize 2 ^ sh = st at *
 refine CallS.pu (o_jf v st (by omega) (by omega)) (R0 ?_); try with_reducible exact tt
 refine CallS.pu (o_j1 (v + st) r (by omega) (by omega)) (R0 ?_); try with_reducible exact tt
 have hge : (0 ≤ cmpZ (v + st) r) ↔ r ≤ v + st := by
  unfold cmpZ; split <;> (try split) <;> omega
 by_cases hr : r ≤ v + st
 ·simp only [if_pos hr]
  have ew : IntKind.i64.wrap ((x : Int) + 1) = (x : Int) + 1 := w64 (by omega) (by omega)
  refine AW.cond rfl (fun h => ?_) (fun h => ?_)
  ·have hm := o_lw (s := s) (t := r)
   have hms := o_ji hm
   have hrr := o_lr h3 h3
   have hmsz : size (moreY s r) ≤ 1000 := by
    have := o_lr hrr hrr
    have h4 : r + r + (r + r) = 4 * r := by omega
    rw [h4] at this
    omega
   refine G1 ew ?_; try with_reducible exact tt
   refine CallS.pu (o_lv s r hs (by omega)) (R0 ?_); try with_reducible exact tt
   refine CallS.pu (o_lu s (moreY s r) hs hmsz) (R0 ?_); try with_reducible exact tt
  ·simp [hge, hr] at h
 ·simp only [if_neg hr]
  refine AW.cond rfl (fun h => ?_) (fun h => ?_)
  ·simp [hge, hr] at h
  ·refine G0 ?_; try with_reducible exact tt
end
end Go.Proofs.YtdklbnemfelpnaaGreatDoor.Am
namespace Go.Proofs.YtdklbnemfelpnaaGreatDoor.Am
section
open Go.RowKit
theorem o_ly (s : Nat) : Eqn Tryz.prog n_yu_walk [.d (.int .i64 s)] [] (.fn (.func o_hc) [.p 0 0]) [⟨3, [.d (.int .i64 s)]⟩] := by
 refine Eqn.newX r_yu_walk rfl ⟨rfl, fun _ => rfl⟩ (fun n => rfl) ?_
 simp only [c_yu_walk]
 refine G0 ?_; try with_reducible exact tt
 exact ⟨0, Sub1.refl _, _, rfl, rfl, Subs.refl _⟩

structure WalkS where
 r0 : C
 r1 : C
 g : C
 os : List O
 call : Option (Nat × List Nat × Option Nat)
 o4 : O
 cy : X
 r5 : C
 r6 : C
 ids : Nat × Nat
 calm : Bool
 res : Nat
 nt : Nat
def callS (o : Oper) : Option (Nat × List Nat × Option Nat) := match o.op, o.guard with
 | .call c, none => match c.callee, c.args.toList with
  | .value (.tmp f), [.tmp x, .tmp y] => some (f, [x, y], o.dst)
  | _, _ => none
 | _, _ => none
def walkS (P : Program) (f : FuncId) : Option WalkS := match P.funcs[f]? with
 | some fn => match fn.body with
  | some (.seq r0 (.seq r1 (.block i0 (.loop (.seq g (.seq (.block i1 (.seq (.seq (.region _ ops false) (.cond cy .ret .skip)) r5)) r6)))))) => match ops.toList with
   | [o0, o1, o2, o3, o4] => some ⟨resolveC P r0, resolveC P r1, resolveC P g, [o0, o1, o2].map (resolveO P ops), callS o3, resolveO P ops o4, X.of cy, resolveC P r5, resolveC P r6, (i0, i1), [o0, o1, o2].all notDefer && [o4].all notDefer, fn.results.size, fn.ntmps⟩
   | _ => none
  | _ => none
 | none => none
theorem o_lz {P : Program} {f : FuncId} {s : WalkS} (h : walkS P f = some s) : ∃ (fn : Func) (r0 r1 g r5 r6 : Code) (i id : Nat) (ops : Array Oper) (o0 o1 o2 o3 o4 : Oper) (cy : Operand),
  P.funcs[f]? = some fn ∧ fn.body = some (.seq r0 (.seq r1 (.block s.ids.1 (.loop (.seq g (.seq (.block s.ids.2 (.seq (.seq (.region id ops false) (.cond cy .ret .skip)) r5)) r6)))))) ∧ ops.toList = [o0, o1, o2, o3, o4] ∧
  resolveC P r0 = s.r0 ∧ resolveC P r1 = s.r1 ∧ resolveC P g = s.g ∧ [o0, o1, o2].map (resolveO P ops) = s.os ∧ callS o3 = s.call ∧ resolveO P ops o4 = s.o4 ∧ X.of cy = s.cy ∧ resolveC P r5 = s.r5 ∧ resolveC P r6 = s.r6 ∧ ([o0, o1, o2].all notDefer && [o4].all notDefer) = s.calm ∧ fn.results.size = s.res ∧ fn.ntmps = s.nt := by
 unfold walkS at h
 split at h
 ·rename_i fn hf
  split at h
  ·rename_i r0 r1 i0 g i1 id ops cy r5 r6 hb
   split at h
   ·rename_i o0 o1 o2 o3 o4 ho
    cases h
    exact ⟨fn, r0, r1, g, r5, r6, 0, id, ops, o0, o1, o2, o3, o4, cy, hf, hb, ho, rfl, rfl, rfl, rfl, rfl, rfl, rfl, rfl, rfl, rfl, rfl, rfl⟩
   ·cases h
  ·cases h
 ·cases h
theorem o_m0 {o : Oper} {f x y : Nat} {d : Option Nat} (h : callS o = some (f, [x, y], d)) : ∃ c, o.op = .call c ∧ o.guard = none ∧ c.callee = .value (.tmp f) ∧ c.args.toList = [.tmp x, .tmp y] ∧ o.dst = d := by
 unfold callS at h
 split at h
 ·rename_i c ho hg
  split at h
  ·rename_i hc ha
   cases h
   exact ⟨c, ho, hg, hc, ha, rfl⟩
  ·cases h
 ·cases h

structure AtS where
 a1 : C
 a2 : C
 a3 : C
 a4 : C
 g : X
 ps : List Nat
 asg : C
 bd : C
 a5 : List O
 id : Nat
 calm : Bool
 rs : List RV
 nt : Nat
def atS (P : Program) (f : FuncId) : Option AtS := match P.funcs[f]? with
 | some fn => match fn.body with
  | some (.seq a1 (.seq a2 (.seq a3 (.seq (.seq a4 (.block id (.rangeFunc g ps asg bd))) (.seq (.region _ ops false) .ret))))) =>
   some ⟨resolveC P a1, resolveC P a2, resolveC P a3, resolveC P a4, X.of g, ps.toList, resolveC P asg, resolveC P bd, ops.toList.map (resolveO P ops), id, Code.calm asg && (Code.calm bd && ops.toList.all notDefer), fn.results.toList.map (resolveR P), fn.ntmps⟩
  | _ => none
 | none => none
theorem o_m1 {P : Program} {f : FuncId} {s : AtS} (h : atS P f = some s) : ∃ (fn : Func) (a1 a2 a3 a4 asg bd : Code) (g : Operand) (ps : Array Nat) (id : Nat) (ops : Array Oper),
  P.funcs[f]? = some fn ∧ fn.body = some (.seq a1 (.seq a2 (.seq a3 (.seq (.seq a4 (.block s.id (.rangeFunc g ps asg bd))) (.seq (.region id ops false) .ret))))) ∧
  resolveC P a1 = s.a1 ∧ resolveC P a2 = s.a2 ∧ resolveC P a3 = s.a3 ∧ resolveC P a4 = s.a4 ∧ X.of g = s.g ∧ ps.toList = s.ps ∧ resolveC P asg = s.asg ∧ resolveC P bd = s.bd ∧ ops.toList.map (resolveO P ops) = s.a5 ∧ (Code.calm asg && (Code.calm bd && ops.toList.all notDefer)) = s.calm ∧ fn.results.toList.map (resolveR P) = s.rs ∧ fn.ntmps = s.nt := by
 unfold atS at h
 split at h
 ·rename_i fn hf
  split at h
  ·rename_i a1 a2 a3 a4 id g ps asg bd id' ops hb
   cases h
   exact ⟨fn, a1, a2, a3, a4, asg, bd, g, ps, id', ops, hf, hb, rfl, rfl, rfl, rfl, rfl, rfl, rfl, rfl, rfl, rfl, rfl, rfl⟩
  ·cases h
 ·cases h

def C.l : C → C
 | .seq a _ => a
 | c => c
def C.r : C → C
 | .seq _ b => b
 | c => c
def C.b : C → C
 | .block _ a | .loop a => a
 | c => c
def C.os : C → List O
 | .reg _ l => l
 | _ => []
def cAsg : C := .seq (.reg false [⟨some 7, .mv (.t 24), none, []⟩]) (.reg false [⟨some 8, .new 324 [.int .i64 0, .int .i64 0, .nilsl, .nilsl], none, []⟩, ⟨none, .store 4 (.t 8) (.t 25), none, [0, 0]⟩])
def cBd : C := .block 2 (.seq (.reg false [⟨some 26, .load true 4 (.t 8), none, []⟩, ⟨none, .store 4 (.t 6) (.t 26), none, [0, 0]⟩])
 (.seq (.reg false [⟨some 27, .mv (.t 7), none, []⟩, ⟨some 28, .load false 1 (.t 3), none, []⟩, ⟨some 29, .bin .eql (.t 27) (.t 28), none, [0, 1]⟩]) (.cond (.t 29) (.exit 1) .skip)))
theorem at_s : atS Tryz.prog o_h9 = some ⟨o_ha.l, o_ha.r.l, o_ha.r.r.l, o_ha.r.r.r.l.l, .t 23, [24, 25], cAsg, cBd, o_ha.r.r.r.r.l.os, 1, true, [.cell 4 true 4, .t 5], 31⟩ := by kernel_rfl
abbrev cWb : C := o_hd.r.r.b.b
theorem o_m2 : walkS Tryz.prog o_hc = some ⟨o_hd.l, o_hd.r.l, cWb.l, (cWb.r.l.b.l.l.os).take 3, some (15, [16, 17], some 18), ((cWb.r.l.b.l.l.os).drop 4).headD ⟨none, .bad, none, []⟩, .t 19, cWb.r.l.b.r, cWb.r.r, (0, 1), true, 0, 23⟩ := by kernel_rfl

abbrev kO (K : Nat) : Ob := ⟨3, [.d (.int .i64 K)]⟩
abbrev plO (c : List V) : Ob := ⟨324, c⟩

def Tr (i : Nat) (p : List D) : List V := [.junk, .junk, .junk, .p 0 0, .junk, .junk, .p 2 0] ++ List.replicate 17 .junk ++ [.d (.int .i64 i), .d (.agg p)] ++ List.replicate 5 .junk

theorem o_m3 (l n K i : Nat) (c : List V) (p : List D) (hp : p.length = 4) : AWr Tryz.prog (some l) n 3 cAsg (thenQ (fun T H => T = ((Tr i p).set 7 (.d (.int .i64 i))).set 8 (.p 3 0) ∧ H = [some (kO K), none, some (plO c), some (plO (p.map .d))]) noQ) (Tr i p) [some (kO K), none, some (plO c)] := by
 obtain ⟨p1, p2, p3, p4, rfl⟩ : ∃ a b c d, p = [a, b, c, d] := by
  match p, hp with
  | [a, b, c, d], _ => exact ⟨a, b, c, d, rfl⟩
 simp only [cAsg, Tr]
 refine AWr.seq (AWr.reg ?_)
 simp
 refine AWr.reg ?_
 simp

theorem o_m4 (l n K i : Nat) (c : List V) (hc : c.length = 4) (p : List D) (hp : p.length = 4) : AWr Tryz.prog (some l) n 3 cBd (fun e T H => H = [some (kO K), none, some (plO (p.map .d)), some (plO (p.map .d))] ∧ e = if i = K then .exit 1 else .normal) (((Tr i p).set 7 (.d (.int .i64 i))).set 8 (.p 3 0)) [some (kO K), none, some (plO c), some (plO (p.map .d))] := by
 obtain ⟨p1, p2, p3, p4, rfl⟩ : ∃ a b c d, p = [a, b, c, d] := by
  match p, hp with
  | [a, b, c, d], _ => exact ⟨a, b, c, d, rfl⟩
 obtain ⟨c1, c2, c3, c4, rfl⟩ : ∃ a b c' d, c = [a, b, c', d] := by
  match c, hc with
  | [a, b, c, d], _ => exact ⟨a, b, c, d, rfl⟩
 simp only [cBd, Tr]
 refine AWr.block ?_
 refine AWr.seq (AWr.reg ?_)
 simp
 refine AWr.seq (AWr.reg ?_)
 by_cases h : i = K
 ·subst h
  simp
  refine AWr.cond rfl (fun h => ?_) (fun h => ?_)
  ·refine AWr.exit ?_
   simp
  ·simp at h
 ·have h' : ¬ (i : Int) = K := by omega
  simp [h, h']
  refine AWr.cond rfl (fun h => ?_) (fun h => ?_)
  ·simp at h
   omega
  ·refine AWr.skip ?_
   simp

theorem o_m5 {m : Mem} {n : Nat} {o : Ob} (h : m.obj n o) : ∃ b, m.ρ n = some b := by
 obtain ⟨b, _, _, h1, _⟩ := h; exact ⟨b, h1⟩

def RoundR (K i : Nat) (p : List D) (m : Mem) (l : Nat) (rec : LoopState → Option Code → Loop) (e : Ending) (w' : World) : Prop :=
 ∃ m' : Mem, m'.w = w' ∧ m'.base ∧ m'.obj 0 (kO K) ∧ m'.obj 2 (plO (p.map .d)) ∧
  if i = K then e = .returned (.bool false) ∧ (m.at (m.w.putObj l (.loop (rec .done (some (.exit 1)))))).le m' (· < 3) else e = .returned (.bool true) ∧ m.le m' (· < 3)

theorem o_m6 {asg bd : Code} (hasg : resolveC Tryz.prog asg = cAsg) (hbd : resolveC Tryz.prog bd = cBd) (ca : Code.calm asg = true) (cb : Code.calm bd = true) {fn df : Nat} {tmps : Array Value} {rec : LoopState → Option Code → Loop}
  (hrec : rec = fun st pe => { state := st, pending := pe, fn, tmps, params := #[24, 25], assign := asg, body := bd, defers := df }) (n K i : Nat) (p : List D) (hp : p.length = 4) {m : Mem} {l : Nat} {c : List V} (mb : m.base) (h0 : m.obj 0 (kO K)) (h2 : m.obj 2 (plO c)) (hc : c.length = 4)
  (hinj : ∀ b, m.ρ 0 = some b → m.ρ 2 ≠ some b) (htop : ∀ n, n ≠ 0 → n ≠ 2 → m.ρ n = none) (t3 : (V.p 0 0).rep m (tmps.getD 3 undef)) (t6 : (V.p 2 0).rep m (tmps.getD 6 undef)) (hsz : tmps.size = 31) (hlo : m.loose l) (hl : m.w.heap[l]? = some (.loop (rec .ready none))) {v : Value} (hv : (V.d (.agg p)).rep m v) :
  YieldAt Fence.wide n Tryz.prog l #[.int .i64 i, v] m.w (RoundR K i p m l rec) := by
 have hy := run_yield (P := Tryz.prog) (args := #[.int .i64 i, v]) hl (by rw [hrec]; rfl)
 refine ⟨_, _, _, _, hy, ?_⟩
 have ht : ((rec .ready none).params.zip #[.int .i64 i, v]).foldl (fun tmps (t, a) => tmps.setIfInBounds t a) (rec .ready none).tmps = (tmps.setIfInBounds 24 (.int .i64 i)).setIfInBounds 25 v := by
  rw [hrec]; simp
 rw [ht, show (rec .ready none).assign = asg by rw [hrec], show (rec .ready none).body = bd by rw [hrec]]
 clear hy ht
 have sat : Sat m ⟨(tmps.setIfInBounds 24 (.int .i64 i)).setIfInBounds 25 v, []⟩ (Tr i p) [some (kO K), none, some (plO c)] := by
  refine ⟨mb, fun s => ?_, fun n ob h => ?_, fun n k b ln lk h1 h3 => ?_, fun n h => htop n (by simp at h; omega) (by simp at h; omega), by simp [Tr, hsz], rfl⟩
  ·have g : ((tmps.setIfInBounds 24 (.int .i64 i)).setIfInBounds 25 v).getD s undef = if s = 25 then v else if s = 24 then .int .i64 i else tmps.getD s undef := by
    rw [Array.getD_eq_getD_getElem?, Array.getElem?_setIfInBounds]
    by_cases e1 : s = 25
    ·subst e1; simp [hsz]
    ·rw [if_neg (by omega), if_neg e1, Array.getElem?_setIfInBounds]
     by_cases e2 : s = 24
     ·subst e2; simp [hsz]
     ·rw [if_neg (by omega), if_neg e2, Array.getD_eq_getD_getElem?]
   have g2 : (Tr i p).getD s .junk = if s = 25 then .d (.agg p) else if s = 24 then .d (.int .i64 i) else if s = 3 then .p 0 0 else if s = 6 then .p 2 0 else .junk := by
    rcases Nat.lt_or_ge s 31 with hs | hs
    ·have : ∀ s, s < 31 → (Tr i p).getD s .junk = if s = 25 then .d (.agg p) else if s = 24 then .d (.int .i64 i) else if s = 3 then .p 0 0 else if s = 6 then .p 2 0 else .junk := by
      intro s hs
      iterate 31 (rcases s with _ | s; · rfl)
      omega
     exact this s hs
    ·rw [if_neg (by omega), if_neg (by omega), if_neg (by omega), if_neg (by omega), List.getD_eq_getElem?_getD, List.getElem?_eq_none (by simp [Tr]; omega)]; rfl
   rw [g, g2]
   split
   ·exact hv
   ·split
    ·exact V.rep_int.2 rfl
    ·split
     ·rename_i e; subst e; exact t3
     ·split
      ·rename_i e; subst e; exact t6
      ·unfold V.rep; trivial
  ·rcases n with _ | _ | _ | n
   ·simp at h; subst h; exact h0
   ·simp at h
   ·simp at h; subst h; exact h2
   ·simp at h
  ·have l2 : ∀ n, live [some (kO K), none, some (plO c)] n → n = 0 ∨ n = 2 := fun n h => by
    rcases n with _ | _ | _ | n
    ·exact .inl rfl
    ·simp [live] at h
    ·exact .inr rfl
    ·simp [live] at h
   rcases l2 n ln with rfl | rfl <;> rcases l2 k lk with rfl | rfl
   ·rfl
   ·exact (hinj b h1 h3).elim
   ·exact (hinj b h3 h1).elim
   ·rfl
 have htop3 : ∀ n, 3 ≤ n → m.ρ n = none := fun n h => htop n (by omega) (by omega)
 refine roundIn_of_wpIn trivial (wpIn_mono (o_m3 l n K i c p hp asg hasg ca m m _ sat (Mem.le.refl _ _) htop3 (by simp)) ?_)
 rintro e a1 w1 ⟨T1, H1, m1, rfl, hq, sat1, hle1, _⟩
 cases e with
 | normal =>
  obtain ⟨rfl, rfl⟩ := hq
  obtain ⟨lo1, hl1⟩ := hlo.keep hle1
  have hl1' := hl1.trans hl
  refine ⟨_, run_beginRound hl1' (by rw [hrec]), ?_⟩
  have nc : ∀ (r : Loop) c t f, Obj.loop r ≠ .cells c t f := by intro r c t f h; cases h
  have hle2 := hlo.le hle1 (o := .loop { rec .ready none with state := .busy }) (o' := .loop { rec .ready none with state := .busy }) hl (nc _) (nc _) (nc _) rfl
  have sat2 := lo1.sat (.loop { rec .ready none with state := .busy }) sat1
  refine wpIn_mono (o_m4 l n K i c hc p hp bd hbd cb (m.at (m.w.putObj l (.loop { rec .ready none with state := .busy }))) _ a1 sat2 hle2 htop3 (by simp)) ?_
  rintro e a3 w3 ⟨T3, H3, m3, rfl, ⟨rfl, rfl⟩, sat3, hle3, _⟩
  obtain ⟨lo3, hl3⟩ := (hlo.put (.loop { rec .ready none with state := .busy })).keep hle3
  rw [World.putObj_heap_same hlo.lt] at hl3
  have hend := fun jump => run_endRound (P := Tryz.prog) jump hl3
  have hle4 := fun o (ho : ∀ c t f, o ≠ Obj.cells c t f) => (hlo.put (.loop { rec .ready none with state := .busy })).le hle3 (o := o) (o' := o) (World.putObj_heap_same hlo.lt) (nc _) ho ho rfl
  have sat4 := fun o => lo3.sat o sat3
  by_cases hik : i = K
  ·simp only [if_pos hik]
   refine ⟨_, _, hend (some (.exit 1)), ⟨_, rfl, (sat4 _).base, (sat4 _).obj 0 _ rfl, (sat4 _).obj 2 _ rfl, ?_⟩⟩
   rw [if_pos hik]
   refine ⟨rfl, ?_⟩
   have := hle4 (.loop { rec .ready none with state := .done, pending := some (.exit 1) }) (nc _)
   simp only [o_52] at this
   rw [hrec] at this ⊢
   exact this
  ·simp only [if_neg hik]
   refine ⟨_, _, hend none, ⟨_, rfl, (sat4 _).base, (sat4 _).obj 0 _ rfl, (sat4 _).obj 2 _ rfl, ?_⟩⟩
   rw [if_neg hik]
   refine ⟨rfl, ?_⟩
   have := hle4 (.loop (rec .ready none)) (nc _)
   simp only [o_52, o_53 hl] at this
   rw [hrec] at this ⊢
   exact this
 | _ => exact hq.elim
end
end Go.Proofs.YtdklbnemfelpnaaGreatDoor.Am
namespace Go.Proofs.YtdklbnemfelpnaaGreatDoor.Am
section
open Go.RowKit
theorem Sat.put {m : Mem} {a : Act} {T : List V} {H : List (Option Ob)} (sat : Sat m a T H) (s : Nat) {x : V} {v : Value} (hv : x.rep m v) : Sat m (a.put (some s) v) (T.set s x) H := by
 refine ⟨sat.base, fun i => ?_, sat.obj, sat.inj, sat.top, by rw [o_2z]; simpa using sat.size, by rw [o_30]; exact sat.defers⟩
 have h1 : T.set s x = putT T (some s) x := rfl
 rw [h1, o_31, o_2y, sat.size]
 split
 ·exact hv
 ·exact sat.slots i

abbrev sO (s : Nat) : Ob := ⟨3, [.d (.int .i64 s)]⟩
def plC (p : Pl) : List D := [.int .i64 p.x, .int .i64 p.shift, natW p.value, natW p.reply]
abbrev fnY (l : Nat) : V := .fn (.yield l) []
def Tw0 (l : Nat) : List V := [fnY l, .p 3 0, .junk, .p 5 0] ++ List.replicate 19 .junk
def Tw (l i : Nat) : List V := [fnY l, .p 3 0, .junk, .p 5 0, .d (.int .i64 i)] ++ List.replicate 18 .junk
def Hw (K s i : Nat) (c : List V) : List (Option Ob) := [some (kO K), none, some (plO c), some (sO s), none, some (plO ((plC (placeY s i)).map .d))]

theorem o_m7 {s k : Nat} (h1 : 1 ≤ s) (h5 : s ≤ 5) (hk : k ≤ 1024) : (placeY s k).x ≤ 100000 ∧ (placeY s k).shift ≤ 8192 ∧ size (placeY s k).value ≤ 900 ∧ size (placeY s k).reply ≤ 900 := by
 obtain ⟨a1, a2, a3, a4, a5⟩ := o_l8 h1 k
 refine ⟨by omega, by omega, ?_, ?_⟩
 ·refine Nat.le_trans (o_ls (n := 11 + (2 * s + k)) (m := 20) (Nat.lt_of_le_of_lt a4 ?_) (by omega)) (by omega)
  have hp := Nat.two_pow_pos (2 * s + k)
  rw [Nat.pow_add 2 11]
  generalize 2 ^ (2 * s + k) = z at *
  have h1 : k * z ≤ 1024 * z := Nat.mul_le_mul_right _ hk
  have h2 : (2 : Nat) ^ 11 * z = 2048 * z := rfl
  rw [h2]
  omega
 ·exact Nat.le_trans (o_ls (n := 2 * s + k + 1) (m := 20) (Nat.lt_of_le_of_lt a2 (Nat.pow_lt_pow_right (by omega) (Nat.lt_succ_self _))) (by omega)) (by omega)

theorem w_r0 (l K s : Nat) (h1 : 1 ≤ s) (h5 : s ≤ 5) (c : List V) (hc : V.lowl 6 c = true) : AW Tryz.prog 4 o_hd.l (thenQ (fun T H => wk 6 T (Tw0 l) ∧ wkH 6 H (Hw K s 0 c)) noQ) ([fnY l, .p 3 0] ++ List.replicate 21 .junk) [some (kO K), none, some (plO c), some (sO s)] := by
 simp only [o_hd, C.l, Tw0, Hw]
 have e1 : IntKind.i64.wrap (2 * (s : Int)) = 2 * (s : Int) := w64 (by omega) (by omega)
 have e2 : ((2 : Int) * s).toNat = 2 * s := by omega
 have e3 : (2 : Int) ^ (2 * s) = (2 ^ (2 * s) : Nat) := by rw [Int.natCast_pow]; rfl
 have hlt : 2 ^ (2 * s) ≤ 2 ^ 10 := Nat.pow_le_pow_right (by omega) (by omega)
 have hp0 : placeY s 0 = ⟨0, 0, 0, 2 ^ (2 * s)⟩ := rfl
 rw [hp0]
 generalize 2 ^ (2 * s) = q at *
 have e4 : IntKind.u64.wrap (q : Int) = q := wu64 (by omega) (by omega)
 have e5 : (2 : Int) * s ≤ 64 := by omega
 refine G1 (fs e1 (fs e2 (fs e3 (fs e4 e5)))) ?_; try with_reducible exact tt
 refine CallS.pf 4 1 ⟨129, _⟩ [.int .u64 q] (o_iy [q] (o_jt (by omega)) (by simp)) (by first | rfl | (simp; done)) (R0 ?_); try with_reducible exact tt
 exact ⟨Subs.cons (Sub1.refl _) (Subs.cons (Sub1.refl _) (Subs.cons Sub1.nil (Subs.of (by simp [wval])))), rfl⟩

theorem w_r1 (l K s : Nat) (c : List V) (hc : V.lowl 6 c = true) : AW Tryz.prog 4 o_hd.r.l (thenQ (fun T H => wk 6 T (Tw l 0) ∧ wkH 6 H (Hw K s 0 c)) noQ) (Tw0 l) (Hw K s 0 c) := by
 simp only [o_hd, C.l, C.r, Tw0, Tw, Hw]
 have hp : V.lowl 6 ((plC (placeY s 0)).map V.d) = true := rfl
 refine G1 (fs hc hp) ?_; try with_reducible exact tt

theorem w_g (l K s i : Nat) (hi : i ≤ 1023) (c : List V) (hc : V.lowl 6 c = true) : AW Tryz.prog 4 cWb.l (thenQ (fun T H => wk 6 T (Tw l i) ∧ wkH 6 H (Hw K s i c)) noQ) (Tw l i) (Hw K s i c) := by
 simp only [o_hd, C.l, C.r, C.b, Tw, Hw]
 have hp : V.lowl 6 ((plC (placeY s i)).map V.d) = true := rfl
 have h1 : (i : Int) ≤ 1023 := by omega
 refine G1 (fs hc (fs hp h1)) ?_; try with_reducible exact tt
 refine AW.cond rfl (fun h => ?_) (fun h => ?_)
 ·refine G1 (fs hc hp) ?_; try with_reducible exact tt
 ·simp [h1] at h

theorem w_r5 (l K s i : Nat) (h1 : 1 ≤ s) (h5 : s ≤ 5) (hi : i ≤ 1023) (c : List V) (hc : V.lowl 6 c = true) : AW Tryz.prog 4 cWb.r.l.b.r (thenQ (fun T H => wk 6 T (Tw l i) ∧ wkH 6 H (Hw K s (i + 1) c)) noQ) (Tw l i) (Hw K s i c) := by
 simp only [o_hd, C.l, C.r, C.b, Tw, Hw]
 obtain ⟨b1, b2, b3, b4⟩ := o_m7 h1 h5 (k := i) (by omega)
 have hn := o_lx s (placeY s i) h5 b1 b2 b3 b4
 rw [show nextY s (placeY s i) = placeY s (i + 1) from rfl] at hn
 generalize placeY s i = p at *
 generalize placeY s (i + 1) = p' at *
 simp only [plC, List.map_cons, List.map_nil, plD] at hn ⊢
 refine G1 hc ?_; try with_reducible exact tt
 refine CallS.pu (hn) (R1 hc ?_); try with_reducible exact tt

theorem w_r6 (l K s i : Nat) (hi : i ≤ 1023) (c : List V) (hc : V.lowl 6 c = true) : AW Tryz.prog 4 cWb.r.r (thenQ (fun T H => wk 6 T (Tw l (i + 1)) ∧ wkH 6 H (Hw K s (i + 1) c)) noQ) (Tw l i) (Hw K s (i + 1) c) := by
 simp only [o_hd, C.l, C.r, C.b, Tw, Hw]
 have hp : V.lowl 6 ((plC (placeY s (i + 1))).map V.d) = true := rfl
 generalize (plC (placeY s (i + 1))).map V.d = pc at *
 have ew : IntKind.i64.wrap ((i : Int) + 1) = (i : Int) + 1 := w64 (by omega) (by omega)
 refine G1 (fs hc (fs hp ew)) ?_; try with_reducible exact tt

theorem w_os (l K s i : Nat) (c : List V) (ops : Array Oper) {K' : List V → List (Option Ob) → Prop} (h : K' ((((Tw l i).set 15 (fnY l)).set 16 (.d (.int .i64 i))).set 17 (.d (.agg (plC (placeY s i))))) (Hw K s i c)) :
  vops Tryz.prog false K' ((cWb.r.l.b.l.l.os).take 3) [] (Tw l i) (Hw K s i c) := by
 simp only [cWb, o_hd, C.l, C.r, C.b, C.os, Tw, Hw] at h ⊢
 generalize placeY s i = p at *
 simp only [plC, List.map_cons, List.map_nil] at h ⊢
 simp
 simpa using h
theorem w_o4 (l K s i : Nat) (p : D) (b : Bool) (H : List (Option Ob)) {K' : List V → List (Option Ob) → Prop} (h : K' (((((Tw l i).set 15 (fnY l)).set 16 (.d (.int .i64 i))).set 17 (.d p)).set 18 (.d (.bool b)) |>.set 19 (.d (.bool !b))) H) :
  vops Tryz.prog false K' [((cWb.r.l.b.l.l.os).drop 4).headD ⟨none, .bad, none, []⟩] [] (((((Tw l i).set 15 (fnY l)).set 16 (.d (.int .i64 i))).set 17 (.d p)).set 18 (.d (.bool b))) H := by
 simp only [cWb, o_hd, C.l, C.r, C.b, C.os, Tw] at h ⊢
 simp
 simpa using h
end
end Go.Proofs.YtdklbnemfelpnaaGreatDoor.Am
namespace Go.Proofs.YtdklbnemfelpnaaGreatDoor.Am
section
open Go.RowKit
theorem o_m8 (n : Nat) (p : Pl) : V.lowl n ((plC p).map V.d) = true := rfl
theorem o_m9 {m : Mem} {a : Act} {T : List V} {H : List (Option Ob)} (sat : Sat m a T H) {s : Nat} {x : V} (h : T.getD s .junk = x) : x.rep m (a.tmps.getD s undef) := h ▸ sat.slots s
theorem nloop (r : Loop) : ∀ c t f, Obj.loop r ≠ .cells c t f := by intro c t f h; cases h

theorem o_ma {m m' : Mem} (hI : m'.I = m.I) (hw : m'.w = m.w) {ds : List D} {vs : List Value} (h : V.reps m (ds.map V.d) vs) : V.reps m' (ds.map V.d) vs := by
 rw [V.reps_map_d] at h ⊢
 rw [hI, hw]; exact h
theorem o_mb {m : Mem} {a : Act} {T : List V} {H : List (Option Ob)} (sat : Sat m a T H) {c : Operand} {s : Nat} (hc : X.of c = .t s) {b : Bool} (h : T.getD s .junk = .d (.bool b)) : a.eval c = .bool b :=
 V.rep_bool.1 (X.rep' (T := T) (fun s _ => sat.slots s) (by rw [hc]; exact h))
def zD : List D := [.int .i64 0, .int .i64 0, .nilsl, .nilsl]
def SS : Nat → Bool := fun n => n == 0 || n == 2

set_option maxHeartbeats 4000000 in
theorem o_mc {asg bd : Code} (hasg : resolveC Tryz.prog asg = cAsg) (hbd : resolveC Tryz.prog bd = cBd) (ca : Code.calm asg = true) (cb : Code.calm bd = true) {fn df : Nat} {tmps : Array Value} {rec : LoopState → Option Code → Loop}
  (hrec : rec = fun st pe => { state := st, pending := pe, fn, tmps, params := #[24, 25], assign := asg, body := bd, defers := df }) (s K : Nat) (s1 : 1 ≤ s) (s5 : s ≤ 5) (hK : K ≤ 1023) {m : Mem} {l : Nat} {sv : Value}
  (sat : ∀ a : Act, a.tmps = #[.func (.yield l) #[] #[], sv] ++ Array.replicate 21 undef → a.defers = [] → Sat m a ([fnY l, .p 3 0] ++ List.replicate 21 .junk) [some (kO K), none, some (plO (zD.map V.d)), some (sO s)])
  (t3 : (V.p 0 0).rep m (tmps.getD 3 undef)) (t6 : (V.p 2 0).rep m (tmps.getD 6 undef)) (hsz : tmps.size = 31) (hlo : m.loose l) (hl : m.w.heap[l]? = some (.loop (rec .ready none))) :
  Calls Tryz.prog o_hc #[.func (.yield l) #[] #[], sv] m.w fun e w' => (∃ v, e = .returned v) ∧ ∃ m' : Mem, m'.w = w' ∧ m'.base ∧ m'.obj 2 (plO ((plC (placeY s K)).map .d)) ∧ (m.at (m.w.putObj l (.loop (rec .done (some (.exit 1)))))).le m' (· < 4) := by
 obtain ⟨f67, r0, r1, g, r5, r6, -, id, ops, o0, o1, o2, o3, o4, cy, hf, hb, hops, e0, e1, eg, eos, ecall, eo4, ecy, er5, er6, ecalm, eres, ent⟩ := o_lz o_m2
 simp only at hb e0 e1 eg eos ecall eo4 ecy er5 er6 ecalm eres ent
 obtain ⟨cc, ho3, hg3, hc3, ha3, hd3⟩ := o_m0 ecall
 rw [Bool.and_eq_true] at ecalm
 refine calls_of_wp hf hb ((wpIn_wide (n := 0)).1 ?_)
 have sat0 := sat { tmps := #[.func (.yield l) #[] #[], sv] ++ Array.replicate (f67.ntmps - #[Value.func (.yield l) #[] #[], sv].size) undef, defers := [] } (by rw [ent]; rfl) rfl
 have htop : ∀ n, 4 ≤ n → m.ρ n = none := sat0.top
 refine AW.then (L := 4) e0 (w_r0 l K s s1 s5 (zD.map V.d) rfl) sat0 (Mem.le.refl _ _) htop (by simp) fun T1 H1 m1 a1 hq st1 le1 L1 => ?_
 obtain ⟨m1', hw1, st1', le1', L1'⟩ := Sat.weaken (T1 := Tw0 l) (H1 := Hw K s 0 (zD.map V.d)) (Weak.of hq.1 hq.2) st1 le1 htop (by simp [Hw])
 rw [← hw1]
 refine AW.then (L := 4) e1 (w_r1 l K s (zD.map V.d) rfl) st1' le1' htop (by simp [Hw]) fun T2 H2 m2 a2 hq st2 le2 L2 => ?_
 obtain ⟨m2', hw2, st2', le2', L2'⟩ := Sat.weaken (T1 := Tw l 0) (H1 := Hw K s 0 (zD.map V.d)) (Weak.of hq.1 hq.2) st2 le2 htop (by simp [Hw])
 rw [← hw2]
 clear hw1 hw2 st1 st2 sat0 sat le1 le2 L1 L2 st1' le1' L1' hq
 refine wpIn_block (wpIn_wide.2 (o_3w (fun k a w => ∃ (i : Nat) (c : List D) (m' : Mem), m'.w = w ∧ k = 1024 - i ∧ i ≤ K ∧ c.length = 4 ∧ Sat m' a (Tw l i) (Hw K s i (c.map V.d)) ∧ m.le m' (· < 4)) ?_ 1024 a2 m2'.w ⟨0, _, m2', rfl, rfl, Nat.zero_le _, rfl, st2', le2'⟩))
 clear st2' le2' L2' hq m2 m2' a2 T2 H2 m1 m1' a1 T1 H1
 rintro k a w ⟨i, c, mw, rfl, rfl, hi, hc, st, le⟩
 have hlc : V.lowl 6 (c.map V.d) = true := V.lowl_mono (by omega) _ (o_4a c).1
 refine (wpIn_wide (n := 0)).1 ?_
 refine AW.then (L := 4) eg (w_g l K s i (by omega) (c.map V.d) hlc) st le htop (by simp [Hw]) fun T1 H1 m1 a1 hq st1 le1 L1 => ?_
 obtain ⟨m1', hw1, st1', le1', L1'⟩ := Sat.weaken (T1 := Tw l i) (H1 := Hw K s i (c.map V.d)) (Weak.of hq.1 hq.2) st1 le1 htop (by simp [Hw])
 rw [← hw1]
 clear hw1 st1 le1 L1 hq st le m1 T1 H1 a mw
 refine wpIn_seq (wpIn_block (wpIn_seq (wpIn_seq (o_55 ?_))))
 rw [hops, show [o0, o1, o2, o3, o4] = [o0, o1, o2] ++ [o3, o4] from rfl]
 refine o_4w (l := none) (L := 4) (K := fun T H => T = ((((Tw l i).set 15 (fnY l)).set 16 (.d (.int .i64 i))).set 17 (.d (.agg (plC (placeY s i))))) ∧ H = Hw K s i (c.map V.d)) [o3, o4] ecalm.1 (by rw [eos]; exact w_os l K s i (c.map V.d) ops ⟨rfl, rfl⟩) st1' le1' htop (by simp [Hw]) fun T2 H2 a2 m2 hq st2 le2 L2 => ?_
 obtain ⟨rfl, rfl⟩ := hq
 clear st1' le1' L1' m1' a1
 -- the call of yield
 have g15 : a2.eval (.tmp 15) = .func (.yield l) #[] #[] := by
  have := o_m9 st2 (s := 15) (x := fnY l) (by simp [Tw])
  unfold V.rep at this
  obtain ⟨vs, h1, h2⟩ := this
  simp at h2
  subst h2
  exact h1
 have g16 : a2.eval (.tmp 16) = .int .i64 i := V.rep_int.1 (o_m9 st2 (s := 16) (by simp [Tw]))
 have g17 : (V.d (.agg (plC (placeY s i)))).rep m2 (a2.eval (.tmp 17)) := o_m9 st2 (s := 17) (by simp [Tw])
 obtain ⟨lo2, hl2⟩ := hlo.keep le2
 have hl2' := hl2.trans hl
 have hcut : ∀ n, n = 0 ∨ n = 2 → (m2.cut SS).ρ n = m2.ρ n := fun n h => by rcases h with rfl | rfl <;> simp [SS]
 have hobj : ∀ (n : Nat) (ty : TypeId) (ds : List D), n = 0 ∨ n = 2 → m2.obj n ⟨ty, ds.map V.d⟩ → (m2.cut SS).obj n ⟨ty, ds.map V.d⟩ := by
  rintro n ty ds hn ⟨b, vs, more, h1, h2, h3, h4, h5⟩
  exact ⟨b, vs, more, by rw [hcut n hn]; exact h1, h2, h3, o_ma (m := m2) (m' := m2.cut SS) rfl rfl (show V.reps m2 (ds.map V.d) vs from h4), h5⟩
 have hun : ∀ (n : Nat) (ty : TypeId) (ds : List D) (mr : Mem), n = 0 ∨ n = 2 → (∀ b, m2.ρ n = some b → mr.ρ n = some b) → mr.obj n ⟨ty, ds.map V.d⟩ → (⟨m2.ρ, mr.I, mr.w⟩ : Mem).obj n ⟨ty, ds.map V.d⟩ := by
  rintro n ty ds mr hn hρ ⟨b, vs, more, h1, h2, h3, h4, h5⟩
  obtain ⟨b', hb'⟩ : ∃ b', m2.ρ n = some b' := by
   rcases hn with rfl | rfl
   ·exact o_m5 (st2.obj 0 _ rfl)
   ·exact o_m5 (st2.obj 2 _ rfl)
  have := hρ b' hb'
  rw [h1] at this
  cases this
  exact ⟨b, vs, more, hb', h2, h3, o_ma (m := mr) (m' := ⟨m2.ρ, mr.I, mr.w⟩) rfl rfl (show V.reps mr (ds.map V.d) vs from h4), h5⟩
 have r3 : (V.p 0 0).rep (m2.cut SS) (tmps.getD 3 undef) := by
  unfold V.rep at t3 ⊢
  obtain ⟨b, h1, h2⟩ := t3
  exact ⟨b, by rw [hcut 0 (.inl rfl)]; exact le2.ρ 0 b h1, h2⟩
 have r6' : (V.p 2 0).rep (m2.cut SS) (tmps.getD 6 undef) := by
  unfold V.rep at t6 ⊢
  obtain ⟨b, h1, h2⟩ := t6
  exact ⟨b, by rw [hcut 2 (.inr rfl)]; exact le2.ρ 2 b h1, h2⟩
 have rv : (V.d (.agg (plC (placeY s i)))).rep (m2.cut SS) (a2.eval (.tmp 17)) := V.rep_d.2 (V.rep_d.1 g17)
 have loc : (m2.cut SS).loose l := by
  refine ⟨lo2.lt, fun n h => ?_, lo2.I⟩
  simp only at h
  split at h
  ·exact lo2.ρ n h
  ·cases h
 have hround := o_m6 hasg hbd ca cb hrec (0 - 1) K i (plC (placeY s i)) rfl (m := m2.cut SS) (l := l) (c := c.map V.d) (Mem.cut_base st2.base SS) (hobj 0 _ [.int .i64 K] (.inl rfl) (st2.obj 0 _ rfl)) (hobj 2 _ c (.inr rfl) (st2.obj 2 _ rfl)) (by simpa using hc)
  (fun b h0 h2 => by
   rw [hcut 0 (.inl rfl)] at h0; rw [hcut 2 (.inr rfl)] at h2
   have := st2.inj 0 2 b rfl rfl h0 h2
   omega)
  (fun n h0 h2 => by simp [SS, h0, h2]) r3 r6' hsz loc hl2' rv
 obtain ⟨fn', tmps', asg', bd', hy, hR⟩ := hround
 rw [← g16] at hy
 refine wpListIn_plain hg3 (fun Kk hKk => ⟨fun _ _ => trivial, ?_⟩)
 rw [show (FR none).round = none from rfl, Oper.semAt_none, o_51 ho3 hc3 ha3 g15, hy, Oper.uponIn_round]
 refine ⟨fun h => by simp [FR, Fence.wide] at h, hR.mono ?_⟩
 rintro e w' ⟨mr, rfl, mrb, mr0, mr2, hcase⟩
 -- both ways: a memory that fits
 have key : ∀ (o : Obj), (∀ c t f, o ≠ .cells c t f) → ((m2.cut SS).at (m2.w.putObj l o)).le mr (· < 3) → ∀ b : Bool,
   Sat ⟨m2.ρ, mr.I, mr.w⟩ (a2.put (some 18) (.bool b)) (((((Tw l i).set 15 (fnY l)).set 16 (.d (.int .i64 i))).set 17 (.d (.agg (plC (placeY s i))))).set 18 (.d (.bool b))) (Hw K s i ((plC (placeY s i)).map V.d)) ∧ (m2.at (m2.w.putObj l o)).le ⟨m2.ρ, mr.I, mr.w⟩ (fun n => SS n = true) := by
  intro o ho hle b
  have hu := Mem.uncut (m := m2.at (m2.w.putObj l o)) (S := SS) hle (fun n h => by simp [SS] at h; omega)
  have hρ : ∀ n b, m2.ρ n = some b → n = 0 ∨ n = 2 → mr.ρ n = some b := fun n b h hn => hle.ρ n b (by show (if SS n = true then m2.ρ n else none) = some b; rw [if_pos (by rcases hn with rfl | rfl <;> rfl)]; exact h)
  refine ⟨Sat.put (Sat.uncut (H' := Hw K s i ((plC (placeY s i)).map V.d)) (lo2.sat o st2) mrb hu (fun n h => ?_) rfl fun n ob h => ?_) 18 (V.rep_bool.2 rfl), hu⟩
  ·simp [SS] at h
   rcases h with rfl | rfl <;> rfl
  ·rcases n with _ | _ | _ | _ | _ | _ | n
   ·left; simp [Hw] at h; subst h
    exact ⟨rfl, hun 0 _ [.int .i64 K] mr (.inl rfl) (fun b h => hρ 0 b h (.inl rfl)) mr0⟩
   ·simp [Hw] at h
   ·left; simp [Hw] at h; subst h
    exact ⟨rfl, hun 2 _ (plC (placeY s i)) mr (.inr rfl) (fun b h => hρ 2 b h (.inr rfl)) mr2⟩
   ·right; simp [Hw] at h; subst h; exact ⟨rfl, rfl⟩
   ·simp [Hw] at h
   ·right; simp [Hw] at h; subst h; exact ⟨rfl, by simp [Hw]⟩
   ·simp [Hw] at h
 have hres : ∀ (a : Act) (w : World), (results f67 a.tmps).run Tryz.prog w = .ok (.tuple #[]) w := fun a w => by
  have : f67.results = #[] := Array.eq_empty_of_size_eq_zero eres
  simp [results, this]
 have hmap : [o4].map (resolveO Tryz.prog ops) = [((cWb.r.l.b.l.l.os).drop 4).headD ⟨none, .bad, none, []⟩] := by rw [← eo4]; rfl
 by_cases hik : i = K
 ·rw [if_pos hik] at hcase
  obtain ⟨rfl, hle⟩ := hcase
  obtain ⟨sat5, le5⟩ := key _ (nloop _) hle false
  refine hKk _ _ ?_
  rw [hd3]
  have lem := (hlo.le le2 (o := .loop (rec .done (some (.exit 1)))) (o' := .loop (rec .done (some (.exit 1)))) hl (nloop _) (nloop _) (nloop _) rfl).trans le5 (fun n b _ h => by simp [SS] at h; omega)
  refine o_4w (l := none) (L := 4) (m0 := m.at (m.w.putObj l (.loop (rec .done (some (.exit 1)))))) (m := ⟨m2.ρ, mr.I, mr.w⟩) (K := fun T H => T = (((((Tw l i).set 15 (fnY l)).set 16 (.d (.int .i64 i))).set 17 (.d (.agg (plC (placeY s i))))).set 18 (.d (.bool false))).set 19 (.d (.bool true)) ∧ H = Hw K s i ((plC (placeY s i)).map V.d)) [] ecalm.2 (by rw [hmap]; exact w_o4 l K s i _ false _ ⟨rfl, rfl⟩) sat5 lem htop (by simp [Hw]) fun T6 H6 a6 m6 hq st6 le6 _ => ?_
  obtain ⟨rfl, rfl⟩ := hq
  refine wpListIn_nil ?_
  refine wpIn_cond_split (o_mb st6 ecy (b := true) (by simp [Tw])) (fun _ => wpIn_ret ?_) (fun h => by cases h)
  refine ⟨st6.defers, _, hres _ _, ⟨_, rfl⟩, m6, rfl, st6.base, ?_, le6⟩
  rw [← hik]
  exact st6.obj 2 _ rfl
 ·rw [if_neg hik] at hcase
  obtain ⟨rfl, hle⟩ := hcase
  obtain ⟨sat5, le5⟩ := key (.loop (rec .ready none)) (nloop _) (by rw [o_53 hl2']; exact hle) true
  rw [o_53 hl2'] at le5
  refine hKk _ _ ?_
  rw [hd3]
  refine o_4w (l := none) (L := 4) (m0 := m) (m := ⟨m2.ρ, mr.I, mr.w⟩) (K := fun T H => T = (((((Tw l i).set 15 (fnY l)).set 16 (.d (.int .i64 i))).set 17 (.d (.agg (plC (placeY s i))))).set 18 (.d (.bool true))).set 19 (.d (.bool false)) ∧ H = Hw K s i ((plC (placeY s i)).map V.d)) [] ecalm.2 (by rw [hmap]; exact w_o4 l K s i _ true _ ⟨rfl, rfl⟩) sat5 (le2.trans le5 (fun n b _ h => by simp [SS] at h; omega)) htop (by simp [Hw]) fun T6 H6 a6 m6 hq st6 le6 _ => ?_
  obtain ⟨rfl, rfl⟩ := hq
  refine wpListIn_nil ?_
  refine wpIn_cond_split (o_mb st6 ecy (b := false) (by simp [Tw])) (fun h => by cases h) (fun _ => wpIn_skip ?_)
  have hlp := o_m8 6 (placeY s i)
  obtain ⟨m7, hw7, st7, le7, _⟩ := Sat.weaken (T1 := Tw l i) (H1 := Hw K s i ((plC (placeY s i)).map V.d)) (Weak.of (by simp [Tw, Hw, V.low, V.lowl]) (by simp [Hw, hlp, V.lowl, V.low])) st6 le6 htop (by simp [Hw])
  rw [← hw7]
  refine wpIn_mono (wpIn_wide.2 (w_r5 l K s i s1 s5 (by omega) _ hlp r5 er5 m m7 a6 st7 le7 htop (by simp [Hw]))) ?_
  rintro e a8 w8 ⟨T8, H8, m8, rfl, hq, st8, le8, _⟩
  cases e with
  | normal =>
   obtain ⟨m9, hw9, st9, le9, _⟩ := Sat.weaken (T1 := Tw l i) (H1 := Hw K s (i + 1) ((plC (placeY s i)).map V.d)) (Weak.of hq.1 hq.2) st8 le8 htop (by simp [Hw])
   rw [← hw9]
   refine wpIn_mono (wpIn_wide.2 (w_r6 l K s i (by omega) _ hlp r6 er6 m m9 a8 st9 le9 htop (by simp [Hw]))) ?_
   rintro e a10 w10 ⟨T10, H10, m10, rfl, hq, st10, le10, _⟩
   cases e with
   | normal =>
    obtain ⟨m11, hw11, st11, le11, _⟩ := Sat.weaken (T1 := Tw l (i + 1)) (H1 := Hw K s (i + 1) ((plC (placeY s i)).map V.d)) (Weak.of hq.1 hq.2) st10 le10 htop (by simp [Hw])
    exact ⟨1024 - (i + 1), by omega, i + 1, plC (placeY s i), m11, hw11, rfl, by omega, rfl, st11, le11⟩
   | _ => exact hq.elim
  | _ => exact hq.elim
end
end Go.Proofs.YtdklbnemfelpnaaGreatDoor.Am
namespace Go.Proofs.YtdklbnemfelpnaaGreatDoor.Am
section
open Go.RowKit
def atE (s k : Int) : Int := if 1 ≤ s ∧ s ≤ 5 then (if 0 ≤ k ∧ k ≤ 1023 then 0 else 2) else 10
def atP (s k : Int) : Pl := if atE s k = 0 then placeY s.toNat k.toNat else ⟨0, 0, 0, 0⟩

def Ta (s k : Nat) (x23 : V) : List V := [.d (.int .i64 s), .d (.int .i64 k), .junk, .p 0 0, .p 1 0, .d (.int .i64 0), .p 2 0] ++ List.replicate 16 .junk ++ [x23] ++ List.replicate 7 .junk
def Ta0 (s k : Nat) : List V := [.d (.int .i64 s), .d (.int .i64 k), .junk, .p 0 0, .p 1 0, .d (.int .i64 0)] ++ List.replicate 25 .junk
abbrev zO : Ob := plO (zD.map V.d)

theorem a_1 (s k : Nat) : AW Tryz.prog 0 o_ha.l (thenQ (fun T H => wk 2 T (Ta0 s k) ∧ wkH 2 H [some (kO k), some zO]) noQ) ([.d (.int .i64 s), .d (.int .i64 k)] ++ List.replicate 29 .junk) [] := by
 simp only [o_ha, C.l, Ta0]
 refine G0 ?_; try with_reducible exact tt
 exact ⟨Subs.refl _, rfl⟩
theorem a_2 (s k : Nat) (s1 : 1 ≤ s) (s5 : s ≤ 5) (hk : k ≤ 1023) : AW Tryz.prog 0 o_ha.r.l (thenQ (fun T H => wk 2 T (Ta0 s k) ∧ wkH 2 H [some (kO k), some zO]) noQ) (Ta0 s k) [some (kO k), some zO] := by
 simp only [o_ha, C.l, C.r, Ta0, zD]
 refine G0 ?_; try with_reducible exact tt
 refine CallS.pu (o_lp s) (R0 ?_); try with_reducible exact tt
 have h1 : (1 : Int) ≤ s ∧ (s : Int) ≤ 5 := by omega
 refine AW.cond rfl (fun h => ?_) (fun h => ?_)
 ·simp [h1] at h
 have h2 : ¬ (1023 : Int) < k := by omega
 refine G1 h2 ?_; try with_reducible exact tt
 refine AW.cond rfl (fun h => ?_) (fun h => ?_)
 ·simp at h
 refine G0 ?_; try with_reducible exact tt
 rfl
theorem a_3 (s k : Nat) : AW Tryz.prog 0 o_ha.r.r.l (thenQ (fun T H => wk 3 T (Ta s k .junk) ∧ wkH 3 H [some (kO k), some zO, some zO]) noQ) (Ta0 s k) [some (kO k), some zO] := by
 simp only [o_ha, C.l, C.r, Ta0, Ta]
 refine G0 ?_; try with_reducible exact tt
 exact ⟨Subs.refl _, rfl⟩
theorem a_4 (s k : Nat) : AW Tryz.prog 0 o_ha.r.r.r.l.l (thenQ (fun T H => wk 4 T (Ta s k (.fn (.func o_hc) [.p 3 0])) ∧ wkH 4 H [some (kO k), some zO, some zO, some (sO s)]) noQ) (Ta s k .junk) [some (kO k), some zO, some zO] := by
 simp only [o_ha, C.l, C.r, Ta]
 refine G0 ?_; try with_reducible exact tt
 refine CallS.newX (o_ly s) ⟨rfl, fun _ => rfl⟩ rfl (fun _ => rfl) (Subs.refl _) ?_
 simp [nameOf, V.ren, V.rens]
 rfl
theorem a_5 (s k : Nat) (x : V) (p : Pl) {K' : List V → List (Option Ob) → Prop} (h : ∀ T, T.getD 4 .junk = .p 1 0 → T.getD 5 .junk = .d (.int .i64 0) → K' T [none, some (plO ((plC p).map V.d)), some (plO ((plC p).map V.d)), none]) :
  vops Tryz.prog false K' o_ha.r.r.r.r.l.os [] (Ta s k x) [none, some zO, some (plO ((plC p).map V.d)), none] := by
 simp only [o_ha, C.l, C.r, C.os, Ta, zD]
 simp only [plC, List.map_cons, List.map_nil] at h ⊢
 simp
 exact need.of (by decide) (h _ rfl rfl)

theorem o_md (l : List V) (n i : Nat) (h : l.length ≤ i) : (l ++ List.replicate n V.junk).getD i .junk = .junk := by
 rw [List.getD_eq_getElem?_getD, List.getElem?_append_right h, List.getElem?_replicate]; split <;> rfl
theorem o_me {m : Mem} {H : List (Option Ob)} {a : Act} {l : Nat} {sv : Value} (hb : m.base) (hobj : ∀ n ob, H.getD n none = some ob → m.obj n ob) (hinj : ∀ n k b, live H n → live H k → m.ρ n = some b → m.ρ k = some b → n = k) (htop : ∀ n, H.length ≤ n → m.ρ n = none)
  (hv : (V.p 3 0).rep m sv) (ht : a.tmps = #[.func (.yield l) #[] #[], sv] ++ Array.replicate 21 undef) (hd : a.defers = []) : Sat m a ([fnY l, .p 3 0] ++ List.replicate 21 .junk) H := by
 refine ⟨hb, fun s => ?_, hobj, hinj, htop, by rw [ht]; simp, hd⟩
 rcases s with _ | _ | s
 ·rw [ht]
  show V.rep m (fnY l) _
  unfold V.rep
  exact ⟨[], by simp, by simp⟩
 ·rw [ht]
  show V.rep m (.p 3 0) _
  simpa using hv
 ·have : ([fnY l, .p 3 0] ++ List.replicate 21 V.junk).getD (s + 2) .junk = .junk := o_md _ _ _ (by simp)
  rw [this]
  unfold V.rep
  trivial
def SC : Nat → Bool := fun n => n == 0 || n == 2 || n == 3

set_option maxHeartbeats 4000000 in
theorem o_mf (s k : Nat) (s1 : 1 ≤ s) (s5 : s ≤ 5) (hk : k ≤ 1023) : Eqn Tryz.prog o_h9 [.d (.int .i64 s), .d (.int .i64 k)] [] (.tup [.d (plD (placeY s k)), .d (.int .i64 0)]) [] := by
 refine ⟨Nat.le_refl _, by simp, rfl, by simp, fun m vs mb hargs _ _ htop => .inr ⟨o_56 o_hb _ _, ?_⟩⟩
 obtain ⟨v0, _, rfl, hv0, hargs⟩ := V.reps_cons'.1 hargs
 obtain ⟨v1, _, rfl, hv1, hargs⟩ := V.reps_cons'.1 hargs
 simp at hargs; subst hargs
 have htop : ∀ n, 0 ≤ n → m.ρ n = none := fun n _ => htop n (Nat.zero_le _)
 obtain ⟨f10, a1, a2, a3, a4, asg, bd, g, ps, id, ops, hf, hb, e1, e2, e3, e4, eg, eps, easg, ebd, e5, ecalm, ers, ent⟩ := o_m1 at_s
 simp only at hb e1 e2 e3 e4 eg eps easg ebd e5 ecalm ers ent
 rw [Bool.and_eq_true, Bool.and_eq_true] at ecalm
 obtain ⟨calA, calB, calO⟩ := ecalm
 have eps : ps = #[24, 25] := by rw [← Array.toArray_toList (xs := ps), eps]
 subst eps
 refine (callsIn_wide (n := 1)).1 (callsIn_of_wp_marks hf hb trivial ?_ rfl)
 have hsize : f10.ntmps - 2 = 29 := by rw [ent]
 have sat0 : Sat m { tmps := #[v0, v1] ++ Array.replicate (f10.ntmps - #[v0, v1].size) undef, defers := [] } ([.d (.int .i64 s), .d (.int .i64 k)] ++ List.replicate 29 .junk) [] := by
  refine ⟨mb, fun i => ?_, by simp, fun n k b ln => by simp [live] at ln, fun n _ => htop n (Nat.zero_le _), by simp [ent], rfl⟩
  rcases i with _ | _ | i
  ·show V.rep m (.d (.int .i64 s)) _
   rw [Array.getD_eq_getD_getElem?, Array.getElem?_append_left (by simp)]
   exact hv0
  ·show V.rep m (.d (.int .i64 k)) _
   rw [Array.getD_eq_getD_getElem?, Array.getElem?_append_left (by simp)]
   exact hv1
  ·have : ([V.d (.int .i64 s), V.d (.int .i64 k)] ++ List.replicate 29 V.junk).getD (i + 2) .junk = .junk := o_md _ _ _ (by simp)
   rw [this]
   unfold V.rep
   trivial
 refine AW.then (L := 0) e1 (a_1 s k) sat0 (Mem.le.refl _ _) htop (by simp) fun T1 H1 m1 w1 hq st1 le1 _ => ?_
 obtain ⟨m1', hw1, st1', le1', _⟩ := Sat.weaken (T1 := Ta0 s k) (H1 := [some (kO k), some zO]) (Weak.of hq.1 hq.2) st1 le1 htop (by simp)
 rw [← hw1]
 refine AW.then (L := 0) e2 (a_2 s k s1 s5 hk) st1' le1' htop (by simp) fun T2 H2 m2 w2 hq st2 le2 _ => ?_
 obtain ⟨m2', hw2, st2', le2', _⟩ := Sat.weaken (T1 := Ta0 s k) (H1 := [some (kO k), some zO]) (Weak.of hq.1 hq.2) st2 le2 htop (by simp)
 rw [← hw2]
 refine AW.then (L := 0) e3 (a_3 s k) st2' le2' htop (by simp) fun T3 H3 m3 w3 hq st3 le3 _ => ?_
 obtain ⟨m3', hw3, st3', le3', _⟩ := Sat.weaken (T1 := Ta s k .junk) (H1 := [some (kO k), some zO, some zO]) (Weak.of hq.1 hq.2) st3 le3 htop (by simp)
 rw [← hw3]
 refine wpIn_seq ?_
 refine AW.then (L := 0) e4 (a_4 s k) st3' le3' htop (by simp) fun T4 H4 m4' w4 hq st4 le4 _ => ?_
 obtain ⟨m4, hw4, st4', le4', _⟩ := Sat.weaken (T1 := Ta s k (.fn (.func o_hc) [.p 3 0])) (H1 := [some (kO k), some zO, some zO, some (sO s)]) (Weak.of hq.1 hq.2) st4 le4 htop (by simp)
 rw [← hw4]
 clear hw1 hw2 hw3 hw4 st1 st2 st3 st4 st1' st2' st3' le1 le2 le3 le4 le1' le2' le3' hq sat0
 refine wpIn_block (wpIn_rangeFunc fun fn' _ => ?_)
 -- the function that is ranged over
 have gt3 : (V.p 0 0).rep m4 (w4.tmps.getD 3 undef) := o_m9 st4' (s := 3) rfl
 have gt6 : (V.p 2 0).rep m4 (w4.tmps.getD 6 undef) := o_m9 st4' (s := 6) rfl
 have gt23 : (V.fn (.func o_hc) [.p 3 0]).rep m4 (w4.tmps.getD 23 undef) := o_m9 st4' (s := 23) rfl
 unfold V.rep at gt23
 obtain ⟨cvs, hg23, hcv⟩ := gt23
 obtain ⟨sv, _, rfl, hsv, hcv⟩ := V.reps_cons'.1 hcv
 simp at hcv; subst hcv
 have hgt : g = .tmp 23 := by
  cases g <;> simp [X.of] at eg
  ·rw [eg]
  ·rename_i v; cases h : D.of1 v <;> simp [h] at eg
 have hgev : w4.eval g = .func (.func o_hc) #[] #[sv] := by rw [hgt]; exact hg23
 obtain ⟨rec, hrec⟩ : ∃ rec : LoopState → Option Code → Loop, rec = fun st pe => { state := st, pending := pe, fn := fn', tmps := w4.tmps, params := #[24, 25], assign := asg, body := bd, defers := m4.w.heap.size } := ⟨_, rfl⟩
 obtain ⟨W1, hW1⟩ : ∃ W1, W1 = (m4.w.alloc (.deferred (some []))).alloc (.loop (rec .ready none)) := ⟨_, rfl⟩
 have hl1 : W1.heap[m4.w.heap.size + 1]? = some (.loop (rec .ready none)) := by
  rw [hW1]; have := World.alloc_heap_new (m4.w.alloc (.deferred (some []))) (.loop (rec .ready none)); rwa [World.size_alloc] at this
 have hd1 : W1.heap[m4.w.heap.size]? = some (.deferred (some [])) := by
  rw [hW1]; exact (Below.heap_alloc _ _ _ (by simp)).trans (World.alloc_heap_new m4.w _)
 have satw : Sat (m4.at W1) w4 (Ta s k (.fn (.func o_hc) [.p 3 0])) [some (kO k), some zO, some zO, some (sO s)] := by
  rw [hW1]; exact (st4'.grow _).grow _
 have lew : m.le (m4.at W1) (· < 0) := by
  rw [hW1]; exact (le4'.grow st4'.base _).grow (st4'.grow _).base _
 have loD : (m4.at W1).loose m4.w.heap.size := by
  rw [hW1]; exact (o_54 st4'.base _).grow _
 have loL : (m4.at W1).loose (m4.w.heap.size + 1) := by
  rw [hW1]
  have := o_54 (st4'.grow (.deferred (some []))).base (.loop (rec .ready none))
  simpa using this
 have hb4 : m.w.heap.size ≤ m4.w.heap.size := le4'.size
 have hrep1 : ∀ x v, V.rep m4 x v → V.rep (m4.at W1) x v := fun x v h => by
  rw [hW1]
  exact V.rep_off (m := m4) (m' := m4.at ((m4.w.alloc (.deferred (some []))).alloc (.loop (rec .ready none)))) ⟨rfl, rfl, fun b hb => (Below.heap_alloc _ _ _ (by simp; have := st4'.base.imm b hb; omega)).trans (Below.heap_alloc _ _ _ (st4'.base.imm b hb)), fun n b hb => (Below.heap_alloc _ _ _ (by simp; have := st4'.base.dom n b hb; omega)).trans (Below.heap_alloc _ _ _ (st4'.base.dom n b hb))⟩ x v h
 generalize hLn : m4.w.heap.size + 1 = l at *
 generalize hDn : m4.w.heap.size = dd at *
 refine ⟨l, [{ target := .collected dd, args := #[] }], W1, { target := .fn (.func o_hc) #[sv], args := #[.func (.yield l) #[] #[]] }, W1, o_hc, #[.func (.yield l) #[] #[], sv], W1, ?_, ?_, fun _ _ => trivial, ?_, fun h => by simp [Fence.wide] at h, ?_⟩
 ·have := run_enterLoop_outer (P := Tryz.prog) (w := m4.w) fn' w4.tmps #[24, 25] asg bd
  rw [hW1, hrec, ← hLn, ← hDn]
  exact this
 ·simp only [Go.resolve, hgev]
  simp [go_sem, Deferred.ofValue]
 ·simp [invoke, go_sem]
 refine callsIn_wide.2 ?_
 -- the memory that the walk sees
 have cutr : ∀ n, SC n = true → ((m4.at W1).cut SC).ρ n = m4.ρ n := fun n h => by simp [h]
 have cobj : ∀ (n : Nat) (ty : TypeId) (ds : List D), SC n = true → (m4.at W1).obj n ⟨ty, ds.map V.d⟩ → ((m4.at W1).cut SC).obj n ⟨ty, ds.map V.d⟩ := by
  rintro n ty ds hn ⟨b, vs, more, h1, h2, h3, h4, h5⟩
  exact ⟨b, vs, more, by rw [cutr n hn]; exact h1, h2, h3, o_ma (m := m4.at W1) (m' := (m4.at W1).cut SC) rfl rfl (show V.reps (m4.at W1) (ds.map V.d) vs from h4), h5⟩
 have prep : ∀ n o v, SC n = true → (V.p n o).rep (m4.at W1) v → (V.p n o).rep ((m4.at W1).cut SC) v := by
  intro n o v hn h
  unfold V.rep at h ⊢
  obtain ⟨b, h1, h2⟩ := h
  exact ⟨b, by rw [cutr n hn]; exact h1, h2⟩
 have loC : ((m4.at W1).cut SC).loose l := by
  refine ⟨loL.lt, fun n h => ?_, loL.I⟩
  simp only at h
  split at h
  ·exact loL.ρ n h
  ·cases h
 have lv : ∀ n, live [some (kO k), none, some zO, some (sO s)] n → SC n = true := fun n h => by
  rcases n with _ | _ | _ | _ | n <;> first | rfl | (simp [live] at h)
 have hwalk := o_mc (m := (m4.at W1).cut SC) (l := l) (sv := sv) easg ebd calA calB hrec s k s1 s5 hk
  (fun a ha hd => o_me (H := [some (kO k), none, some zO, some (sO s)]) (Mem.cut_base satw.base SC) (fun n ob h => by
   rcases n with _ | _ | _ | _ | n
   ·simp at h; subst h; exact cobj 0 _ [.int .i64 k] rfl (satw.obj 0 _ rfl)
   ·simp at h
   ·simp at h; subst h; exact cobj 2 _ zD rfl (satw.obj 2 _ rfl)
   ·simp at h; subst h; exact cobj 3 _ [.int .i64 s] rfl (satw.obj 3 _ rfl)
   ·simp at h) (fun n k' b h1 h2 h3 h4 => by
    have l1 := lv n h1
    have l2 := lv k' h2
    rw [cutr n l1] at h3; rw [cutr k' l2] at h4
    refine satw.inj n k' b ?_ ?_ h3 h4
    ·rcases n with _ | _ | _ | _ | n <;> first | rfl | (simp [live] at h1)
    ·rcases k' with _ | _ | _ | _ | k' <;> first | rfl | (simp [live] at h2)) (fun n h => by
    have h4 : ¬ SC n = true := by simp [SC]; simp at h; omega
    simp [h4]) (prep 3 0 sv rfl (hrep1 _ _ hsv)) ha hd)
  (prep 0 0 _ rfl (hrep1 _ _ gt3)) (prep 2 0 _ rfl (hrep1 _ _ gt6)) (by rw [satw.size]; rfl) loC hl1
 refine hwalk.mono ?_
 rintro e w5 ⟨⟨v, rfl⟩, m5, rfl, b5, o5, le5⟩
 obtain ⟨loC5, hl5⟩ := (loC.put (.loop (rec .done (some (.exit 1))))).keep le5
 have hl5' := hl5.trans (World.putObj_heap_same loC.lt)
 have hrd : ∀ st pe, (rec st pe).state = st ∧ (rec st pe).pending = pe := fun st pe => by rw [hrec]; exact ⟨rfl, rfl⟩
 have hend := run_endLoop (P := Tryz.prog) hl5' (by rw [(hrd _ _).1]; simp)
 rw [(hrd _ _).2] at hend
 obtain ⟨o6, hend⟩ : ∃ o6, (Instr.endLoop l).run Tryz.prog m5.w = .ok (some (.exit 1)) (m5.w.putObj l o6) := ⟨_, hend⟩
 refine ⟨_, _, hend, wpIn_exit ?_⟩
 -- back in the asker
 have hu := Mem.uncut (m := (m4.at W1).at (W1.putObj l (.loop (rec .done (some (.exit 1)))))) (S := SC) le5 (fun n h => by simp [SC] at h; omega)
 have lo5 : (⟨m4.ρ, m5.I, m5.w⟩ : Mem).loose l := ((loL.put (.loop (rec .done (some (.exit 1))))).keep hu).1
 have loD5 := (Mem.loose.keep (m := (m4.at W1).at (W1.putObj l (.loop (rec .done (some (.exit 1)))))) (l := dd) ⟨by simpa using loD.lt, loD.ρ, loD.I⟩ hu)
 have hne : dd ≠ l := by omega
 have hd5 : m5.w.heap[dd]? = some (.deferred (some [])) := loD5.2.trans ((World.putObj_heap_other hne).trans hd1)
 have obj2 : (⟨m4.ρ, m5.I, m5.w⟩ : Mem).obj 2 (plO ((plC (placeY s k)).map V.d)) := by
  obtain ⟨b, vs, more, h1, h2, h3, h4, h5⟩ := o5
  obtain ⟨b', hb'⟩ := o_m5 (satw.obj 2 _ rfl)
  have := le5.ρ 2 b' (by show (if SC 2 = true then m4.ρ 2 else none) = some b'; rw [if_pos (show SC 2 = true from rfl)]; exact hb')
  rw [h1] at this
  cases this
  exact ⟨b, vs, more, hb', h2, h3, o_ma (m := m5) (m' := ⟨m4.ρ, m5.I, m5.w⟩) rfl rfl (show V.reps m5 ((plC (placeY s k)).map V.d) vs from h4), h5⟩
 have sat5 : Sat ⟨m4.ρ, m5.I, m5.w⟩ w4 (Ta s k (.fn (.func o_hc) [.p 3 0])) [none, some zO, some (plO ((plC (placeY s k)).map V.d)), none] := by
  refine Sat.uncut (m := (m4.at W1).at (W1.putObj l (.loop (rec .done (some (.exit 1)))))) (loL.sat (.loop (rec .done (some (.exit 1)))) satw) b5 hu (fun n h => ?_) rfl fun n ob h => ?_
  ·simp [SC] at h
   rcases h with (rfl | rfl) | rfl <;> rfl
  ·rcases n with _ | _ | _ | _ | n
   ·simp at h
   ·right; simp at h; subst h; exact ⟨rfl, rfl⟩
   ·left; simp at h; subst h; exact ⟨rfl, obj2⟩
   ·simp at h
   ·simp at h
 have le5' : m.le ⟨m4.ρ, m5.I, m5.w⟩ (· < 0) := by
  refine Mem.le.trans (lew.far mb (l := l) (by omega) (.loop (rec .done (some (.exit 1))))) hu fun n b h _ => ?_
  rw [htop n (Nat.zero_le _)] at h; cases h
 have sat6 := lo5.sat o6 sat5
 have le6 := le5'.far mb (l := l) (by omega) o6
 have hd6 : (m5.w.putObj l o6).heap[dd]? = some (.deferred (some [])) := (World.putObj_heap_other hne).trans hd5
 have loD6 : ((⟨m4.ρ, m5.I, m5.w⟩ : Mem).at (m5.w.putObj l o6)).loose dd := ⟨by simpa using loD5.1.lt, loD5.1.ρ, loD5.1.I⟩
 show (Code.seq (.region id ops false) .ret).wpIn Fence.wide 1 _ _ _ _
 refine wpIn_seq (o_55 ?_)
 have hops : ops.toList = ops.toList ++ [] := (List.append_nil _).symm
 rw [hops]
 refine o_50 (D := [{ target := .collected dd, args := #[] }]) (Q := fun e a w => e = .normal ∧ ∃ T' H' m', m'.w = w ∧ Sat m' a T' H' ∧ T'.getD 4 .junk = .p 1 0 ∧ T'.getD 5 .junk = .d (.int .i64 0) ∧ H' = [none, some (plO ((plC (placeY s k)).map V.d)), some (plO ((plC (placeY s k)).map V.d)), none] ∧ m.le m' (· < 0) ∧ ((⟨m4.ρ, m5.I, m5.w⟩ : Mem).at (m5.w.putObj l o6)).le m' (· < 4)) ?_ _ w4 _ _ ⟨rfl, by rw [st4'.defers]; rfl⟩ ?_
 ·rintro e a a' w hbes ⟨rfl, T7, H7, m7, rfl, st7, h4, h5, rfl, le0, le7⟩
  refine wpIn_ret ?_
  have hdf : a'.defers = [{ target := .collected dd, args := #[] }] := by rw [hbes.defers, st7.defers]; rfl
  show LeavesInM _ _ _ _ _ _ a'.defers _ _
  rw [hdf, ← hbes.tmps]
  obtain ⟨lo7, hl7⟩ := loD6.keep le7
  have hd7 := hl7.trans hd6
  refine ⟨by simp, .inl ⟨dd, _, rfl, run_takeDeferred hd7, ?_⟩⟩
  have sat8 := lo7.sat (.deferred none) st7
  obtain ⟨v, hv1, hv2⟩ := o_41 (P := Tryz.prog) sat8 f10 (.tup [.d (plD (placeY s k)), .d (.int .i64 0)]) (by
   rw [ers]
   simp only [outV, outs, RV.out, h4, h5]
   rfl)
  refine ⟨v, hv1, v, ⟨fun _ => none, m7.I, m7.w.putObj dd (.deferred none)⟩, rfl, rfl, ?_⟩
  have lem := le0.far mb (l := dd) (by omega) (.deferred none)
  refine ⟨⟨sat8.base.imm, fun n b h => (by cases h), sat8.base.tabs.mono (fun _ h => h) (fun _ _ => rfl)⟩, ⟨fun n b h => (by rw [htop n (Nat.zero_le _)] at h; cases h), lem.I, lem.os, lem.tape, lem.output, lem.size, lem.block, lem.shape, lem.imm, lem.newI, fun n b h => (by cases h)⟩, ?_, by simp, by simp, fun _ _ => rfl, fun n b _ h => (by cases h)⟩
  unfold V.rep at hv2 ⊢
  obtain ⟨us, h1, h2⟩ := hv2
  exact ⟨us, h1, o_ma (ds := [plD (placeY s k), .int .i64 0]) (m := m7.at (m7.w.putObj dd (.deferred none))) rfl rfl h2⟩
 ·refine o_4w (l := none) (L := 4) (m0 := (⟨m4.ρ, m5.I, m5.w⟩ : Mem).at (m5.w.putObj l o6)) (m := (⟨m4.ρ, m5.I, m5.w⟩ : Mem).at (m5.w.putObj l o6)) (K := fun T H => T.getD 4 .junk = .p 1 0 ∧ T.getD 5 .junk = .d (.int .i64 0) ∧ H = [none, some (plO ((plC (placeY s k)).map V.d)), some (plO ((plC (placeY s k)).map V.d)), none]) [] calO (by rw [e5]; exact a_5 s k _ _ fun T h1 h2 => ⟨h1, h2, rfl⟩) sat6 (Mem.le.refl _ _) sat6.top (by simp) fun T7 H7 a7 m7 hq st7 le7 _ => ?_
  refine wpListIn_nil ⟨rfl, T7, H7, m7, rfl, st7, hq.1, hq.2.1, hq.2.2, ?_, le7⟩
  refine Mem.le.trans le6 le7 fun n b h _ => ?_
  rw [htop n (Nat.zero_le _)] at h; cases h

theorem Sub1.aggd {l r : List D} (h : Subs (l.map V.d) (r.map V.d)) : Sub1 (.d (.agg l)) (.d (.agg r)) := fun m v k => by
 rw [V.rep_d] at k ⊢
 unfold D.rep at k ⊢
 obtain ⟨vs, h1, h2, h3⟩ := k
 exact ⟨vs, h1, h2, V.reps_map_d.1 (h m vs (V.reps_map_d.2 h3))⟩
theorem Sub1.pl0 (e : D) : Sub1 (.tup [.d (.agg [.int .i64 0, .int .i64 0, .nilsl, .nilsl]), .d e]) (.tup [.d (plD ⟨0, 0, 0, 0⟩), .d e]) :=
 Sub1.tup (Subs.cons (Sub1.aggd (Subs.cons (Sub1.refl _) (Subs.cons (Sub1.refl _) (Subs.cons Sub1.nil (Subs.cons Sub1.nil (Subs.refl _)))))) (Subs.refl _))

theorem o_mg (s k : Int) : Eqn Tryz.prog o_h9 [.d (.int .i64 s), .d (.int .i64 k)] [] (.tup [.d (plD (atP s k)), .d (.int .i64 (atE s k))]) [] := by
 by_cases hs : 1 ≤ s ∧ s ≤ 5
 ·by_cases hk : 0 ≤ k ∧ k ≤ 1023
  ·have e : atE s k = 0 := by rw [atE, if_pos hs, if_pos hk]
   obtain ⟨s, rfl⟩ : ∃ n : Nat, s = n := ⟨s.toNat, by omega⟩
   obtain ⟨k, rfl⟩ : ∃ n : Nat, k = n := ⟨k.toNat, by omega⟩
   rw [atP, if_pos e, e]
   exact o_mf s k (by omega) (by omega) (by omega)
  ·have e : atE s k = 2 := by rw [atE, if_pos hs, if_neg hk]
   rw [atP, if_neg (by rw [e]; omega), e]
   refine Eqn.pure o_hb (o_jd _ _) ?_
   simp only [o_ha]
   refine G0 ?_; try with_reducible exact tt
   refine CallS.pu (o_lp s) (R0 ?_); try with_reducible exact tt
   refine AW.cond rfl (fun h => ?_) (fun h => ?_)
   ·simp [hs] at h
   by_cases h0 : k < 0
   ·refine G1 h0 ?_; try with_reducible exact tt
    refine AW.cond rfl (fun h => ?_) (fun h => ?_)
    ·refine G0 ?_; try with_reducible exact tt
     exact Sub1.pl0 _
    ·simp [h0] at h
   ·have h1 : 1023 < k := by omega
    refine G1 (fs h0 h1) ?_; try with_reducible exact tt
    refine AW.cond rfl (fun h => ?_) (fun h => ?_)
    ·refine G0 ?_; try with_reducible exact tt
     exact Sub1.pl0 _
    ·simp [h0, h1] at h
 ·have e : atE s k = 10 := by rw [atE, if_neg hs]
  rw [atP, if_neg (by rw [e]; omega), e]
  refine Eqn.pure o_hb (o_jd _ _) ?_
  simp only [o_ha]
  refine G0 ?_; try with_reducible exact tt
  refine CallS.pu (o_lp s) (R0 ?_); try with_reducible exact tt
  refine AW.cond rfl (fun h => ?_) (fun h => ?_)
  ·refine G0 ?_; try with_reducible exact tt
   exact Sub1.pl0 _
  ·simp at h
   omega
end
end Go.Proofs.YtdklbnemfelpnaaGreatDoor.Am
namespace Go.Proofs.YtdklbnemfelpnaaGreatDoor.Am
section
open Go.RowKit
end
end Go.Proofs.YtdklbnemfelpnaaGreatDoor.Am
namespace Go.Proofs.YtdklbnemfelpnaaGreatDoor.Am
section
open Go.RowKit
theorem o_mh {x m : Nat} (h : x < 18446744073709551616 ^ m) : size x ≤ m := o_ia (o_iq x) (by rwa [o_io])

theorem o_mi {a n u m : Nat} (h : a < 2 ^ n) (hm : n + u ≤ 64 * m) : size (a * 2 ^ u) ≤ m := by
 apply o_mh
 refine Nat.lt_of_lt_of_le (Nat.mul_lt_mul_of_pos_right h (Nat.two_pow_pos u)) ?_
 rw [← Nat.pow_add, show (18446744073709551616 : Nat) = 2 ^ 64 by rfl, ← Nat.pow_mul]
 exact Nat.pow_le_pow_right (by omega) hm

theorem o_mj {d k : Nat} (hd : d ≤ 8) (hk : k ≤ 1023) : wrongZ d [(k : Int)] = 0 := by
 rw [wrongZ, if_pos (by omega), if_pos]
 simp [okK]; omega

theorem o_mk (d k v : Nat) (hd : d ≤ 8) (hk : k ≤ 1023) (hv : partV d k = (v : Int)) (hv2 : v ≤ 255) :
  Eqn Tryz.prog o_go [.d (.int .i64 d), .d (.int .i64 k)] [] (.tup [.d (.agg [natW ((2 ^ d + v) * 2 ^ (k / 2 ^ d) - 2 ^ d)]), .d (.int .i64 0)]) [] := by
 refine Eqn.pure o_gq (o_jd _ _) ?_
 simp only [o_gp]
 refine G0 ?_; try with_reducible exact tt
 refine CallS.pf 1 1 ⟨3, _⟩ [.int .i64 k] (o_kg d k) (by first | rfl | (simp; done)) (R0 ?_); try with_reducible exact tt
 have hw := o_mj hd hk
 refine AW.cond rfl (fun h => ?_) (fun h => ?_)
 ·simp [hw] at h
 have hp := o_kf d k (by omega) (by omega)
 rw [hv] at hp
 have hu : k / 2 ^ d ≤ k := Nat.div_le_self _ _
 generalize k / 2 ^ d = u at hp hu ⊢
 have h2 : 2 ^ d ≤ 256 := Nat.pow_le_pow_right (n := 2) (by omega) hd
 have h2' : 0 < 2 ^ d := Nat.two_pow_pos d
 have e0 : (2 : Int) ^ d = (2 ^ d : Nat) := by rw [Int.natCast_pow]; rfl
 have hx : (2 : Nat) ^ d ≤ (2 ^ d + v) * 2 ^ u := Nat.le_trans (Nat.le_add_right _ v) (Nat.le_mul_of_pos_right _ (Nat.two_pow_pos u))
 have hsz : size ((2 ^ d + v) * 2 ^ u) ≤ 17 := o_mi (n := 10) (show 2 ^ d + v < 2 ^ 10 by omega) (by omega)
 generalize 2 ^ d = s at *
 have e1 : IntKind.i64.wrap (s : Int) = s := w64 (by omega) (by omega)
 have e2 : IntKind.i64.wrap ((s : Int) + v) = ((s + v : Nat) : Int) := w64 (by omega) (by omega)
 have e3 : IntKind.u64.wrap ((s + v : Nat) : Int) = ((s + v : Nat) : Int) := wu64 (by omega) (by omega)
 have e4 : IntKind.u64.wrap (s : Int) = s := wu64 (by omega) (by omega)
 have ht : s + v ≤ 511 := by omega
 generalize s + v = t at *
 refine G1 e0 ?_; try with_reducible exact tt
 refine CallS.pu (hp) (R1 (fs e0 (fs e1 (fs e2 e3))) ?_); try with_reducible exact tt
 refine CallS.pf 2 1 ⟨129, _⟩ [.int .u64 (t : Nat)] (o_iy [t] (o_jt (by omega)) (by simp)) (by first | rfl | (simp; done)) (R0 ?_); try with_reducible exact tt
 refine CallS.pu (o_jr t u (by have := o_jx (x := t) (by omega); omega) (by omega)) (R1 (fs e0 e4) ?_); try with_reducible exact tt
 refine CallS.pf 4 1 ⟨129, _⟩ [.int .u64 (s : Nat)] (o_iy [s] (o_jt (by omega)) (by simp)) (by first | rfl | (simp; done)) (R0 ?_); try with_reducible exact tt
 refine CallS.pu (o_jj (t * 2 ^ u) s (by omega) hx) (R0 ?_); try with_reducible exact tt

theorem o_ml (cs : List Bool) (h : cs.length ≤ 1048576) : Eqn Tryz.prog o_5u [.d (BL cs)] [] (.p 0 0) [tapeO cs 0 false] := by
 refine Eqn.new1 o_5w ⟨rfl, fun _ => rfl⟩ ?_
 simp only [o_5v, BL]
 have e : min (cs.length : Int) 1048576 = cs.length := by omega
 have e2 : List.take cs.length (cs.map D.bool) = cs.map D.bool := List.take_of_length_le (by simp)
 refine G1 (fs e e2) ?_; try with_reducible exact tt
 refine CallS.pu (o_k9 cs.length (cs.map .bool) (by simp) (by omega)) (R0 ?_); try with_reducible exact tt
 exact Subs.refl _

def p2 (n : Nat) : Nat := 2 ^ n
def halfO (cs : List Bool) : Nat → Nat → Bool × Nat × Int
 | 0, i => (true, i, 0)
 | r + 1, i => if i < cs.length then (if cs.getD i false then halfO cs r (i + 1) else (false, i + 1, 0)) else (false, i, 8)
end
end Go.Proofs.YtdklbnemfelpnaaGreatDoor.Am
namespace Go.Proofs.YtdklbnemfelpnaaGreatDoor.Am
section
open Go.RowKit
theorem o_mm {s k : Int} (h : atE s k = 0) : 1 ≤ s ∧ s ≤ 5 ∧ 0 ≤ k ∧ k ≤ 1023 := by
 unfold atE at h
 split at h
 ·split at h <;> omega
 ·omega
theorem o_mn {s k : Int} (h : atE s k = 0) : (atP s k).shift ≤ 8192 := by
 have h1 := o_mm h
 rw [atP, if_pos h]
 exact (o_m7 (s := s.toNat) (k := k.toNat) (by omega) (by omega) (by omega)).2.1

def stepY (cs : List Bool) (s k : Int) : Bool × Int × Nat × Bool := if atE s k = 0 then halfR cs (atP s k).shift 0 false else (false, atE s k, 0, false)
def againE (s k j : Int) : Int := if atE s k = 0 then atE s j else atE s k
def againY (cs : List Bool) (s k j : Int) : Bool × Int × Nat × Bool := if againE s k j = 0 then halfR cs ((atP s k).shift - (atP s j).shift) 0 false else (false, againE s k j, 0, false)
end
end Go.Proofs.YtdklbnemfelpnaaGreatDoor.Am
namespace Go.Proofs.YtdklbnemfelpnaaGreatDoor.Am
section
open Go.RowKit
theorem o_mo (x : Nat) (hx : x < 18446744073709551616) : Eqn Tryz.prog o_a6 [.d (.int .u64 x)] [] (.d (.int .i64 (bitsN x))) [] := by
 refine Eqn.pure o_a8 (o_42 _) ?_
 simp only [o_a7]
 refine G0 ?_; try with_reducible exact tt
 refine AW.cond rfl (fun h => ?_) (fun h => ?_)
 ·simp at h
 refine G0 ?_; try with_reducible exact tt
 refine CallS.pu (o_le x hx) (R0 ?_); try with_reducible exact tt

theorem o_mp (a w : Nat) (h1 : 1 ≤ a) (h2 : a ≤ 4096) (w1 : 1 ≤ w) (w2 : w ≤ 10) (hm : bitsN (a + 1) * (2 ^ w - 1) ≤ 8192) : Eqn Tryz.prog o_73 [.d (.agg [.int .i64 1, .int .i64 a, .int .i64 w])] [] (.d (.int .i64 0)) [] := by
 refine Eqn.pure o_75 (o_42 _) ?_
 simp only [o_74]
 have hk := o_l3 1 a w
 rw [kindD, if_pos rfl] at hk
 have hg := o_l1 a
 rw [show decide (1 ≤ (a : Int) ∧ (a : Int) ≤ 4096) = true by simp; omega] at hg
 have g1 : ¬ (w : Int) < 1 := by omega
 have g2 : ¬ (10 : Int) < w := by omega
 refine G0 ?_; try with_reducible exact tt
 refine CallS.pu (hk) (R1 (fs g1 g2) ?_); try with_reducible exact tt
 refine ⟨_, o_kv, ?_⟩
 refine CallS.pu (hg) (R1 (fs g1 g2) ?_); try with_reducible exact tt
 refine AW.cond rfl (fun h => ?_) (fun h => ?_)
 ·simp [g1, g2] at h
 clear h
 have e1 : IntKind.i64.wrap ((a : Int) + 1) = ((a + 1 : Nat) : Int) := w64 (by omega) (by omega)
 have e2 : IntKind.u64.wrap ((a + 1 : Nat) : Int) = ((a + 1 : Nat) : Int) := wu64 (by omega) (by omega)
 have hb := o_mo (a + 1) (by omega)
 have hbl : bitsN (a + 1) ≤ 8192 := by
  refine Nat.le_trans (Nat.le_mul_of_pos_right _ ?_) hm
  have := Nat.pow_le_pow_right (n := 2) (by omega) w1
  omega
 have h2' : 0 < 2 ^ w := Nat.two_pow_pos w
 have h2 : 2 ^ w ≤ 1024 := Nat.pow_le_pow_right (n := 2) (by omega) w2
 have e0 : (2 : Int) ^ w = (2 ^ w : Nat) := by rw [Int.natCast_pow]; rfl
 generalize 2 ^ w = S at *
 generalize bitsN (a + 1) = B at *
 generalize a + 1 = a1 at *
 have e3 : IntKind.i64.wrap (S : Int) = S := w64 (by omega) (by omega)
 have e4 : IntKind.i64.wrap ((S : Int) - 1) = ((S - 1 : Nat) : Int) := by rw [w64 (by omega) (by omega)]; omega
 have e5 : IntKind.i64.wrap ((B : Int) * ((S - 1 : Nat) : Int)) = ((B * (S - 1) : Nat) : Int) := by
  rw [← Int.natCast_mul]
  generalize B * (S - 1) = x at *
  exact w64 (by omega) (by omega)
 have g3 : ¬ (8192 : Int) < ((B * (S - 1) : Nat) : Int) := by omega
 generalize hS1 : S - 1 = S1 at *
 obtain ⟨x, hx⟩ : ∃ x, x = B * S1 := ⟨_, rfl⟩
 rw [← hx] at e5 g3
 refine G1 (fs e1 e2) ?_; try with_reducible exact tt
 refine CallS.pu (hb) (R1 (fs e0 (fs e3 (fs e4 (fs e5 g3)))) ?_); try with_reducible exact tt
 refine AW.cond rfl (fun h => ?_) (fun h => ?_)
 ·simp [g3] at h
 refine G0 ?_; try with_reducible exact tt

theorem o_mq (a : Int) : Eqn Tryz.prog o_gx [.d (.int .i64 a)] [] (.d (.bool (decide (1 ≤ a ∧ a ≤ 5)))) [] := by
 refine Eqn.pure o_gz (o_42 _) ?_
 simp only [o_gy]
 refine G0 ?_; try with_reducible exact tt
 refine CallS.pu (o_lp a) (R0 ?_); try with_reducible exact tt

theorem o_mr (a w : Nat) (h2 : a ≤ 8) (w1 : 1 ≤ w) (w2 : w ≤ 10) : Eqn Tryz.prog o_73 [.d (.agg [.int .i64 2, .int .i64 a, .int .i64 w])] [] (.d (.int .i64 0)) [] := by
 refine Eqn.pure o_75 (o_42 _) ?_
 simp only [o_74]
 have hk := o_l3 2 a w
 rw [kindD, if_neg (by omega), if_pos rfl] at hk
 have hg := o_l2 a
 rw [show decide (0 ≤ (a : Int) ∧ (a : Int) ≤ 8) = true by simp; omega] at hg
 have g1 : ¬ (w : Int) < 1 := by omega
 have g2 : ¬ (10 : Int) < w := by omega
 refine G0 ?_; try with_reducible exact tt
 refine CallS.pu (hk) (R1 (fs g1 g2) ?_); try with_reducible exact tt
 refine ⟨_, o_kw, ?_⟩
 refine CallS.pu (hg) (R1 (fs g1 g2) ?_); try with_reducible exact tt
 refine AW.cond rfl (fun h => ?_) (fun h => ?_)
 ·simp [g1, g2] at h
 clear h
 refine G0 ?_; try with_reducible exact tt
 refine AW.cond rfl (fun h => ?_) (fun h => ?_)
 ·simp at h
 refine G0 ?_; try with_reducible exact tt
theorem o_ms (a w : Nat) (h1 : 1 ≤ a) (h2 : a ≤ 5) (w1 : 1 ≤ w) (w2 : w ≤ 10) : Eqn Tryz.prog o_73 [.d (.agg [.int .i64 3, .int .i64 a, .int .i64 w])] [] (.d (.int .i64 0)) [] := by
 refine Eqn.pure o_75 (o_42 _) ?_
 simp only [o_74]
 have hk := o_l3 3 a w
 rw [kindD, if_neg (by omega), if_neg (by omega), if_pos rfl] at hk
 have hg := o_mq a
 rw [show decide (1 ≤ (a : Int) ∧ (a : Int) ≤ 5) = true by simp; omega] at hg
 have g1 : ¬ (w : Int) < 1 := by omega
 have g2 : ¬ (10 : Int) < w := by omega
 refine G0 ?_; try with_reducible exact tt
 refine CallS.pu (hk) (R1 (fs g1 g2) ?_); try with_reducible exact tt
 refine ⟨_, o_kx, ?_⟩
 refine CallS.pu (hg) (R1 (fs g1 g2) ?_); try with_reducible exact tt
 refine AW.cond rfl (fun h => ?_) (fun h => ?_)
 ·simp [g1, g2] at h
 clear h
 refine G0 ?_; try with_reducible exact tt
 refine AW.cond rfl (fun h => ?_) (fun h => ?_)
 ·simp at h
 refine G0 ?_; try with_reducible exact tt
end
end Go.Proofs.YtdklbnemfelpnaaGreatDoor.Am
namespace Go.Proofs.YtdklbnemfelpnaaGreatDoor.Am
section
open Go.RowKit
def parD (k a w : Int) : D := .agg [.int .i64 k, .int .i64 a, .int .i64 w]
theorem o_mt (k a : Int) (w : Nat) (w2 : w ≤ 10) (hc : Eqn Tryz.prog o_73 [.d (parD k a w)] [] (.d (.int .i64 0)) []) : Eqn Tryz.prog o_76 [.d (parD k a w)] [] (.d (.int .i64 (2 ^ w - 1 : Nat))) [] := by
 refine Eqn.pure o_78 (o_42 _) ?_
 simp only [o_77, parD] at hc ⊢
 have h2' : 0 < 2 ^ w := Nat.two_pow_pos w
 have h2 : 2 ^ w ≤ 1024 := Nat.pow_le_pow_right (n := 2) (by omega) w2
 have e0 : (2 : Int) ^ w = (2 ^ w : Nat) := by rw [Int.natCast_pow]; rfl
 generalize 2 ^ w = S at *
 have e3 : IntKind.i64.wrap (S : Int) = S := w64 (by omega) (by omega)
 have e4 : IntKind.i64.wrap ((S : Int) - 1) = ((S - 1 : Nat) : Int) := by rw [w64 (by omega) (by omega)]; omega
 generalize S - 1 = S1 at *
 refine G0 ?_; try with_reducible exact tt
 refine CallS.pu (hc) (R0 ?_); try with_reducible exact tt
 refine AW.cond rfl (fun h => ?_) (fun h => ?_)
 ·simp at h
 refine G1 (fs e0 (fs e3 e4)) ?_; try with_reducible exact tt

theorem o_mu (k a : Int) (w : Nat) (w2 : w ≤ 10) (x : Int) (h0 : 0 ≤ x) (h1 : x ≤ (2 ^ w - 1 : Nat)) (hc : Eqn Tryz.prog o_73 [.d (parD k a w)] [] (.d (.int .i64 0)) []) : Eqn Tryz.prog o_79 [.d (parD k a w), .d (.sl 1 [.int .i64 x])] [] (.d (.int .i64 0)) [] := by
 refine Eqn.pure o_7b (o_42 _) ?_
 have ht := o_mt k a w w2 hc
 simp only [o_7a, parD] at hc ht ⊢
 generalize 2 ^ w - 1 = S at *
 refine G0 ?_; try with_reducible exact tt
 refine CallS.pu (hc) (R0 ?_); try with_reducible exact tt
 refine AW.cond rfl (fun h => ?_) (fun h => ?_)
 ·simp at h
 refine G0 ?_; try with_reducible exact tt
 refine AW.loopT (α := Nat) 1 (fun i => [(15, .d (.int .i64 (i : Int)))]) (fun i => []) (fun i => i ≤ 1) (fun i => 1 - i) 0 ?_ ?_ (Nat.zero_le _) ?_ ?_ ?_
 ·simp
 ·simp
 ·simp
 ·simp
 rintro i hi
 simp
 have g1 : ¬ x < 0 := by omega
 have g2 : ¬ (S : Int) < x := by omega
 by_cases h : i = 1
 ·subst h
  refine G0 ?_; try with_reducible exact tt
  refine AW.cond rfl (fun h => ?_) (fun h => ?_)
  ·simp at h
  refine AW.exit ?_
  (try (simp -implicitDefEqProofs; try simp (disch := omega) only [w64, wu64]))
  refine G0 ?_; try with_reducible exact tt
 ·obtain rfl : i = 0 := by omega
  refine G0 ?_; try with_reducible exact tt
  refine AW.cond rfl (fun h => ?_) (fun h => ?_)
  ·refine G1 (fs g1 g2) ?_; try with_reducible exact tt
   refine CallS.pu (ht) (R1 (fs g1 g2) ?_); try with_reducible exact tt
   refine AW.cond rfl (fun h => ?_) (fun h => ?_)
   ·simp [g1, g2] at h
   have ew : IntKind.i64.wrap 1 = 1 := w64 (by omega) (by omega)
   refine G1 ew ?_; try with_reducible exact tt
   exact ⟨1, by omega, by omega, by simp⟩
  ·simp at h
end
end Go.Proofs.YtdklbnemfelpnaaGreatDoor.Am
namespace Go.Proofs.YtdklbnemfelpnaaGreatDoor.Am
section
open Go.RowKit
theorem o_mv (cs : List Bool) (a k : Int) (p : Nat) (dd : Bool) (hp : p ≤ cs.length) (hn : cs.length ≤ 4000000) :
  Eqn Tryz.prog o_fr [.d (.int .i64 a), .p 0 0, .d (.int .i64 k)] [tapeO cs p dd] (.tup [.d (.bool (stepM cs a k p dd).1), .d (.int .i64 (stepM cs a k p dd).2.1)]) [tapeO cs (stepM cs a k p dd).2.2.1 (stepM cs a k p dd).2.2.2] := by
 refine Eqn.obj1 o_ft (o_jd _ _) ⟨rfl, fun _ => rfl⟩ ?_
 simp only [o_fs]
 have hh := o_ku cs a k p dd hp hn
 generalize stepM cs a k p dd = R at *
 obtain ⟨R1, R2, R3, R4⟩ := R
 simp only at hh ⊢
 refine G0B ?_; try with_reducible exact tt
 refine CallS.o1 0 (hh) (R0B ?_); try with_reducible exact tt

theorem o_mw {T1 t2 ti : TypeId} {d : D} {g : FuncId} {cs : List Bool} {k : Int} {p : Nat} {dd r1 : Bool} {r2 : Int} {r3 : Nat} {r4 : Bool} (hm : MethOK Tryz.prog ti "tallymark/chain.step" g)
  (E : Eqn Tryz.prog g [.d d, .p 0 0, .d (.int .i64 k)] [tapeO cs p dd] (.tup [.d (.bool r1), .d (.int .i64 r2)]) [tapeO cs r3 r4]) :
  Eqn Tryz.prog o_7i [.d (.int .i64 k), .p 1 0, .p 2 0] [tapeO cs p dd, ⟨T1, [.d (.ifc ti d)]⟩, ⟨t2, [.p 0 0]⟩] (.tup [.d (.bool r1), .d (.int .i64 r2)]) [tapeO cs r3 r4, ⟨T1, [.d (.ifc ti d)]⟩, ⟨t2, [.p 0 0]⟩] := by
 refine Eqn.obj3 o_7k (o_jd _ _) ⟨rfl, fun _ => rfl⟩ ⟨rfl, fun _ => rfl⟩ ?_
 simp only [o_7j]
 refine G0B ?_; try with_reducible exact tt
 refine ⟨_, hm, ?_⟩
 refine CallS.o1 0 (E) (R0B ?_); try with_reducible exact tt
end
end Go.Proofs.YtdklbnemfelpnaaGreatDoor.Am
namespace Go.Proofs.YtdklbnemfelpnaaGreatDoor.Am
section
open Go.RowKit
theorem o_mx {T1 t2 ti : TypeId} {d : D} {cs : List Bool} {p : Nat} {dd : Bool} (k a : Int) (w : Nat) (w2 : w ≤ 10) (full : Bool) (hc : Eqn Tryz.prog o_73 [.d (parD k a w)] [] (.d (.int .i64 0)) []) :
  Eqn Tryz.prog o_7f [.d (parD k a w), .d (.agg [.int .i64 (2 ^ w - 1 : Nat), .bool full]), .fn (.func o_7i) [.p 1 0, .p 2 0]] [tapeO cs p dd, ⟨T1, [.d (.ifc ti d)]⟩, ⟨t2, [.p 0 0]⟩] (.tup [.d (.agg [.int .i64 (2 ^ w - 1 : Nat), .bool true]), .d (.int .i64 0)]) [tapeO cs p dd, ⟨T1, [.d (.ifc ti d)]⟩, ⟨t2, [.p 0 0]⟩] := by
 refine Eqn.obj3 o_7h (o_jd _ _) ⟨rfl, fun _ => rfl⟩ ⟨rfl, fun _ => rfl⟩ ?_
 have ht := o_mt k a w w2 hc
 simp only [o_7g, parD] at ht ⊢
 generalize 2 ^ w - 1 = S at *
 refine G0B ?_; try with_reducible exact tt
 refine CallS.pu (ht) (R0B ?_); try with_reducible exact tt
 refine AW.cond rfl (fun h => ?_) (fun h => ?_)
 ·clear h
  refine G0B ?_; try with_reducible exact tt
 ·simp at h

theorem o_my {T1 t2 ti : TypeId} {d : D} {g : FuncId} {cs : List Bool} {x p : Nat} {dd r1 : Bool} {r2 : Int} {r3 : Nat} {r4 : Bool} (k a : Int) (w : Nat) (w2 : w ≤ 10) (full : Bool) (hx : x < 2 ^ w - 1) (hc : Eqn Tryz.prog o_73 [.d (parD k a w)] [] (.d (.int .i64 0)) [])
  (hm : MethOK Tryz.prog ti "tallymark/chain.step" g) (E : Eqn Tryz.prog g [.d d, .p 0 0, .d (.int .i64 x)] [tapeO cs p dd] (.tup [.d (.bool r1), .d (.int .i64 r2)]) [tapeO cs r3 r4]) :
  Eqn Tryz.prog o_7f [.d (parD k a w), .d (.agg [.int .i64 x, .bool full]), .fn (.func o_7i) [.p 1 0, .p 2 0]] [tapeO cs p dd, ⟨T1, [.d (.ifc ti d)]⟩, ⟨t2, [.p 0 0]⟩] (.tup [.d (.agg [.int .i64 (if r1 then x + 1 else x : Nat), .bool full]), .d (.int .i64 r2)]) [tapeO cs r3 r4, ⟨T1, [.d (.ifc ti d)]⟩, ⟨t2, [.p 0 0]⟩] := by
 refine Eqn.obj3 o_7h (o_jd _ _) ⟨rfl, fun _ => rfl⟩ ⟨rfl, fun _ => rfl⟩ ?_
 have ht := o_mt k a w w2 hc
 have h2 : 2 ^ w - 1 ≤ 1023 := by have := Nat.pow_le_pow_right (n := 2) (by omega) w2; omega
 simp only [o_7g, parD] at ht ⊢
 generalize 2 ^ w - 1 = S at *
 have g1 : ¬ x = S := by omega
 have g2 : ¬ (x : Int) = S := by omega
 have ew : IntKind.i64.wrap ((x : Int) + 1) = (x : Int) + 1 := w64 (by omega) (by omega)
 have ha := o_mw (T1 := T1) (t2 := t2) hm E
 refine G0B ?_; try with_reducible exact tt
 refine CallS.pu (ht) (R0B ?_); try with_reducible exact tt
 refine AW.cond rfl (fun h => ?_) (fun h => ?_)
 ·simp [g1, g2] at h
 clear h
 refine G0B ?_; try with_reducible exact tt
 refine CallS.obj3 0 1 2 (ha) (by first | exact o_42 _ | exact o_jd _ _ | exact o_je _ _ _) ⟨rfl, fun _ => rfl⟩ ⟨rfl, fun _ => rfl⟩ ⟨rfl, fun _ => rfl⟩ rfl (by rfl) (by rfl) (by rfl) (by decide) (Subs.of (by simp)) (R0B ?_); try with_reducible exact tt
 cases r1 with
 | true =>
  refine AW.cond rfl (fun h => ?_) (fun h => ?_)
  ·refine G1B ew ?_; try with_reducible exact tt
  ·simp at h
 | false =>
  refine AW.cond rfl (fun h => ?_) (fun h => ?_)
  ·simp at h
  ·refine G1B ew ?_; try with_reducible exact tt
end
end Go.Proofs.YtdklbnemfelpnaaGreatDoor.Am
namespace Go.Proofs.YtdklbnemfelpnaaGreatDoor.Am
section
open Go.RowKit
def stepG (cs : List Bool) (d k : Int) (p : Nat) (dd : Bool) : Bool × Int × Nat × Bool := if wrongZ d [k] = 0 then halfR cs (k.toNat / 2 ^ d.toNat) p dd else (false, wrongZ d [k], p, dd)

theorem o_mz (cs : List Bool) (d k : Int) (p : Nat) (dd : Bool) (hp0 : p ≤ cs.length) (hn : cs.length ≤ 4000000) :
  Eqn Tryz.prog o_gl [.p 0 0, .d (.int .i64 d), .d (.int .i64 k)] [tapeO cs p dd] (.tup [.d (.bool (stepG cs d k p dd).1), .d (.int .i64 (stepG cs d k p dd).2.1)]) [tapeO cs (stepG cs d k p dd).2.2.1 (stepG cs d k p dd).2.2.2] := by
 refine Eqn.obj1 o_gn (o_jd _ _) ⟨rfl, fun _ => rfl⟩ ?_
 simp only [o_gm]
 refine G0B ?_; try with_reducible exact tt
 refine CallS.pf 1 1 ⟨3, _⟩ [.int .i64 k] (o_kg d k) (by first | rfl | (simp; done)) (R0 ?_); try with_reducible exact tt
 by_cases h : wrongZ d [k] = 0
 ·obtain ⟨h1, h2, h3, h4⟩ := o_kh h
  obtain ⟨d, rfl⟩ : ∃ n : Nat, d = n := ⟨d.toNat, by omega⟩
  obtain ⟨k, rfl⟩ : ∃ n : Nat, k = n := ⟨k.toNat, by omega⟩
  simp only [stepG, h, if_true]
  have hpt := o_kf d k (by omega) (by omega)
  have hu : k / 2 ^ d ≤ k := Nat.div_le_self _ _
  simp only [Int.toNat_natCast]
  generalize k / 2 ^ d = u at hpt hu ⊢
  generalize partV d k = v at hpt
  refine AW.cond rfl (fun h => ?_) (fun h => ?_)
  ·simp [*] at h
  refine G0 ?_; try with_reducible exact tt
  refine CallS.pu (hpt) (R0 ?_); try with_reducible exact tt
  have hh := o_kc cs p dd u (by omega) hp0 hn
  rw [Int.toNat_natCast] at hh
  generalize halfR cs u p dd = r at hh ⊢
  obtain ⟨r1, r2, r3, r4⟩ := r
  simp only at hh ⊢
  refine CallS.o1 0 (hh) (R0 ?_); try with_reducible exact tt
 ·simp only [stepG, h, if_false]
  refine AW.cond rfl (fun h => ?_) (fun h => ?_)
  ·refine G0 ?_; try with_reducible exact tt
  ·simp [*] at h


theorem o_n0 (cs : List Bool) (a k : Int) (p : Nat) (dd : Bool) (hp : p ≤ cs.length) (hn : cs.length ≤ 4000000) :
  Eqn Tryz.prog o_gc [.d (.int .i64 a), .p 0 0, .d (.int .i64 k)] [tapeO cs p dd] (.tup [.d (.bool (stepG cs a k p dd).1), .d (.int .i64 (stepG cs a k p dd).2.1)]) [tapeO cs (stepG cs a k p dd).2.2.1 (stepG cs a k p dd).2.2.2] := by
 refine Eqn.obj1 o_ge (o_jd _ _) ⟨rfl, fun _ => rfl⟩ ?_
 simp only [o_gd]
 have hh := o_mz cs a k p dd hp hn
 generalize stepG cs a k p dd = R at *
 obtain ⟨R1, R2, R3, R4⟩ := R
 simp only at hh ⊢
 refine G0B ?_; try with_reducible exact tt
 refine CallS.o1 0 (hh) (R0B ?_); try with_reducible exact tt
def stepYG (cs : List Bool) (s k : Int) (q : Nat) (dd : Bool) : Bool × Int × Nat × Bool := if atE s k = 0 then halfR cs (atP s k).shift q dd else (false, atE s k, q, dd)
theorem o_n1 (cs : List Bool) (s k : Int) (q : Nat) (dd : Bool) (hp0 : q ≤ cs.length) (hn : cs.length ≤ 4000000) :
  Eqn Tryz.prog o_h6 [.p 0 0, .d (.int .i64 s), .d (.int .i64 k)] [tapeO cs q dd] (.tup [.d (.bool (stepYG cs s k q dd).1), .d (.int .i64 (stepYG cs s k q dd).2.1)]) [tapeO cs (stepYG cs s k q dd).2.2.1 (stepYG cs s k q dd).2.2.2] := by
 refine Eqn.obj1 o_h8 (o_jd _ _) ⟨rfl, fun _ => rfl⟩ ?_
 simp only [o_h7]
 have ha := o_mg s k
 have hsh := o_mn (s := s) (k := k)
 have hst : stepYG cs s k q dd = if atE s k = 0 then halfR cs (atP s k).shift q dd else (false, atE s k, q, dd) := rfl
 rw [hst]
 clear hst
 generalize atP s k = p at *
 obtain ⟨px, ps, pv, pr⟩ := p
 simp only [plD] at ha hsh ⊢
 generalize atE s k = e at *
 refine G0 ?_; try with_reducible exact tt
 refine CallS.pu (ha) (R0 ?_); try with_reducible exact tt
 by_cases h : e = 0
 ·subst h
  refine AW.cond rfl (fun h => ?_) (fun h => ?_)
  ·simp at h
  have hh := o_kc cs q dd ps (by have := hsh rfl; omega) hp0 hn
  rw [Int.toNat_natCast] at hh
  simp only [if_true]
  generalize halfR cs ps q dd = r at hh ⊢
  obtain ⟨r1, r2, r3, r4⟩ := r
  simp only at hh ⊢
  refine G0B ?_; try with_reducible exact tt
  refine CallS.o1 0 (hh) (R0B ?_); try with_reducible exact tt
 ·simp only [if_neg h]
  refine AW.cond rfl (fun h => ?_) (fun h => ?_)
  ·refine G0 ?_; try with_reducible exact tt
  ·simp [*] at h


theorem o_n2 (cs : List Bool) (a k : Int) (p : Nat) (dd : Bool) (hp : p ≤ cs.length) (hn : cs.length ≤ 4000000) :
  Eqn Tryz.prog o_h0 [.d (.int .i64 a), .p 0 0, .d (.int .i64 k)] [tapeO cs p dd] (.tup [.d (.bool (stepYG cs a k p dd).1), .d (.int .i64 (stepYG cs a k p dd).2.1)]) [tapeO cs (stepYG cs a k p dd).2.2.1 (stepYG cs a k p dd).2.2.2] := by
 refine Eqn.obj1 o_h2 (o_jd _ _) ⟨rfl, fun _ => rfl⟩ ?_
 simp only [o_h1]
 have hh := o_n1 cs a k p dd hp hn
 generalize stepYG cs a k p dd = R at *
 obtain ⟨R1, R2, R3, R4⟩ := R
 simp only at hh ⊢
 refine G0B ?_; try with_reducible exact tt
 refine CallS.o1 0 (hh) (R0B ?_); try with_reducible exact tt
end
end Go.Proofs.YtdklbnemfelpnaaGreatDoor.Am
namespace Go.Proofs.YtdklbnemfelpnaaGreatDoor.Am
section
abbrev StepT := Nat → Nat → Bool → Bool × Int × Nat × Bool
def addL (st : StepT) (top : Nat) : Nat → Nat → Bool → Nat → Bool → Int × Nat × Bool × Nat × Bool
 | 0, x, f, p, d => (0, x, f, p, d)
 | n + 1, x, f, p, d =>
  if x = top then (0, x, true, p, d)
  else if (st x p d).2.1 = 0 then
   if f = true ∧ (if (st x p d).1 then x + 1 else x) = top then (0, top, f, (st x p d).2.2.1, (st x p d).2.2.2)
   else addL st top n (if (st x p d).1 then x + 1 else x) f (st x p d).2.2.1 (st x p d).2.2.2
  else ((st x p d).2.1, x, f, (st x p d).2.2.1, (st x p d).2.2.2)

theorem o_n3 {st : StepT} {top : Nat} {N : Nat} (hst : ∀ x p d, p ≤ N → (st x p d).2.2.1 ≤ N) : ∀ (n x : Nat) (f : Bool) (p : Nat) (d : Bool), x ≤ top → p ≤ N → x ≤ (addL st top n x f p d).2.1 ∧ (addL st top n x f p d).2.1 ≤ top ∧ (addL st top n x f p d).2.2.2.1 ≤ N
 | 0, x, f, p, d, hx, hp => by simp [addL, hx, hp]
 | n + 1, x, f, p, d, hx, hp => by
  rw [addL]
  have := hst x p d hp
  by_cases h : x = top
  ·simp [h, hp]
  ·simp only [if_neg h]
   by_cases he : (st x p d).2.1 = 0
   ·simp only [if_pos he]
    have hz : x ≤ (if (st x p d).1 then x + 1 else x) ∧ (if (st x p d).1 then x + 1 else x) ≤ top := by split <;> omega
    generalize (if (st x p d).1 then x + 1 else x) = z at *
    split
    ·exact ⟨hx, Nat.le_refl _, this⟩
    ·have := o_n3 hst n z f _ (st x p d).2.2.2 hz.2 this
     exact ⟨by omega, this.2⟩
   ·simp only [if_neg he]
    exact ⟨Nat.le_refl _, hx, this⟩
end
end Go.Proofs.YtdklbnemfelpnaaGreatDoor.Am
namespace Go.Proofs.YtdklbnemfelpnaaGreatDoor.Am
section
open Go.RowKit
structure StepOf (cs : List Bool) (ti : TypeId) (d : D) (g : FuncId) (st : StepT) : Prop where
 meth : MethOK Tryz.prog ti "tallymark/chain.step" g
 run : ∀ (x p : Nat) (dd : Bool), p ≤ cs.length → Eqn Tryz.prog g [.d d, .p 0 0, .d (.int .i64 x)] [tapeO cs p dd] (.tup [.d (.bool (st x p dd).1), .d (.int .i64 (st x p dd).2.1)]) [tapeO cs (st x p dd).2.2.1 (st x p dd).2.2.2]
 le : ∀ (x p : Nat) (dd : Bool), p ≤ cs.length → (st x p dd).2.2.1 ≤ cs.length

theorem o_n4 (cs : List Bool) (k a : Int) (w : Nat) (w2 : w ≤ 10) (ti : TypeId) (d : D) (g : FuncId) (st : StepT) (hst : StepOf cs ti d g st) (hk : kindD k a = .ifc ti d) (hc : Eqn Tryz.prog o_73 [.d (parD k a w)] [] (.d (.int .i64 0)) [])
  (x : Nat) (hx : x ≤ 2 ^ w - 1) (f : Bool) (n : Nat) (m : Int) (hmx : max 0 m = (n : Int)) (hn : m ≤ 1048576) (p : Nat) (dd : Bool) (hp : p ≤ cs.length) (S : Int × Nat × Bool × Nat × Bool) (hS : S = addL st (2 ^ w - 1) n x f p dd) :
  Eqn Tryz.prog o_5l [.d (parD k a w), .p 0 0, .d (.agg [.int .i64 x, .bool f]), .d (.int .i64 m)] [tapeO cs p dd] (.tup [.d (.agg [.int .i64 (if S.1 = 0 then S.2.1 else x : Nat), .bool (if S.1 = 0 then S.2.2.1 else f)]), .d (.int .i64 S.1)]) [tapeO cs S.2.2.2.1 S.2.2.2.2] := by
 refine Eqn.obj1 o_5n (o_jd _ _) ⟨rfl, fun _ => rfl⟩ ?_
 have hat := o_mu k a w w2 x (by omega) (by omega) hc
 have hkd := o_l3 k a w
 rw [hk] at hkd
 simp only [o_5m, parD] at hat ⊢
 refine G0B ?_; try with_reducible exact tt
 refine CallS.pf 5 1 ⟨3, _⟩ [.int .i64 x] (hat) (by first | rfl | (simp [-Bool.exists_bool]; done)) (R0B ?_); try with_reducible exact tt
 refine AW.cond rfl (fun h => ?_) (fun h => ?_)
 ·simp at h
 clear h
 have g1 : ¬ (1048576 : Int) < m := by omega
 have hnn : n ≤ 1048576 := by omega
 refine G1B g1 ?_; try with_reducible exact tt
 refine AW.cond rfl (fun h => ?_) (fun h => ?_)
 ·simp [g1] at h
 clear h
 refine G0B ?_; try with_reducible exact tt
 refine CallS.pu (hkd) (R1B hmx ?_); try with_reducible exact tt
 refine AW.loopT (α := Nat × Nat × Nat × Bool) 8 (fun s => [(31, .d (.int .i64 (s.1 : Int)))]) (fun s => [(0, tapeO cs s.2.2.1 s.2.2.2), (7, ⟨59, [.d (.int .i64 (s.2.1 : Nat)), .d (.bool f)]⟩)]) (fun s => s.1 ≤ n ∧ s.2.1 ≤ 2 ^ w - 1 ∧ s.2.2.1 ≤ cs.length ∧ S = addL st (2 ^ w - 1) (n - s.1) s.2.1 f s.2.2.1 s.2.2.2) (fun s => n - s.1) (0, x, p, dd) ?_ ?_ ⟨Nat.zero_le _, hx, hp, hS⟩ ?_ ?_ ?_
 ·simp
 ·simp
 ·simp
 ·simp
 rintro ⟨i, z, q, b⟩ ⟨hi, hz, hq, hS⟩
 simp only at hi hz hq hS
 simp [-Bool.exists_bool]
 have htop := o_mt k a w w2 hc
 have ho1 := fun T1 t2 => o_mx (T1 := T1) (t2 := t2) (ti := ti) (d := d) (cs := cs) (p := q) (dd := b) k a w w2 f hc
 have ho2 := fun T1 t2 (hlt : z < 2 ^ w - 1) => o_my (T1 := T1) (t2 := t2) k a w w2 f hlt hc hst.meth (hst.run z q b hq)
 have hle := hst.le z q b hq
 have h2 : 2 ^ w - 1 ≤ 1023 := by have := Nat.pow_le_pow_right (n := 2) (by omega) w2; omega
 simp only [parD] at ho1 ho2 htop
 generalize 2 ^ w - 1 = W at *
 by_cases h : i = n
 ·subst h
  rw [Nat.sub_self, addL] at hS
  refine G0B ?_; try with_reducible exact tt
  refine AW.cond rfl (fun h => ?_) (fun h => ?_)
  ·simp at h
  refine AW.exit ?_
  (try (simp -implicitDefEqProofs [-Bool.exists_bool]; try simp (disch := omega) only [w64, wu64]))
  refine G0B ?_; try with_reducible exact tt
  simp [hS]
 ·have hlt : (i : Int) < n := by omega
  have hlt' : i < n := by omega
  obtain ⟨r, hr⟩ : ∃ r, n - i = r + 1 := ⟨n - i - 1, by omega⟩
  have ew : IntKind.i64.wrap ((i : Int) + 1) = (i : Int) + 1 := w64 (by omega) (by omega)
  rw [hr, addL] at hS
  refine G1B (fs hlt hlt') ?_; try with_reducible exact tt
  refine AW.cond rfl (fun h => ?_) (fun h => ?_)
  ·clear h
   by_cases hzt : z = W
   ·subst hzt
    rw [if_pos rfl] at hS
    refine G0B ?_; try with_reducible exact tt
    refine CallS.obj3 0 6 2 (ho1 _ _) (by first | exact o_42 _ | exact o_jd _ _ | exact o_je _ _ _) ⟨rfl, fun _ => rfl⟩ ⟨rfl, fun _ => rfl⟩ ⟨rfl, fun _ => rfl⟩ rfl (by rfl) (by rfl) (by rfl) (by decide) (Subs.of (by simp)) (R0B ?_); try with_reducible exact tt
    refine AW.cond rfl (fun h => ?_) (fun h => ?_)
    ·simp at h
    clear h
    refine G0B ?_; try with_reducible exact tt
    refine CallS.pu (htop) (R0B ?_); try with_reducible exact tt
    refine AW.cond rfl (fun h => ?_) (fun h => ?_)
    ·refine AW.exit ?_
     (try (simp -implicitDefEqProofs [-Bool.exists_bool]; try simp (disch := omega) only [w64, wu64]))
     refine G0B ?_; try with_reducible exact tt
     simp [hS]
    ·simp at h
   ·rw [if_neg hzt] at hS
    have ho2 := fun T1 t2 => ho2 T1 t2 (by omega)
    generalize st z q b = R at *
    obtain ⟨r1, r2, r3, r4⟩ := R
    simp only at hS ho2 hle
    have hz' : (if r1 = true then z + 1 else z) ≤ W := by split <;> omega
    generalize (if r1 = true then z + 1 else z) = z' at *
    refine G0B ?_; try with_reducible exact tt
    refine CallS.obj3 0 6 2 (ho2 _ _) (by first | exact o_42 _ | exact o_jd _ _ | exact o_je _ _ _) ⟨rfl, fun _ => rfl⟩ ⟨rfl, fun _ => rfl⟩ ⟨rfl, fun _ => rfl⟩ rfl (by rfl) (by rfl) (by rfl) (by decide) (Subs.of (by simp)) (R0B ?_); try with_reducible exact tt
    by_cases hr2 : r2 = 0
    ·subst hr2
     rw [if_pos rfl] at hS
     refine AW.cond rfl (fun h => ?_) (fun h => ?_)
     ·simp at h
     clear h
     cases f with
     | false =>
      rw [if_neg (by simp)] at hS
      refine G0B ?_; try with_reducible exact tt
      refine AW.cond rfl (fun h => ?_) (fun h => ?_)
      ·simp at h
      refine G1B ew ?_; try with_reducible exact tt
      exact ⟨i + 1, z', r3, r4, ⟨by omega, hz', hle, by rw [hS]; congr 1; omega⟩, by omega, by simp⟩
     | true =>
      refine G0B ?_; try with_reducible exact tt
      refine CallS.pu (htop) (R0B ?_); try with_reducible exact tt
      by_cases hb : z' = W
      ·rw [if_pos ⟨rfl, hb⟩] at hS
       subst hb
       refine AW.cond rfl (fun h => ?_) (fun h => ?_)
       ·refine AW.exit ?_
        (try (simp -implicitDefEqProofs [-Bool.exists_bool]; try simp (disch := omega) only [w64, wu64]))
        refine G0B ?_; try with_reducible exact tt
        simp [hS]
       ·simp at h
      ·rw [if_neg (by simp [hb])] at hS
       have hb' : ¬ (z' : Int) = W := by omega
       refine AW.cond rfl (fun h => ?_) (fun h => ?_)
       ·simp [hb, hb'] at h
       refine G1B ew ?_; try with_reducible exact tt
       exact ⟨i + 1, z', r3, r4, ⟨by omega, hz', hle, by rw [hS]; congr 1; omega⟩, by omega, by simp⟩
    ·rw [if_neg hr2] at hS
     refine AW.cond rfl (fun h => ?_) (fun h => ?_)
     ·refine G0B ?_; try with_reducible exact tt
      simp [hS, hr2]
     ·simp [hr2] at h
  ·simp [hlt'] at h
end
end Go.Proofs.YtdklbnemfelpnaaGreatDoor.Am
namespace Go.Proofs.YtdklbnemfelpnaaGreatDoor.Am
section
open Go.RowKit
theorem o_n5 {cs : List Bool} : ∀ (k p : Nat) (dd : Bool), p ≤ cs.length → (halfR cs k p dd).2.2.1 ≤ cs.length
 | 0, p, dd, h => h
 | k + 1, p, dd, h => by
  rw [halfR]
  split
  ·exact o_n5 k _ _ (o_kb h)
  ·exact o_kb h
theorem o_n6 {cs : List Bool} {a q : Nat} : ∀ (k p : Nat) (dd : Bool), p ≤ cs.length → (powerR cs a q k p dd).2.2.1 ≤ cs.length
 | 0, p, dd, h => h
 | k + 1, p, dd, h => by
  rw [powerR]
  split
  ·exact o_n6 k _ _ (o_km h)
  ·exact o_km h
theorem o_n7 {cs : List Bool} {a k : Int} {p : Nat} {dd : Bool} (h : p ≤ cs.length) : (stepM cs a k p dd).2.2.1 ≤ cs.length := by
 unfold stepM; split
 ·exact o_n6 _ _ _ h
 ·exact h
theorem o_n8 {cs : List Bool} {a k : Int} {p : Nat} {dd : Bool} (h : p ≤ cs.length) : (stepG cs a k p dd).2.2.1 ≤ cs.length := by
 unfold stepG; split
 ·exact o_n5 _ _ _ h
 ·exact h
theorem o_n9 {cs : List Bool} {a k : Int} {p : Nat} {dd : Bool} (h : p ≤ cs.length) : (stepYG cs a k p dd).2.2.1 ≤ cs.length := by
 unfold stepYG; split
 ·exact o_n5 _ _ _ h
 ·exact h

def stOf (cs : List Bool) (k a : Int) : StepT := fun x p dd => if k = 1 then stepM cs a x p dd else if k = 2 then stepG cs a x p dd else stepYG cs a x p dd
def GoodS (k a w : Nat) : Prop := (k = 1 ∧ 1 ≤ a ∧ a ≤ 4 ∨ k = 2 ∧ a ≤ 1 ∨ k = 3 ∧ 1 ≤ a ∧ a ≤ 2) ∧ 1 ≤ w ∧ w ≤ 4

theorem o_na (k m : Int) (hm : 0 < m) : -m < k.tmod m ∧ k.tmod m < m := by
 refine ⟨?_, Int.tmod_lt_of_pos _ hm⟩
 rcases (by omega : k < 0 ∨ 0 ≤ k) with h | h
 ·have := Int.tmod_lt_of_pos (-k) hm
  rw [Int.neg_tmod] at this
  omega
 ·have := Int.tmod_nonneg m h
  omega
theorem o_nb (k m : Int) (hm : 0 < m) (hm2 : m ≤ 4611686018427387904) : IntKind.i64.wrap (k.tmod m + m) = k.tmod m + m ∧ ∃ r : Nat, (k.tmod m + m).tmod m = r ∧ r < m ∧ IntKind.i64.wrap (1 + (r : Int)) = ((1 + r : Nat) : Int) := by
 have h := o_na k m hm
 have h0 : 0 ≤ k.tmod m + m := by omega
 refine ⟨w64 (by omega) (by omega), ?_⟩
 have h1 := Int.tmod_nonneg m h0
 have h2 := Int.tmod_lt_of_pos (k.tmod m + m) hm
 obtain ⟨r, hr⟩ : ∃ r : Nat, (k.tmod m + m).tmod m = r := ⟨((k.tmod m + m).tmod m).toNat, by omega⟩
 exact ⟨r, hr, by omega, by rw [w64 (by omega) (by omega)]; omega⟩
theorem o_nc (k : Int) (m : Nat) (hm : m ≤ 4611686018427387904) : ∃ n : Nat, bits BinOp.and IntKind.i64 k (m : Int) = n ∧ n ≤ m ∧ IntKind.i64.wrap (1 + (n : Int)) = ((1 + n : Nat) : Int) := by
 refine ⟨(BitVec.ofInt 64 k).toNat &&& m, ?_, Nat.and_le_right, ?_⟩
 ·have hm' : m % 2 ^ 64 = m := Nat.mod_eq_of_lt (by omega)
  have hle : (BitVec.ofInt 64 k).toNat &&& m ≤ m := Nat.and_le_right
  show IntKind.i64.wrap (((BitVec.ofInt 64 k) &&& (BitVec.ofInt 64 (m : Int))).toNat : Int) = _
  rw [BitVec.toNat_and, BitVec.ofInt_natCast, BitVec.toNat_ofNat, hm']
  generalize (BitVec.ofInt 64 k).toNat &&& m = n at *
  exact w64 (by omega) (by omega)
 ·have hle : (BitVec.ofInt 64 k).toNat &&& m ≤ m := Nat.and_le_right
  generalize (BitVec.ofInt 64 k).toNat &&& m = n at *
  rw [w64 (by omega) (by omega)]; omega
end
end Go.Proofs.YtdklbnemfelpnaaGreatDoor.Am
namespace Go.Proofs.YtdklbnemfelpnaaGreatDoor.Am
section
open Go.RowKit
abbrev AgT := Nat → Nat → Nat → Bool → Bool × Int × Nat × Bool
def agOf (cs : List Bool) (k a : Nat) : AgT := fun x r p dd => if k = 1 then powerR cs a (a + 1) (x - r) p dd else if k = 2 then halfR cs (x / 2 ^ a - r / 2 ^ a) p dd else halfR cs ((placeY a x).shift - (placeY a r).shift) p dd

structure AgainOf (cs : List Bool) (ti : TypeId) (d : D) (g : FuncId) (ag : AgT) : Prop where
 meth : MethOK Tryz.prog ti "tallymark/chain.again" g
 run : ∀ (x r p : Nat) (dd : Bool), x ≤ 1023 → r ≤ 1023 → p ≤ cs.length → Eqn Tryz.prog g [.d d, .p 0 0, .d (.int .i64 x), .d (.int .i64 r)] [tapeO cs p dd] (.tup [.d (.bool (ag x r p dd).1), .d (.int .i64 (ag x r p dd).2.1)]) [tapeO cs (ag x r p dd).2.2.1 (ag x r p dd).2.2.2]
 le : ∀ (x r p : Nat) (dd : Bool), p ≤ cs.length → (ag x r p dd).2.2.1 ≤ cs.length
end
end Go.Proofs.YtdklbnemfelpnaaGreatDoor.Am
namespace Go.Proofs.YtdklbnemfelpnaaGreatDoor.Am
section
open Go.RowKit
def mergeL (ag : AgT) (top : Nat) : Nat → Nat → Nat → Bool → Nat → Bool → Int × Nat × Bool × Nat × Bool
 | 0, _, x, f, p, d => (0, x, f, p, d)
 | n + 1, r, x, f, p, d =>
  if x = top then mergeL ag top n (r + 1) x true p d
  else if (ag x r p d).2.1 = 0 then mergeL ag top n (r + 1) (if (ag x r p d).1 then x + 1 else x) f (ag x r p d).2.2.1 (ag x r p d).2.2.2
  else ((ag x r p d).2.1, x, f, (ag x r p d).2.2.1, (ag x r p d).2.2.2)
end
end Go.Proofs.YtdklbnemfelpnaaGreatDoor.Am
namespace Go.Proofs.YtdklbnemfelpnaaGreatDoor.Am
section
open Go.RowKit
def outD (p : Nat) (R : Bool × Int × Nat × Bool) : D := .agg [.bool R.1, .int .i64 (R.2.2.1 - p : Nat), .int .i64 R.2.1]
end
end Go.Proofs.YtdklbnemfelpnaaGreatDoor.Am
namespace Go.Proofs.YtdklbnemfelpnaaGreatDoor.Am
section
open Go.RowKit
end
end Go.Proofs.YtdklbnemfelpnaaGreatDoor.Am
namespace Go.Proofs.YtdklbnemfelpnaaGreatDoor.Am
section
open Go.RowKit
structure Live (p : Nat) (R : Bool × Int × Nat × Bool) : Prop where
 err : R.2.1 = 0 ∨ R.2.1 = 8
 dead : R.2.2.2 = true ↔ R.2.1 ≠ 0
 no : R.2.1 ≠ 0 → R.1 = false
 le : p ≤ R.2.2.1

theorem Live.mono {p q : Nat} {R : Bool × Int × Nat × Bool} (h : Live q R) (hq : p ≤ q) : Live p R := ⟨h.err, h.dead, h.no, Nat.le_trans hq h.le⟩
theorem Live.ok {p : Nat} {R : Bool × Int × Nat × Bool} (h : Live p R) (h1 : R.2.1 = 0) : R.2.2.2 = false := by
 cases hd : R.2.2.2 with
 | false => rfl
 | true => exact absurd h1 (h.dead.1 hd)
end
end Go.Proofs.YtdklbnemfelpnaaGreatDoor.Am
namespace Go.Proofs.YtdklbnemfelpnaaGreatDoor.Am
section
open Go.RowKit
def halfD (e : Nat) : D := .agg [natW 1, .bool false, natW (2 ^ e - 1)]
def expOf (k a x : Nat) : Nat := if k = 2 then x / 2 ^ a else (placeY a x).shift
end
end Go.Proofs.YtdklbnemfelpnaaGreatDoor.Am
namespace Go.Proofs.YtdklbnemfelpnaaGreatDoor.Am
section
open Go.RowKit
end
end Go.Proofs.YtdklbnemfelpnaaGreatDoor.Am
namespace Go.Proofs.YtdklbnemfelpnaaGreatDoor.Am
section
open Go.RowKit
end
end Go.Proofs.YtdklbnemfelpnaaGreatDoor.Am
namespace Go.Proofs.YtdklbnemfelpnaaGreatDoor.Am
section
structure TR where
 e : Int
 y : Nat
 t : Nat
 f : Bool
 p : Nat
 d : Bool
end
end Go.Proofs.YtdklbnemfelpnaaGreatDoor.Am
namespace Go.Proofs.YtdklbnemfelpnaaGreatDoor.Am
section
open Go.RowKit
theorem o_nd {cs : List Bool} : ∀ (k p : Nat) (dd : Bool), p ≤ cs.length → (halfR cs k p dd).2.2.1 ≤ cs.length
 | 0, p, dd, h => h
 | k + 1, p, dd, h => by
  rw [halfR]
  split
  ·exact o_nd k _ _ (o_kb h)
  ·exact o_kb h

def binM (cs : List Bool) : Nat → Nat → Nat → Bool → Int × Nat × Nat × Bool
 | 0, c, p, d => (0, c, p, d)
 | n + 1, c, p, d => if flipE cs p d = 0 then binM cs n (if flipB cs p d then c + 1 else c) (flipP cs p d) (flipD cs p d) else (flipE cs p d, 0, flipP cs p d, flipD cs p d)
theorem o_ne (cs : List Bool) : ∀ (n c p : Nat) (d : Bool), p ≤ cs.length → (binM cs n c p d).2.2.1 ≤ cs.length ∧ (binM cs n c p d).2.1 ≤ c + n ∧ p ≤ (binM cs n c p d).2.2.1
 | 0, c, p, d, h => by simp [binM, h]
 | n + 1, c, p, d, h => by
  have hp := o_kb (dd := d) h
  have hp2 : p ≤ flipP cs p d := by unfold flipP; split <;> omega
  rw [binM]
  split
  ·have := o_ne cs n (if flipB cs p d then c + 1 else c) (flipP cs p d) (flipD cs p d) hp
   refine ⟨this.1, ?_, by omega⟩
   have h2 := this.2.1
   revert h2
   split <;> omega
  ·exact ⟨hp, Nat.zero_le _, hp2⟩

def thinM (cs : List Bool) (f : Bool) : Nat → Nat → Nat → Nat → Bool → TR
 | 0, y, t, p, d => ⟨0, y, t, f, p, d⟩
 | n + 1, y, t, p, d => if (binM cs y 0 p d).1 = 0 then thinM cs f n (binM cs y 0 p d).2.1 (t + 1) (binM cs y 0 p d).2.2.1 (binM cs y 0 p d).2.2.2 else ⟨(binM cs y 0 p d).1, y, t, f, (binM cs y 0 p d).2.2.1, (binM cs y 0 p d).2.2.2⟩
theorem o_nf (cs : List Bool) (f : Bool) : ∀ (n y t p : Nat) (d : Bool), p ≤ cs.length → (thinM cs f n y t p d).p ≤ cs.length ∧ (thinM cs f n y t p d).y ≤ y ∧ t ≤ (thinM cs f n y t p d).t ∧ (thinM cs f n y t p d).t ≤ t + n ∧ ((thinM cs f n y t p d).e = 0 → (thinM cs f n y t p d).t = t + n) ∧ (thinM cs f n y t p d).f = f ∧ p ≤ (thinM cs f n y t p d).p
 | 0, y, t, p, d, h => by simp [thinM, h]
 | n + 1, y, t, p, d, h => by
  have hb := o_ne cs y 0 p d h
  rw [thinM]
  split
  ·have := o_nf cs f n (binM cs y 0 p d).2.1 (t + 1) (binM cs y 0 p d).2.2.1 (binM cs y 0 p d).2.2.2 hb.1
   refine ⟨this.1, by omega, by omega, by omega, fun h => by have := this.2.2.2.2.1 h; omega, this.2.2.2.2.2.1, by omega⟩
  ·rename_i he
   refine ⟨hb.1, by simp, by simp, by simp, fun h => absurd h he, rfl, hb.2.2⟩
def downM (cs : List Bool) (most times : Nat) : Nat → Nat → Nat → Bool → Nat → Bool → TR
 | 0, y, t, f, p, d => ⟨0, y, t, f, p, d⟩
 | k + 1, y, t, f, p, d =>
  if most < y then
   if t = times then ⟨0, most, t, true, p, d⟩
   else if (thinM cs f 1 y t p d).e = 0 then downM cs most times k (thinM cs f 1 y t p d).y (thinM cs f 1 y t p d).t f (thinM cs f 1 y t p d).p (thinM cs f 1 y t p d).d
   else ⟨(thinM cs f 1 y t p d).e, y, t, f, (thinM cs f 1 y t p d).p, (thinM cs f 1 y t p d).d⟩
  else ⟨0, y, t, f, p, d⟩
theorem o_ng (cs : List Bool) (most times : Nat) : ∀ (k y t : Nat) (f : Bool) (p : Nat) (d : Bool), p ≤ cs.length → t ≤ times → times < t + k →
  (downM cs most times k y t f p d).p ≤ cs.length ∧ (downM cs most times k y t f p d).t ≤ times ∧ t ≤ (downM cs most times k y t f p d).t ∧ ((downM cs most times k y t f p d).e = 0 → (downM cs most times k y t f p d).y ≤ most) ∧ ((f = true → t = times) → (downM cs most times k y t f p d).f = true → (downM cs most times k y t f p d).t = times) ∧ p ≤ (downM cs most times k y t f p d).p
 | 0, y, t, f, p, d, h, h1, h2 => by omega
 | k + 1, y, t, f, p, d, h, h1, h2 => by
  rw [downM]
  have hb := o_nf cs f 1 y t p d h
  generalize thinM cs f 1 y t p d = B at *
  split
  ·split
   ·rename_i ht; exact ⟨h, h1, Nat.le_refl _, fun _ => Nat.le_refl _, fun _ _ => ht, Nat.le_refl _⟩
   ·split
    ·rename_i ht he
     have ht2 := hb.2.2.2.2.1 he
     have := o_ng cs most times k B.y B.t f B.p B.d hb.1 (by omega) (by omega)
     refine ⟨this.1, this.2.1, by omega, this.2.2.2.1, fun hf => this.2.2.2.2.1 (fun h => absurd (hf h) ht), by omega⟩
    ·rename_i ht he
     exact ⟨hb.1, h1, Nat.le_refl _, fun h => absurd h he, fun hf h => hf h, hb.2.2.2.2.2.2⟩
  ·rename_i hy
   exact ⟨h, h1, Nat.le_refl _, fun _ => by show y ≤ most; omega, fun hf h => hf h, Nat.le_refl _⟩
def oneM (cs : List Bool) (most times y t : Nat) (f : Bool) (p : Nat) (d : Bool) : TR :=
 if (halfR cs t p d).1 then downM cs most times (times - t + 1) (y + 1) t f (halfR cs t p d).2.2.1 (halfR cs t p d).2.2.2
 else ⟨(halfR cs t p d).2.1, y, t, f, (halfR cs t p d).2.2.1, (halfR cs t p d).2.2.2⟩
def addTM (cs : List Bool) (most times : Nat) : Nat → Nat → Nat → Bool → Nat → Bool → TR
 | 0, y, t, f, p, d => ⟨0, y, t, f, p, d⟩
 | n + 1, y, t, f, p, d => if (oneM cs most times y t f p d).e = 0 then addTM cs most times n (oneM cs most times y t f p d).y (oneM cs most times y t f p d).t (oneM cs most times y t f p d).f (oneM cs most times y t f p d).p (oneM cs most times y t f p d).d else oneM cs most times y t f p d
def mergeTM (cs : List Bool) (most times y t : Nat) (f : Bool) (z u : Nat) (g : Bool) (p : Nat) (d : Bool) : TR :=
 let A := thinM cs f (u - t) y t p d
 if A.e = 0 then
  let B := thinM cs g (t - u) z u A.p A.d
  if B.e = 0 then downM cs most times (times - A.t + 1) (A.y + B.y) A.t (f || g) B.p B.d else B
 else A

theorem o_nh (cs : List Bool) (n p : Nat) (d : Bool) (hn : n ≤ 4000000) (hp : p ≤ cs.length) (hc : cs.length ≤ 4000000) :
  Eqn Tryz.prog o_fl [.p 0 0, .d (.int .i64 n)] [tapeO cs p d] (.tup [.d (.int .i64 (binM cs n 0 p d).2.1), .d (.int .i64 (binM cs n 0 p d).1)]) [tapeO cs (binM cs n 0 p d).2.2.1 (binM cs n 0 p d).2.2.2] := by
 refine Eqn.obj1 o_fn Plain.ok ⟨rfl, fun _ => rfl⟩ ?_
 obtain ⟨R, hR⟩ : ∃ R, R = binM cs n 0 p d := ⟨_, rfl⟩
 rw [← hR]
 have e0 : max 0 (n : Int) = n := by omega
 simp only [o_fm]
 refine G1B e0 ?_; try with_reducible exact tt
 refine AW.loopT (α := Nat × Nat × Nat × Bool) 1 (fun s => [(11, .d (.int .i64 (s.1 : Int))), (6, .d (.int .i64 (s.2.1 : Int)))]) (fun s => [(0, tapeO cs s.2.2.1 s.2.2.2)]) (fun s => s.1 ≤ n ∧ s.2.1 ≤ s.1 ∧ s.2.2.1 ≤ cs.length ∧ R = binM cs (n - s.1) s.2.1 s.2.2.1 s.2.2.2) (fun s => n - s.1) (0, 0, p, d) ?_ ?_ ⟨Nat.zero_le _, Nat.le_refl _, hp, hR⟩ ?_ ?_ ?_
 ·simp
 ·simp
 ·simp
 ·simp
 clear hR
 rintro ⟨i, c, q, dd⟩ ⟨hi, hci, hq, hR⟩
 simp only at hi hci hq hR
 simp [-Bool.exists_bool]
 by_cases h : i = n
 ·subst h
  rw [Nat.sub_self, binM] at hR
  refine G0B ?_; try with_reducible exact tt
  refine AW.cond rfl (fun h => ?_) (fun h => ?_)
  ·simp at h
  refine G0B ?_; try with_reducible exact tt
  simp [hR]
 ·have h1 : i < n := by omega
  have h2 : (i : Int) < n := by omega
  obtain ⟨r, hr⟩ : ∃ r, n - i = r + 1 := ⟨n - i - 1, by omega⟩
  rw [hr, binM] at hR
  have hf := o_ka cs q dd hq hc
  have hle := o_kb (dd := dd) hq
  have e1 : IntKind.i64.wrap ((i : Int) + 1) = ((i + 1 : Nat) : Int) := by rw [w64 (by omega) (by omega)]; omega
  have e2 : IntKind.i64.wrap ((c : Int) + 1) = ((c + 1 : Nat) : Int) := by rw [w64 (by omega) (by omega)]; omega
  generalize flipE cs q dd = E at *
  generalize flipB cs q dd = B at *
  generalize flipP cs q dd = Q at *
  generalize flipD cs q dd = dd2 at *
  refine G1B (fs h1 h2) ?_; try with_reducible exact tt
  refine AW.cond rfl (fun h => ?_) (fun h => ?_)
  ·clear h
   refine G0B ?_; try with_reducible exact tt
   refine CallS.o1 0 (hf) (R0B ?_); try with_reducible exact tt
   by_cases hE : E = 0
   ·subst hE
    rw [if_pos rfl] at hR
    refine AW.cond rfl (fun h => ?_) (fun h => ?_)
    ·simp at h
    refine G0B ?_; try with_reducible exact tt
    cases B with
    | true =>
     refine AW.cond rfl (fun h => ?_) (fun h => ?_)
     ·refine G1B (fs e1 e2) ?_; try with_reducible exact tt
      exact ⟨i + 1, c + 1, Q, dd2, ⟨by omega, by omega, hle, by rw [hR, if_pos rfl]; congr 1; omega⟩, by omega, by simp, by simp⟩
     ·simp at h
    | false =>
     refine AW.cond rfl (fun h => ?_) (fun h => ?_)
     ·simp at h
     ·refine G1B e1 ?_; try with_reducible exact tt
      exact ⟨i + 1, c, Q, dd2, ⟨by omega, by omega, hle, by rw [hR, if_neg (by simp)]; congr 1; omega⟩, by omega, by simp, by simp⟩
   ·rw [if_neg hE] at hR
    refine AW.cond rfl (fun h => ?_) (fun h => ?_)
    ·refine G0B ?_; try with_reducible exact tt
     simp [hR]
    ·simp [hE] at h
  ·simp [h1] at h

def tsD (y t : Nat) (f : Bool) : D := .agg [.int .i64 y, .int .i64 t, .bool f]

theorem o_ni (cs : List Bool) (y t : Nat) (f : Bool) (k : Int) (p : Nat) (d : Bool) (hk : k ≤ 100) (hy : y ≤ 100000) (ht : t ≤ 100000) (hp : p ≤ cs.length) (hc : cs.length ≤ 4000000) :
  Eqn Tryz.prog o_fi [.p 0 0, .d (tsD y t f), .d (.int .i64 k)] [tapeO cs p d] (.tup [.d (tsD (thinM cs f k.toNat y t p d).y (thinM cs f k.toNat y t p d).t f), .d (.int .i64 (thinM cs f k.toNat y t p d).e)]) [tapeO cs (thinM cs f k.toNat y t p d).p (thinM cs f k.toNat y t p d).d] := by
 refine Eqn.obj1 o_fk Plain.ok ⟨rfl, fun _ => rfl⟩ ?_
 obtain ⟨n, hn, e0⟩ : ∃ n : Nat, n = k.toNat ∧ max 0 k = (n : Int) := ⟨k.toNat, rfl, by omega⟩
 rw [← hn]
 obtain ⟨R, hR⟩ : ∃ R, R = thinM cs f n y t p d := ⟨_, rfl⟩
 rw [← hR]
 simp only [o_fj, tsD]
 refine G1B e0 ?_; try with_reducible exact tt
 refine AW.loopT (α := Nat × Nat × Nat × Nat × Bool) 3 (fun s => [(12, .d (.int .i64 (s.1 : Int)))]) (fun s => [(0, tapeO cs s.2.2.2.1 s.2.2.2.2), (1, ⟨258, [.d (.int .i64 (s.2.1 : Nat)), .d (.int .i64 (s.2.2.1 : Nat)), .d (.bool f)]⟩)]) (fun s => s.1 ≤ n ∧ s.2.1 ≤ 100000 ∧ s.2.2.1 ≤ 100000 + s.1 ∧ s.2.2.2.1 ≤ cs.length ∧ R = thinM cs f (n - s.1) s.2.1 s.2.2.1 s.2.2.2.1 s.2.2.2.2) (fun s => n - s.1) (0, y, t, p, d) ?_ ?_ ⟨Nat.zero_le _, hy, ht, hp, hR⟩ ?_ ?_ ?_
 ·simp
 ·simp
 ·simp
 ·simp
 clear hR
 rintro ⟨i, z, u, q, dd⟩ ⟨hi, hz, hu, hq, hR⟩
 simp only at hi hz hu hq hR
 simp [-Bool.exists_bool]
 by_cases h : i = n
 ·subst h
  rw [Nat.sub_self, thinM] at hR
  refine G0B ?_; try with_reducible exact tt
  refine AW.cond rfl (fun h => ?_) (fun h => ?_)
  ·simp at h
  refine G0B ?_; try with_reducible exact tt
  simp [hR]
 ·have h1 : i < n := by omega
  have h2 : (i : Int) < n := by omega
  obtain ⟨r, hr⟩ : ∃ r, n - i = r + 1 := ⟨n - i - 1, by omega⟩
  rw [hr, thinM] at hR
  have hb := o_nh cs z q dd (by omega) hq hc
  have hle := o_ne cs z 0 q dd hq
  have e1 : IntKind.i64.wrap ((i : Int) + 1) = ((i + 1 : Nat) : Int) := by rw [w64 (by omega) (by omega)]; omega
  have e2 : IntKind.i64.wrap ((u : Int) + 1) = ((u + 1 : Nat) : Int) := by rw [w64 (by omega) (by omega)]; omega
  generalize binM cs z 0 q dd = B at *
  obtain ⟨B1, B2, B3, B4⟩ := B
  simp only at hb hle hR
  refine G1B (fs h1 h2) ?_; try with_reducible exact tt
  refine AW.cond rfl (fun h => ?_) (fun h => ?_)
  ·clear h
   refine G0B ?_; try with_reducible exact tt
   refine CallS.o1 0 (hb) (R0B ?_); try with_reducible exact tt
   by_cases hE : B1 = 0
   ·subst hE
    rw [if_pos rfl] at hR
    refine AW.cond rfl (fun h => ?_) (fun h => ?_)
    ·simp at h
    refine G1B (fs e1 e2) ?_; try with_reducible exact tt
    exact ⟨i + 1, B2, u + 1, B3, B4, ⟨by omega, by omega, by omega, hle.1, by rw [hR]; congr 1; omega⟩, by omega, by simp, by simp⟩
   ·rw [if_neg hE] at hR
    refine AW.cond rfl (fun h => ?_) (fun h => ?_)
    ·refine G0B ?_; try with_reducible exact tt
     simp [hR]
    ·simp [hE] at h
  ·simp [h1] at h
end
end Go.Proofs.YtdklbnemfelpnaaGreatDoor.Am
namespace Go.Proofs.YtdklbnemfelpnaaGreatDoor.Am
section
open Go.RowKit
def tpD (a b : Int) : D := .agg [.int .i64 a, .int .i64 b]

theorem o_nj (cs : List Bool) (most times : Nat) (y t : Nat) (f : Bool) (p : Nat) (d : Bool) (hm : most ≤ 1023) (hts : times ≤ 20) (hy : y ≤ 100000) (ht : t ≤ times) (hp : p ≤ cs.length) (hc : cs.length ≤ 4000000) (R : TR) (hR : R = downM cs most times (times - t + 1) y t f p d) :
  Eqn Tryz.prog o_fc [.d (tpD most times), .p 0 0, .d (tsD y t f)] [tapeO cs p d] (.tup [.d (tsD R.y R.t R.f), .d (.int .i64 R.e)]) [tapeO cs R.p R.d] := by
 refine Eqn.obj1 o_fe Plain.ok ⟨rfl, fun _ => rfl⟩ ?_
 simp only [o_fd, tsD, tpD]
 refine G0B ?_; try with_reducible exact tt
 refine AW.loopT (α := Nat × Nat × Nat × Bool) 4 (fun s => []) (fun s => [(0, tapeO cs s.2.2.1 s.2.2.2), (2, ⟨258, [.d (.int .i64 (s.1 : Nat)), .d (.int .i64 (s.2.1 : Nat)), .d (.bool f)]⟩)]) (fun s => s.1 ≤ 100000 ∧ s.2.1 ≤ times ∧ s.2.2.1 ≤ cs.length ∧ R = downM cs most times (times - s.2.1 + 1) s.1 s.2.1 f s.2.2.1 s.2.2.2) (fun s => times - s.2.1) (y, t, p, d) ?_ ?_ ⟨hy, ht, hp, hR⟩ ?_ ?_ ?_
 ·simp
 ·simp
 ·simp
 ·simp
 clear hR
 rintro ⟨z, u, q, dd⟩ ⟨hz, hu, hq, hR⟩
 simp only at hz hu hq hR
 rw [downM] at hR
 simp [-Bool.exists_bool]
 by_cases h : most < z
 ·rw [if_pos h] at hR
  have h' : (most : Int) < z := by omega
  refine G1B (fs h h') ?_; try with_reducible exact tt
  refine AW.cond rfl (fun hh => ?_) (fun hh => ?_)
  ·by_cases hut : u = times
   ·subst hut
    rw [if_pos rfl] at hR
    refine G0B ?_; try with_reducible exact tt
    refine AW.cond rfl (fun hh => ?_) (fun hh => ?_)
    ·refine G0B ?_; try with_reducible exact tt
     simp [hR]
    ·simp at hh
   ·rw [if_neg hut] at hR
    have hut' : ¬ (u : Int) = times := by omega
    have hb := o_ni cs z u f 1 q dd (by omega) hz (by omega) hq hc
    have hle := o_nf cs f 1 z u q dd hq
    rw [show (1 : Int).toNat = 1 by rfl] at hb
    generalize thinM cs f 1 z u q dd = B at *
    obtain ⟨be, bz, bu, bf, bp, bd⟩ := B
    simp only [tsD] at hb hle hR
    refine G1B (fs hut hut') ?_; try with_reducible exact tt
    refine AW.cond rfl (fun hh => ?_) (fun hh => ?_)
    ·simp [hut, hut'] at hh
    refine G0B ?_; try with_reducible exact tt
    refine CallS.o1 0 (hb) (R0B ?_); try with_reducible exact tt
    by_cases hE : be = 0
    ·subst hE
     rw [if_pos rfl] at hR
     have := hle.2.2.2.2.1 rfl
     refine AW.cond rfl (fun hh => ?_) (fun hh => ?_)
     ·simp at hh
     refine G0B ?_; try with_reducible exact tt
     exact ⟨bz, bu, bp, bd, ⟨by omega, by omega, hle.1, by rw [hR]; congr 1; omega⟩, by omega, by simp, by simp⟩
    ·rw [if_neg hE] at hR
     refine AW.cond rfl (fun hh => ?_) (fun hh => ?_)
     ·refine G0B ?_; try with_reducible exact tt
      simp [hR]
     ·simp [hE] at hh
  ·simp [h] at hh
 ·rw [if_neg h] at hR
  have h' : ¬ (most : Int) < z := by omega
  refine G1B (fs h h') ?_; try with_reducible exact tt
  refine AW.cond rfl (fun hh => ?_) (fun hh => ?_)
  ·simp [h'] at hh
  refine G0B ?_; try with_reducible exact tt
  simp [hR]

theorem o_nk (cs : List Bool) (most times : Nat) (y t : Nat) (f : Bool) (p : Nat) (d : Bool) (hm : most ≤ 1023) (hts : times ≤ 20) (hy : y ≤ 90000) (ht : t ≤ times) (hp : p ≤ cs.length) (hc : cs.length ≤ 4000000) (R : TR) (hR : R = oneM cs most times y t f p d) :
  Eqn Tryz.prog o_f6 [.d (tpD most times), .p 0 0, .d (tsD y t f)] [tapeO cs p d] (.tup [.d (tsD R.y R.t R.f), .d (.int .i64 R.e)]) [tapeO cs R.p R.d] := by
 refine Eqn.obj1 o_f8 Plain.ok ⟨rfl, fun _ => rfl⟩ ?_
 have hh := o_kc cs p d t (by omega) hp hc
 have hle := o_nd (cs := cs) t p d hp
 rw [show (t : Int).toNat = t by omega] at hh
 unfold oneM at hR
 generalize halfR cs t p d = H at *
 obtain ⟨h1, h2, h3, h4⟩ := H
 simp only at hh hR hle
 have e1 : IntKind.i64.wrap ((y : Int) + 1) = ((y + 1 : Nat) : Int) := by rw [w64 (by omega) (by omega)]; omega
 cases h1 with
 | true =>
  rw [if_pos rfl] at hR
  have hd := o_nj cs most times (y + 1) t f h3 h4 hm hts (by omega) ht hle hc R hR
  clear hR
  obtain ⟨re, ry, rt, rf, rp, rd⟩ := R
  simp only [o_f7, tsD, tpD] at hd ⊢
  refine G0B ?_; try with_reducible exact tt
  refine CallS.o1 0 (hh) (R0B ?_); try with_reducible exact tt
  refine AW.cond rfl (fun h => ?_) (fun h => ?_)
  ·simp at h
  refine G1B e1 ?_; try with_reducible exact tt
  refine CallS.o1 0 (hd) (R0B ?_); try with_reducible exact tt
 | false =>
  rw [if_neg (by simp)] at hR
  subst hR
  simp only [o_f7, tsD, tpD]
  refine G0B ?_; try with_reducible exact tt
  refine CallS.o1 0 (hh) (R0B ?_); try with_reducible exact tt
  refine AW.cond rfl (fun h => ?_) (fun h => ?_)
  ·refine G0B ?_; try with_reducible exact tt
  ·simp at h

theorem o_nl {cs : List Bool} {most times y t : Nat} {f : Bool} {p : Nat} {d : Bool} (hp : p ≤ cs.length) (ht : t ≤ times) (hy : y ≤ most) :
  (oneM cs most times y t f p d).p ≤ cs.length ∧ (oneM cs most times y t f p d).t ≤ times ∧ ((oneM cs most times y t f p d).e = 0 → (oneM cs most times y t f p d).y ≤ most) ∧ ((f = true → t = times) → (oneM cs most times y t f p d).f = true → (oneM cs most times y t f p d).t = times) := by
 unfold oneM
 have hle := o_nd (cs := cs) t p d hp
 split
 ·have := o_ng cs most times (times - t + 1) (y + 1) t f (halfR cs t p d).2.2.1 (halfR cs t p d).2.2.2 hle ht (by omega)
  exact ⟨this.1, this.2.1, this.2.2.2.1, this.2.2.2.2.1⟩
 ·exact ⟨hle, ht, fun _ => hy, fun hf h => hf h⟩
theorem o_nm {cs : List Bool} {most times : Nat} : ∀ (n y t : Nat) (f : Bool) (p : Nat) (d : Bool), p ≤ cs.length → t ≤ times → y ≤ most → (f = true → t = times) →
  (addTM cs most times n y t f p d).p ≤ cs.length ∧ (addTM cs most times n y t f p d).t ≤ times ∧ ((addTM cs most times n y t f p d).e = 0 → (addTM cs most times n y t f p d).y ≤ most) ∧ ((addTM cs most times n y t f p d).f = true → (addTM cs most times n y t f p d).t = times)
 | 0, y, t, f, p, d, hp, ht, hy, hf => ⟨hp, ht, fun _ => hy, hf⟩
 | n + 1, y, t, f, p, d, hp, ht, hy, hf => by
  have := o_nl (cs := cs) (most := most) (times := times) (y := y) (t := t) (f := f) (p := p) (d := d) hp ht hy
  rw [addTM]
  split
  ·rename_i he
   exact o_nm n _ _ _ _ _ this.1 this.2.1 (this.2.2.1 he) (this.2.2.2 hf)
  ·exact ⟨this.1, this.2.1, this.2.2.1, this.2.2.2 hf⟩
def GoodT (a b : Nat) : Prop := 1 ≤ a ∧ a ≤ 1023 ∧ b ≤ 20
def WellT (a b y t : Nat) (f : Bool) : Prop := y ≤ a ∧ t ≤ b ∧ (f = true → t = b)

theorem o_nn {a b : Nat} (h : GoodT a b) : Eqn Tryz.prog o_do [.d (tpD a b)] [] (.d (.int .i64 0)) [] := by
 refine Eqn.pure o_dq Plain.ok ?_
 obtain ⟨h1, h2, h3⟩ := h
 have g1 : ¬ (a : Int) < 1 := by omega
 have g2 : ¬ (1023 : Int) < a := by omega
 have g3 : ¬ (b : Int) < 0 := by omega
 have g4 : ¬ (20 : Int) < b := by omega
 simp only [o_dp, tpD]
 refine G1 (fs g1 (fs g2 (fs g3 g4))) ?_; try with_reducible exact tt
 refine AW.cond rfl (fun h => ?_) (fun h => ?_)
 ·simp at h
 ·refine G0 ?_; try with_reducible exact tt
theorem o_no {a b y t : Nat} {f : Bool} (h : GoodT a b) (hw : WellT a b y t f) : Eqn Tryz.prog o_f3 [.d (tpD a b), .d (tsD y t f)] [] (.d (.bool true)) [] := by
 refine Eqn.pure o_f5 Plain.ok ?_
 have hc := o_nn h
 obtain ⟨h1, h2, h3⟩ := hw
 have g1 : (y : Int) ≤ a := by omega
 have g2 : (t : Int) ≤ b := by omega
 have g3 : (0 : Int) ≤ y := by omega
 have g4 : (0 : Int) ≤ t := by omega
 simp only [o_f4, tpD, tsD] at hc ⊢
 cases f with
 | true =>
  obtain rfl := h3 rfl
  refine G1 (fs g1 (fs g2 (fs g3 (fs g4 h1)))) ?_; try with_reducible exact tt
  refine CallS.pu (hc) (R1 (fs g1 (fs g2 (fs g3 (fs g4 h1)))) ?_); try with_reducible exact tt
 | false =>
  refine G1 (fs g1 (fs g2 (fs g3 (fs g4 (fs h1 h2))))) ?_; try with_reducible exact tt
  refine CallS.pu (hc) (R1 (fs g1 (fs g2 (fs g3 (fs g4 (fs h1 h2))))) ?_); try with_reducible exact tt

theorem o_np {a b y t : Nat} {f : Bool} (h : GoodT a b) (hw : WellT a b y t f) : Eqn Tryz.prog o_ex [.d (tpD a b), .d (.sl 1 [.int .i64 y, .int .i64 t, .bool f])] [] (.d (.int .i64 0)) [] := by
 refine Eqn.pure o_ez Plain.ok ?_
 have hc := o_nn h
 have hw := o_no h hw
 simp only [o_ey, tpD, tsD] at hc hw ⊢
 refine G0 ?_; try with_reducible exact tt
 refine CallS.pu (hc) (R0 ?_); try with_reducible exact tt
 refine AW.cond rfl (fun h => ?_) (fun h => ?_)
 ·simp at h
 refine G0 ?_; try with_reducible exact tt
 refine AW.loopT (α := Nat) 1 (fun i => [(15, .d (.int .i64 (i : Int)))]) (fun i => []) (fun i => i ≤ 1) (fun i => 1 - i) 0 ?_ ?_ (Nat.zero_le _) ?_ ?_ ?_
 ·simp
 ·simp
 ·simp
 ·simp
 rintro i hi
 simp
 have hi' : i = 0 ∨ i = 1 := by omega
 rcases hi' with rfl | rfl
 ·refine G0 ?_; try with_reducible exact tt
  refine AW.cond rfl (fun h => ?_) (fun h => ?_)
  ·refine G0 ?_; try with_reducible exact tt
   refine CallS.pu (hw) (R0 ?_); try with_reducible exact tt
   refine AW.cond rfl (fun h => ?_) (fun h => ?_)
   ·simp at h
   have ew : IntKind.i64.wrap 1 = 1 := w64 (by omega) (by omega)
   refine G1 ew ?_; try with_reducible exact tt
   exact ⟨1, by omega, by omega, by simp⟩
  ·simp at h
 ·refine G0 ?_; try with_reducible exact tt
  refine AW.cond rfl (fun h => ?_) (fun h => ?_)
  ·simp at h
  refine AW.exit ?_
  (try (simp -implicitDefEqProofs; try simp (disch := omega) only [w64, wu64]))
  refine G0 ?_; try with_reducible exact tt
end
end Go.Proofs.YtdklbnemfelpnaaGreatDoor.Am
namespace Go.Proofs.YtdklbnemfelpnaaGreatDoor.Am
section
open Go.RowKit
theorem o_nq (cs : List Bool) (a b y t : Nat) (f : Bool) (k : Int) (p : Nat) (d : Bool) (hgt : GoodT a b) (hw : WellT a b y t f) (hk : k ≤ 1048576) (hp : p ≤ cs.length) (hc : cs.length ≤ 4000000) (R : TR) (hR : R = addTM cs a b k.toNat y t f p d) :
  Eqn Tryz.prog o_el [.d (tpD a b), .p 0 0, .d (tsD y t f), .d (.int .i64 k)] [tapeO cs p d] (.tup [.d (if R.e = 0 then tsD R.y R.t R.f else tsD y t f), .d (.int .i64 R.e)]) [tapeO cs R.p R.d] := by
 refine Eqn.obj1 o_en Plain.ok ⟨rfl, fun _ => rfl⟩ ?_
 have hwr := o_np hgt hw
 obtain ⟨n, hn, e0⟩ : ∃ n : Nat, n = k.toNat ∧ max 0 k = (n : Int) := ⟨k.toNat, rfl, by omega⟩
 rw [← hn] at hR
 have g1 : ¬ (1048576 : Int) < k := by omega
 simp only [o_em, tsD, tpD] at hwr ⊢
 refine G0B ?_; try with_reducible exact tt
 refine CallS.pf 4 3 ⟨258, _⟩ [.int .i64 y, .int .i64 t, .bool f] (hwr) (by first | rfl | (simp [-Bool.exists_bool]; done)) (R0B ?_); try with_reducible exact tt
 refine AW.cond rfl (fun h => ?_) (fun h => ?_)
 ·simp at h
 refine G1B g1 ?_; try with_reducible exact tt
 refine AW.cond rfl (fun h => ?_) (fun h => ?_)
 ·simp [g1] at h
 refine G1B e0 ?_; try with_reducible exact tt
 refine AW.loopT (α := Nat × Nat × Nat × Bool × Nat × Bool) 6 (fun s => [(28, .d (.int .i64 (s.1 : Int)))]) (fun s => [(0, tapeO cs s.2.2.2.2.1 s.2.2.2.2.2), (5, ⟨258, [.d (.int .i64 (s.2.1 : Nat)), .d (.int .i64 (s.2.2.1 : Nat)), .d (.bool s.2.2.2.1)]⟩)]) (fun s => s.1 ≤ n ∧ WellT a b s.2.1 s.2.2.1 s.2.2.2.1 ∧ s.2.2.2.2.1 ≤ cs.length ∧ R = addTM cs a b (n - s.1) s.2.1 s.2.2.1 s.2.2.2.1 s.2.2.2.2.1 s.2.2.2.2.2) (fun s => n - s.1) (0, y, t, f, p, d) ?_ ?_ ⟨Nat.zero_le _, hw, hp, hR⟩ ?_ ?_ ?_
 ·simp
 ·simp
 ·simp
 ·simp
 clear hR
 rintro ⟨i, z, u, g, q, dd⟩ ⟨hi, hz, hq, hR⟩
 simp only at hi hz hq hR
 simp [-Bool.exists_bool]
 by_cases hin : i = n
 ·subst hin
  rw [Nat.sub_self, addTM] at hR
  refine G0B ?_; try with_reducible exact tt
  refine AW.cond rfl (fun h => ?_) (fun h => ?_)
  ·simp at h
  refine G0B ?_; try with_reducible exact tt
  simp [hR]
 ·have h1 : i < n := by omega
  have h2 : (i : Int) < n := by omega
  obtain ⟨r, hr⟩ : ∃ r, n - i = r + 1 := ⟨n - i - 1, by omega⟩
  rw [hr, addTM] at hR
  have hb := o_nk cs a b z u g q dd hgt.2.1 hgt.2.2 (by have := hz.1; have := hgt.2.1; omega) hz.2.1 hq hc _ rfl
  have hle := o_nl (cs := cs) (most := a) (times := b) (y := z) (t := u) (f := g) (p := q) (d := dd) hq hz.2.1 hz.1
  have e1 : IntKind.i64.wrap ((i : Int) + 1) = ((i + 1 : Nat) : Int) := by rw [w64 (by omega) (by omega)]; omega
  generalize oneM cs a b z u g q dd = B at *
  obtain ⟨be, bz, bu, bf, bp, bd⟩ := B
  simp only [tsD, tpD] at hb hle hR
  refine G1B (fs h1 h2) ?_; try with_reducible exact tt
  refine AW.cond rfl (fun h => ?_) (fun h => ?_)
  ·clear h
   refine G0B ?_; try with_reducible exact tt
   refine CallS.o1 0 (hb) (R0B ?_); try with_reducible exact tt
   by_cases hE : be = 0
   ·subst hE
    rw [if_pos rfl] at hR
    refine AW.cond rfl (fun h => ?_) (fun h => ?_)
    ·simp at h
    refine G1B e1 ?_; try with_reducible exact tt
    exact ⟨i + 1, bz, bu, bf, bp, bd, ⟨by omega, ⟨hle.2.2.1 rfl, hle.2.1, hle.2.2.2 hz.2.2⟩, hle.1, by rw [hR]; congr 1; omega⟩, by omega, by simp, by simp⟩
   ·rw [if_neg hE] at hR
    refine AW.cond rfl (fun h => ?_) (fun h => ?_)
    ·refine G0B ?_; try with_reducible exact tt
     simp [hR, hE]
    ·simp [hE] at h
  ·simp [h1] at h
end
end Go.Proofs.YtdklbnemfelpnaaGreatDoor.Am
namespace Go.Proofs.YtdklbnemfelpnaaGreatDoor.Am
section
open Go.RowKit
def GoodC (k a w : Nat) : Prop := (k = 1 ∧ 1 ≤ a ∧ a ≤ 4096 ∧ bitsN (a + 1) * (2 ^ w - 1) ≤ 8192 ∨ k = 2 ∧ a ≤ 8 ∨ k = 3 ∧ 1 ≤ a ∧ a ≤ 5) ∧ 1 ≤ w ∧ w ≤ 10
theorem o_nr {k a w : Nat} (h : GoodS k a w) : GoodC k a w := by
 obtain ⟨h, h1, h2⟩ := h
 refine ⟨?_, h1, by omega⟩
 rcases h with ⟨rfl, h3, h4⟩ | ⟨rfl, h3⟩ | ⟨rfl, h3, h4⟩
 ·refine .inl ⟨rfl, h3, by omega, ?_⟩
  have ha : a = 1 ∨ a = 2 ∨ a = 3 ∨ a = 4 := by omega
  have hw : w = 1 ∨ w = 2 ∨ w = 3 ∨ w = 4 := by omega
  rcases ha with rfl | rfl | rfl | rfl <;> rcases hw with rfl | rfl | rfl | rfl <;> decide
 ·exact .inr (.inl ⟨rfl, by omega⟩)
 ·exact .inr (.inr ⟨rfl, h3, by omega⟩)
theorem o_ns {k a w : Nat} (h : GoodC k a w) : Eqn Tryz.prog o_73 [.d (parD k a w)] [] (.d (.int .i64 0)) [] := by
 obtain ⟨h, h1, h2⟩ := h
 rcases h with ⟨rfl, h3, h4, h5⟩ | ⟨rfl, h3⟩ | ⟨rfl, h3, h4⟩
 ·exact o_mp a w h3 h4 h1 h2 h5
 ·exact o_mr a w h3 h1 h2
 ·exact o_ms a w h3 h4 h1 h2
theorem o_nt {k a w : Nat} (h : GoodC k a w) (cs : List Bool) (hn : cs.length ≤ 4000000) : ∃ ti d g, StepOf cs ti d g (stOf cs k a) ∧ kindD k a = .ifc ti d := by
 obtain ⟨h, -⟩ := h
 rcases h with ⟨rfl, -⟩ | ⟨rfl, -⟩ | ⟨rfl, -⟩
 ·exact ⟨_, _, _, ⟨o_ky, fun x p dd hp => o_mv cs a x p dd hp hn, fun x p dd hp => o_n7 hp⟩, rfl⟩
 ·exact ⟨_, _, _, ⟨o_kz, fun x p dd hp => o_n0 cs a x p dd hp hn, fun x p dd hp => o_n8 hp⟩, rfl⟩
 ·exact ⟨_, _, _, ⟨o_l0, fun x p dd hp => o_n2 cs a x p dd hp hn, fun x p dd hp => o_n9 hp⟩, rfl⟩
theorem o_nu {k a w : Nat} (h : GoodC k a w) (cs : List Bool) (hcs : cs.length ≤ 4000000) (x : Nat) (hx : x ≤ 2 ^ w - 1) (f : Bool) (n : Nat) (m : Int) (hmx : max 0 m = (n : Int)) (hn : m ≤ 1048576) (p : Nat) (dd : Bool) (hp : p ≤ cs.length) (S : Int × Nat × Bool × Nat × Bool) (hS : S = addL (stOf cs k a) (2 ^ w - 1) n x f p dd) :
  Eqn Tryz.prog o_5l [.d (parD k a w), .p 0 0, .d (.agg [.int .i64 x, .bool f]), .d (.int .i64 m)] [tapeO cs p dd] (.tup [.d (.agg [.int .i64 (if S.1 = 0 then S.2.1 else x : Nat), .bool (if S.1 = 0 then S.2.2.1 else f)]), .d (.int .i64 S.1)]) [tapeO cs S.2.2.2.1 S.2.2.2.2] := by
 obtain ⟨ti, d, g, h1, h2⟩ := o_nt h cs hcs
 exact o_n4 cs k a w h.2.2 ti d g _ h1 h2 (o_ns h) x hx f n m hmx hn p dd hp S hS
theorem o_nv {k a w : Nat} (h : GoodC k a w) (cs : List Bool) (hn : cs.length ≤ 4000000) : ∀ x p d, p ≤ cs.length → (stOf cs k a x p d).2.2.1 ≤ cs.length := by
 obtain ⟨ti, d, g, h1, h2⟩ := o_nt h cs hn
 exact h1.le
theorem o_nw {st : StepT} {top : Nat} : ∀ (n x : Nat) (f : Bool) (p : Nat) (d : Bool), (f = true → x = top) → (addL st top n x f p d).2.2.1 = true → (addL st top n x f p d).2.1 = top
 | 0, x, f, p, d, hf, h => hf h
 | n + 1, x, f, p, d, hf, h => by
  rw [addL] at h ⊢
  by_cases hx : x = top
  ·simp only [if_pos hx]; exact hx
  ·simp only [if_neg hx] at h ⊢
   have hff : f = false := by cases f with | false => rfl | true => exact absurd (hf rfl) hx
   subst hff
   by_cases he : (st x p d).2.1 = 0
   ·simp only [if_pos he] at h ⊢
    simp only [Bool.false_eq_true, false_and, if_false] at h ⊢
    exact o_nw n _ _ _ _ (by simp) h
   ·simp only [if_neg he] at h; cases h
def GoodR (k a b : Nat) : Prop := k = 4 ∧ GoodT a b ∨ k ≠ 4 ∧ GoodC k a b
def WellR (k a b y t : Nat) (f : Bool) : Prop := k = 4 ∧ WellT a b y t f ∨ k ≠ 4 ∧ t = 0 ∧ y ≤ 2 ^ b - 1 ∧ (f = true → y = 2 ^ b - 1)
def addRM (cs : List Bool) (k a b n y t : Nat) (f : Bool) (p : Nat) (d : Bool) : TR :=
 if k = 4 then addTM cs a b n y t f p d
 else ⟨(addL (stOf cs k a) (2 ^ b - 1) n y f p d).1, (addL (stOf cs k a) (2 ^ b - 1) n y f p d).2.1, 0, (addL (stOf cs k a) (2 ^ b - 1) n y f p d).2.2.1, (addL (stOf cs k a) (2 ^ b - 1) n y f p d).2.2.2.1, (addL (stOf cs k a) (2 ^ b - 1) n y f p d).2.2.2.2⟩
def mergeRM (cs : List Bool) (k a b y t : Nat) (f : Bool) (z u : Nat) (g : Bool) (p : Nat) (d : Bool) : TR :=
 if k = 4 then mergeTM cs a b y t f z u g p d
 else ⟨(mergeL (agOf cs k a) (2 ^ b - 1) z 0 y f p d).1, (mergeL (agOf cs k a) (2 ^ b - 1) z 0 y f p d).2.1, 0, (mergeL (agOf cs k a) (2 ^ b - 1) z 0 y f p d).2.2.1 || g, (mergeL (agOf cs k a) (2 ^ b - 1) z 0 y f p d).2.2.2.1, (mergeL (agOf cs k a) (2 ^ b - 1) z 0 y f p d).2.2.2.2⟩

theorem o_nx {cs : List Bool} {k a b n y t : Nat} {f : Bool} {p : Nat} {d : Bool} (h : GoodR k a b) (hw : WellR k a b y t f) (hp : p ≤ cs.length) (hc : cs.length ≤ 4000000) :
  (addRM cs k a b n y t f p d).p ≤ cs.length ∧ ((addRM cs k a b n y t f p d).e = 0 → WellR k a b (addRM cs k a b n y t f p d).y (addRM cs k a b n y t f p d).t (addRM cs k a b n y t f p d).f) := by
 unfold addRM
 rcases hw with ⟨rfl, hw⟩ | ⟨hk, rfl, hy, hf⟩
 ·rw [if_pos rfl]
  have := o_nm (cs := cs) n y t f p d hp hw.2.1 hw.1 hw.2.2
  exact ⟨this.1, fun he => .inl ⟨rfl, this.2.2.1 he, this.2.1, this.2.2.2⟩⟩
 ·rw [if_neg hk]
  rcases h with ⟨rfl, -⟩ | ⟨-, hg⟩
  ·exact absurd rfl hk
  have h1 := o_n3 (top := 2 ^ b - 1) (o_nv hg cs hc) n y f p d hy hp
  exact ⟨h1.2.2, fun _ => .inr ⟨hk, rfl, h1.2.1, o_nw n y f p d hf⟩⟩
end
end Go.Proofs.YtdklbnemfelpnaaGreatDoor.Am
namespace Go.Proofs.YtdklbnemfelpnaaGreatDoor.Am
section
def b2n (b : Bool) : Nat := if b then 1 else 0
@[simp] theorem o_ny (b : Bool) : b2n b ≤ 1 := by cases b <;> decide
def numB : List Bool → Nat → Nat
 | [], n => n
 | b :: l, n => numB l (2 * n + b2n b)
theorem o_nz : ∀ (l k : List Bool) (n : Nat), numB (l ++ k) n = numB k (numB l n)
 | [], k, n => rfl
 | b :: l, k, n => o_nz l k _
theorem o_o0 : ∀ (l : List Bool) (n : Nat), numB l n = n * 2 ^ l.length + numB l 0
 | [], n => by simp [numB]
 | b :: l, n => by
  rw [numB, o_o0 l, numB, o_o0 l (2 * 0 + b2n b), List.length_cons, Nat.pow_succ, Nat.add_mul, Nat.mul_zero, Nat.zero_add, ← Nat.add_assoc, Nat.mul_comm 2 n, Nat.mul_assoc, Nat.mul_comm 2]
theorem o_o1 : ∀ l : List Bool, numB l 0 < 2 ^ l.length
 | [] => by simp [numB]
 | b :: l => by
  rw [numB, o_o0, List.length_cons, Nat.pow_succ]
  have := o_o1 l
  have := o_ny b
  generalize 2 ^ l.length = v at *
  cases b <;> simp [b2n] <;> omega
def bitsW (n w : Nat) : List Bool := (List.range w).map fun i => decide (n / 2 ^ (w - 1 - i) % 2 = 1)
@[simp] theorem o_o2 (n w : Nat) : (bitsW n w).length = w := by simp [bitsW]
theorem o_o3 (n w : Nat) : bitsW n (w + 1) = bitsW (n / 2) w ++ [decide (n % 2 = 1)] := by
 simp only [bitsW, List.range_succ, List.map_append, List.map_cons, List.map_nil]
 congr 1
 ·apply List.map_congr_left
  intro i hi
  have := List.mem_range.1 hi
  rw [Nat.div_div_eq_div_mul, ← Nat.pow_succ', show w + 1 - 1 - i = (w - 1 - i).succ by omega]
 ·simp
theorem o_o4 : ∀ (w n : Nat), numB (bitsW n w) 0 = n % 2 ^ w
 | 0, n => by simp [bitsW, numB, Nat.mod_one]
 | w + 1, n => by
  rw [o_o3, o_nz, o_o4 w]
  simp only [numB]
  rw [Nat.pow_succ, Nat.mul_comm (2 ^ w) 2, Nat.mod_mul]
  have h2 : b2n (decide (n % 2 = 1)) = n % 2 := by
   rcases Nat.mod_two_eq_zero_or_one n with h | h <;> simp [h, b2n]
  rw [h2]; omega

def bit (bs : List Bool) (i : Nat) : Nat := b2n (bs.getD i false)
def byteAt (bs : List Bool) (i : Nat) : Nat := bit bs (8 * i) * 128 + bit bs (8 * i + 1) * 64 + bit bs (8 * i + 2) * 32 + bit bs (8 * i + 3) * 16 + bit bs (8 * i + 4) * 8 + bit bs (8 * i + 5) * 4 + bit bs (8 * i + 6) * 2 + bit bs (8 * i + 7)
theorem o_o5 (bs : List Bool) (i : Nat) : bit bs i ≤ 1 := o_ny _
theorem o_o6 (bs : List Bool) (i : Nat) : byteAt bs i < 256 := by
 unfold byteAt
 have h0 := o_o5 bs (8 * i); have h1 := o_o5 bs (8 * i + 1); have h2 := o_o5 bs (8 * i + 2); have h3 := o_o5 bs (8 * i + 3)
 have h4 := o_o5 bs (8 * i + 4); have h5 := o_o5 bs (8 * i + 5); have h6 := o_o5 bs (8 * i + 6); have h7 := o_o5 bs (8 * i + 7)
 omega
def bytesOf (bs : List Bool) : List Nat := (List.range ((bs.length + 7) / 8)).map (byteAt bs)
@[simp] theorem o_o7 (bs : List Bool) : (bytesOf bs).length = (bs.length + 7) / 8 := by simp [bytesOf]
theorem o_o8 {bs : List Bool} {i : Nat} (h : bs.length ≤ i) : bit bs i = 0 := by
 unfold bit; rw [List.getD_eq_getElem?_getD, List.getElem?_eq_none h]; rfl
theorem o_o9 {bs : List Bool} {b : Bool} {i : Nat} (h : i ≠ bs.length) : bit (bs ++ [b]) i = bit bs i := by
 unfold bit
 rw [List.getD_eq_getElem?_getD, List.getD_eq_getElem?_getD]
 rcases Nat.lt_or_gt_of_ne h with h' | h'
 ·rw [List.getElem?_append_left h']
 ·rw [List.getElem?_eq_none (by simp; omega), List.getElem?_eq_none (by omega)]
theorem o_oa {bs : List Bool} {b : Bool} : bit (bs ++ [b]) bs.length = b2n b := by
 unfold bit; rw [List.getD_eq_getElem?_getD]; simp
theorem o_ob {bs : List Bool} {b : Bool} {i : Nat} (h : i ≠ bs.length / 8) : byteAt (bs ++ [b]) i = byteAt bs i := by
 unfold byteAt
 rw [o_o9 (by omega), o_o9 (by omega), o_o9 (by omega), o_o9 (by omega), o_o9 (by omega), o_o9 (by omega), o_o9 (by omega), o_o9 (by omega)]
theorem o_oc {bs : List Bool} {b : Bool} : ∃ c, byteAt bs (bs.length / 8) = c * 2 ^ (8 - bs.length % 8) ∧ byteAt (bs ++ [b]) (bs.length / 8) = c * 2 ^ (8 - bs.length % 8) + b2n b * 2 ^ (7 - bs.length % 8) := by
 have hs : ∀ k, k ≠ bs.length % 8 → k < 8 → bit (bs ++ [b]) (8 * (bs.length / 8) + k) = bit bs (8 * (bs.length / 8) + k) := fun k hk h8 => o_o9 (by omega)
 have ho : ∀ k, bs.length % 8 ≤ k → bit bs (8 * (bs.length / 8) + k) = 0 := fun k hk => o_o8 (by omega)
 have hl : bit (bs ++ [b]) (8 * (bs.length / 8) + bs.length % 8) = b2n b := by rw [show 8 * (bs.length / 8) + bs.length % 8 = bs.length by omega]; exact o_oa
 have hr : bs.length % 8 < 8 := Nat.mod_lt _ (by omega)
 unfold byteAt
 rw [show 8 * (bs.length / 8) = 8 * (bs.length / 8) + 0 by rfl]
 generalize 8 * (bs.length / 8) = q at *
 generalize bs.length % 8 = r at *
 generalize hL : bs ++ [b] = L at *
 have hr' : r = 0 ∨ r = 1 ∨ r = 2 ∨ r = 3 ∨ r = 4 ∨ r = 5 ∨ r = 6 ∨ r = 7 := by omega
 simp only [Nat.add_zero] at *
 rcases hr' with rfl | rfl | rfl | rfl | rfl | rfl | rfl | rfl
 ·refine ⟨0, ?_, ?_⟩
  ·have := ho 0; have := ho 1; have := ho 2; have := ho 3; have := ho 4; have := ho 5; have := ho 6; have := ho 7; simp_all
  ·have := ho 0; have := ho 1; have := ho 2; have := ho 3; have := ho 4; have := ho 5; have := ho 6; have := ho 7; have := hs 1; have := hs 2; have := hs 3; have := hs 4; have := hs 5; have := hs 6; have := hs 7; simp_all
 ·refine ⟨bit bs q, ?_, ?_⟩
  ·have := ho 1; have := ho 2; have := ho 3; have := ho 4; have := ho 5; have := ho 6; have := ho 7; simp_all
  ·have := ho 1; have := ho 2; have := ho 3; have := ho 4; have := ho 5; have := ho 6; have := ho 7; have := hs 0; have := hs 2; have := hs 3; have := hs 4; have := hs 5; have := hs 6; have := hs 7; simp_all
 ·refine ⟨bit bs q * 2 + bit bs (q + 1), ?_, ?_⟩
  ·have := ho 2; have := ho 3; have := ho 4; have := ho 5; have := ho 6; have := ho 7; simp_all; omega
  ·have := ho 2; have := ho 3; have := ho 4; have := ho 5; have := ho 6; have := ho 7; have := hs 0; have := hs 1; have := hs 3; have := hs 4; have := hs 5; have := hs 6; have := hs 7; simp_all; omega
 ·refine ⟨bit bs q * 4 + bit bs (q + 1) * 2 + bit bs (q + 2), ?_, ?_⟩
  ·have := ho 3; have := ho 4; have := ho 5; have := ho 6; have := ho 7; simp_all; omega
  ·have := ho 3; have := ho 4; have := ho 5; have := ho 6; have := ho 7; have := hs 0; have := hs 1; have := hs 2; have := hs 4; have := hs 5; have := hs 6; have := hs 7; simp_all; omega
 ·refine ⟨bit bs q * 8 + bit bs (q + 1) * 4 + bit bs (q + 2) * 2 + bit bs (q + 3), ?_, ?_⟩
  ·have := ho 4; have := ho 5; have := ho 6; have := ho 7; simp_all; omega
  ·have := ho 4; have := ho 5; have := ho 6; have := ho 7; have := hs 0; have := hs 1; have := hs 2; have := hs 3; have := hs 5; have := hs 6; have := hs 7; simp_all; omega
 ·refine ⟨bit bs q * 16 + bit bs (q + 1) * 8 + bit bs (q + 2) * 4 + bit bs (q + 3) * 2 + bit bs (q + 4), ?_, ?_⟩
  ·have := ho 5; have := ho 6; have := ho 7; simp_all; omega
  ·have := ho 5; have := ho 6; have := ho 7; have := hs 0; have := hs 1; have := hs 2; have := hs 3; have := hs 4; have := hs 6; have := hs 7; simp_all; omega
 ·refine ⟨bit bs q * 32 + bit bs (q + 1) * 16 + bit bs (q + 2) * 8 + bit bs (q + 3) * 4 + bit bs (q + 4) * 2 + bit bs (q + 5), ?_, ?_⟩
  ·have := ho 6; have := ho 7; simp_all; omega
  ·have := ho 6; have := ho 7; have := hs 0; have := hs 1; have := hs 2; have := hs 3; have := hs 4; have := hs 5; have := hs 7; simp_all; omega
 ·refine ⟨bit bs q * 64 + bit bs (q + 1) * 32 + bit bs (q + 2) * 16 + bit bs (q + 3) * 8 + bit bs (q + 4) * 4 + bit bs (q + 5) * 2 + bit bs (q + 6), ?_, ?_⟩
  ·have := ho 7; simp_all; omega
  ·have := ho 7; have := hs 0; have := hs 1; have := hs 2; have := hs 3; have := hs 4; have := hs 5; have := hs 6; simp_all; omega

theorem o_od {bs : List Bool} {b : Bool} (h : bs.length % 8 = 0) : bytesOf (bs ++ [b]) = bytesOf bs ++ [b2n b * 128] := by
 unfold bytesOf
 rw [List.length_append, List.length_singleton, show (bs.length + 1 + 7) / 8 = (bs.length + 7) / 8 + 1 by omega, List.range_succ, List.map_append]
 congr 1
 ·apply List.map_congr_left
  intro i hi
  have := List.mem_range.1 hi
  exact o_ob (by omega)
 ·obtain ⟨c, h1, h2⟩ := o_oc (bs := bs) (b := b)
  have h3 : byteAt bs (bs.length / 8) = 0 := by
   unfold byteAt
   rw [o_o8 (by omega), o_o8 (by omega), o_o8 (by omega), o_o8 (by omega), o_o8 (by omega), o_o8 (by omega), o_o8 (by omega), o_o8 (by omega)]
  rw [h3, h, Nat.sub_zero] at h1
  rw [h, Nat.sub_zero, Nat.sub_zero] at h2
  rw [List.map_singleton, show (bs.length + 7) / 8 = bs.length / 8 by omega, h2, ← h1]
  simp
theorem o_oe {bs : List Bool} {b : Bool} (h : bs.length % 8 ≠ 0) : ∃ c, (bytesOf bs).getD (bs.length / 8) 0 = c * 2 ^ (8 - bs.length % 8) ∧ bytesOf (bs ++ [b]) = (bytesOf bs).set (bs.length / 8) (c * 2 ^ (8 - bs.length % 8) + b2n b * 2 ^ (7 - bs.length % 8)) := by
 obtain ⟨c, h1, h2⟩ := o_oc (bs := bs) (b := b)
 refine ⟨c, ?_, ?_⟩
 ·unfold bytesOf
  rw [List.getD_eq_getElem?_getD, List.getElem?_map, List.getElem?_range (by omega)]
  exact h1
 ·apply List.ext_getElem?
  intro i
  rw [List.getElem?_set]
  unfold bytesOf
  simp only [List.getElem?_map, List.length_map, List.length_range, List.length_append, List.length_singleton]
  rw [show (bs.length + 1 + 7) / 8 = (bs.length + 7) / 8 by omega]
  by_cases hi : bs.length / 8 = i
  ·subst hi
   rw [if_pos rfl, if_pos (by omega), List.getElem?_range (by omega), Option.map_some, h2]
  ·rw [if_neg hi]
   by_cases hl : i < (bs.length + 7) / 8
   ·rw [List.getElem?_range hl, Option.map_some, Option.map_some, o_ob (fun h => hi h.symm)]
   ·rw [List.getElem?_eq_none (by simp; omega)]; rfl

def bitsOf1 (x : Nat) : List Bool := bitsW x 8
def bitsOf : List Nat → List Bool
 | [] => []
 | x :: l => bitsOf1 x ++ bitsOf l
@[simp] theorem o_of : ∀ l : List Nat, (bitsOf l).length = 8 * l.length
 | [] => rfl
 | x :: l => by simp [bitsOf, bitsOf1, o_of l]; omega
theorem o_og : ∀ l k : List Nat, bitsOf (l ++ k) = bitsOf l ++ bitsOf k
 | [], k => rfl
 | x :: l, k => by simp [bitsOf, o_og l k]
theorem o_oh : ∀ (l : List Nat) (i : Nat), i < 8 * l.length → (bitsOf l).getD i false = decide (l.getD (i / 8) 0 / 2 ^ (7 - i % 8) % 2 = 1)
 | [], i, h => by simp at h
 | x :: l, i, h => by
  rw [bitsOf, List.getD_eq_getElem?_getD]
  by_cases h8 : i < 8
  ·rw [List.getElem?_append_left (by simp [bitsOf1]; omega), bitsOf1, bitsW, List.getElem?_map, List.getElem?_range h8, show i / 8 = 0 by omega, show i % 8 = i by omega]
   rfl
  ·rw [List.getElem?_append_right (by simp [bitsOf1]; omega), ← List.getD_eq_getElem?_getD]
   have := o_oh l (i - 8) (by simp at h; omega)
   simp only [bitsOf1, o_o2]
   rw [this, show i / 8 = (i - 8) / 8 + 1 by omega, show (i - 8) % 8 = i % 8 by omega]
   simp
theorem o_oi (bs : List Bool) : (bitsOf (bytesOf bs)).take bs.length = bs := by
 apply List.ext_getElem?
 intro i
 rw [List.getElem?_take]
 by_cases h : i < bs.length
 ·rw [if_pos h, List.getElem?_eq_getElem (by simp; omega), List.getElem?_eq_getElem h]
  congr 1
  have h1 := o_oh (bytesOf bs) i (by simp; omega)
  rw [List.getD_eq_getElem?_getD, List.getElem?_eq_getElem (by simp; omega), Option.getD_some] at h1
  rw [h1]
  have h2 : (bytesOf bs).getD (i / 8) 0 = byteAt bs (i / 8) := by
   unfold bytesOf
   rw [List.getD_eq_getElem?_getD, List.getElem?_map, List.getElem?_range (by omega)]; rfl
  rw [h2]
  have h3 : bit bs i = b2n bs[i] := by unfold bit; rw [List.getD_eq_getElem?_getD, List.getElem?_eq_getElem h]; rfl
  have h4 : byteAt bs (i / 8) / 2 ^ (7 - i % 8) % 2 = bit bs i := by
   have e : i = 8 * (i / 8) + i % 8 := by omega
   have hr : i % 8 < 8 := Nat.mod_lt _ (by omega)
   conv => rhs; rw [e]
   unfold byteAt
   generalize i / 8 = q at *
   generalize i % 8 = r at *
   have g0 := o_o5 bs (8 * q); have g1 := o_o5 bs (8 * q + 1); have g2 := o_o5 bs (8 * q + 2); have g3 := o_o5 bs (8 * q + 3)
   have g4 := o_o5 bs (8 * q + 4); have g5 := o_o5 bs (8 * q + 5); have g6 := o_o5 bs (8 * q + 6); have g7 := o_o5 bs (8 * q + 7)
   have hr' : r = 0 ∨ r = 1 ∨ r = 2 ∨ r = 3 ∨ r = 4 ∨ r = 5 ∨ r = 6 ∨ r = 7 := by omega
   rcases hr' with rfl | rfl | rfl | rfl | rfl | rfl | rfl | rfl <;> simp only [Nat.add_zero, Nat.sub_zero, Nat.reducePow, Nat.reduceSub] <;> omega
  rw [h4, h3]
  cases bs[i] <;> rfl
 ·rw [if_neg h, List.getElem?_eq_none (by omega)]
end
end Go.Proofs.YtdklbnemfelpnaaGreatDoor.Am
